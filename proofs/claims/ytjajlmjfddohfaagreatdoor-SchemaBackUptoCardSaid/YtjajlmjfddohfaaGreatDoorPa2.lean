/-
  An abstract machine for Go code over plain data: every operation that turns no object, and calls. Conditions: none.
-/
import Derived.Test.YtjajlmjfddohfaaGreatDoorPa1
import Derived.Laws.BytesArg
import Derived.Lib.AppendStr
import Derived.MapKept
import Derived.Lib.ConvBytes
set_option linter.defProp false
set_option linter.unusedSectionVars false
set_option maxRecDepth 100000
set_option maxHeartbeats 32000000
namespace Go.Pe
open Go.RowKit
section
variable {P:Program} {M0:Base} {k:Know} {ow:Own} {done:Nat→Prop} {w0 w:World} {N:Nat} {s:S} {tmps:Array Value}
theorem agj {t:Nat} {d:TD} (hT:TT.of P t=some d) (vs:List Value) (o:Nat) (h1:d.agg=false→o<vs.length) :
  (part t vs.toArray o).run P w=.ok (if d.agg then .agg ((vs.drop o).take d.size).toArray else (vs.drop o).headD undef) w:=by
 have ok:=TT.of_ok hT
 unfold part
 rw[Sem.run_bind,ok.run_isAgg,Result.andThen_ok]
 cases hagg:d.agg with
 | true =>
  simp only[if_true,Sem.run_bind,ok.run_size,Result.andThen_ok,Sem.run_pure]
  congr 2
  apply Array.ext'
  simp[List.extract_eq_take_drop]
 | false =>
  have hlt:=h1 hagg
  simp only[Bool.false_eq_true,if_false]
  have:vs.toArray[o]?=some vs[o]:=by simp[hlt]
  rw[this]
  simp only[Sem.run_pure]
  congr 1
  rw[List.drop_eq_getElem_cons hlt]
  rfl
theorem atF {t f:Nat} {x y:X} {e:Option Tk} {v:Value} (h:aaN (TT.of P) t f x=some (y,e)) (hx:aF k ow x v) :
  e=none∧∃ u,(Instr.field t v f).run P w=.ok u w∧aF k ow y u:=by
 unfold aaN at h
 split at h
 .rename_i d hT
  have ok:=TT.of_ok hT
  split at h
  .rename_i o z u hf hu
   have hfl:=ok.fields
   unfold ai8 at hu
   split at hu
   .rename_i fs i hund
    rw[hund] at hfl
    obtain⟨fl,h1,h2,_⟩:=aoe hfl hf
    rw[h1] at hu
    simp only[Option.map_some,Option.some.injEq] at hu
    have hru:=ok.run_und w
    rw[hund] at hru
    split at h
    .rename_i xs
     simp only[bB,Option.map_eq_some_iff,Prod.mk.injEq] at h
     obtain⟨y',h,rfl,rfl⟩:=h
     simp only[aF] at hx
     obtain⟨vs,rfl,hone,hl⟩:=hx
     obtain⟨d',hT'⟩:=aqO h
     obtain⟨g1,g2,g3⟩:=adB hT' h (hl.dropN o) (fun u hu=>hone u (List.mem_of_mem_drop hu))
     refine⟨rfl,_,?_,g3⟩
     have hp:=agj (w:=w) hT' vs o (fun ha=>by have:=g2 ha;simp at this;omega)
     simp[Instr.field,hru,h1,asAgg,hu,h2,hp]
    .rename_i cs
     simp only[bB,Option.map_eq_some_iff,Prod.mk.injEq] at h
     obtain⟨y',⟨c,h,rfl⟩,rfl,rfl⟩:=h
     simp only[aF,Rep] at hx
     obtain⟨vs,rfl,hone,hl⟩:=hx
     obtain⟨d',hT'⟩:=aqP h
     obtain⟨g1,g2,g3⟩:=ago hT' h (hl.drop o) (fun u hu=>hone u (List.mem_of_mem_drop hu))
     refine⟨rfl,_,?_,by simpa only [aF] using g3⟩
     have hp:=agj (w:=w) hT' vs o (fun ha=>by have:=g2 ha;simp at this;omega)
     simp[Instr.field,hru,h1,asAgg,hu,h2,hp]
    .cases h
   .cases hu
  .cases h
 .cases h
theorem aqi {u:Option TypeDesc} (h:abm u=true):u=some .string:=by
 unfold abm at h
 split at h
 .rfl
 .cases h
theorem slD {u:Option TypeDesc} (h:apK u=true):∃ e,u=some (.slice e):=by
 unfold apK at h
 split at h
 .exact⟨_,rfl⟩
 .cases h
theorem ae1 {t:Nat} {u:TypeDesc} (h:(TT.of P t).map (·.und)=some u):(underlying t).run P w=.ok u w:=by
 cases hT:TT.of P t with
 | none=>simp[hT] at h
 | some d =>
  simp only[hT,Option.map_some,Option.some.injEq] at h
  rw[← h]
  exact (TT.of_ok hT).run_und w
theorem atx {t:Nat} {x i y:X} {e:Option Tk} {v vi:Value} (h:aak (TT.of P) t x i=some (y,e)) (hx:aF k ow x v) (hi:aF k ow i vi) :
  e=none∧∃ u,(Instr.index t v vi).run P w=.ok u w∧aF k ow y u:=by
 unfold aak at h
 split at h
 .cases h
 .rename_i n hn
  obtain rfl:=acF hn hi
  split at h
  .rename_i st
   split at h
   .rename_i hc
    simp only[out,Option.some.injEq,Prod.mk.injEq] at h
    obtain⟨rfl,rfl⟩:=h
    simp only[aF,Rep] at hx
    obtain⟨rfl,_⟩:=hx
    have hru:=ae1 (w:=w) (aqi hc.1)
    refine⟨rfl,.int .u8 (st[n.toNat]'hc.2.2).toNat,?_,by simp[aF,Rep,Value.oneCell']⟩
    have hg:st[n.toNat]?=some (st[n.toNat]'hc.2.2):=by simp[hc.2.2]
    simp[Instr.index,asIntOf,hru,hc.2.1,hg]
   .cases h
  .rename_i xs
   split at h
   .rename_i len el sz by_ ag ze fi hT
    have hru:=(TT.of_ok hT).run_und w
    simp only at hru
    split at h
    .rename_i d hd
     split at h
     .rename_i hc
      simp only[bB,Option.map_eq_some_iff,Prod.mk.injEq] at h
      obtain⟨y',h,rfl,rfl⟩:=h
      simp only[aF] at hx
      obtain⟨vs,rfl,hone,hl⟩:=hx
      obtain⟨g1,g2,g3⟩:=adB hd h (hl.dropN _) (fun u hu=>hone u (List.mem_of_mem_drop hu))
      refine⟨rfl,_,?_,g3⟩
      have hp:=agj (w:=w) hd vs (n.toNat*d.size) (fun ha=>by have:=g2 ha;simp at this;omega)
      simp[Instr.index,asIntOf,hru,hc.1,hc.2,(TT.of_ok hd).run_size,hp]
     .cases h
    .cases h
   .cases h
  .rename_i cs
   split at h
   .rename_i len el sz by_ ag ze fi hT
    have hru:=(TT.of_ok hT).run_und w
    simp only at hru
    split at h
    .rename_i d hd
     split at h
     .rename_i hc
      simp only[bB,Option.map_eq_some_iff,Prod.mk.injEq] at h
      obtain⟨y',⟨c,h,rfl⟩,rfl,rfl⟩:=h
      simp only[aF,Rep] at hx
      obtain⟨vs,rfl,hone,hl⟩:=hx
      obtain⟨g1,g2,g3⟩:=ago hd h (hl.drop _) (fun u hu=>hone u (List.mem_of_mem_drop hu))
      refine⟨rfl,_,?_,by simpa only [aF] using g3⟩
      have hp:=agj (w:=w) hd vs (n.toNat*d.size) (fun ha=>by have:=g2 ha;simp at this;omega)
      simp[Instr.index,asIntOf,hru,hc.1,hc.2,(TT.of_ok hd).run_size,hp]
     .cases h
    .cases h
   .cases h
  .cases h
theorem aCM {t ty:Nat} {x y:X} {e:Option Tk} {v:Value} (h:fh ((TT.of P t).map (·.und)) x=some (y,e)) (hx:aF k ow x v) :
  e=none∧∃ u,(Builtin.len_ #[t] ty #[v]).run P w=.ok u w∧aF k ow y u:=by
 unfold fh at h
 split at h
 .rename_i st
  split at h
  .rename_i hs
   simp only[out,Option.some.injEq,Prod.mk.injEq] at h
   obtain⟨rfl,rfl⟩:=h
   simp only[aF,Rep] at hx
   obtain⟨rfl,_⟩:=hx
   exact⟨rfl,.int .i64 st.size,by simp[Builtin.len_,ae1 (w:=w) (aqi hs),goInt],by simp[aF,Rep,Value.oneCell']⟩
  .cases h
 .split at h
  .rename_i cs n hsl
   split at h
   .rename_i hs
    obtain⟨el,hs⟩:=slD hs
    simp only[out,Option.some.injEq,Prod.mk.injEq] at h
    obtain⟨rfl,rfl⟩:=h
    have hs2:=al7 hsl hx
    simp only[Rep] at hs2
    obtain⟨a,cap,vs,rfl,_⟩:=hs2
    exact⟨rfl,.int .i64 n,by simp[Builtin.len_,ae1 (w:=w) hs,goInt],by simp[aF,Rep,Value.oneCell']⟩
   .cases h
  .cases h
theorem u8D {d:Option TD} (h:ai5 d=true):∃ dd,d=some dd∧dd.und=.int .u8∧dd.size=1:=by
 unfold ai5 at h
 split at h
 .exact⟨_,rfl,rfl,rfl⟩
 .cases h
theorem ajv {m:Mem}:∀ (cs:List C) (vs:List Value) (l:List UInt8),abO cs=some l→bn m cs vs→∃ ns:List Int,vs=ns.map (Value.int .u8)∧l=ns.map fun n=>UInt8.ofNat n.toNat
 | [],vs,l,h,hr=>by
  simp only[abO,Option.some.injEq] at h
  subst h
  simp only[bn] at hr
  subst hr
  exact⟨[],rfl,rfl⟩
 | c::cs,vs,l,h,hr=>by
  unfold abO at h
  split at h
  .rename_i e;cases e
  .rename_i n r e
   cases e
   simp only[Option.map_eq_some_iff] at h
   obtain⟨q,hq,rfl⟩:=h
   simp only[bn,Rep] at hr
   obtain⟨v,rest,rfl,⟨rfl,_⟩,hr⟩:=hr
   obtain⟨ns,rfl,rfl⟩:=ajv _ rest q hq hr
   exact⟨n::ns,rfl,rfl⟩
  .cases h
theorem atK (hm:∀ b o v,k.m b o=some v→w.cell? ⟨b,o,none⟩=some v) {a b:Nat} {x y:X} {e:Option Tk} {v:Value} (hb:(TT.of P b).map (·.und)=some .string) (h:agM (TT.of P) (TT.of P a) x=some (y,e)) (hx:aF k ow x v) :
  e=none∧∃ u,(convert a b v).run P w=.ok u w∧aF k ow y u:=by
 unfold agM at h
 split at h
 .rename_i e' _ _ _ _ _ cs n hT hsl
  split at h
  .rename_i hc
   obtain⟨h8,hlen⟩:=hc
   obtain⟨l,hl,hy⟩ : ∃ l,abO cs=some l∧y=dA ⟨l.toArray⟩∧e=none:=by
    cases hu:abO cs with
    | none=>simp[hu,bB] at h
    | some l=>simp only[hu,bB,Option.map_some,Option.some.injEq,Prod.mk.injEq] at h;exact⟨l,rfl,h.1.symm,h.2.symm⟩
   obtain⟨rfl,rfl⟩:=hy
   refine⟨rfl,?_⟩
   have hund:P.underlying a=some (.slice e'):=(TT.of_ok hT).und
   obtain⟨dd,hd1,hd2,_⟩:=u8D h8
   have hu8:P.underlying e'=some (.int .u8):=by rw[← hd2];exact (TT.of_ok hd1).und
   have hst:P.underlying b=some .string:=by
    cases hTb:TT.of P b with
    | none=>simp[hTb] at hb
    | some d2=>simp only[hTb,Option.map_some,Option.some.injEq] at hb;rw[← hb];exact (TT.of_ok hTb).und
   have hr:=al7 hsl hx
   simp only[Rep] at hr
   obtain⟨A,cap,vs,rfl,hcap,hvl,hmem⟩:=hr
   obtain⟨ns,rfl,rfl⟩:=ajv cs vs l hl hvl
   have hnl:ns.length=n:=by have:=hvl.length;simp only[List.length_map] at this;omega
   by_cases hne:ns=[]
   .subst hne
    simp only[List.length_nil] at hnl
    subst hnl
    refine⟨.string ByteArray.empty,?_,by simp[aF,Rep,Value.oneCell'];rfl⟩
    cases A with
    | none=>exact run_convert_bytes_nil w a e' hund hu8 0 cap b hst
    | some ad =>
     rw[run_convert_bytes_string w a b e' _ 0 cap hund hu8 hst]
     have h0:(loadCells ad 0).run P w=.ok #[] w:=by simp[loadCells,loadCellsFrom]
     have:=run_bytesToString (P:=P) w ad 0 cap [] (by simpa using h0)
     simpa using this
   .obtain⟨bb,o,rfl,hcell⟩:=hmem (by simpa using hne)
    refine⟨.string (strOfNums ns),run_convert_bytes_arg w a e' hund hu8 bb o n cap ns hnl (fun i hi=>?_) b hst,by simp[aF,Rep,Value.oneCell',strOfNums]⟩
    have hi':(ns.map (Value.int .u8))[i]?=some (.int .u8 (ns.getD i 0)):=by
     have:i<ns.length:=by omega
     simp[List.getD,this]
    exact hm _ _ _ (hcell i _ hi')
  .cases h
 .cases h
theorem aoV (hm:∀ b o v,k.m b o=some v→w.cell? ⟨b,o,none⟩=some v) {a b:Nat} {x y:X} {e:Option Tk} {v:Value} (h:aaO (TT.of P) a b x=some (y,e)) (hx:aF k ow x v) :
  e=none∧∃ u,(convert a b v).run P w=.ok u w∧aF k ow y u:=by
 unfold aaO at h
 split at h
 .rename_i d kk kk' n hd hT
  simp only[out,Option.some.injEq,Prod.mk.injEq] at h
  obtain⟨rfl,rfl⟩:=h
  simp only[aF,Rep] at hx
  obtain⟨rfl,_⟩:=hx
  refine⟨rfl,.int kk (kk.wrap n),?_,by simp[aF,Rep,Value.oneCell']⟩
  simp[convert,(TT.of_ok hd).run_und,ae1 (w:=w) hT,Conv.intToInt]
 .rename_i d s' hd hT
  simp only[out,Option.some.injEq,Prod.mk.injEq] at h
  obtain⟨rfl,rfl⟩:=h
  simp only[aF,Rep] at hx
  obtain⟨rfl,_⟩:=hx
  refine⟨rfl,.string s',?_,by simp[aF,Rep,Value.oneCell']⟩
  simp[convert,(TT.of_ok hd).run_und,ae1 (w:=w) hT]
 .rename_i hT _
  exact atK hm hT h hx
 .cases h
theorem agK {t e:Nat} {d:TD} (h:elemOf (TT.of P) t=some (e,d)):(TT.of P t).map (·.und)=some (.slice e)∧TT.of P e=some d:=by
 unfold elemOf at h
 split at h
 .rename_i el _ _ _ _ _ hT
  simp only[Option.map_eq_some_iff,Prod.mk.injEq] at h
  obtain⟨d',hd,rfl,rfl⟩:=h
  exact⟨by simp[hT],hd⟩
 .cases h
def aAF (k:Know) (ow:Own):Option X→Option Value→Prop
 | none,none=>True
 | some x,some v=>aF k ow x v
 | _,_=>False
theorem aiU {x:Option X} {n d:Int} {v:Option Value} (h:kM d x=some n) (hx:aAF k ow x v):(v=none∧n=d)∨v=some (.int .i64 n):=by
 cases x with
 | none =>
  cases v with
  | none=>simp only[kM,Option.some.injEq] at h;exact .inl ⟨rfl,h.symm⟩
  | some v=>exact hx.elim
 | some x =>
  cases v with
  | none=>exact hx.elim
  | some v=>exact .inr (by rw[acF h hx])
theorem akW {sl:Bool} {len cap:Nat} {l h:Int} {vl vh:Option Value} (hl:(vl=none∧l=0)∨vl=some (.int .i64 l)) (hh:(vh=none∧h=(len:Int))∨vh=some (.int .i64 h))
  (h0:0≤l) (h1:l≤h) (h2:h≤(cap:Int)):(Instr.sliceBounds sl len cap vl vh none).run P w=.ok (l.toNat,h.toNat,cap) w:=by
 have b1:0≤h:=by omega
 have b2:(h.toNat:Int)=h:=by omega
 rcases hl with ⟨rfl,rfl⟩|rfl <;> rcases hh with ⟨rfl,rfl⟩|rfl
 .simp[Instr.sliceBounds]
 .simp[Instr.sliceBounds,Instr.sliceBound,asIntOf,b1,h2]
 .have:l≤(len:Int):=h1
  simp[Instr.sliceBounds,Instr.sliceBound,asIntOf,h0,this]
 .have:l≤(h.toNat:Int):=by omega
  simp[Instr.sliceBounds,Instr.sliceBound,asIntOf,b1,h2,h0]
  intro hlt
  omega
theorem asX {t:Nat} {x y:X} {lo hi:Option X} {e:Option Tk} {v:Value} {vl vh:Option Value} (h:fE (TT.of P) t x lo hi=some (y,e)) (hx:aF k ow x v)
  (hl:aAF k ow lo vl) (hh:aAF k ow hi vh) :
  e=none∧∃ u,(Instr.sliceAt t v vl vh none).run P w=.ok u w∧aF k ow y u:=by
 unfold fE at h
 split at h
 .rename_i st
  split at h
  .rename_i hs
   split at h
   .rename_i l h' e1 e2
    split at h
    .rename_i hc
     simp only[out,Option.some.injEq,Prod.mk.injEq] at h
     obtain⟨rfl,rfl⟩:=h
     simp only[aF,Rep] at hx
     obtain⟨rfl,_⟩:=hx
     have hru:=ae1 (w:=w) (aqi hs)
     have r1:(vl=none∧l=0)∨vl=some (.int .i64 l):=aiU e1 hl
     have r2:(vh=none∧h'=(st.size:Int))∨vh=some (.int .i64 h'):=aiU e2 hh
     refine⟨rfl,.string (st.extract l.toNat h'.toNat),?_,by simp[aF,Rep,Value.oneCell']⟩
     simp[Instr.sliceAt,Instr.slice,hru,akW (P:=P) (w:=w) (sl:=false) r1 r2 hc.1 hc.2.1 hc.2.2]
    .cases h
   .cases h
  .cases h
 .split at h
  .rename_i el d cs n he hsl
   split at h
   .rename_i l h' e1 e2
    split at h
    .rename_i hc
     obtain⟨c1,c2,c3,c4⟩:=hc
     simp only[out,Option.some.injEq,Prod.mk.injEq] at h
     obtain⟨rfl,rfl⟩:=h
     obtain⟨hund,hd⟩:=agK he
     have hru:=ae1 (w:=w) hund
     have hs:=al7 hsl hx
     simp only[Rep] at hs
     obtain⟨a,cap,vs,rfl,hcap,hvl,hm⟩:=hs
     have r1:(vl=none∧l=0)∨vl=some (.int .i64 l):=aiU e1 hl
     have r2:(vh=none∧h'=(n:Int))∨vh=some (.int .i64 h'):=aiU e2 hh
     have hb:=akW (P:=P) (w:=w) (sl:=true) (cap:=cap) r1 r2 c1 c2 (by omega)
     refine⟨rfl,.slice (if cap=l.toNat then a else a.map (·.add (l.toNat*d.size))) (h'.toNat-l.toNat) (cap-l.toNat),?_,?_⟩
     .simp[Instr.sliceAt,Instr.slice,hru,hb,(TT.of_ok hd).run_size]
     .simp only[aF,Rep]
      refine⟨_,_,(vs.drop (l.toNat*d.size)).take ((h'.toNat-l.toNat)*d.size),rfl,by omega,(hvl.drop _).take _,fun hne=>?_⟩
      have hlt:l.toNat<h'.toNat:=by
       rcases Nat.lt_or_ge l.toNat h'.toNat with g|g
       .exact g
       .have:h'.toNat-l.toNat=0:=by omega
        rw[this] at hne
        simp at hne
      have hvs:vs≠[]:=by
       rintro rfl
       simp at hne
      obtain⟨b,o,rfl,hm2⟩:=hm hvs
      rw[if_neg (by omega)]
      refine⟨b,o+l.toNat*d.size,by simp[Addr.add_lit],fun i u hu=>?_⟩
      rw[List.getElem?_take] at hu
      split at hu
      .rw[List.getElem?_drop] at hu
       rw[Nat.add_assoc]
       exact hm2 _ _ hu
      .cases hu
    .cases h
   .cases h
  .cases h
theorem arB (off:Nat):∀ (vs:List Value) (cells:Array Value) (j:Nat),off+j+vs.length≤cells.size →
  ((vs.zipIdx j).foldl (fun cs p=>cs.setIfInBounds (off+p.2) p.1) cells).toList=cells.toList.take (off+j)++vs++cells.toList.drop (off+j+vs.length)
 | [],cells,j,_=>by simp
 | v::r,cells,j,h=>by
  simp only[List.length_cons] at h
  simp only[List.zipIdx_cons,List.foldl_cons]
  rw[arB off r (cells.setIfInBounds (off+j) v) (j+1) (by simp;omega)]
  have hlt:off+j<cells.toList.length:=by simp;omega
  have e1:(cells.setIfInBounds (off+j) v).toList=cells.toList.set (off+j) v:=by simp
  rw[e1]
  have e2:(cells.toList.set (off+j) v).take (off+(j+1))=cells.toList.take (off+j)++[v]:=by
   rw[← Nat.add_assoc,List.take_succ_eq_append_getElem (by simpa using hlt)]
   simp[List.take_set_of_le]
  have e3:(cells.toList.set (off+j) v).drop (off+(j+1)+r.length)=cells.toList.drop (off+j+(v::r).length):=by
   rw[List.drop_set_of_lt (by omega)]
   congr 1
   simp only[List.length_cons]
   omega
  rw[e2,e3]
  simp
theorem aGZ (vs:List Value) (cells:Array Value) (off:Nat) (h:off+vs.length≤cells.size) :
  (vs.toArray.zipIdx.foldl (fun cs (c,j)=>cs.setIfInBounds (off+j) c) cells).toList=cells.toList.take off++vs++cells.toList.drop (off+vs.length):=by
 rw[← Array.foldl_toList,Array.toList_zipIdx]
 exact arB off vs cells 0 (by simpa using h)
end
section
variable {P:Program} {M0:Base} {k:Know} {ow:Own} {done:Nat→Prop} {w0 w:World} {N:Nat} {s:S} {tmps:Array Value}
inductive RepParts (k:Know) (ow:Own):List (Nat×List X)→List (Nat×Value)→Prop where
 | nil:RepParts k ow [] []
 | cons {i:Nat} {xs:List X} {v:Value} {qs:List (Nat×List X)} {ps:List (Nat×Value)} (h:aP k ow xs v.cells.toList) (h1:∀ u∈v.cells.toList,u.oneCell'=true)
   (r:RepParts k ow qs ps):RepParts k ow ((i,xs)::qs) ((i,v)::ps)
theorem agq {f:Operand→X} {g:Operand→Value} (hf:∀ x,aF k ow (f x) (g x)):∀ (ps:List (Nat×Operand)) (qs:List (Nat×List X)),fe f ps=some qs→RepParts k ow qs (ps.map fun p=>(p.1,g p.2))
 | [],qs,h=>by simp only[fe,Option.some.injEq] at h;subst h;exact .nil
 | (i,x)::r,qs,h=>by
  simp only[fe] at h
  split at h
  .rename_i l q hl hq
   simp only[Option.some.injEq] at h
   subst h
   obtain⟨h1,h2⟩:=ab5 hl (hf x)
   exact .cons h1 h2 (agq hf r q hq)
  .cases h
theorem agG (place:Nat→Option (Nat×Nat)):∀ {qs:List (Nat×List X)} {ps:List (Nat×Value)} {cells r:List X} {vals:Array Value},RepParts k ow qs ps→eC place cells qs=some r →
  aP k ow cells vals.toList→(∀ u∈vals.toList,u.oneCell'=true)→∃ o,Instr.fill place vals ps=some o∧aP k ow r o.toList∧∀ u∈o.toList,u.oneCell'=true:=by
 intro qs ps cells r vals hp
 induction hp generalizing cells vals with
 | nil =>
  intro h hc h1
  simp only[eC,Option.some.injEq] at h
  subst h
  exact⟨vals,rfl,hc,h1⟩
 | @cons i xs v qs ps hx hx1 hr ih =>
  intro h hc h1
  simp only[eC] at h
  split at h
  .cases h
  .rename_i off size hpl
   split at h
   .rename_i hsz
    have hlx:v.cells.size=xs.length:=by have:=hx.length;simpa using this
    have hlc:vals.size=cells.length:=by have:=hc.length;simpa using this
    simp only[Instr.fill,hpl]
    have hcond:(decide (v.cells.size≠size)||decide (off+v.cells.size>vals.size))=false:=by
     simp
     omega
    have hset:=aGZ v.cells.toList vals off (by simp;omega)
    simp only[Array.toArray_toList] at hset
    have hne:¬ (v.cells.size≠size∨off+v.cells.size>vals.size):=by omega
    have hlv:v.cells.toList.length=size:=by simp;omega
    obtain⟨o,ho,h2,h3⟩:=ih (vals:=v.cells.zipIdx.foldl (fun cs (c,j)=>cs.setIfInBounds (off+j) c) vals) h
     (by
      rw[hset,hlv]
      have e:(off+size)=off+size:=rfl
      exact ((hc.takeN off).append hx).append (hc.dropN (off+size)))
     (by
      rw[hset]
      intro u hu
      simp only[List.mem_append] at hu
      rcases hu with (hu|hu)|hu
      .exact h1 u (List.mem_of_mem_take hu)
      .exact hx1 u hu
      .exact h1 u (List.mem_of_mem_drop hu))
    refine⟨o,?_,h2,h3⟩
    rw[← ho]
    simp[hne]
   .cases h
theorem ac4 (l:List Value):aP k ow (l.map iV) l:=by
 induction l with
 | nil=>simp[aP]
 | cons v r ih=>simp only[List.map_cons,aP];exact⟨v,r,rfl,anV k ow v,ih⟩
theorem atQ {t:Nat} {d:TD} {qs:List (Nat×List X)} {ps:Array (Nat×Value)} {fs:Array Field} {xs:List X} (hT:TT.of P t=some d) (hd:d.und=.struct fs)
  (hp:RepParts k ow qs ps.toList) (h:eC (fun i=>d.fields[i]?) (dG d) qs=some xs):∃ u,(Instr.build t ps).run P w=.ok u w∧aF k ow (.agg xs) u:=by
 have ok:=TT.of_ok hT
 obtain⟨z,hz,hz2⟩:=ok.run_zero w
 have hru:=ok.run_und w
 rw[hd] at hru
 have hfl:=ok.fields
 rw[hd] at hfl
 obtain⟨o,ho,h2,h3⟩:=agG (k:=k) (ow:=ow) (fun i=>d.fields[i]?) (vals:=z.cells) hp h (by rw[hz2];exact ac4 _) (by rw[hz2];exact ok.one)
 refine⟨.agg o,?_,by simp only[aF];exact⟨o.toList,rfl,h3,h2⟩⟩
 have hpl:(fun x:Nat=>d.fields.toArray[x]?)=fun i=>d.fields[i]?:=by funext i;simp
 simp only[fieldsOf] at hfl
 simp[Instr.build,hz,hru,Array.mapM_eq_mapM_toList,run_places w _ _ hfl,ho]
theorem aju {t e n:Nat} {d de:TD} {qs:List (Nat×List X)} {ps:Array (Nat×Value)} {xs:List X} (hT:TT.of P t=some d) (hd:d.und=.array n e) (hE:TT.of P e=some de)
  (hp:RepParts k ow qs ps.toList) (h:eC (fun i=>some (i*de.size,de.size)) (dG d) qs=some xs):∃ u,(Instr.build t ps).run P w=.ok u w∧aF k ow (.agg xs) u:=by
 have ok:=TT.of_ok hT
 obtain⟨z,hz,hz2⟩:=ok.run_zero w
 have hru:=ok.run_und w
 rw[hd] at hru
 obtain⟨o,ho,h2,h3⟩:=agG (k:=k) (ow:=ow) (fun i=>some (i*de.size,de.size)) (vals:=z.cells) hp h (by rw[hz2];exact ac4 _) (by rw[hz2];exact ok.one)
 refine⟨.agg o,?_,by simp only[aF];exact⟨o.toList,rfl,h3,h2⟩⟩
 simp[Instr.build,hz,hru,(TT.of_ok hE).run_size,ho]
theorem ajz (zs:List Value) (d:Value):∀ n,(List.range (n*zs.length)).map (fun i=>zs.getD (i % zs.length) d)=(List.replicate n zs).flatten
 | 0=>by simp
 | n+1=>by
  have ih:=ajz zs d n
  have hz:(List.range zs.length).map (fun i=>zs.getD (i % zs.length) d)=zs:=by
   apply List.ext_getElem (by simp)
   intro i h1 h2
   simp at h1
   simp[Nat.mod_eq_of_lt h1,h1]
  have hs:(n+1)*zs.length=zs.length+n*zs.length:=by rw[Nat.add_mul,Nat.one_mul,Nat.add_comm]
  rw[hs,List.range_add,List.map_append,hz,List.map_map,List.replicate_succ,List.flatten_cons,← ih]
  congr 1
  apply List.map_congr_left
  intro i _
  simp
theorem Sim.row (h:Sim M0 k ow done w0 w N s tmps) {row:Option Nat} {w':World} {v':Value} {e z n':Nat} {us:List Value} {cs:List C} {c ix i:Nat}
  (hrow:∀ g,row=some g→acM M0.mod w0 g∧(∀ r,k.μ r≠some g)∧(∀ t v e z n,ow t=some (v,e,z,n)→v.ownBlock≠some g)∧∀ o u,k.m g o=some u→us[o]?=some u)
  (hg:w.grownBy w' row) (hown:w'.ownsRow 0 e z v' n' us) (hv:v'.ownBlock=row∨(v'.ownBlock=some w.heap.size∧row=none))
  (hcs:bn k.m cs us) (h1:∀ u∈us,u.oneCell'=true) (ht:ow (.nm c ix i)=none) (hf:c<s.clk∨(c=s.clk∧done ix)) :
  ∃ k',k.le k'∧Sim M0 k' (ow.add (.nm c ix i) (v',e,z,n')) done w0 w' N s tmps∧aF k' (ow.add (.nm c ix i) (v',e,z,n')) (.own (.nm c ix i) e z cs n') v':=by
 have hmlt:∀ b o u,k.m b o=some u→b<w.heap.size:=fun b o u hm=>ahM h.mem hm
 let k':Know:={m:=fun b o=>if some b=v'.ownBlock then us[o]? else k.m b o,μ:=k.μ}
 have hm':∀ b o,k'.m b o=if some b=v'.ownBlock then us[o]? else k.m b o:=fun _ _=>rfl
 have hle:k.le k':=by
  refine⟨fun b o u hm=>?_,fun _ _ h=>h⟩
  rw[hm']
  split
  .rename_i hb
   rcases hv with hv|⟨hv,_⟩
   .exact (hrow b (by rw[← hv,← hb])).2.2.2 o u hm
   .rw[hv] at hb
    have:=hmlt b o u hm
    simp only[Option.some.injEq] at hb
    omega
  .exact hm
 have hbw:Keeps M0.mod w0 w':=⟨hg.os.trans h.below.os,hg.tape.trans h.below.tape,hg.output.trans h.below.output,Nat.le_trans h.below.size hg.size,
  fun b hb hm=>(hg.block b (Nat.lt_of_lt_of_le hb h.below.size) (fun e=>by rcases (hrow b e.symm).1 with h1|h1;omega;exact hm h1)).trans (h.below.block b hb hm)⟩
 have hblk:∀ b,b<w.heap.size→some b≠row→w'.heap[b]?=w.heap[b]?:=hg.block
 have hmem:∀ b o u,k'.m b o=some u→w'.cell? ⟨b,o,none⟩=some u∧u.oneCell'=true:=by
  intro b o u hm
  rw[hm'] at hm
  split at hm
  .rename_i hb
   refine⟨?_,h1 u (List.mem_of_getElem? hm)⟩
   have:=hown.cells (g:=b) hb.symm o u hm
   rwa [Addr.add_lit,Nat.zero_add] at this
  .rename_i hb
   obtain⟨g1,g2⟩:=h.mem b o u hm
   have hlt:=hmlt b o u hm
   have hne:some b≠row:=by
    rcases hv with hv|⟨_,hv⟩
    .rw[← hv];exact hb
    .rw[hv];simp
   exact⟨(World.cell?_of_block (a:=⟨b,o,none⟩) (hblk b hlt hne)).trans g1,g2⟩
 have hnew:∀ g,v'.ownBlock=some g→acM M0.mod w0 g∧(∀ r,k.μ r≠some g)∧(∀ t v e z n,ow t=some (v,e,z,n)→v.ownBlock≠some g):=by
  intro g hgo
  rcases hv with hv|⟨hv,_⟩
  .obtain⟨a,b,c,_⟩:=hrow g (by rw[← hv,hgo]);exact⟨a,b,c⟩
  .have e1:g=w.heap.size:=Option.some.inj (hgo.symm.trans hv)
   subst e1
   refine⟨.inl h.below.size,fun r hr=>?_,fun t v e z n ho hb=>?_⟩
   .have:=(h.lt hr).2.1
    omega
   .have:=(h.tlt ho hb).2
    omega
 have hSim:Sim M0 k' ow done w0 w' N s tmps:={
  good:=h.good
  size:=h.size
  cells:=h.cells
  below:=hbw
  fr:=fun j=>aF.mono hle (fun _ _ h=>h) _ _ (h.fr j)
  mem:=hmem
  obj:=fun r ob hr=>by
   obtain⟨b,g1,g2,g3,g4,g5⟩:=h.obj r ob hr
   have hne:some b≠row:=fun e=>(hrow b e.symm).2.1 r g1
   have hnb:some b≠v'.ownBlock:=fun e=>(hnew b e.symm).2.1 r g1
   refine⟨b,g1,g2,Nat.lt_of_lt_of_le g3 hg.size,fun o=>by rw[hm',if_neg hnb];exact g4 o,?_⟩
   exact (g5.keep (hblk b g3 hne)).mono hle (fun _ _ h=>h)
  dom:=h.dom
  inj:=h.inj
  tok:=fun t v e z n ht=>by
   obtain⟨⟨xs,g1⟩,g2⟩:=h.tok t v e z n ht
   refine⟨⟨xs,aaI (fun g hgo hlt=>hblk g hlt (fun e=>(hrow g e.symm).2.2.1 t v _ _ _ ht hgo)) g1⟩,fun g hgo=>⟨(g2 g hgo).1,fun o ho=>?_,(g2 g hgo).2.2⟩⟩
   rw[hm',if_neg (fun e=>(hnew g e.symm).2.2 t v _ _ _ ht hgo)]
   exact (g2 g hgo).2.1 o ho
  tokne:=h.tokne
  fresh:=h.fresh
  m0:=fun b o u hm hb hmd=>by
   rw[hm',if_neg (fun e=>by rcases (hnew b e.symm).1 with h1|h1;omega;exact hmd h1)] at hm
   exact h.m0 b o u hm hb hmd}
 refine⟨k',hle,hSim.add ht hown (fun g hgo=>⟨(hnew g hgo).1,fun o ho=>?_,(hnew g hgo).2.1⟩) (fun t' v2 e2 z2 n2 h2 g hgo=>(hnew g hgo).2.2 t' v2 e2 z2 n2 h2) hf,?_⟩
 .rw[hm',if_pos hgo.symm]
  rw[List.getElem?_eq_none]
  rw[hown.1]
  exact ho
 .have hlen:=hcs.length
  have hk2:=bn.mono hle.1 _ _ hcs
  simp only[aF,Rep]
  refine⟨by simp[Own.add],by rw[← hlen,hown.1],?_⟩
  rcases hown.2 with ⟨rfl,rfl⟩|⟨g,cap,cur,rfl,_,_,hcap,_,_,_⟩
  .have:us=[]:=List.eq_nil_of_length_eq_zero (by rw[hown.1];simp)
   subst this
   exact⟨none,0,[],rfl,Nat.le_refl _,hk2,fun h=>absurd rfl h⟩
  .refine⟨some ⟨g,0,none⟩,cap,us,rfl,hcap,hk2,fun _=>⟨g,0,rfl,fun i u hu=>?_⟩⟩
   rw[hm']
   simp only[Value.ownBlock,if_true,Nat.zero_add]
   exact hu
end
def agk (us:List Value):Value:=match us with
 | [u]=>u
 | us=>.tuple us.toArray
def adk (pan:Bool) (us:List Value) (e:Ending):Prop:=match pan with
 | false=>e=.returned (agk us)
 | true=>∃ u,us=[u]∧e=.panicked [{v:=u,recovered:=false}]
def iE (k:Know) (ow:Own) (b:Nat):Prop:=(∃ r,k.μ r=some b)∨∃ t v e z n,ow t=some (v,e,z,n)∧v.ownBlock=some b
def jl (P:Program) (G:GP) (f:Nat) (xs:List X) (obs:List Ob) (an:An):Prop :=
 ∀ fn,P.funcs[f]?=some fn→∀ (k:Know) (ow:Own) (w:World) (vs:List Value),Hp ⟨G,k.m,iE k ow⟩ k ow w w obs →
  (∀ t p,ow t=some p→t.older 1 fun _=>False)→(∀ r off p,ow (.cell r off)=some p→r<obs.length)→aP k ow xs vs →
  Calls P f vs.toArray w fun e w'=>∃ k' ow' us,adk an.pan us e∧Hp ⟨G,k.m,iE k ow⟩ k' ow' w w' an.obs∧k.m.le k'.m∧obs.length≤an.obs.length∧(∀ r,r<obs.length→k'.μ r=k.μ r) ∧
   (∀ t p,ow' t=some p→t.older 1 fun _=>False)∧(∀ r off p,ow' (.cell r off)=some p→r<an.obs.length)∧aP k' ow' an.rs us
section
variable {P:Program} {M0:Base} {k:Know} {ow:Own} {done:Nat→Prop} {w0 w:World} {N:Nat} {s:S} {tmps:Array Value}
theorem ako (hs:Sim M0 k ow done w0 w N s tmps) {t e n:Nat} {d:TD} {qs:List (Nat×List X)} {ps:Array (Nat×Value)} {xs:List X} {cs:List C} {c ix i:Nat}
  (he:elemOf (TT.of P) t=some (e,d)) (hn:n*d.size≤16777216) (hz:0<d.size) (hp:RepParts k ow qs ps.toList)
  (h:eC (fun i=>some (i*d.size,d.size)) ((List.replicate n (dG d)).flatten) qs=some xs) (hcs:X.rds xs=some cs) (ht:ow (.nm c ix i)=none) (hf:c<s.clk∨(c=s.clk∧done ix)) :
  ∃ u w' k' ow',(Instr.buildSlice t n ps).run P w=.ok u w'∧k.le k'∧Sim M0 k' ow' done w0 w' N s tmps∧aF k' ow' (.own (.nm c ix i) e d.size cs n) u:=by
 obtain⟨hund,hd⟩:=agK he
 have ok:=TT.of_ok hd
 have hru:=ae1 (w:=w) hund
 obtain⟨z,hzr,hz2⟩:=ok.run_zero w
 have hzl:z.cells.toList.length=d.size:=by rw[hz2];exact ok.len
 let zs:Array Value:=if n*d.size=0 then #[] else z.cells
 let vals:Array Value:=(Array.range (n*d.size)).map fun i=>zs[i % zs.size]!
 have hvals:vals.toList=(List.replicate n d.zero).flatten:=by
  by_cases h0:n*d.size=0
  .have hn0:n=0:=by rcases Nat.eq_zero_or_pos n with g|g;exact g;have:=Nat.mul_pos g hz;omega
   subst hn0
   simp[vals]
  .have hzs:zs=z.cells:=by simp only[zs,if_neg h0]
   have hr:=ajz d.zero default n
   have hsz:zs.size=d.size:=by rw[hzs];simpa using hzl
   rw[← hr,ok.len]
   simp only[vals,Array.toList_map,Array.toList_range]
   apply List.map_congr_left
   intro i _
   rw[hsz]
   have hlt:i % d.size<d.size:=Nat.mod_lt _ hz
   have h1:i % d.size<zs.size:=by rw[hsz];exact hlt
   rw[getElem!_pos zs _ h1]
   have:zs.toList=d.zero:=by rw[hzs];exact hz2
   rw[List.getD_eq_getElem?_getD,← this]
   simp[h1]
 have hz1:∀ u∈vals.toList,u.oneCell'=true:=by
  rw[hvals]
  intro u hu
  obtain⟨l,hl,hul⟩:=List.mem_flatten.1 hu
  rw[List.mem_replicate] at hl
  exact ok.one u (hl.2▸hul)
 have hzx:aP k ow ((List.replicate n (dG d)).flatten) vals.toList:=by
  rw[hvals]
  clear hvals hz1 h hn
  induction n with
  | zero=>simp[aP]
  | succ n ih =>
   simp only[List.replicate_succ,List.flatten_cons]
   exact (ac4 _).append ih
 obtain⟨o,ho,h2,h3⟩:=agG (k:=k) (ow:=ow) _ hp h hzx hz1
 have hcl:=agl _ _ _ hcs h2
 have hol:o.size=n*d.size:=by
  have e1:=h2.length
  have e2:∀ (qs:List (Nat×List X)) (cells r:List X),eC (fun i=>some (i*d.size,d.size)) cells qs=some r→r.length=cells.length:=by
   intro qs
   induction qs with
   | nil=>intro cells r hr;simp only[eC,Option.some.injEq] at hr;rw[hr]
   | cons q qs ih =>
    intro cells r hr
    obtain⟨i,xs⟩:=q
    simp only[eC] at hr
    split at hr
    .rename_i hc
     rw[ih _ _ hr]
     simp
     omega
    .cases hr
  have e3:=e2 _ _ _ h
  have e4:((List.replicate n (dG d)).flatten).length=n*d.size:=by
   simp[List.length_flatten,dG,ok.len]
  simp only[Array.length_toList] at e1
  omega
 have hrow:(w.alloc (.cells o e)).ownsRow 0 e d.size (.slice (some ⟨w.heap.size,0,none⟩) n n) n o.toList :=
  ⟨by simpa using hol,.inr ⟨w.heap.size,n,o,rfl,Nat.zero_le _,heap_alloc_new w _,Nat.le_refl _,by
   have:n≤n*d.size:=Nat.le_mul_of_pos_right n hz
   simp only[maxLen];omega,hol,by rw[List.take_of_length_le (by simp;omega)]⟩⟩
 obtain⟨k',g1,g2,g3⟩:=hs.row (row:=none) (w':=w.alloc (.cells o e)) (c:=c) (ix:=ix) (i:=i) (fun g hg=>by cases hg) (World.grownBy_alloc w _ none) hrow (.inr ⟨rfl,rfl⟩) hcl h3 ht hf
 refine⟨_,_,k',_,?_,g1,g2,g3⟩
 have hvdef:(Array.map (fun x=>(if n*d.size=0 then #[] else z.cells)[x % (if n*d.size=0 then (#[]:Array Value) else z.cells).size]!) (Array.range (n*d.size)))=vals:=rfl
 by_cases h0:n*d.size=0
 .simp only[Instr.buildSlice,Sem.run_bind,hru,Result.andThen_ok,ok.run_size,h0,if_neg (show ¬ (0:Nat)>2 ^ 24 by omega),Sem.run_pure,if_true]
  have hv0:vals=Array.map (fun x=>(#[]:Array Value)[x % (#[]:Array Value).size]!) (Array.range 0):=by simp only[vals,zs,h0,if_true]
  rw[hv0] at ho
  rw[ho]
  rfl
 .simp only[Instr.buildSlice,Sem.run_bind,hru,Result.andThen_ok,ok.run_size,if_neg (show ¬ n*d.size>2 ^ 24 by omega),Sem.run_pure,h0,if_false,hzr]
  have hv0:vals=Array.map (fun x=>z.cells[x % z.cells.size]!) (Array.range (n*d.size)):=by simp only[vals,zs,h0,if_false]
  rw[hv0] at ho
  rw[ho]
  rfl
theorem jt {t ty e:Nat} {d:TD} (hund:P.underlying t=some (.slice e)) (hd:TT.of P e=some d) (hz:0<d.size) {B:Nat} {v:Value} {n:Nat} {xs:List Value} (hown:w.ownsRow B e d.size v n xs)
  {A:Option Addr} {m c:Nat} {news:List Value} (hl:news.length=m*d.size) (hA:news≠[]→∃ b o,A=some ⟨b,o,none⟩∧∀ i u,news[i]?=some u→w.cell? ⟨b,o+i,none⟩=some u)
  (h1:∀ u∈news,u.oneCell'=true) (hLIM:n+m≤LIM) (hby:d.bytes≤32768) (hbase:B≤w.heap.size) :
  ∃ v' w',(Builtin.append_ #[t,t] ty #[v,.slice A m c]).run P w=.ok v' w'∧w'.ownsRow B e d.size v' (n+m) (xs++news) ∧
   ((w.grownBy w' v.ownBlock∧v'.ownBlock=v.ownBlock)∨(w.grownBy w' none∧v'.ownBlock=some w.heap.size)):=by
 obtain⟨i,hi,hsz,hbi,z,hzz,hzl,_⟩:=(TT.of_ok hd).info
 have hzsz:z.cells.size=i.size:=by
  have:=(TT.of_ok hd).len
  rw[← hzl] at this
  rw[hsz]
  simpa using this
 unfold LIM at hLIM
 have hbytes:(n+m)*i.bytes≤140737488355328:=by
  rw[hbi]
  have:(n+m)*d.bytes≤4294967296*32768:=Nat.mul_le_mul hLIM hby
  omega
 have h63:n+m≤maxLen:=by simp only[maxLen];omega
 have hlen:(xs++news).length=(n+m)*d.size:=by rw[List.length_append,hown.1,hl,Nat.add_mul]
 by_cases hm:m=0
 .subst hm
  have hn:news=[]:=List.eq_nil_of_length_eq_zero (by simpa using hl)
  subst hn
  refine⟨v,w,?_,by simpa using hown,.inl ⟨⟨rfl,rfl,rfl,Nat.le_refl _,fun _ _ _=>rfl⟩,rfl⟩⟩
  have hf:(Builtin.firstCells d.size 0 (.slice A 0 c)).run P w=.ok #[] w:=by
   cases A <;> simp[Builtin.firstCells,loadCells,loadCellsFrom]
  rcases hown.2 with ⟨rfl,rfl⟩|⟨g,cap,cur,rfl,_,_,hcap,_⟩
  .simp[Builtin.append_,run_underlying hund,(TT.of_ok hd).run_size,Builtin.lenOf,hf]
  .simp[Builtin.append_,run_underlying hund,(TT.of_ok hd).run_size,Builtin.lenOf,hf,hcap,storeCells]
 .have hne:news≠[]:=by
   intro e0
   rw[e0] at hl
   have:0<m*d.size:=Nat.mul_pos (by omega) hz
   simp at hl
   omega
  obtain⟨b,o,rfl,hcells⟩:=hA hne
  have hnews:∀ j u,news[j]?=some u→w.cell? ((⟨b,o,none⟩ : Addr).add j)=some u:=fun j u hu=>by rw[Addr.add_lit];exact hcells j u hu
  have grown:∀ (old:Nat),old<n+m →
    (w.drew.alloc (.cells (xs.toArray++news.toArray++Builtin.zeroCells z.cells (grownCap w (n+m) old e-(n+m))) e)).ownsRow B e d.size
     (.slice (some ⟨w.heap.size,0,none⟩) (n+m) (grownCap w (n+m) old e)) (n+m) (xs++news) ∧
    w.grownBy (w.drew.alloc (.cells (xs.toArray++news.toArray++Builtin.zeroCells z.cells (grownCap w (n+m) old e-(n+m))) e)) none:=by
   intro old ho
   have hge:=grownCap_ge w (n+m) old e
   have hcm:grownCap w (n+m) old e≤maxLen:=grownCap_le_maxLen w (n+m) old e h63
   refine⟨⟨hlen,.inr ⟨w.heap.size,_,_,rfl,hbase,heap_alloc_new w.drew _,hge,hcm,?_,?_⟩⟩,⟨rfl,rfl,rfl,by simp,fun k hk _=>Go.RowKit.Below.heap_alloc w.drew _ k hk⟩⟩
   .simp only[Array.size_append,List.size_toArray,size_zeroCells,hzsz,hsz,hown.1,hl,← Nat.add_mul]
    congr 1
    omega
   .simp only[Array.toList_append,List.append_assoc]
    rw[← List.append_assoc,← hlen]
    exact List.take_left
  rcases hown.2 with ⟨rfl,rfl⟩|⟨g,cap,cur,rfl,hbg,hg,hnc,hcm,hcs,htake⟩
  .have hx:xs=[]:=List.eq_nil_of_length_eq_zero (by simpa using hown.1)
   subst hx
   have hr:=run_append_nil (P:=P) w t ty e i z hund hi hzz ⟨b,o,none⟩ m c news (by rw[hsz];exact hl) hnews (by omega) (by omega) (by have hb:=hbytes;simp only[Nat.zero_add] at hb;omega)
   have hgr:=grown 0 (by omega)
   simp only[Nat.zero_add,List.nil_append,Array.empty_append] at hgr ⊢
   exact⟨_,_,hr,hgr.1,.inr ⟨hgr.2,rfl⟩⟩
  .by_cases hroom:n+m≤cap
   .have hfit:n*i.size+news.length≤cur.size:=by rw[hl,hcs,hsz,← Nat.add_mul];exact Nat.mul_le_mul_right _ hroom
    have hr:=run_append_room (P:=P) w t ty e i hund hi g n cap cur hg ⟨b,o,none⟩ m c news (by rw[hsz];exact hl) hnews h1 hroom hfit
    refine⟨_,_,hr,⟨hlen,.inr ⟨g,cap,_,rfl,hbg,setRow_heap w g cur _ e _ hg,hroom,hcm,?_,?_⟩⟩,.inl ⟨⟨rfl,rfl,rfl,by simp,fun k hk hkg=>setRow_other w g k _ (fun e=>hkg (by simp[Value.ownBlock,e]))⟩,rfl⟩⟩
    .rw[hsz] at hfit
     simp only[List.size_toArray,List.length_append,List.length_take,List.length_drop,Array.length_toList,hsz]
     omega
    .rw[hsz,htake,← hlen]
     exact List.take_left
   .have holds:∀ j u,xs[j]?=some u→w.cell? ((⟨g,0,none⟩ : Addr).add j)=some u:=hown.cells (g:=g) rfl
    have hr:=run_append_grow (P:=P) w t ty e i z hund hi hzz ⟨g,0,none⟩ n cap xs (by rw[hsz];exact hown.1) holds ⟨b,o,none⟩ m c news (by rw[hsz];exact hl) hnews (by omega) (by omega) (growslice_fits (by omega) hbytes)
    have hgr:=grown cap (by omega)
    exact⟨_,_,hr,hgr.1,.inr ⟨hgr.2,rfl⟩⟩
theorem ajr {t u ty e:Nat} {d:TD} (hund:P.underlying t=some (.slice e)) (hu:P.underlying u=some .string) (hd:TT.of P e=some d) (hz:d.size=1) {B:Nat} {v:Value} {n:Nat} {xs:List Value} (hown:w.ownsRow B e d.size v n xs)
  (s:ByteArray) (hLIM:n+s.size≤LIM) (hby:d.bytes≤32768) (hbase:B≤w.heap.size) :
  ∃ v' w',(Builtin.append_ #[t,u] ty #[v,.string s]).run P w=.ok v' w'∧w'.ownsRow B e d.size v' (n+s.size) (xs++Lib.strCells s) ∧
   ((w.grownBy w' v.ownBlock∧v'.ownBlock=v.ownBlock)∨(w.grownBy w' none∧v'.ownBlock=some w.heap.size)):=by
 obtain⟨i,hi,hsz,hbi,z,hzz,hzl,_⟩:=(TT.of_ok hd).info
 have hi1:i.size=1:=hsz.trans hz
 have hzsz:z.cells.size=i.size:=by
  have:=(TT.of_ok hd).len
  rw[← hzl] at this
  rw[hsz]
  simpa using this
 unfold LIM at hLIM
 have hbytes:(n+s.size)*i.bytes≤140737488355328:=by
  rw[hbi]
  have:(n+s.size)*d.bytes≤4294967296*32768:=Nat.mul_le_mul hLIM hby
  omega
 have hxl:xs.length=n:=by have:=hown.1;rw[hz] at this;simpa using this
 have h63:n+s.size≤maxLen:=by simp only[maxLen];omega
 have hlen:(xs++Lib.strCells s).length=(n+s.size)*d.size:=by rw[List.length_append,hxl,Lib.strCells_length,hz,Nat.mul_one]
 by_cases hm:s.size=0
 .have hn:Lib.strCells s=[]:=List.eq_nil_of_length_eq_zero (by rw[Lib.strCells_length];exact hm)
  rw[hn,hm]
  refine⟨v,w,?_,by simpa using hown,.inl ⟨⟨rfl,rfl,rfl,Nat.le_refl _,fun _ _ _=>rfl⟩,rfl⟩⟩
  have hf:(Builtin.firstCells 1 0 (.string s)).run P w=.ok #[] w:=by
   have:=Lib.run_firstCells_string (P:=P) w 1 s
   rw[hm,hn] at this
   exact this
  rcases hown.2 with ⟨rfl,rfl⟩|⟨g,cap,cur,rfl,_,_,hcap,_⟩
  .simp[Builtin.append_,run_underlying hund,run_underlying hu,sizeOf,typeInfo,hi,hi1,Builtin.lenOf,hm,hf]
  .simp[Builtin.append_,run_underlying hund,run_underlying hu,sizeOf,typeInfo,hi,hi1,Builtin.lenOf,hm,hf,hcap,storeCells]
 .have grown:∀ (old:Nat),old<n+s.size →
    (w.drew.alloc (.cells (xs.toArray++(Lib.strCells s).toArray++Builtin.zeroCells z.cells (grownCap w (n+s.size) old e-(n+s.size))) e)).ownsRow B e d.size
     (.slice (some ⟨w.heap.size,0,none⟩) (n+s.size) (grownCap w (n+s.size) old e)) (n+s.size) (xs++Lib.strCells s) ∧
    w.grownBy (w.drew.alloc (.cells (xs.toArray++(Lib.strCells s).toArray++Builtin.zeroCells z.cells (grownCap w (n+s.size) old e-(n+s.size))) e)) none:=by
   intro old ho
   have hge:=grownCap_ge w (n+s.size) old e
   have hcm:grownCap w (n+s.size) old e≤maxLen:=grownCap_le_maxLen w (n+s.size) old e h63
   refine⟨⟨hlen,.inr ⟨w.heap.size,_,_,rfl,hbase,heap_alloc_new w.drew _,hge,hcm,?_,?_⟩⟩,⟨rfl,rfl,rfl,by simp,fun k hk _=>Go.RowKit.Below.heap_alloc w.drew _ k hk⟩⟩
   .simp only[Array.size_append,List.size_toArray,size_zeroCells,hzsz,hi1,hz,hxl,Lib.strCells_length,Nat.mul_one]
    omega
   .simp only[Array.toList_append,List.append_assoc]
    rw[← List.append_assoc,← hlen]
    exact List.take_left
  rcases hown.2 with ⟨rfl,rfl⟩|⟨g,cap,cur,rfl,hbg,hg,hnc,hcm,hcs,htake⟩
  .have hx:xs=[]:=List.eq_nil_of_length_eq_zero hxl
   subst hx
   have hr:=run_append_nil_string (P:=P) w t u ty e i z hund hu hi hzz s (by omega) (by omega) (by have hb:=hbytes;simp only[Nat.zero_add] at hb;omega)
   have hgr:=grown 0 (by omega)
   have he:s.data.map (fun b=>Value.int .u8 b.toNat)=(Lib.strCells s).toArray:=by
    apply Array.ext'
    simp[Lib.strCells]
   rw[he] at hr
   simp only[Nat.zero_add,List.nil_append,Array.empty_append] at hgr ⊢
   exact⟨_,_,hr,hgr.1,.inr ⟨hgr.2,rfl⟩⟩
  .by_cases hroom:n+s.size≤cap
   .have hfit:n+s.size≤cur.size:=by rw[hcs,hz,Nat.mul_one];exact hroom
    have hr:=Lib.run_append_room_string (P:=P) w t u ty e i hund hu hi hi1 g n cap cur hg s hroom hfit
    refine⟨_,_,hr,⟨hlen,.inr ⟨g,cap,_,rfl,hbg,setRow_heap w g cur _ e _ hg,hroom,hcm,?_,?_⟩⟩,.inl ⟨⟨rfl,rfl,rfl,by simp,fun k hk hkg=>setRow_other w g k _ (fun e=>hkg (by simp[Value.ownBlock,e]))⟩,rfl⟩⟩
    .simp only[List.size_toArray,List.length_append,List.length_take,List.length_drop,Array.length_toList,Lib.strCells_length]
     omega
    .have ht:cur.toList.take n=xs:=by have:=htake;rw[hz,Nat.mul_one] at this;exact this
     rw[ht,← hlen]
     exact List.take_left
   .have holds:∀ j u,xs[j]?=some u→w.cell? ((⟨g,0,none⟩ : Addr).add j)=some u:=hown.cells (g:=g) rfl
    have hr:=Lib.run_append_grow_string (P:=P) w t u ty e i z hund hu hi hzz ⟨g,0,none⟩ n cap xs (by rw[hi1,Nat.mul_one];exact hxl) holds s (by omega) (by omega) (growslice_fits (by omega) hbytes)
    have hgr:=grown cap (by omega)
    exact⟨_,_,hr,hgr.1,.inr ⟨hgr.2,rfl⟩⟩
theorem al6 {m:Mem} (s:ByteArray):bn m (aer s) (Lib.strCells s):=by
 unfold aer Lib.strCells
 induction s.data.toList with
 | nil=>simp[bn]
 | cons b l ih =>
  simp only[List.map_cons,bn,Rep]
  exact⟨_,_,rfl,⟨rfl,rfl⟩,ih⟩
theorem aBz (hs:Sim M0 k ow done w0 w N s tmps) {st xt ty el:Nat} {y:X} {d:TD} {ys:List C} {m:Nat} {vy:Value} (hund:P.underlying st=some (.slice el)) (hd:TT.of P el=some d) (hpos:0<d.size) (hsl:adc (TT.of P) st xt el y=some (ys,m)) (hlen:ys.length=m*d.size) (hy:aF k ow y vy) :
  ∃ vs,bn k.m ys vs∧(∀ u∈vs,u.oneCell'=true)∧∀ {B:Nat} {v:Value} {n:Nat} {xs:List Value},w.ownsRow B el d.size v n xs→n+m≤LIM→d.bytes≤32768→B≤w.heap.size →
   ∃ v' w',(Builtin.append_ #[st,xt] ty #[v,vy]).run P w=.ok v' w'∧w'.ownsRow B el d.size v' (n+m) (xs++vs)∧((w.grownBy w' v.ownBlock∧v'.ownBlock=v.ownBlock)∨(w.grownBy w' none∧v'.ownBlock=some w.heap.size)):=by
 unfold adc at hsl
 split at hsl
 .rename_i hst
  subst hst
  have hy2:=al7 hsl hy
  simp only[Rep] at hy2
  obtain⟨A,cap,vs,rfl,hcap,hvl,hm⟩:=hy2
  have hA:vs≠[]→∃ b o,A=some ⟨b,o,none⟩∧∀ i u,vs[i]?=some u→w.cell? ⟨b,o+i,none⟩=some u:=fun hne=>by
   obtain⟨b,o,ha,hc⟩:=hm hne
   exact⟨b,o,ha,fun i u hu=>(hs.mem _ _ _ (hc i u hu)).1⟩
  have h1:∀ u∈vs,u.oneCell'=true:=fun u hu=>by
   have hne:vs≠[]:=by rintro rfl;cases hu
   obtain⟨b,o,ha,hc⟩:=hm hne
   obtain⟨i,hi⟩:=List.mem_iff_getElem?.1 hu
   exact (hs.mem _ _ _ (hc i u hi)).2
  have hvlen:vs.length=m*d.size:=by rw[hvl.length];exact hlen
  exact⟨vs,hvl,h1,fun hown hb1 hb2 hB=>jt (P:=P) (w:=w) (ty:=ty) hund hd hpos hown hvlen hA h1 hb1 hb2 hB⟩
 .split at hsl
  .rename_i s'
   split at hsl
   .rename_i hc
    simp only[Option.some.injEq,Prod.mk.injEq] at hsl
    obtain⟨rfl,rfl⟩:=hsl
    simp only[aF,Rep] at hy
    obtain⟨rfl,_⟩:=hy
    have hu:P.underlying xt=some .string:=by
     have:=aqi hc.1
     cases hT:TT.of P xt with
     | none=>simp[hT] at this
     | some dd=>simp only[hT,Option.map_some,Option.some.injEq] at this;rw[← this];exact (TT.of_ok hT).und
    obtain⟨dd,hd1,_,hd2⟩:=u8D hc.2
    rw[hd] at hd1
    cases hd1
    exact⟨Lib.strCells s',al6 s',Lib.strCells_oneCell s',fun hown hb1 hb2 hB=>ajr (P:=P) (w:=w) (ty:=ty) hund hu hd hd2 hown s' hb1 hb2 hB⟩
   .cases hsl
  .cases hsl
theorem asj (hs:Sim M0 k ow done w0 w N s tmps) {st xt ty:Nat} {x y z:X} {v vy:Value} {c ix i:Nat} {e:Option Tk} (h:dh (TT.of P) (.nm c ix i) st xt x y=some (z,e)) (hx:aF k ow x v) (hy:aF k ow y vy)
  (ht:ow (.nm c ix i)=none) (hf:c<s.clk∨(c=s.clk∧done ix)) :
  ∃ u w' k' ow',(Builtin.append_ #[st,xt] ty #[v,vy]).run P w=.ok u w'∧k.le k'∧Sim M0 k' ow' done w0 w' N (s.drop e) tmps∧aF k' ow' z u:=by
 unfold dh at h
 split at h
 .rename_i el d he
  split at h
  .rename_i ys m hsl
   obtain⟨hund,hd⟩:=agK he
   have hund':P.underlying st=some (.slice el):=by
    cases hT:TT.of P st with
    | none=>simp[hT] at hund
    | some dd=>simp only[hT,Option.map_some,Option.some.injEq] at hund;rw[← hund];exact (TT.of_ok hT).und
   split at h
   .rename_i hc
    obtain⟨hlen,hpos⟩:=hc
    obtain⟨vs,hvl,h1,hrun⟩:=aBz (ty:=ty) hs hund' hd hpos hsl hlen hy
    split at h
    .-- nil
     split at h
     .rename_i hb
      simp only[Option.some.injEq,Prod.mk.injEq] at h
      obtain⟨rfl,rfl⟩:=h
      simp only[aF] at hx
      subst hx
      obtain⟨v',w',hr,hown,hcase⟩:=hrun (World.ownsRow_nil w 0 el d.size) (by simpa using hb.1) hb.2 (Nat.zero_le _)
      simp only[Nat.zero_add,List.nil_append] at hown
      have hcase':(v'.ownBlock=none∨v'.ownBlock=some w.heap.size)∧w.grownBy w' none:=by
       rcases hcase with ⟨g1,g2⟩|⟨g1,g2⟩
       .exact⟨.inl g2,g1⟩
       .exact⟨.inr g2,g1⟩
      obtain⟨k',g1,g2,g3⟩:=hs.row (row:=none) (w':=w') (v':=v') (c:=c) (ix:=ix) (i:=i) (fun g hg=>by cases hg) hcase'.2 hown (hcase'.1.imp id (fun h=>⟨h,rfl⟩)) hvl h1 ht hf
      exact⟨v',w',k',_,hr,g1,g2,g3⟩
     .cases h
    .rename_i t' e' z' cs n
     split at h
     .rename_i hb
      obtain⟨rfl,rfl,hb1,hb2⟩:=hb
      simp only[Option.some.injEq,Prod.mk.injEq] at h
      obtain⟨rfl,rfl⟩:=h
      simp only[aF] at hx
      obtain⟨ho,hcl,hrep⟩:=hx
      obtain⟨⟨xs,hown⟩,htok⟩:=hs.tok _ _ _ _ _ ho
      have hxs:bn k.m cs xs:=by
       simp only[Rep] at hrep
       obtain⟨a,cp,us,rfl,_,hul,hum⟩:=hrep
       have:us=xs:=by
        have e1:us.length=xs.length:=by rw[hul.length,hown.1,hcl]
        apply List.ext_getElem?
        intro i
        by_cases hi:i<us.length
        .have hne:us≠[]:=by rintro rfl;simp at hi
         obtain⟨b,o,rfl,hc⟩:=hum hne
         rcases hown.2 with ⟨h0,_⟩|⟨g,cap2,cur,hv,_⟩
         .cases h0
         .simp only[Value.slice.injEq,Option.some.injEq,Addr.mk.injEq] at hv
          obtain⟨⟨rfl,rfl,_⟩,_,rfl⟩:=hv
          have hu:us[i]?=some us[i]:=by simp[hi]
          have hc1:=(hs.mem _ _ _ (hc i _ hu)).1
          have hx2:xs[i]?=some (xs[i]'(by omega)):=by simp[show i<xs.length by omega]
          have hc2:=hown.cells (g:=b) rfl i _ hx2
          rw[Addr.add_lit] at hc2
          rw[hc1] at hc2
          rw[hu,hx2]
          exact hc2
        .rw[List.getElem?_eq_none (by omega),List.getElem?_eq_none (by omega)]
       rw[← this]
       exact hul
      have hx1:∀ u∈xs,u.oneCell'=true:=by
       intro u hu
       simp only[Rep] at hrep
       obtain⟨a,cp,us,rfl,_,hul,hum⟩:=hrep
       obtain⟨i,hi⟩:=List.mem_iff_getElem?.1 hu
       have hlt:i<xs.length:=by
        rcases Nat.lt_or_ge i xs.length with g|g
        .exact g
        .rw[List.getElem?_eq_none g] at hi;cases hi
       have hne:us≠[]:=by
        rintro rfl
        have e1:=hul.length
        rw[hown.1,← hcl,← e1] at hlt
        simp at hlt
       obtain⟨b,o,rfl,hc⟩:=hum hne
       have hlu:i<us.length:=by rw[hul.length,hcl,← hown.1];exact hlt
       have hc1:=hs.mem _ _ _ (hc i _ (List.getElem?_eq_getElem hlu))
       rcases hown.2 with ⟨h0,_⟩|⟨g,cap2,cur,hv,_⟩
       .cases h0
       .simp only[Value.slice.injEq,Option.some.injEq,Addr.mk.injEq] at hv
        obtain⟨⟨rfl,rfl,_⟩,_,rfl⟩:=hv
        have hc2:=hown.cells (g:=b) rfl i _ hi
        rw[Addr.add_lit,hc1.1] at hc2
        have:=Option.some.inj hc2
        rw[← this]
        exact hc1.2
      obtain⟨v',w',hr,hown',hcase⟩:=hrun hown hb1 hb2 (Nat.zero_le _)
      have hsd:=hs.del t'
      have hcells:∀ g o u,v.ownBlock=some g→k.m g o=some u→(xs++vs)[o]?=some u:=by
       intro g o u hg hm2
       have hlt:o<n*d.size:=by
        rcases Nat.lt_or_ge o (n*d.size) with g1|g1
        .exact g1
        .rw[(htok g hg).2.1 o g1] at hm2;cases hm2
       have hlx:o<xs.length:=by rw[hown.1];exact hlt
       have hc1:=(hs.mem _ _ _ hm2).1
       have hx2:xs[o]?=some (xs[o]'hlx):=by simp[hlx]
       have hc2:=hown.cells hg o _ hx2
       rw[Addr.add_lit,Nat.zero_add,hc1] at hc2
       rw[List.getElem?_append_left hlx,hx2]
       exact hc2.symm
      have htk:(ow.del t') (.nm c ix i)=none:=by simp only[Own.del];split;rfl;exact ht
      have hone2:∀ u∈xs++vs,u.oneCell'=true:=fun u hu=>by
       rcases List.mem_append.1 hu with hu|hu
       .exact hx1 u hu
       .exact h1 u hu
      have hne2:∀ g,v.ownBlock=some g→∀ t v2 e z n,(ow.del t') t=some (v2,e,z,n)→v2.ownBlock≠some g:=by
       intro g hg t v2 e2 z2 n2 h2
       simp only[Own.del] at h2
       split at h2
       .cases h2
       .rename_i hne
        exact hs.tokne t' t _ _ _ _ _ _ _ _ ho h2 (Ne.symm hne) g hg
      rcases hcase with ⟨g1,g2⟩|⟨g1,g2⟩
      .obtain⟨k',q1,q2,q3⟩:=hsd.row (row:=v.ownBlock) (w':=w') (v':=v') (c:=c) (ix:=ix) (i:=i) (fun g hg=>⟨(htok g hg).1,(htok g hg).2.2,hne2 g hg,fun o u hm2=>hcells g o u hg hm2⟩) g1 hown' (.inl g2) (hxs.append hvl) hone2 htk hf
       exact⟨v',w',k',_,hr,q1,q2,q3⟩
      .obtain⟨k',q1,q2,q3⟩:=hsd.row (row:=none) (w':=w') (v':=v') (c:=c) (ix:=ix) (i:=i) (fun g hg=>by cases hg) g1 hown' (.inr ⟨g2,rfl⟩) (hxs.append hvl) hone2 htk hf
       exact⟨v',w',k',_,hr,q1,q2,q3⟩
     .cases h
    .cases h
   .cases h
  .cases h
 .cases h
end
theorem aag (kind:TypeDesc) (k:Value):∀ (ms:List MapEntry) (es:List (Value×C)) (i:Nat) (r:Option Nat),ms.map (·.key)=es.map (·.1)→aaf kind k es i=some r →
  (∀ j,r=some j→i≤j∧∃ e,ms[j-i]?=some e∧Instr.findNow kind k ms i=some (some (j,e.val)))∧(r=none→Instr.findNow kind k ms i=some none)
 | [],[],i,r,_,h=>by
  simp only[aaf,Option.some.injEq] at h
  subst h
  exact⟨fun j hj=>(by cases hj),fun _=>rfl⟩
 | [],_::_,i,r,hk,_=>by simp at hk
 | _::_,[],i,r,hk,_=>by simp at hk
 | m::ms,e::es,i,r,hk,h=>by
  simp only[List.map_cons,List.cons.injEq] at hk
  simp only[aaf] at h
  simp only[Instr.findNow,hk.1]
  split at h
  .rename_i hsn
   simp only[Option.some.injEq] at h
   subst h
   rw[hsn]
   exact⟨fun j hj=>by cases hj;exact⟨Nat.le_refl _,m,by simp,rfl⟩,fun h=>(by cases h)⟩
  .rename_i hsn
   rw[hsn]
   obtain⟨g1,g2⟩:=aag kind k ms es (i+1) r hk.2 h
   refine⟨fun j hj=>?_,g2⟩
   obtain⟨h1,e',h2,h3⟩:=g1 j hj
   refine⟨by omega,e',?_,h3⟩
   obtain⟨q,rfl⟩ : ∃ q,j=i+1+q:=⟨j-(i+1),by omega⟩
   have e1:i+1+q-i=q+1:=by omega
   have e2:i+1+q-(i+1)=q:=by omega
   rw[e1]
   rw[e2] at h2
   simpa using h2
  .cases h
section
variable {P:Program} {M0:Base} {k:Know} {ow:Own} {done:Nat→Prop} {w0 w:World} {N:Nat} {s:S} {tmps:Array Value}
theorem ahN {T:TT} {t et:Nat} {kind:TypeDesc} (h:abC T t=some (kind,et)):∃ d kt d',T t=some d∧d.und=.map kt et∧T kt=some d'∧d'.und=kind∧ai3 kind=true:=by
 unfold abC at h
 split at h
 .rename_i kt et' _ _ _ _ _ hT
  split at h
  .rename_i kind' hK
   split at h
   .rename_i hkk
    simp only[Option.some.injEq,Prod.mk.injEq] at h
    obtain⟨rfl,rfl⟩:=h
    simp only[Option.map_eq_some_iff] at hK
    obtain⟨d',h1,h2⟩:=hK
    exact⟨_,kt,d',hT,rfl,h1,h2,hkk⟩
   .cases h
  .cases h
 .cases h
theorem kB {kt:Nat} {kind:TypeDesc} (hu:(underlying kt).run P w=.ok kind w) (hk:ai3 kind=true) (b:Bool) (v:Value):(Instr.checkKey b 10000 kt v).run P w=.ok () w:=by
 have:∀ n,(Instr.checkKey b (n+1) kt v).run P w=.ok () w:=fun n=>by
  unfold Instr.checkKey
  simp only[Sem.run_bind,hu,Result.andThen_ok]
  cases kind <;> simp[ai3] at hk <;> rfl
 exact this 9999
theorem abe {kt:Nat} {kind:TypeDesc} (hu:(underlying kt).run P w=.ok kind w) {v:Value} {ms:List MapEntry} {r:Option (Nat×Value)} (h:Instr.findNow kind v ms 0=some r):(Instr.findKey kt v ms).run P w=.ok r w:=by
 simp only[Instr.findKey,Sem.run_bind,hu,Result.andThen_ok,h,Sem.run_pure]
theorem abU {x:X} {u v:Value} (h:dN x=some u) (hx:aF k ow x v):v=u:=by
 unfold dN at h
 split at h
 .simp only[Option.some.injEq] at h
  subst h
  simp only[aF,Rep] at hx
  exact hx.1
 .cases h
theorem aBc {et:Nat} {z:X} (h:aex (TT.of P) et=some z) (w:World):∃ u,(zeroValue et).run P w=.ok u w∧aF k ow z u:=by
 unfold aex at h
 split at h
 .rename_i d hT
  have ok:=TT.of_ok hT
  obtain⟨u,h1,h2,h3⟩:=ok.run_zero2 w
  have hrep:aP k ow (dG d) d.zero:=ac4 d.zero
  obtain⟨g1,g2,g3⟩:=adB hT h hrep ok.one
  refine⟨u,h1,?_⟩
  rw[ok.len.symm,List.take_length] at g3
  cases hagg:d.agg with
  | true =>
   rw[hagg] at h3 g3
   cases u with
   | agg us =>
    simp only[if_true] at g3
    have:us=d.zero.toArray:=by rw[← h2];simp[Value.cells]
    rw[this]
    exact g3
   | _=>simp[ahV] at h3
  | false =>
   rw[hagg] at h3 g3
   have hu:u.cells=#[u]:=by cases u <;> simp_all [ahV,Value.cells]
   rw[hu] at h2
   rw[← h2] at g3
   simpa using g3
 .cases h
theorem aCG (hs:Sim M0 k ow done w0 w N s tmps) {x:X} {es:List (Value×C)} {v:Value} (h:aci s.objs x=some es) (hx:aF k ow x v) :
  ∃ ms:List MapEntry,ms.map (·.key)=es.map (·.1)∧bn k.m (es.map (·.2)) (ms.map (·.val)) ∧
   ((v=.map none∧ms=[])∨∃ r cl,v=.map (some r)∧w.heap[r]?=some (.map ms.toArray cl)):=by
 unfold aci at h
 split at h
 .rename_i r
  split at h
  .rename_i es' hr
   simp only[Option.some.injEq] at h
   subst h
   obtain⟨b,hb,_,_,_,ms,cl,hh,h1,h2⟩:=hs.obj r _ hr
   simp only[aF] at hx
   obtain⟨b',hb',rfl⟩:=hx
   obtain rfl:b'=b:=Option.some.inj (hb'.symm.trans hb)
   exact⟨ms.toList,h1,h2,.inr ⟨b',cl,rfl,hh⟩⟩
  .cases h
 .simp only[Option.some.injEq] at h
  subst h
  simp only[aF,Rep] at hx
  exact⟨[],rfl,by simp[bn],.inl ⟨hx.1,rfl⟩⟩
 .cases h
theorem ari (hs:Sim M0 k ow done w0 w N s tmps) {t:Nat} {x kx y:X} {ok:Bool} {e:Option Tk} {v vk:Value} (h:aaq (TT.of P) s.objs t x kx ok=some (y,e)) (hx:aF k ow x v) (hkx:aF k ow kx vk) :
  e=none∧∃ u,(Instr.lookup t v vk ok).run P w=.ok u w∧aF k ow y u:=by
 unfold aaq at h
 split at h
 .rename_i kind et kv es hty hlit hmap
  obtain⟨d,kt,d',hT,hu,hT',hu',hkk⟩:=ahN hty
  have r1:=(TT.of_ok hT).run_und w
  have r2:=(TT.of_ok hT').run_und w
  rw[hu] at r1
  rw[hu'] at r2
  obtain rfl:=abU hlit hkx
  obtain⟨ms,hk1,hk2,hv⟩:=aCG hs hmap hx
  have pre:∀ r,Instr.findNow kind vk ms 0=some r→(Instr.lookup t v vk ok).run P w=(do
    let (v,ok') ← match r with
     | some (_,v)=>pure (v,true)
     | none=>do pure (← zeroValue et,false)
    pure (if ok then Value.tuple #[v,.bool ok'] else v):Sem Value).run P w:=by
   intro r hr
   have hf:=abe r2 hr
   rcases hv with ⟨rfl,rfl⟩|⟨b,cl,rfl,hh⟩
   .simp only[Instr.lookup,Sem.run_bind,r1,Result.andThen_ok,Sem.run_pure,kB r2 hkk]
    rw[hf]
    rfl
   .simp only[Instr.lookup,Sem.run_bind,r1,Result.andThen_ok,Sem.run_pure,kB r2 hkk,Go.MapKept.run_getObj_map hh]
    rw[hf]
    rfl
  split at h
  .rename_i i hfind
   obtain⟨g1,_⟩:=aag kind vk ms es 0 _ hk1 hfind
   obtain⟨_,e',he,hnow⟩:=g1 i rfl
   simp only[bB,Option.map_eq_some_iff,Prod.mk.injEq] at h
   obtain⟨y',⟨p,hp,rfl⟩,rfl,rfl⟩:=h
   refine⟨rfl,?_⟩
   rw[pre _ hnow]
   simp only[Nat.sub_zero] at he
   obtain⟨u,hu1,hu2⟩:=hk2.get i p.2 (by simp[hp])
   simp only[List.getElem?_map,he,Option.map_some,Option.some.injEq] at hu1
   subst hu1
   cases ok with
   | true=>exact⟨_,rfl,by simp[aF,aP,Rep,Value.oneCell',hu2]⟩
   | false=>exact⟨_,rfl,by simpa [aF] using hu2⟩
  .rename_i hfind
   obtain⟨_,g2⟩:=aag kind vk ms es 0 _ hk1 hfind
   have hnow:=g2 rfl
   simp only[bB,Option.map_eq_some_iff,Prod.mk.injEq] at h
   obtain⟨y',⟨z,hz,rfl⟩,rfl,rfl⟩:=h
   refine⟨rfl,?_⟩
   rw[pre _ hnow]
   obtain⟨u,hu1,hu2⟩:=aBc (k:=k) (ow:=ow) hz w
   cases ok with
   | true=>exact⟨_,by simp[hu1];rfl,by simp[aF,aP,Rep,Value.oneCell',hu2]⟩
   | false=>exact⟨_,by simp[hu1];rfl,by simpa [aF] using hu2⟩
  .cases h
 .cases h
end
theorem afq {α:Type} [DecidableEq α]:∀ {l:List α} {a:α} {i:Nat},l.Nodup→l[i]?=some a→pos l a=some i
 | [],a,i,_,h=>by simp at h
 | b::l,a,0,_,h=>by
  simp only[List.getElem?_cons_zero,Option.some.injEq] at h
  subst h
  simp[pos]
 | b::l,a,i+1,hn,h=>by
  simp only[List.getElem?_cons_succ] at h
  rw[List.nodup_cons] at hn
  have hne:b≠a:=by rintro rfl;exact hn.1 (List.mem_of_getElem? h)
  simp[pos,hne,afq hn.2 h]
def reK (refs:List Nat) (k:Know):Know:={m:=k.m,μ:=fun i=>(refs[i]?).bind k.μ}
def reO (refs:List Nat) (ts:List Tk) (ow:Own):Own
 | .nm 0 0 i=>(ts[i]?).bind ow
 | .nm ..=>none
 | .cell i off=>(refs[i]?).bind fun r=>if Tk.cell r off∈ts then none else ow (.cell r off)
section
variable {P:Program} {M0:Base} {k:Know} {ow:Own} {done:Nat→Prop} {w0 w:World} {N:Nat} {s:S} {tmps:Array Value} {refs:List Nat} {ts:List Tk} {objs obs:List Ob}
theorem aqz:Ren (pos refs) (gY refs ts) k (reK refs k) ow (reO refs ts ow) where
 m:=fun _ _ _ h=>h
 μ:=fun r b r' hr hs=>by simp only[reK,aac hs,Option.bind_some,hr]
 ow:=fun t p t' ht hr=>by
  unfold gY at hr
  split at hr
  .rename_i i hi
   simp only[Option.some.injEq] at hr
   subst hr
   simp only[reO,aac hi,Option.bind_some,ht]
  .rename_i hno
   split at hr
   .rename_i r off
    simp only[Option.map_eq_some_iff] at hr
    obtain⟨r',hr',rfl⟩:=hr
    simp only[reO,aac hr',Option.bind_some,if_neg (aj2 hno),ht]
   .cases hr
theorem adO (hr:refs.Nodup) (hts:ts.Nodup) {t':Tk} {p:Value×Nat×Nat×Nat} (h:reO refs ts ow t'=some p):∃ t,ow t=some p∧gY refs ts t=some t':=by
 unfold reO at h
 split at h
 .rename_i i
  simp only[Option.bind_eq_some_iff] at h
  obtain⟨t,ht,hp⟩:=h
  exact⟨t,hp,by simp only[gY,afq hts ht]⟩
 .cases h
 .rename_i i off
  simp only[Option.bind_eq_some_iff] at h
  obtain⟨r,hr',hp⟩:=h
  split at hp
  .cases hp
  .rename_i hno
   refine⟨.cell r off,hp,?_⟩
   have:pos ts (Tk.cell r off)=none:=by
    cases hps:pos ts (Tk.cell r off) with
    | none=>rfl
    | some i=>exact (hno (List.mem_of_getElem? (aac hps))).elim
   simp only[gY,this,afq hr hr',Option.map_some]
theorem aap {σ:Nat→Option Nat} {ρ:Tk→Option Tk} {objs:List Ob}:∀ {l:List Nat} {obs:List Ob},eU σ ρ objs l=some obs→obs.length=l.length
 | [],obs,h=>by simp only[eU,Option.some.injEq] at h;subst h;rfl
 | r::l,obs,h=>by
  simp only[eU] at h
  split at h
  .rename_i ob q h1 h2
   simp only[Option.some.injEq] at h
   subst h
   simp[aap h2]
  .cases h
theorem agp {σ:Nat→Option Nat} {ρ:Tk→Option Tk} {objs:List Ob}:∀ {l:List Nat} {obs:List Ob},eU σ ρ objs l=some obs→∀ (i r:Nat),l[i]?=some r→∃ ob:Ob,objs[r]?=some ob∧obs[i]?=some (ob.tr σ ρ)
 | [],obs,h,i,r,hi=>by simp at hi
 | r0::l,obs,h,i,r,hi=>by
  simp only[eU] at h
  split at h
  .rename_i ob q h1 h2
   simp only[Option.some.injEq] at h
   subst h
   cases i with
   | zero=>simp only[List.getElem?_cons_zero,Option.some.injEq] at hi;subst hi;exact⟨ob,h1,rfl⟩
   | succ i=>simpa using agp h2 i r (by simpa using hi)
  .cases h
theorem Hp.drops (h:Hp M0 k ow w0 w objs) (ts:List Tk):Hp M0 k ow w0 w (acp ts objs):=by
 unfold acp
 split
 .exact h
 .exact {h with
   obj:=fun r ob hr=>by
    simp only[List.getElem?_map,Option.map_eq_some_iff] at hr
    obtain⟨ob',h1,rfl⟩:=hr
    obtain⟨b,h2,h3,h4,h5,h6⟩:=h.obj r ob' h1
    exact⟨b,h2,h3,h4,h5,h6.tr ⟨fun _ _ _ h=>h,fun r b r' hr he=>by cases he;exact hr,fun t p t' ht he=>by
     split at he
     .cases he
     .cases he;exact ht⟩⟩
   dom:=fun r b hr=>by simpa using h.dom r b hr}
theorem azV (ts:List Tk) (objs:List Ob):(acp ts objs).length=objs.length:=by
 unfold acp
 split <;> simp
theorem Hp.re (h:Hp M0 k ow w0 w objs) (hr:refs.Nodup) (hts:ts.Nodup) (hp:eU (pos refs) (gY refs ts) objs refs=some obs) {M1:Base} {w1:World}
  (hgood:M1.G.holds w1∧∀ b,M1.G.blk b→b<w1.heap.size∧¬ M1.mod b) (hbelow:Keeps M1.mod w1 w) (hmine:∀ b,iE (reK refs k) (reO refs ts ow) b→acM M0.mod w0 b→acM M1.mod w1 b)
  (hm0:∀ b o v,k.m b o=some v→b<w1.heap.size→¬ M1.mod b→M1.m b o=some v):Hp M1 (reK refs k) (reO refs ts ow) w1 w obs where
 good:=hgood
 below:=hbelow
 mem:=h.mem
 obj:=fun i ob hi=>by
  have hlt:i<refs.length:=by
   rw[← aap hp]
   exact (List.getElem?_eq_some_iff.1 hi).1
  obtain⟨ob0,h1,h2⟩:=agp hp i _ (List.getElem?_eq_getElem hlt)
  obtain rfl:ob=ob0.tr (pos refs) (gY refs ts):=Option.some.inj (hi.symm.trans h2)
  obtain⟨b,h3,h4,h5,h6,h7⟩:=h.obj _ _ h1
  have hμ:(reK refs k).μ i=some b:=by simp only[reK,List.getElem?_eq_getElem hlt,Option.bind_some,h3]
  exact⟨b,hμ,hmine b (.inl ⟨i,hμ⟩) h4,h5,h6,h7.tr aqz⟩
 dom:=fun i b hi=>by
  simp only[reK,Option.bind_eq_some_iff] at hi
  obtain⟨r,hr',_⟩:=hi
  rw[aap hp]
  exact (List.getElem?_eq_some_iff.1 hr').1
 inj:=fun i j b hi hj=>by
  simp only[reK,Option.bind_eq_some_iff] at hi hj
  obtain⟨r,h1,h2⟩:=hi
  obtain⟨r',h3,h4⟩:=hj
  obtain rfl:=h.inj r r' b h2 h4
  have:=(afq hr h1).symm.trans (afq hr h3)
  exact Option.some.inj this
 tok:=fun t v e z n ht=>by
  obtain⟨t0,h1,_⟩:=adO hr hts ht
  obtain⟨g1,g2⟩:=h.tok t0 v e z n h1
  refine⟨g1,fun g hg=>⟨hmine g (.inr ⟨t,v,e,z,n,ht,hg⟩) (g2 g hg).1,(g2 g hg).2.1,fun i hi=>?_⟩⟩
  simp only[reK,Option.bind_eq_some_iff] at hi
  obtain⟨r,_,h4⟩:=hi
  exact (g2 g hg).2.2 r h4
 tokne:=fun t t' v e z n v' e' z' n' ht ht' hne=>by
  obtain⟨a,h1,h2⟩:=adO hr hts ht
  obtain⟨b,h3,h4⟩:=adO hr hts ht'
  exact h.tokne a b v e z n v' e' z' n' h1 h3 (fun e=>hne (by subst e;rw[h2] at h4;exact Option.some.inj h4))
 m0:=hm0
theorem anO {t:Tk} {p:Value×Nat×Nat×Nat} (h:reO refs ts ow t=some p):t.older 1 fun _=>False:=by
 unfold reO at h
 split at h
 .exact .inl Nat.zero_lt_one
 .cases h
 .trivial
theorem anP {i off:Nat} {p:Value×Nat×Nat×Nat} (h:reO refs ts ow (.cell i off)=some p):i<refs.length:=by
 simp only[reO,Option.bind_eq_some_iff] at h
 obtain⟨r,hr,_⟩:=h
 exact (List.getElem?_eq_some_iff.1 hr).1
theorem akS (σ:Nat→Option Nat) (ρ:Tk→Option Tk):∀ (l:List Nat) (objs:List Ob) (q:List Ob),(fV σ ρ objs l q).length=objs.length
 | [],objs,q=>by simp[fV]
 | r::l,objs,[]=>by simp[fV]
 | r::l,objs,ob::q=>by simp[fV,akS σ ρ l]
theorem agh (σ:Nat→Option Nat) (ρ:Tk→Option Tk):∀ (l:List Nat) (objs:List Ob) (q:List Ob) (r:Nat),r∉l→(fV σ ρ objs l q)[r]?=objs[r]?
 | [],objs,q,r,_=>by simp[fV]
 | r0::l,objs,[],r,_=>by simp[fV]
 | r0::l,objs,ob::q,r,h=>by
  simp only[List.mem_cons,not_or] at h
  simp only[fV]
  rw[agh σ ρ l _ q r h.2,List.getElem?_set_ne (Ne.symm h.1)]
theorem anN (σ:Nat→Option Nat) (ρ:Tk→Option Tk):∀ (l:List Nat) (objs:List Ob) (q:List Ob) (i r:Nat) (ob:Ob),l.Nodup→l[i]?=some r→q[i]?=some ob→r<objs.length→(fV σ ρ objs l q)[r]?=some (ob.tr σ ρ)
 | [],objs,q,i,r,ob,_,hl,_,_=>by simp at hl
 | r0::l,objs,[],i,r,ob,_,_,hq,_=>by simp at hq
 | r0::l,objs,ob0::q,0,r,ob,hn,hl,hq,hr=>by
  simp only[List.getElem?_cons_zero,Option.some.injEq] at hl hq
  subst hl;subst hq
  rw[List.nodup_cons] at hn
  simp only[fV]
  rw[agh σ ρ l _ q r0 hn.1,List.getElem?_set_self hr]
 | r0::l,objs,ob0::q,i+1,r,ob,hn,hl,hq,hr=>by
  rw[List.nodup_cons] at hn
  simp only[fV]
  exact anN σ ρ l _ q i r ob hn.2 (by simpa using hl) (by simpa using hq) (by simpa using hr)
theorem Sim.new (h:Sim M0 k ow done w0 w N s tmps) {ix i:Nat} (hd:¬ done ix):ow (.nm s.clk ix i)=none:=by
 cases ho:ow (.nm s.clk ix i) with
 | none=>rfl
 | some p =>
  rcases h.fresh _ _ ho with h1|⟨_,h1⟩
  .omega
  .exact (hd h1).elim
theorem ahu (h:Sim M0 k ow done w0 w N s tmps):∀ (l:List Operand) (cs:List C),fN s.ev l=some cs→bn k.m cs (l.map fun x=>(⟨tmps,[]⟩ : Act).eval x)
 | [],cs,hr=>by simp only[fN,Option.some.injEq] at hr;subst hr;simp[bn]
 | x::l,cs,hr=>by
  simp only[fN] at hr
  split at hr
  .rename_i c cs' h1 h2
   simp only[Option.some.injEq] at hr
   subst hr
   simp only[List.map_cons,bn]
   exact⟨_,_,rfl,aaW _ _ _ h1 (h.ev x),ahu h l cs' h2⟩
  .cases hr
theorem aqT {xs:List X} {us:List Value} (h:aP k ow xs us):aF k ow (aaJ xs) (agk us):=by
 unfold aaJ
 split
 .simp only[aP] at h
  obtain⟨v,r,rfl,hx,rfl⟩:=h
  exact hx
 .rename_i xs' hne
  have:agk us=.tuple us.toArray:=by
   unfold agk
   split
   .rename_i u
    have hl:=h.length
    match xs,hl,hne with
    | [x],_,hne=>exact (hne x rfl).elim
   .rfl
  rw[this]
  simp only[aF]
  exact⟨us,rfl,h⟩
theorem aok (hs:Sim M0 k ow done w0 w N s tmps) (hr:refs.Nodup) (hts:ts.Nodup) (hp:eU (pos refs) (gY refs ts) (acp ts s.objs) refs=some obs)
  {f:Nat} {xs:List X} {an:An} {vs:List Value} {ix:Nat} (hsound:jl P M0.G f xs obs an) (hc:ab P f=true) (hvs:aP (reK refs k) (reO refs ts ow) xs vs) (hd:¬ done ix) :
  Calls P f vs.toArray w fun e w'=>∃ us kn own,adk an.pan us e∧k.le kn∧refs.length≤an.obs.length ∧
   Sim M0 kn own (fun j=>done j∨j=ix) w0 w' N {s with fr:=fun j=>(s.fr j).tr some (gk refs ts),objs:=fV (fun i=>some (dq refs s.objs.length i)) (cF refs s.objs.length s.clk ix) (s.objs.map (Ob.tr some (gk refs ts))) refs an.obs++(an.obs.drop refs.length).map (Ob.tr (fun i=>some (dq refs s.objs.length i)) (cF refs s.objs.length s.clk ix))} tmps ∧
   aP kn own (X.trs (fun i=>some (dq refs s.objs.length i)) (cF refs s.objs.length s.clk ix) an.rs) us:=by
 unfold ab at hc
 split at hc
 rotate_left
 .cases hc
 rename_i fn hf
 have hd1:=hs.toHp.drops ts
 have hgm:∀ b,iE (reK refs k) (reO refs ts ow) b→acM M0.mod w0 b∧b<w.heap.size:=by
  rintro b (⟨i,hi⟩|⟨t,v,e,z,n,ht,hv⟩)
  .simp only[reK,Option.bind_eq_some_iff] at hi
   obtain⟨r,_,h2⟩:=hi
   exact⟨(hs.lt h2).1,(hs.lt h2).2.1⟩
  .obtain⟨t0,h1,_⟩:=adO hr hts ht
   exact hs.tlt h1 hv
 have hpre:Hp ⟨M0.G,k.m,iE (reK refs k) (reO refs ts ow)⟩ (reK refs k) (reO refs ts ow) w w obs :=
  hd1.re hr hts hp ⟨hs.table,fun b hb=>⟨Nat.lt_of_lt_of_le (hs.good.2 b hb).1 hs.below.size,fun hg=>by
   rcases (hgm b hg).1 with h1|h1
   .have:=(hs.good.2 b hb).1;omega
   .exact (hs.good.2 b hb).2 h1⟩⟩ (Keeps.refl _ _) (fun b hb _=>.inr hb) (fun b o v hm _ _=>hm)
 have hol:obs.length=refs.length:=aap hp
 have hrl:∀ i r,refs[i]?=some r→r<s.objs.length:=fun i r hi=>by
  obtain⟨ob,h1,_⟩:=agp hp i r hi
  rw[← azV ts s.objs]
  exact (List.getElem?_eq_some_iff.1 h1).1
 refine (hsound fn hf _ _ w vs hpre (fun t p ht=>anO ht) (fun i off p ht=>by rw[hol];exact anP ht) hvs).mono fun e w' ⟨k',ow',us,hend,hp',hle,hlen,hμ,hold,hcl,hrs⟩=>?_
 rw[hol] at hlen hμ
 simp only[reK] at hle hμ
 let L:=s.objs.length
 let m:=refs.length
 let kn:Know:={m:=k'.m,μ:=fun r=>if r<L then k.μ r else k'.μ (m+(r-L))}
 let own:Own:=fun t=>match t with
  | .nm c ix' i=>if c=s.clk∧ix'=ix then ow' (.nm 0 0 i) else if t∈ts then none else ow t
  | .cell r off=>if r<L then (match pos refs r with
    | some i=>ow' (.cell i off)
    | none=>if t∈ts then none else ow t) else ow' (.cell (m+(r-L)) off)
 have hknl:∀ r,r<L→kn.μ r=k.μ r:=fun r h=>by show (if r<L then _ else _)=_;rw[if_pos h]
 have hkng:∀ r,¬ r<L→kn.μ r=k'.μ (m+(r-L)):=fun r h=>by show (if r<L then _ else _)=_;rw[if_neg h]
 have hkle:k.le kn:=⟨hle,fun r b hb=>by rw[hknl r (hs.dom r b hb)];exact hb⟩
 have hposnone:∀ r,r∉refs→pos refs r=none:=fun r hno=>by
  cases hps:pos refs r with
  | none=>rfl
  | some i=>exact (hno (List.mem_of_getElem? (aac hps))).elim
 have hkeep:∀ t t',gk refs ts t=some t'→t'=t∧t∉ts∧∀ r off,t=.cell r off→r∉refs:=by
  intro t t' h
  unfold gk at h
  split at h
  .cases h
  .rename_i hno
   split at h
   .rename_i r off
    split at h
    .cases h
    .rename_i hnr
     simp only[Option.some.injEq] at h
     refine⟨h.symm,hno,fun r' off' e=>?_⟩
     cases e
     exact hnr
   .simp only[Option.some.injEq] at h
    exact⟨h.symm,hno,fun r' off' e=>by cases e⟩
 have hownk:∀ t p,ow t=some p→t∉ts→(∀ r off,t=.cell r off→r∉refs)→own t=some p:=by
  intro t p ht hno hnr
  cases t with
  | nm c ix' i =>
   show (if c=s.clk∧ix'=ix then _ else _)=_
   rw[if_neg,if_neg hno,ht]
   rintro⟨rfl,rfl⟩
   rw[hs.new hd] at ht
   cases ht
  | cell r off =>
   show (if r<L then _ else _)=_
   rw[if_pos (hs.cells r off p ht),hposnone r (hnr r off rfl)]
   simp only[if_neg hno,ht]
 have renA:Ren some (gk refs ts) k kn ow own:=⟨hle,fun r b r' hrb he=>by cases he;exact hkle.2 _ _ hrb,fun t p t' ht hk=>by
  obtain⟨rfl,h1,h2⟩:=hkeep t t' hk
  exact hownk t' p ht h1 h2⟩
 have hsig1:∀ i r,refs[i]?=some r→dq refs L i=r:=fun i r h=>by simp[dq,h]
 have hsig2:∀ i,m≤i→dq refs L i=L+(i-m):=fun i h=>by
  have:refs[i]?=none:=List.getElem?_eq_none h
  simp[dq,this,m]
 have hμi:∀ i r,refs[i]?=some r→k'.μ i=k.μ r:=fun i r h=>by
  rw[hμ i (List.getElem?_eq_some_iff.1 h).1,h];rfl
 have renB:Ren (fun i=>some (dq refs L i)) (cF refs L s.clk ix) k' kn ow' own:=by
  refine⟨fun _ _ _ h=>h,fun i b r' hb he=>?_,fun t p t' ht he=>?_⟩
  .simp only[Option.some.injEq] at he
   subst he
   rcases Nat.lt_or_ge i m with g|g
   .have h1:refs[i]?=some refs[i]:=List.getElem?_eq_getElem g
    rw[hsig1 i _ h1,hknl _ (hrl i _ h1),← hμi i _ h1]
    exact hb
   .rw[hsig2 i g,hkng _ (by omega)]
    have:m+(L+(i-m)-L)=i:=by omega
    rw[this]
    exact hb
  .unfold cF at he
   split at he
   .rename_i i
    simp only[Option.some.injEq] at he
    subst he
    show (if s.clk=s.clk∧ix=ix then _ else _)=_
    rw[if_pos ⟨rfl,rfl⟩]
    exact ht
   .cases he
   .rename_i i off
    simp only[Option.some.injEq] at he
    subst he
    show (if dq refs L i<L then _ else _)=_
    rcases Nat.lt_or_ge i m with g|g
    .have h1:refs[i]?=some refs[i]:=List.getElem?_eq_getElem g
     rw[hsig1 i _ h1,if_pos (hrl i _ h1),afq hr h1]
     exact ht
    .rw[hsig2 i g,if_neg (by omega)]
     have:m+(L+(i-m)-L)=i:=by omega
     rw[this]
     exact ht
 have hsrc:∀ t p,own t=some p→(ow t=some p∧t∉ts∧∀ r off,t=.cell r off→r∉refs)∨∃ t0,ow' t0=some p∧cF refs L s.clk ix t0=some t:=by
  intro t p ht
  cases t with
  | nm c ix' i =>
   have ht':(if c=s.clk∧ix'=ix then ow' (.nm 0 0 i) else if Tk.nm c ix' i∈ts then none else ow (.nm c ix' i))=some p:=ht
   split at ht'
   .rename_i h1
    obtain⟨rfl,rfl⟩:=h1
    exact .inr ⟨_,ht',rfl⟩
   .split at ht'
    .cases ht'
    .rename_i hno
     exact .inl ⟨ht',hno,fun r off e=>by cases e⟩
  | cell r off =>
   have ht':(if r<L then (match pos refs r with
    | some i=>ow' (.cell i off)
    | none=>if Tk.cell r off∈ts then none else ow (.cell r off)) else ow' (.cell (m+(r-L)) off))=some p:=ht
   split at ht'
   .split at ht'
    .rename_i i hi
     refine .inr ⟨_,ht',?_⟩
     simp only[cF,hsig1 i r (aac hi)]
    .rename_i hpn
     split at ht'
     .cases ht'
     .rename_i hno
      exact .inl ⟨ht',hno,fun r' off' e=>by cases e;exact aj2 hpn⟩
   .rename_i hge
    refine .inr ⟨_,ht',?_⟩
    simp only[cF]
    rw[hsig2 _ (by omega)]
    have:L+(m+(r-L)-m)=r:=by omega
    rw[this]
 have hngiven:∀ t v e z n,ow t=some (v,e,z,n)→t∉ts→(∀ r off,t=.cell r off→r∉refs)→∀ g,v.ownBlock=some g→¬ iE (reK refs k) (reO refs ts ow) g:=by
  rintro t v e z n ht hno hnr g hg (⟨i,hi⟩|⟨t',v',e',z',n',ht',hg'⟩)
  .simp only[reK,Option.bind_eq_some_iff] at hi
   obtain⟨r,_,h2⟩:=hi
   exact ((hs.tok t v e z n ht).2 g hg).2.2 r h2
  .obtain⟨t0,h1,h2⟩:=adO hr hts ht'
   refine hs.tokne t t0 v e z n v' e' z' n' ht h1 ?_ g hg hg'
   rintro rfl
   unfold gY at h2
   split at h2
   .rename_i i hi;exact hno (List.mem_of_getElem? (aac hi))
   .split at h2
    .rename_i r off _
     simp only[Option.map_eq_some_iff] at h2
     obtain⟨i,hi,_⟩:=h2
     exact hnr r off rfl (List.mem_of_getElem? (aac hi))
    .cases h2
 have hngivo:∀ r b,k.μ r=some b→r∉refs→¬ iE (reK refs k) (reO refs ts ow) b:=by
  rintro r b hb hno (⟨i,hi⟩|⟨t',v',e',z',n',ht',hg'⟩)
  .simp only[reK,Option.bind_eq_some_iff] at hi
   obtain⟨r',h1,h2⟩:=hi
   obtain rfl:=hs.inj r r' b hb h2
   exact hno (List.mem_of_getElem? h1)
  .obtain⟨t0,h1,_⟩:=adO hr hts ht'
   exact ((hs.tok t0 _ _ _ _ h1).2 b hg').2.2 r hb
 have hmine:∀ b,acM (iE (reK refs k) (reO refs ts ow)) w b→acM M0.mod w0 b:=by
  rintro b (h1|h1)
  .exact .inl (Nat.le_trans hs.below.size h1)
  .exact (hgm b h1).1
 have hapart:∀ b,b<w.heap.size→¬ iE (reK refs k) (reO refs ts ow) b→¬ acM (iE (reK refs k) (reO refs ts ow)) w b:=by
  rintro b h1 h2 (h3|h3)
  .omega
  .exact h2 h3
 have hmnone:∀ b,b<w.heap.size→¬ iE (reK refs k) (reO refs ts ow) b→∀ o u,k'.m b o=some u→k.m b o=some u:=fun b h1 h2 o u hm=>hp'.m0 b o u hm h1 h2
 have hlen2:(fV (fun i=>some (dq refs L i)) (cF refs L s.clk ix) (s.objs.map (Ob.tr some (gk refs ts))) refs an.obs).length=L:=by rw[akS];simp[L]
 have hobjs:∀ r ob,(fV (fun i=>some (dq refs L i)) (cF refs L s.clk ix) (s.objs.map (Ob.tr some (gk refs ts))) refs an.obs++(an.obs.drop m).map (Ob.tr (fun i=>some (dq refs L i)) (cF refs L s.clk ix)))[r]?=some ob →
   (∃ i ob',an.obs[i]?=some ob'∧dq refs L i=r∧ob=ob'.tr (fun i=>some (dq refs L i)) (cF refs L s.clk ix))∨(r<L∧r∉refs∧∃ ob',s.objs[r]?=some ob'∧ob=ob'.tr some (gk refs ts)):=by
  intro r ob hob
  rcases Nat.lt_or_ge r L with g|g
  .rw[List.getElem?_append_left (by rw[hlen2];exact g)] at hob
   by_cases hmem:r∈refs
   .obtain⟨i,hi⟩:=List.mem_iff_getElem?.1 hmem
    have hil:i<an.obs.length:=Nat.lt_of_lt_of_le (List.getElem?_eq_some_iff.1 hi).1 hlen
    have h1:an.obs[i]?=some an.obs[i]:=List.getElem?_eq_getElem hil
    rw[anN _ _ refs _ _ i r _ hr hi h1 (by simpa [L] using g)] at hob
    exact .inl ⟨i,_,h1,hsig1 i r hi,(Option.some.inj hob).symm⟩
   .rw[agh _ _ refs _ _ r hmem,List.getElem?_map,Option.map_eq_some_iff] at hob
    obtain⟨ob',h1,h2⟩:=hob
    exact .inr ⟨g,hmem,ob',h1,h2.symm⟩
  .rw[List.getElem?_append_right (by rw[hlen2];exact g),hlen2,List.getElem?_map,Option.map_eq_some_iff,] at hob
   obtain⟨ob',h1,h2⟩:=hob
   rw[List.getElem?_drop] at h1
   refine .inl ⟨m+(r-L),ob',h1,?_,h2.symm⟩
   rw[hsig2 _ (by omega)]
   omega
 refine⟨us,kn,own,hend,hkle,hlen,?_,aP.tr renB _ _ hrs⟩
 exact {
  good:=hs.good
  below:=⟨hp'.below.os.trans hs.below.os,hp'.below.tape.trans hs.below.tape,hp'.below.output.trans hs.below.output,Nat.le_trans hs.below.size hp'.below.size,fun b hb hm=>by
   have hb':b<w.heap.size:=Nat.lt_of_lt_of_le hb hs.below.size
   refine (hp'.below.block b hb' fun hg=>?_).trans (hs.below.block b hb hm)
   rcases (hgm b hg).1 with h1|h1
   .omega
   .exact hm h1⟩
  mem:=hp'.mem
  obj:=fun r ob hob=>by
   rcases hobjs r ob hob with ⟨i,ob',h1,h2,rfl⟩|⟨h1,h2,ob',h3,rfl⟩
   .obtain⟨b,g1,g2,g3,g4,g5⟩:=hp'.obj i ob' h1
    exact⟨b,renB.μ i b r g1 (by rw[h2]),hmine b g2,g3,g4,g5.tr renB⟩
   .obtain⟨b,g1,g2,g3,g4,g5⟩:=hs.obj r ob' h3
    have hng:=hngivo r b g1 h2
    refine⟨b,by rw[hknl r h1];exact g1,g2,Nat.lt_of_lt_of_le g3 hp'.below.size,fun o=>?_,(g5.keep (hp'.below.block b g3 hng)).tr renA⟩
    cases hm:k'.m b o with
    | none=>rfl
    | some u =>
     have:=hmnone b g3 hng o u hm
     rw[g4 o] at this
     cases this
  dom:=fun r b hb=>by
   simp only[List.length_append,List.length_map,List.length_drop]
   rw[hlen2]
   rcases Nat.lt_or_ge r L with g|g
   .omega
   .rw[hkng r (by omega)] at hb
    have:=hp'.dom _ _ hb
    omega
  inj:=fun r r' b hb hb'=>by
   rcases Nat.lt_or_ge r L with g|g
   .rw[hknl r g] at hb
    rcases Nat.lt_or_ge r' L with g'|g'
    .rw[hknl r' g'] at hb'
     exact hs.inj r r' b hb hb'
    .rw[hkng r' (by omega)] at hb'
     by_cases hmem:r∈refs
     .obtain⟨i,hi⟩:=List.mem_iff_getElem?.1 hmem
      have h1:k'.μ i=some b:=by rw[hμi i r hi];exact hb
      have:=hp'.inj _ _ b h1 hb'
      have:=(List.getElem?_eq_some_iff.1 hi).1
      omega
     .have:=(hp'.lt hb').1
      exact (hapart b (hs.lt hb).2.1 (hngivo r b hb hmem) this).elim
   .rw[hkng r (by omega)] at hb
    rcases Nat.lt_or_ge r' L with g'|g'
    .rw[hknl r' g'] at hb'
     by_cases hmem:r'∈refs
     .obtain⟨i,hi⟩:=List.mem_iff_getElem?.1 hmem
      have h1:k'.μ i=some b:=by rw[hμi i r' hi];exact hb'
      have:=hp'.inj _ _ b h1 hb
      have:=(List.getElem?_eq_some_iff.1 hi).1
      omega
     .have:=(hp'.lt hb).1
      exact (hapart b (hs.lt hb').2.1 (hngivo r' b hb' hmem) this).elim
    .rw[hkng r' (by omega)] at hb'
     have:=hp'.inj _ _ b hb hb'
     omega
  tok:=fun t v e z n ht=>by
   rcases hsrc t _ ht with ⟨h1,h2,h3⟩|⟨t0,h1,h2⟩
   .obtain⟨⟨xs',g1⟩,g2⟩:=hs.tok t v e z n h1
    have hng:=hngiven t v e z n h1 h2 h3
    refine⟨⟨xs',aaI (fun g hg hlt=>hp'.below.block g hlt (hng g hg)) g1⟩,fun g hg=>⟨(g2 g hg).1,fun o ho=>?_,fun r hb=>?_⟩⟩
    .have hlt:=(hs.tlt h1 hg).2
     cases hm:k'.m g o with
     | none=>rfl
     | some u =>
      have:=hmnone g hlt (hng g hg) o u hm
      rw[(g2 g hg).2.1 o ho] at this
      cases this
    .rcases Nat.lt_or_ge r L with g'|g'
     .rw[hknl r g'] at hb
      exact (g2 g hg).2.2 r hb
     .rw[hkng r (by omega)] at hb
      exact hapart g (hs.tlt h1 hg).2 (hng g hg) (hp'.lt hb).1
   .obtain⟨g1,g2⟩:=hp'.tok t0 v e z n h1
    refine⟨g1,fun g hg=>⟨hmine g (g2 g hg).1,(g2 g hg).2.1,fun r hb=>?_⟩⟩
    rcases Nat.lt_or_ge r L with g'|g'
    .rw[hknl r g'] at hb
     by_cases hmem:r∈refs
     .obtain⟨i,hi⟩:=List.mem_iff_getElem?.1 hmem
      exact (g2 g hg).2.2 i (by rw[hμi i r hi];exact hb)
     .exact hapart g (hs.lt hb).2.1 (hngivo r g hb hmem) (g2 g hg).1
    .rw[hkng r (by omega)] at hb
     exact (g2 g hg).2.2 _ hb
  tokne:=fun t t' v e z n v' e' z' n' ht ht' hne g hg hg'=>by
   rcases hsrc t _ ht with ⟨h1,h2,h3⟩|⟨t0,h1,h2⟩
   .rcases hsrc t' _ ht' with ⟨h1',h2',h3'⟩|⟨t0',h1',h2'⟩
    .exact hs.tokne t t' v e z n v' e' z' n' h1 h1' hne g hg hg'
    .exact hapart g (hs.tlt h1 hg).2 (hngiven t v e z n h1 h2 h3 g hg) (hp'.tlt h1' hg').1
   .rcases hsrc t' _ ht' with ⟨h1',h2',h3'⟩|⟨t0',h1',h2'⟩
    .exact hapart g (hs.tlt h1' hg').2 (hngiven t' v' e' z' n' h1' h2' h3' g hg') (hp'.tlt h1 hg).1
    .exact hp'.tokne t0 t0' v e z n v' e' z' n' h1 h1' (fun e=>hne (by subst e;rw[h2] at h2';exact Option.some.inj h2')) g hg hg'
  m0:=fun b o u hm hb hmd=>by
   have hb':b<w.heap.size:=Nat.lt_of_lt_of_le hb hs.below.size
   refine hs.m0 b o u (hmnone b hb' (fun hg=>?_) o u hm) hb hmd
   rcases (hgm b hg).1 with h1|h1
   .omega
   .exact hmd h1
  size:=hs.size
  fr:=fun j=>aF.tr renA _ _ (hs.fr j)
  fresh:=fun t p ht=>by
   rcases hsrc t p ht with ⟨h1,_,_⟩|⟨t0,h1,h2⟩
   .have:=hs.fresh t p h1
    cases t with
    | nm c ix' i=>exact this.imp id (fun⟨a,b⟩=>⟨a,.inl b⟩)
    | cell r off=>trivial
   .unfold cF at h2
    split at h2
    .cases h2;exact .inr ⟨rfl,.inr rfl⟩
    .cases h2
    .cases h2;trivial
  cells:=fun r off p ht=>by
   simp only[List.length_append,List.length_map,List.length_drop]
   rw[hlen2]
   rcases Nat.lt_or_ge r L with g|g
   .omega
   .have ht':ow' (.cell (m+(r-L)) off)=some p:=by
     have:(if r<L then (match pos refs r with
      | some i=>ow' (.cell i off)
      | none=>if Tk.cell r off∈ts then none else ow (.cell r off)) else ow' (.cell (m+(r-L)) off))=some p:=ht
     rwa [if_neg (by omega)] at this
    have:=hcl _ _ _ ht'
    omega}
theorem X.tr_id:∀ x:X,x.tr some some=x :=
 X.rec (motive_1:=fun x=>x.tr some some=x) (motive_2:=fun xs=>X.trs some some xs=xs) (fun _=>rfl) rfl (fun _ _ _ _ _=>rfl) (fun _ _=>rfl) (fun _=>rfl)
  (fun f xs ih=>by simp only[X.tr,ih]) (fun xs ih=>by simp only[X.tr,ih]) (fun xs ih=>by simp only[X.tr,ih]) (fun o _ _=>by cases o <;> rfl) rfl (fun x xs h1 h2=>by simp only[X.trs,h1,h2])
theorem X.trs_id (xs:List X):X.trs some some xs=xs:=by
 induction xs with
 | nil=>rfl
 | cons x xs ih=>simp only[X.trs,X.tr_id,ih]
theorem Ob.tr_id (o:Ob):o.tr some some=o:=by
 cases o with
 | var ty xs=>simp only[Ob.tr,X.trs_id]
 | map es=>rfl
theorem alz:gk [] []=some:=by
 funext t
 cases t <;> simp[gk]
theorem aAb (hs:Sim M0 k ow done w0 w N s tmps) {f:Nat} {cs:List C} {rs:List X} {vs:List Value} {ix:Nat} (hsound:jl P M0.G f (cs.map .of) [] ⟨false,rs,[]⟩) (hc:ab P f=true) (hvs:bn k.m cs vs) (hd:¬ done ix) :
  Calls P f vs.toArray w fun e w'=>∃ v kn own,e=.returned v∧k.le kn∧Sim M0 kn own (fun j=>done j∨j=ix) w0 w' N s tmps∧aF kn own (aaJ (acf s.clk ix rs)) v:=by
 refine (aok (refs:=[]) (ts:=[]) (obs:=[]) hs List.nodup_nil List.nodup_nil rfl hsound hc (aP.of (by exact hvs)) hd).mono fun e w' ⟨us,kn,own,h1,h2,_,h3,h4⟩=>?_
 simp only[adk] at h1
 refine⟨agk us,kn,own,h1,h2,?_,aqT ?_⟩
 .have e1:(fun j=>(s.fr j).tr some (gk [] []))=s.fr:=by funext j;rw[alz,X.tr_id]
  have e2:s.objs.map (Ob.tr some (gk [] []))=s.objs:=by
   rw[alz]
   have:Ob.tr some some=id:=by funext o;exact Ob.tr_id o
   rw[this,List.map_id]
  simp only[fV,List.length_nil,List.drop_nil,List.map_nil,List.append_nil,e1,e2] at h3
  exact h3
 .have hren:Ren (fun _=>none) some kn kn own own:=⟨fun _ _ _ h=>h,fun r b r' _ he=>(by cases he),fun t p t' ht he=>(by cases he;exact ht)⟩
  have h5:=aP.tr hren _ _ h4
  have key:∀ x:X,(x.tr (fun i=>some (dq [] s.objs.length i)) (cF [] s.objs.length s.clk ix)).tr (fun _=>none) some=x.tr (fun _=>none) (cF [] s.objs.length s.clk ix) :=
   X.rec (motive_1:=fun x=>(x.tr (fun i=>some (dq [] s.objs.length i)) (cF [] s.objs.length s.clk ix)).tr (fun _=>none) some=x.tr (fun _=>none) (cF [] s.objs.length s.clk ix))
    (motive_2:=fun xs=>X.trs (fun _=>none) some (X.trs (fun i=>some (dq [] s.objs.length i)) (cF [] s.objs.length s.clk ix) xs)=X.trs (fun _=>none) (cF [] s.objs.length s.clk ix) xs)
    (fun _=>rfl) rfl (fun t e z cs n=>by simp only[X.tr];split <;> rfl) (fun _ _=>rfl) (fun _=>rfl)
    (fun f xs ih=>by simp only[X.tr,ih]) (fun xs ih=>by simp only[X.tr,ih]) (fun xs ih=>by simp only[X.tr,ih]) (fun o ty z=>by cases o with
     | none=>rfl
     | some t=>simp only[X.tr,Option.bind_some];cases cF [] s.objs.length s.clk ix t <;> rfl) rfl (fun x xs h1 h2=>by simp only[X.trs,h1,h2])
  have keys:∀ xs:List X,X.trs (fun _=>none) some (X.trs (fun i=>some (dq [] s.objs.length i)) (cF [] s.objs.length s.clk ix) xs)=X.trs (fun _=>none) (cF [] s.objs.length s.clk ix) xs:=fun xs=>by
   induction xs with
   | nil=>rfl
   | cons x xs ih=>simp only[X.trs,key,ih]
  rw[keys] at h5
  have hren2:Ren (fun _=>none) (fun t=>match t with | .nm ..=>some t | .cell ..=>none) kn kn own own:=⟨fun _ _ _ h=>h,fun r b r' _ he=>(by cases he),fun t p t' ht he=>by
   cases t with
   | nm c ix' i=>cases he;exact ht
   | cell r off=>cases he⟩
  have h6:=aP.tr hren2 _ _ h5
  have key2:∀ x:X,(x.tr (fun _=>none) (cF [] s.objs.length s.clk ix)).tr (fun _=>none) (fun t=>match t with | .nm ..=>some t | .cell ..=>none)=x.tr (fun _=>none) (iJ s.clk ix) :=
   X.rec (motive_1:=fun x=>(x.tr (fun _=>none) (cF [] s.objs.length s.clk ix)).tr (fun _=>none) (fun t=>match t with | .nm ..=>some t | .cell ..=>none)=x.tr (fun _=>none) (iJ s.clk ix))
    (motive_2:=fun xs=>X.trs (fun _=>none) (fun t=>match t with | .nm ..=>some t | .cell ..=>none) (X.trs (fun _=>none) (cF [] s.objs.length s.clk ix) xs)=X.trs (fun _=>none) (iJ s.clk ix) xs)
    (fun _=>rfl) rfl
    (fun t e z cs n=>by
     cases t with
     | nm c ix' i =>
      match c,ix' with
      | 0,0=>rfl
      | 0,_+1=>rfl
      | _+1,_=>rfl
     | cell r off=>rfl) (fun _ _=>rfl) (fun _=>rfl)
    (fun f xs ih=>by simp only[X.tr,ih]) (fun xs ih=>by simp only[X.tr,ih]) (fun xs ih=>by simp only[X.tr,ih]) (fun o ty z=>by
     cases o with
     | none=>rfl
     | some t =>
      cases t with
      | nm c ix' i =>
       match c,ix' with
       | 0,0=>rfl
       | 0,_+1=>rfl
       | _+1,_=>rfl
      | cell r off=>rfl) rfl (fun x xs h1 h2=>by simp only[X.trs,h1,h2])
  have keys2:∀ xs:List X,X.trs (fun _=>none) (fun t=>match t with | .nm ..=>some t | .cell ..=>none) (X.trs (fun _=>none) (cF [] s.objs.length s.clk ix) xs)=X.trs (fun _=>none) (iJ s.clk ix) xs:=fun xs=>by
   induction xs with
   | nil=>rfl
   | cons x xs ih=>simp only[X.trs,key2,ih]
  rw[keys2] at h6
  exact h6
theorem jP {o:Oper} {a:Act} {K:Act→World→Prop} {Q:Exit→Act→World→Prop} {u:Value} {w':World} (hr:(execOp a.eval o).run P w=.ok (.value u) w') (hK:K (a.put o.dst u) w'):o.wp P a w K Q:=by
 unfold Oper.wp
 rw[hr]
 exact hK
theorem iz {x y:X} {e:Option Tk} (h:out x=some (y,e)):x=y∧e=none:=by
 simp only[out,Option.some.injEq,Prod.mk.injEq] at h
 exact⟨h.1,h.2.symm⟩
theorem acC {x:Option X} {y:X} {e:Option Tk} (h:bB x=some (y,e)):x=some y∧e=none:=by
 simp only[bB,Option.map_eq_some_iff,Prod.mk.injEq] at h
 obtain⟨a,h1,rfl,h2⟩:=h
 exact⟨h1,h2.symm⟩
theorem Sim.known (h:Sim M0 k ow done w0 w N s tmps) {w':World} (hb:Below w.heap.size w w') {us:List Value} (hc:∀ o u,us[o]?=some u→w'.cell? ⟨w.heap.size,o,none⟩=some u∧u.oneCell'=true) :
  ∃ k',k.le k'∧Sim M0 k' ow done w0 w' N s tmps∧∀ o u,us[o]?=some u→k'.m w.heap.size o=some u:=by
 have hg:=h.grow hb
 let k':Know:={m:=fun b o=>if b=w.heap.size then us[o]? else k.m b o,μ:=k.μ}
 have hle:k.le k':=⟨fun b o v hm=>by
  have:=ahM h.mem hm
  show (if b=w.heap.size then us[o]? else k.m b o)=some v
  rw[if_neg (by omega)];exact hm,fun _ _ h=>h⟩
 have hne:∀ b o,b<w.heap.size→k'.m b o=k.m b o:=fun b o hb=>by
  show (if b=w.heap.size then us[o]? else k.m b o)=k.m b o
  rw[if_neg (by omega)]
 refine⟨k',hle,{hg with
  fr:=fun j=>aF.mono hle (fun _ _ h=>h) _ _ (hg.fr j)
  mem:=fun b o v hm=>by
   by_cases hbe:b=w.heap.size
   .subst hbe
    simp only[k',if_true] at hm
    exact hc o v hm
   .simp only[k',hbe,if_false] at hm
    exact hg.mem b o v hm
  obj:=fun r ob hr=>by
   obtain⟨b,g1,g2,g3,g4,g5⟩:=hg.obj r ob hr
   have hlt:=(h.lt g1).2.1
   exact⟨b,g1,g2,g3,fun o=>by rw[hne b o hlt];exact g4 o,g5.mono hle (fun _ _ h=>h)⟩
  tok:=fun t v e z n ht=>by
   obtain⟨g1,g2⟩:=hg.tok t v e z n ht
   exact⟨g1,fun g hgo=>⟨(g2 g hgo).1,fun o ho=>by rw[hne g o (h.tlt ht hgo).2];exact (g2 g hgo).2.1 o ho,(g2 g hgo).2.2⟩⟩
  m0:=fun b o v hm hb0 hmd=>by
   rw[hne b o (Nat.lt_of_lt_of_le hb0 h.below.size)] at hm
   exact hg.m0 b o v hm hb0 hmd},fun o u hu=>by simp only[k',if_true];exact hu⟩
theorem aBf (hs:Sim M0 k ow done w0 w N s tmps) {E:En} (horc:∀ f xs obs an,E.orc f xs obs=some an→jl P M0.G f xs obs an) {ix:Nat} (hd:¬ done ix) {o:Oper} (hns:bZ o.op=false) {x:X} {e:Option Tk}
  (h:val P (TT.of P) E s ix o=some (x,e)) {K:Act→World→Prop} {Q:Exit→Act→World→Prop}
  (hK:∀ u w' k' ow',k.le k'→Sim M0 k' ow' (fun j=>done j∨j=ix) w0 w' N (s.drop e) tmps→aF k' ow' x u→K ((⟨tmps,[]⟩ : Act).put o.dst u) w'):o.wp P ⟨tmps,[]⟩ w K Q:=by
 have hs1:=hs.more (done':=fun j=>done j∨j=ix) (fun _ h=>.inl h)
 have hnew:ow (.nm s.clk ix 0)=none:=hs.new hd
 have dt:∀ u,e=none→(execOp (⟨tmps,[]⟩ : Act).eval o).run P w=.ok (.value u) w→aF k ow x u→o.wp P ⟨tmps,[]⟩ w K Q:=by
  rintro u rfl hr hx
  exact jP hr (hK u w k ow (Know.le_refl k) hs1 hx)
 have ev:=fun x=>hs.ev x
 unfold val at h
 split at h
 .-- move
  rename_i y ho
  obtain⟨rfl,rfl⟩:=iz h
  exact dt _ rfl (by simp[execOp,ho]) (ev y)
 .rename_i y ho
  obtain⟨rfl,rfl⟩:=iz h
  exact dt _ rfl (by simp[execOp,ho]) (ev y)
 .-- pick
  rename_i c a b ho
  split at h
  .rename_i b' hb
   have hc:=akb hb (ev c)
   obtain⟨rfl,rfl⟩:=iz h
   cases b' with
   | true=>exact dt ((⟨tmps,[]⟩ : Act).eval a) rfl (by simp[execOp,ho,hc,asBool]) (by simpa using ev a)
   | false=>exact dt ((⟨tmps,[]⟩ : Act).eval b) rfl (by simp[execOp,ho,hc,asBool]) (by simpa using ev b)
  .cases h
 .-- binOp
  rename_i op t y z yt ho
  unfold dX at h
  split at h
  .rename_i u v hu hv
   have h':=acC h;clear h;obtain⟨h,rfl⟩:=h'
   simp only[Option.map_eq_some_iff] at h
   obtain⟨r,hr,rfl⟩:=h
   have h1:=abU hu (ev y)
   have h2:=abU hv (ev z)
   obtain⟨g1,g2⟩:=ash (w:=w) y z hr
   refine dt r rfl ?_ (by simp[aF,Rep,g2])
   simp only[execOp,ho,h1,h2,Sem.run_bind,g1,Result.andThen_ok,Sem.run_pure]
  .cases hu:(s.ev y).rd with
   | none=>rw[hu] at h;cases h
   | some cu =>
    cases hv:(s.ev z).rd with
    | none=>rw[hu,hv] at h;unfold adb at h;split at h <;> simp_all
    | some cv =>
     obtain⟨b,rfl,rfl,g1⟩:=asi (w:=w) y z h hu hv (aaW _ _ _ hu (ev y)) (aaW _ _ _ hv (ev z))
     refine dt (.bool b) rfl ?_ (by simp[aF,Rep,Value.oneCell'])
     simp only[execOp,ho,g1,Sem.run_bind,Result.andThen_ok,Sem.run_pure]
 .-- unOp
  rename_i op t y ho
  split at h
  .rename_i u hu
   have h':=acC h;clear h;obtain⟨h,rfl⟩:=h'
   simp only[Option.map_eq_some_iff] at h
   obtain⟨r,hr,rfl⟩:=h
   have h1:=ev y
   rw[hu] at h1
   simp only[aF,Rep] at h1
   obtain⟨g1,g2⟩:=asM (P:=P) (w:=w) hr
   exact dt r rfl (by simp[execOp,ho,h1.1,g1]) (by simp[aF,Rep,g2])
  .cases h
 .-- load
  rename_i t a ho
  obtain⟨rfl,u,hr,hx⟩:=alu hs.toHp h (ev a)
  exact dt u rfl (by simp[execOp,ho,hr]) hx
 .rename_i t y f ho
  obtain⟨rfl,u,hr,hx⟩:=alK (w:=w) h (ev y)
  exact dt u rfl (by simp[execOp,ho,hr]) hx
 .rename_i t y f ho
  obtain⟨rfl,u,hr,hx⟩:=atF (w:=w) h (ev y)
  exact dt u rfl (by simp[execOp,ho,hr]) hx
 .rename_i t y i ho
  obtain⟨rfl,u,hr,hx⟩:=alB (w:=w) h (ev y) (ev i)
  exact dt u rfl (by simp[execOp,ho,hr]) hx
 .rename_i t y i ho
  obtain⟨rfl,u,hr,hx⟩:=atx (w:=w) h (ev y) (ev i)
  exact dt u rfl (by simp[execOp,ho,hr]) hx
 .-- slice
  rename_i t y lo hi ho
  have hlo:∀ z:Option Operand,aAF k ow (z.map s.ev) (z.map fun x=>(⟨tmps,[]⟩ : Act).eval x):=fun z=>by
   cases z with
   | none=>trivial
   | some z=>exact ev z
  obtain⟨rfl,u,hr,hx⟩:=asX (w:=w) h (ev y) (hlo lo) (hlo hi)
  exact dt u rfl (by simp only[execOp,ho,Sem.run_bind,Option.map_none,hr,Result.andThen_ok,Sem.run_pure]) hx
 .-- build
  rename_i t ps ho
  split at h
  .rename_i d qs hT hq
   have hp:=agq (k:=k) (ow:=ow) ev ps.toList qs hq
   have hpe:ps.toList.map (fun p=>(p.1,(⟨tmps,[]⟩ : Act).eval p.2))=(ps.map fun (i,x)=>(i,(⟨tmps,[]⟩ : Act).eval x)).toList:=by simp
   rw[hpe] at hp
   split at h
   .rename_i fs hu
    have h':=acC h;clear h;obtain⟨h,rfl⟩:=h'
    simp only[Option.map_eq_some_iff] at h
    obtain⟨xs,hx,rfl⟩:=h
    obtain⟨u,hr,hx⟩:=atQ (w:=w) hT hu hp hx
    exact dt u rfl (by simp[execOp,ho,hr]) hx
   .rename_i n el hu
    split at h
    .rename_i de hE
     have h':=acC h;clear h;obtain⟨h,rfl⟩:=h'
     simp only[Option.map_eq_some_iff] at h
     obtain⟨xs,hx,rfl⟩:=h
     obtain⟨u,hr,hx⟩:=aju (w:=w) hT hu hE hp hx
     exact dt u rfl (by simp[execOp,ho,hr]) hx
    .cases h
   .cases h
  .cases h
 .-- buildSlice
  rename_i t n ps ho
  split at h
  .rename_i el d qs he hq
   have hp:=agq (k:=k) (ow:=ow) ev ps.toList qs hq
   have hpe:ps.toList.map (fun p=>(p.1,(⟨tmps,[]⟩ : Act).eval p.2))=(ps.map fun (i,x)=>(i,(⟨tmps,[]⟩ : Act).eval x)).toList:=by simp
   rw[hpe] at hp
   split at h
   .rename_i hc
    split at h
    .rename_i xs hx
     split at h
     .rename_i cs hcs
      obtain⟨rfl,rfl⟩:=iz h
      obtain⟨u,w',k',ow',hr,g1,g2,g3⟩:=ako hs1 he hc.1 hc.2.1 hp hx hcs hnew (.inr ⟨rfl,.inr rfl⟩)
      exact jP (by simp[execOp,ho,hr]) (hK u w' k' ow' g1 g2 g3)
     .cases h
    .cases h
   .cases h
  .cases h
 .-- extract
  rename_i y i ho
  have h1:=ev y
  split at h
  .rename_i xs hy
   have h':=acC h;clear h;obtain⟨h,rfl⟩:=h'
   rw[hy] at h1
   simp only[aF] at h1
   obtain⟨vs,hv,hl⟩:=h1
   obtain⟨u,hu,hx⟩:=hl.get i x h
   exact dt u rfl (by simp[execOp,ho,hv,Instr.extract,hu]) hx
  .rename_i cs hy
   have h':=acC h;clear h;obtain⟨h,rfl⟩:=h'
   simp only[Option.map_eq_some_iff] at h
   obtain⟨c,hc,rfl⟩:=h
   rw[hy] at h1
   simp only[aF,Rep] at h1
   obtain⟨vs,hv,hl⟩:=h1
   obtain⟨u,hu,hx⟩:=hl.get i c hc
   exact dt u rfl (by simp[execOp,ho,hv,Instr.extract,hu]) (by simpa only [aF] using hx)
  .cases h
 .-- nilCheck
  rename_i y ho
  have h1:=ev y
  split at h
  .rename_i r off hy
   obtain⟨rfl,rfl⟩:=iz h
   rw[hy] at h1
   have h2:=h1
   simp only[aF] at h1
   obtain⟨b,hb,hv⟩:=h1
   exact dt ((⟨tmps,[]⟩ : Act).eval y) rfl (by rw[hv];simp[execOp,ho,hv]) h2
  .rename_i cs hy
   obtain⟨rfl,rfl⟩:=iz h
   rw[hy] at h1
   have h2:=h1
   simp only[aF,Rep] at h1
   obtain⟨b,o',vs,hv,_⟩:=h1
   exact dt ((⟨tmps,[]⟩ : Act).eval y) rfl (by rw[hv];simp[execOp,ho,hv]) h2
  .cases h
 .-- makeFunc
  rename_i f first caps ho
  split at h
  .rename_i h0
   have h0':first=#[]:=Array.eq_empty_of_size_eq_zero h0
   subst h0'
   split at h
   .rename_i cs hcs
    obtain⟨rfl,rfl⟩:=iz h
    have hl:=ahu hs _ _ hcs
    refine dt (.func (.func f) #[] (caps.map fun x=>(⟨tmps,[]⟩ : Act).eval x)) rfl ?_ ?_
    .simp[execOp,ho,Instr.makeFunc]
    .simp only[aF,Rep]
     exact⟨(caps.map fun x=>(⟨tmps,[]⟩ : Act).eval x).toList,by rw[Array.toArray_toList],by rw[Array.toList_map];exact hl⟩
   .cases h
  .cases h
 .rename_i a b y ho
  unfold adJ at h
  split at h
  rotate_left
  .obtain⟨rfl,u,hr,hx⟩:=aoV (w:=w) (fun b o v hm=>(hs.mem b o v hm).1) h (ev y)
   exact dt u rfl (by simp[execOp,ho,hr]) hx
  rename_i el st hb hy
  unfold apM at h
  split at h
  rotate_left
  .cases h
  rename_i hc
  obtain⟨rfl,rfl⟩:=iz h
  rw[Bool.and_eq_true] at hc
  have h1:P.underlying a=some .string:=by
   cases hT:TT.of P a with
   | none=>rw[hT] at hc;cases hc.1
   | some dd=>rw[hT] at hc;rw[(TT.of_ok hT).und,← aqi (u:=some dd.und) hc.1]
  have h2:P.underlying b=some (.slice el):=by
   cases hT:TT.of P b with
   | none=>simp[hT] at hb
   | some dd=>simp only[hT,Option.map_some,Option.some.injEq] at hb;rw[← hb];exact (TT.of_ok hT).und
  have h3:P.underlying el=some (.int .u8):=by
   obtain⟨dd,hT,hu,_⟩:=u8D hc.2
   rw[← hu]
   exact (TT.of_ok hT).und
  have hyv:=ev y
  rw[hy] at hyv
  simp only[aF,Rep] at hyv
  have hrun:=Go.Lib.run_convert_string_bytes (P:=P) w a b el st h1 h2 h3
  have hbel:Below w.heap.size w (Go.Lib.bytesWorld w el st):=⟨rfl,rfl,rfl,by rw[Go.Lib.bytesWorld_size];omega,fun j hj=>Go.Lib.bytesWorld_at_old w el st j hj⟩
  have hcells:∀ o u,(Lib.strCells st)[o]?=some u→(Go.Lib.bytesWorld w el st).cell? ⟨w.heap.size,o,none⟩=some u∧u.oneCell'=true:=fun o u hu=>by
   have hl:o<st.size:=by
    rcases Nat.lt_or_ge o st.size with g|g
    .exact g
    .rw[List.getElem?_eq_none (by simpa [Lib.strCells] using g)] at hu;cases hu
   have he:u=.int .u8 (st.data.toList.getD o 0).toNat:=by
    have hl2:o<st.data.toList.length:=by simpa using hl
    simp only[Lib.strCells,List.getElem?_map,List.getElem?_eq_getElem hl2,Option.map_some,Option.some.injEq] at hu
    rw[← hu,List.getD_eq_getElem?_getD,List.getElem?_eq_getElem hl2]
    rfl
   rw[he]
   exact⟨Go.Lib.bytesWorld_cell w el st o hl,rfl⟩
  obtain⟨k',g1,g2,g3⟩:=hs1.known hbel hcells
  refine jP (u:=.slice (some ⟨w.heap.size,0,none⟩) st.size (grownCap w st.size 0 el)) (w':=Go.Lib.bytesWorld w el st) (by simp[execOp,ho,hyv.1,hrun]) (hK _ _ k' ow g1 g2 ?_)
  simp only[aF,Rep]
  refine⟨_,_,Lib.strCells st,rfl,?_,al6 st,fun _=>⟨w.heap.size,0,rfl,fun i u hu=>by rw[Nat.zero_add];exact g3 i u hu⟩⟩
  simp[grownCap,Question.cut]
 .rename_i t y i ok ho
  obtain⟨rfl,u,hr,hx⟩:=ari hs h (ev y) (ev i)
  exact dt u rfl (by simp[execOp,ho,hr]) hx
 .rename_i t y ho
  split at h
  .rename_i c hD hc
   obtain⟨rfl,rfl⟩:=iz h
   have hrep:=aaW _ _ _ hc (ev y)
   refine dt (.iface t ((⟨tmps,[]⟩ : Act).eval y)) rfl ?_ (by simp only[aF,Rep];exact⟨_,rfl,hrep⟩)
   cases hT:TT.of P t with
   | none=>simp[hT,aGD] at hD
   | some d =>
    have hund:=(TT.of_ok hT).run_und w
    rw[hT] at hD
    simp only[Option.map_some] at hD
    have hmk:(Instr.makeInterface t ((⟨tmps,[]⟩ : Act).eval y)).run P w=.ok (.iface t ((⟨tmps,[]⟩ : Act).eval y)) w:=by
     simp only[Instr.makeInterface,Sem.run_bind,hund,Result.andThen_ok]
     split
     .rename_i ms e
      rw[e] at hD
      simp[aGD] at hD
     .rfl
    simp[execOp,ho,hmk]
  .cases h
 .rename_i cal args tys ho
  unfold abN at h
  split at h
  .-- len
   rename_i y t hargs htys
   obtain⟨rfl,u,hr,hx⟩:=aCM (w:=w) (ty:=o.type) h (ev y)
   have ha:args=#[y]:=by rw[← Array.toArray_toList (xs:=args),hargs]
   have ht:tys=#[t]:=by rw[← Array.toArray_toList (xs:=tys),htys]
   subst ha;subst ht
   exact dt u rfl (by simp[execOp,ho,resolve,invoke,builtin,hr]) hx
  .-- append
   rename_i a b st xt hargs htys
   obtain⟨u,w',k',ow',hr,g1,g2,g3⟩:=asj (ty:=o.type) hs1 h (ev a) (ev b) hnew (.inr ⟨rfl,.inr rfl⟩)
   have ha:args=#[a,b]:=by rw[← Array.toArray_toList (xs:=args),hargs]
   have ht:tys=#[st,xt]:=by rw[← Array.toArray_toList (xs:=tys),htys]
   subst ha;subst ht
   exact jP (by simp[execOp,ho,resolve,invoke,builtin,hr]) (hK u w' k' ow' g1 g2 g3)
  .-- min
   rename_i a b hargs
   unfold arf at h
   split at h
   .rename_i m n hm hn
    obtain⟨rfl,rfl⟩:=iz h
    have ha:args=#[a,b]:=by rw[← Array.toArray_toList (xs:=args),hargs]
    subst ha
    have e1:=acF hm (ev a)
    have e2:=acF hn (ev b)
    exact dt (.int .i64 (if n<m then n else m)) rfl (by simp[execOp,ho,resolve,invoke,builtin,e1,e2,Builtin.min_,Builtin.min2]) ⟨rfl,rfl⟩
   .cases h
  .-- max
   rename_i a b hargs
   unfold aj8 at h
   split at h
   .rename_i m n hm hn
    obtain⟨rfl,rfl⟩:=iz h
    have ha:args=#[a,b]:=by rw[← Array.toArray_toList (xs:=args),hargs]
    subst ha
    have e1:=acF hm (ev a)
    have e2:=acF hn (ev b)
    exact dt (.int .i64 (if m<n then n else m)) rfl (by simp[execOp,ho,resolve,invoke,builtin,e1,e2,Builtin.max_,Builtin.max2]) ⟨rfl,rfl⟩
   .cases h
  .-- a call
   rename_i f
   split at h
   .rename_i g caps cs hf hcs
    unfold aaF at h
    split at h
    .rename_i hc
     simp only[Bool.and_eq_true] at hc
     replace hc:=hc.1
     split at h
     .rename_i r hr
      obtain⟨rfl,rfl⟩:=iz h
      have hl:=ahu hs _ _ hcs
      have hfv:=ev f
      rw[hf] at hfv
      simp only[aF,Rep] at hfv
      obtain⟨cvs,hfv,hcl⟩:=hfv
      have hcall:=aAb (w:=w) hs (horc g _ _ _ hr) hc (hl.append hcl) hd
      have hrun:(execOp (⟨tmps,[]⟩ : Act).eval o).run P w=.ok (.enter g ((args.toList.map fun x=>(⟨tmps,[]⟩ : Act).eval x)++cvs).toArray) w:=by
       unfold ab at hc
       split at hc
       .rename_i fn hfn
        simp only[Bool.and_eq_true,Bool.not_eq_true',Option.isSome_iff_exists] at hc
        obtain⟨⟨b,hb⟩,hn⟩:=hc
        have hn':¬ fn.name= "runtime.NumGoroutine":=by simpa using hn
        have hargs:((args.toList.map fun x=>(⟨tmps,[]⟩ : Act).eval x)++cvs).toArray=Array.map (fun x=>(⟨tmps,[]⟩ : Act).eval x) args++cvs.toArray:=by
         apply Array.ext'
         simp
        rw[hargs]
        simp[execOp,ho,resolve,hfv,Deferred.ofValue,invoke,callFunc,hfn,hn',hb]
       .cases hc
      unfold Oper.wp
      rw[hrun]
      simp only[Oper.upon]
      refine hcall.mono fun e w' ⟨v,k',ow',he,g1,g2,g3⟩=>?_
      subst he
      exact hK v w' k' ow' g1 g2 g3
     .cases h
    .cases h
   .cases h
  .cases h
 .-- alloc
  rename_i t ho
  split at h
  .rename_i d hT
   split at h
   .rename_i hz
    obtain⟨rfl,rfl⟩:=iz h
    have ok:=TT.of_ok hT
    obtain⟨z,hzr,hz2⟩:=ok.run_zero w
    have hown:(w.alloc (.cells d.zero.toArray t)).ownsRow 0 t d.size (.slice (some ⟨w.heap.size,0,none⟩) 0 1) 0 []:=World.ownsRow_made w _ 1 (Nat.zero_le _) (by simp[maxLen]) (by simp[ok.len])
    obtain⟨k',g1,g2,g3⟩:=hs1.row (row:=none) (cs:=[]) (c:=s.clk) (ix:=ix) (i:=0) (fun g hg=>by cases hg) (World.grownBy_alloc w _ none) hown (.inr ⟨rfl,rfl⟩) (by simp[bn]) (by simp) hnew (.inr ⟨rfl,.inr rfl⟩)
    refine jP (u:=.pointer (some ⟨w.heap.size,0,none⟩)) (w':=w.alloc (.cells d.zero.toArray t)) ?_ (hK _ _ k' _ g1 g2 ?_)
    .simp[execOp,ho,Instr.alloc,hzr,newVar,newRow,← hz2]
    .simp only[aF];exact⟨_,rfl,by simp[Own.add]⟩
   .cases h
  .cases h
 .rename_i ho
  rw[ho] at hns
  cases hns
 .cases h
theorem Sim.refr (h:Sim M0 k ow done w0 w N s tmps) {d:Nat} {x:X} (hx:aF k ow x (tmps.getD d undef)):Sim M0 k ow done w0 w N (s.put (some d) x) tmps:={h with
 fr:=fun j=>by
  simp only[S.put,upd]
  split
  .rename_i e;subst e;exact hx
  .exact h.fr j}
theorem amY (w:World) (b:Nat) (c:Array Value):w.grownBy (w.setRow b c) (some b):=⟨rfl,rfl,rfl,by simp[World.setRow],fun j _ hj=>setRow_other w b j c (fun e=>hj (by rw[e]))⟩
theorem aq9 (hs:Sim M0 k ow done w0 w N s tmps) {ix:Nat} (hd:¬ done ix) {o:Oper} {t d z:Nat} {x:Operand} {td:TD} {tk:Tk} {xs:List X} (ho:o.op=.store t (.tmp d) x) (hT:TT.of P t=some td) (hz:z=td.size)
  (hf:s.fr d=.nw (some tk) t z) (hx:bQ (s.ev x)=some xs) (hl:xs.length=z) :
  ∃ b,tmps.getD d undef=.pointer (some ⟨b,0,none⟩)∧ow tk=some (.slice (some ⟨b,0,none⟩) 0 1,t,z,0)∧aP k ow xs ((⟨tmps,[]⟩ : Act).eval x).cells.toList∧(∀ u∈((⟨tmps,[]⟩ : Act).eval x).cells.toList,u.oneCell'=true) ∧
   (∃ cur,w.heap[b]?=some (.cells cur t (0,0))∧cur.size=z) ∧
   (execOp (⟨tmps,[]⟩ : Act).eval o).run P w=.ok .skip (w.setRow b ((⟨tmps,[]⟩ : Act).eval x).cells.toList.toArray):=by
 have hp:=hs.fr d
 rw[hf] at hp
 simp only[aF] at hp
 obtain⟨b,hv,hk⟩:=hp
 obtain⟨⟨ys,hown⟩,_⟩:=hs.tok _ _ _ _ _ hk
 obtain⟨hr,h1⟩:=ab5 hx (hs.ev x)
 rcases hown.2 with ⟨h0,_⟩|⟨g,cap,cur,h0,_,hh,_,_,hc,_⟩
 .cases h0
 simp only[Value.slice.injEq,Option.some.injEq,Addr.mk.injEq] at h0
 obtain⟨⟨rfl,_,_⟩,_,rfl⟩:=h0
 have ok:=TT.of_ok hT
 have hlen:=hr.length
 have hcz:cur.size=z:=by omega
 have hfit:0+0+((⟨tmps,[]⟩ : Act).eval x).cells.toList.length≤cur.size:=by omega
 have hrun:=run_storeCells_at P b 0 t ((⟨tmps,[]⟩ : Act).eval x).cells.toList 0 cur w hh hfit h1
 have hsz:((⟨tmps,[]⟩ : Act).eval x).cells.size=td.size:=by
  have:((⟨tmps,[]⟩ : Act).eval x).cells.toList.length=td.size:=by omega
  simpa using this
 have he:cur.toList.take (0+0)++((⟨tmps,[]⟩ : Act).eval x).cells.toList++cur.toList.drop (0+0+((⟨tmps,[]⟩ : Act).eval x).cells.toList.length)=((⟨tmps,[]⟩ : Act).eval x).cells.toList:=by
  rw[List.drop_of_length_le (by rw[Array.length_toList];omega)]
  simp
 have hav:(⟨tmps,[]⟩ : Act).eval (.tmp d)=.pointer (some ⟨b,0,none⟩):=by
  rw[← hv]
  rfl
 refine⟨b,hv,hk,hr,h1,⟨cur,hh,hcz⟩,?_⟩
 rw[he] at hrun
 simp[execOp,ho,Instr.storeAt,hav,Instr.sureAddr,storeVar,ok.run_size,hsz,hrun]
theorem aQI (hs:Sim M0 k ow done w0 w N s tmps) {ix:Nat} (hd:¬ done ix) {o:Oper} {t d z:Nat} {x:Operand} {td:TD} {tk:Tk} {cs:List C} (ho:o.op=.store t (.tmp d) x) (hT:TT.of P t=some td) (hz:z=td.size)
  (hf:s.fr d=.nw (some tk) t z) (hx:cX (s.ev x)=some cs) (hl:cs.length=z) :
  ∃ w' k' ow',(execOp (⟨tmps,[]⟩ : Act).eval o).run P w=.ok .skip w'∧k.le k'∧Sim M0 k' ow' (fun j=>done j∨j=ix) w0 w' N ((s.drop (some tk)).put (some d) (.of (.ref cs))) tmps:=by
 unfold cX at hx
 simp only[Option.bind_eq_some_iff] at hx
 obtain⟨xs,hx,hrd⟩:=hx
 have hxl:xs.length=cs.length:=by
  clear hx hl
  induction xs generalizing cs with
  | nil=>simp only[X.rds,Option.some.injEq] at hrd;subst hrd;rfl
  | cons a r ih =>
   simp only[X.rds] at hrd
   split at hrd
   .rename_i c cs' _ h2
    simp only[Option.some.injEq] at hrd
    subst hrd
    simp[ih h2]
   .cases hrd
 obtain⟨b,hv,hk,hr,h1,⟨cur,hh,hcz⟩,hrun⟩:=aq9 hs hd ho hT hz hf hx (by omega)
 have hcl:=agl _ _ _ hrd hr
 have hs1:=hs.more (done':=fun j=>done j∨j=ix) (fun _ h=>.inl h)
 have htok:=(hs.tok _ _ _ _ _ hk).2
 have hsd:=hs1.del tk
 have hnew:(ow.del tk) (.nm s.clk ix 0)=none:=by simp only[Own.del];split;rfl;exact hs.new hd
 have hlen:=hr.length
 have hown:(w.setRow b ((⟨tmps,[]⟩ : Act).eval x).cells.toList.toArray).ownsRow 0 t z (.slice (some ⟨b,0,none⟩) 1 1) 1 ((⟨tmps,[]⟩ : Act).eval x).cells.toList :=
  ⟨by omega,.inr ⟨b,1,_,rfl,Nat.zero_le _,setRow_heap w b cur _ t (0,0) hh,Nat.le_refl _,by simp[maxLen],by simp only[List.size_toArray];omega,by rw[List.toList_toArray];exact List.take_of_length_le (by omega)⟩⟩
 obtain⟨k',g1,g2,g3⟩:=hsd.row (row:=some b) (cs:=cs) (c:=s.clk) (ix:=ix) (i:=0) (fun g hg=>by
   obtain rfl:=Option.some.inj hg
   obtain⟨q1,q2,q3⟩:=htok b rfl
   refine⟨q1,q3,fun t' v' e' z' n' h'=>?_,fun o' u hm=>by rw[q2 o' (by omega)] at hm;cases hm⟩
   simp only[Own.del] at h'
   split at h'
   .cases h'
   .rename_i hne
    exact hs.tokne tk t' _ _ _ _ _ _ _ _ hk h' (Ne.symm hne) b rfl) (amY w b _) hown (.inl rfl) hcl h1 hnew (.inr ⟨rfl,.inr rfl⟩)
 refine⟨_,k',_,hrun,g1,g2.refr ?_⟩
 rw[hv]
 simp only[aF,Rep] at g3
 obtain⟨_,_,a,cap,vs,h5,_,h6,h7⟩:=g3
 simp only[Value.slice.injEq] at h5
 obtain⟨rfl,_,rfl⟩:=h5
 simp only[aF,Rep]
 by_cases hne:vs=[]
 .subst hne
  exact⟨b,0,[],rfl,h6,fun i u hu=>by simp at hu⟩
 .obtain⟨b',o',h8,h9⟩:=h7 hne
  simp only[Option.some.injEq,Addr.mk.injEq] at h8
  obtain⟨rfl,rfl,_⟩:=h8
  exact⟨_,_,vs,rfl,h6,h9⟩
end
end Go.Pe
