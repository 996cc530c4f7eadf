/- A part. Conditions: none. -/
import Derived.Test.YtghkmcffifpkeaaGreatPa1
set_option linter.all false
set_option maxRecDepth 100000
set_option maxHeartbeats 64000000
namespace Go.Pe
open RowKit
structure TD.Ok (P:Program) (t:Nat) (d:TD):Prop where
 und:P.underlying t=some d.und
 info:∃ i,P.info? t=some i/\i.size=d.size/\i.bytes=d.bytes/\∃ z,i.zero=some z/\z.cells.toList=d.zero/\anr z=ans d.und
 agg:d.agg=ans d.und
 one:∀ u∈d.zero,u.oneCell'=true
 len:d.zero.length=d.size
 fields:fieldsOf P d.und=some d.fields
theorem TT.of_ok{P:Program}{t:Nat}{d:TD}(h:TT.of P t=some d):TD.Ok P t d:=by
 unfold TT.of at h
 split at h
 .rename_i u i hu hi
  split at h
  .rename_i z fl hz hfl
   split at h
   .rename_i hc
    simp only[ae] at h
    subst h
    simp only[ar,bo,dL] at hc
    exact⟨hu,⟨i,hi,rfl,rfl,z,hz,rfl,hc.2⟩,rfl,hc.1.1,by simpa using hc.1.2,hfl⟩
   .cases h
  .cases h
 .cases h
theorem TD.Ok.run_und{P:Program}{t:Nat}{d:TD}(h:TD.Ok P t d)(w:World):(underlying t).run P w=.ok d.und w:=run_underlying h.und w
theorem TD.Ok.run_size{P:Program}{t:Nat}{d:TD}(h:TD.Ok P t d)(w:World):(sizeOf t).run P w=.ok d.size w:=by
 obtain⟨i,hi,hs,_⟩:=h.info
 simp[sizeOf,typeInfo,hi,hs]
theorem TD.Ok.run_isAgg{P:Program}{t:Nat}{d:TD}(h:TD.Ok P t d)(w:World):(isAgg t).run P w=.ok d.agg w:=by
 unfold isAgg
 rw[Sem.run_bind,h.run_und,Result.andThen_ok,h.agg]
 unfold ans
 split <;> simp_all
theorem TD.Ok.run_zero{P:Program}{t:Nat}{d:TD}(h:TD.Ok P t d)(w:World):∃ z,(zeroValue t).run P w=.ok z w/\z.cells.toList=d.zero:=by
 obtain⟨i,hi,hs,_,z,hz,hz',_⟩:=h.info
 exact⟨z,by simp[zeroValue,typeInfo,hi,hz],hz'⟩
theorem TD.Ok.run_zero2{P:Program}{t:Nat}{d:TD}(h:TD.Ok P t d)(w:World):∃ z,(zeroValue t).run P w=.ok z w/\z.cells.toList=d.zero/\anr z=d.agg:=by
 obtain⟨i,hi,hs,_,z,hz,hz',hz2⟩:=h.info
 exact⟨z,by simp[zeroValue,typeInfo,hi,hz],hz',by rw[h.agg,hz2]⟩
theorem TD.Ok.cells{P:Program}{t:Nat}{d:TD}(h:TD.Ok P t d):P.cellsOf t=d.size:=by
 obtain⟨i,hi,hs,_⟩:=h.info
 simp[Program.cellsOf,hi,hs]
section
variable {P:Program} {M0:Base} {k:Know} {ow:Own} {done:Nat->Prop} {w0 w:World} {N:Nat} {s:S} {tmps:Array Value}
theorem amJ(a b:Int):(a == b)=decide (a=b):=by
 by_cases h:a=b <;> simp[h]
theorem aEm(a b:ByteArray):(a.toList == b.toList)=decide (a=b):=by
 rw[ByteArray.toList_eq,ByteArray.toList_eq]
 by_cases h:a=b
 .subst h;simp
 .have:¬ a.data=b.data:=λe=>h (by cases a;cases b;simp_all)
  simp[h,this]
theorem aps(n:Nat){t:TypeId}(a b:Bool)(h:(underlying t).run P w=.ok .bool w):(Op.equalIn (n+1) t (.bool a) (.bool b)).run P w=.ok (a == b) w:=by
 simp[Op.equalIn,h]
theorem axT{op:BinOp}{t:TypeId}{u v r:Value}(x y:Operand)(h:acg ((TT.of P t).map (·.und)) op u v=some r) :
  (do eqGuard op t x y u v;binOp op t u v).run P w=.ok r w/\r.oneCell'=true:=by
 unfold acg at h
 split at h
 .rename_i k a k' b
  split at h
  .rename_i hk
   subst hk
   unfold ae6 at h
   have hg:(eqGuard op t x y (.int k a) (.int k b)).run P w=.ok () w:=by
    cases op <;> simp[eqGuard]
   rw[Sem.run_bind,hg,Result.andThen_ok]
   cases op <;> simp only[ae,reduceCtorEq] at h
   case quo=>split at h <;> simp only[ae,reduceCtorEq] at h;rename_i hb;subst h;simp[binOp,Op.intDiv,hb,Value.oneCell']
   case rem=>split at h <;> simp only[ae,reduceCtorEq] at h;rename_i hb;subst h;simp[binOp,Op.intDiv,hb,Value.oneCell']
   all_goals
    subst h
    simp[binOp,Op.intArith,Op.intBits,Op.intCmp,Value.oneCell',amJ,bne]
  .cases h
 .rename_i a b
  unfold anM at h
  have hg:(eqGuard op t x y (.string a) (.string b)).run P w=.ok () w:=by
   cases op <;> simp[eqGuard]
  rw[Sem.run_bind,hg,Result.andThen_ok]
  cases op <;> simp only[ae,reduceCtorEq] at h
  case add =>
   split at h <;> simp only[ae,reduceCtorEq] at h
   rename_i hb
   subst h
   have:¬ ((a.size+b.size:Nat):Int)>IntKind.i64.max:=by
    unfold afM at hb
    have:IntKind.i64.max=9223372036854775807:=by decide
    omega
   simp only[binOp,Op.stringOp,aA this]
   exact⟨rfl,rfl⟩
  all_goals
   subst h
   simp only[binOp,Op.stringOp,aEm]
   exact⟨rfl,rfl⟩
 .rename_i a b
  split at h
  .rename_i hb
   cases hT:TT.of P t with
   | none=>simp[hT,aoy] at hb
   | some d =>
    have hu:d.und=.bool:=by
     simp only[hT,aP] at hb
     unfold aoy at hb
     split at hb
     .rename_i e;simpa using e
     .cases hb
    have hund:=(TT.of_ok hT).run_und w
    rw[hu] at hund
    unfold asA at h
    have hg:(eqGuard op t x y (.bool a) (.bool b)).run P w=.ok () w:=by
     cases op <;> simp[eqGuard]
    rw[Sem.run_bind,hg,Result.andThen_ok]
    have he:(Op.equal t (.bool a) (.bool b)).run P w=.ok (a == b) w:=by
     exact aps 9999 a b hund
    cases op <;> simp only[ae,reduceCtorEq] at h
    all_goals
     subst h
     simp[binOp,he,Value.oneCell']
  .cases h
 .cases h
theorem aty{t:TypeId}{u:Value}(h:amn ((TT.of P t).map (·.und)) u=true) :
  ∃ d,TT.of P t=some d/\((∃ k' k n,d.und=.int k'/\u=.int k n)\/(∃ s,d.und=.string/\u=.string s)\/∃ b,d.und=.bool/\u=.bool b):=by
 cases hT:TT.of P t with
 | none=>simp[hT,amn] at h
 | some d =>
  refine⟨d,rfl,?_⟩
  simp only[hT,aP] at h
  unfold amn at h
  split at h
  .rename_i e;exact .inl ⟨_,_,_,by simpa using e,rfl⟩
  .rename_i e;exact .inr (.inl ⟨_,by simpa using e,rfl⟩)
  .rename_i e;exact .inr (.inr ⟨_,by simpa using e,rfl⟩)
  .cases h
theorem axf{t:TypeId}{u:Value}(h:amn ((TT.of P t).map (·.und)) u=true)(xs:Array Value)(o:Nat)(hx:xs[o]?=some u):(part t xs o).run P w=.ok u w:=by
 obtain⟨d,hT,h⟩:=aty h
 have ok:=TT.of_ok hT
 have ha:d.agg=false:=by
  rw[ok.agg]
  rcases h with ⟨_,_,_,e,_⟩|⟨_,e,_⟩|⟨_,e,_⟩ <;> rw[e] <;> rfl
 unfold part
 rw[Sem.run_bind,ok.run_isAgg,Result.andThen_ok,ha]
 simp[hx]
theorem aSb{t:TypeId}{u v:Value}{b:Bool}(h:amn ((TT.of P t).map (·.und)) u=true)(he:akG u v=some b)(n:Nat):(Op.equalIn (n+1) t u v).run P w=.ok b w:=by
 obtain⟨d,hT,h⟩:=aty h
 have ok:=TT.of_ok hT
 rcases h with ⟨k',k,m,e,rfl⟩|⟨s,e,rfl⟩|⟨b',e,rfl⟩
 .unfold akG at he
  split at he
  .rename_i k1 a k2 c e1
   cases e1
   split at he
   .rename_i hk
    subst hk
    simp only[ae] at he
    subst he
    rw[Go.run_equalIn_int (P:=P) w n t k k' m c (by rw[ok.und,e]),amJ]
   .cases he
  .rename_i e1;cases e1
  .rename_i e1;cases e1
  .cases he
 .unfold akG at he
  split at he
  .rename_i e1;cases e1
  .rename_i a c e1
   cases e1
   simp only[ae] at he
   subst he
   rw[Go.run_equalIn_string (P:=P) w n t s c (by rw[ok.und,e]),aEm]
  .rename_i e1;cases e1
  .cases he
 .unfold akG at he
  split at he
  .rename_i e1;cases e1
  .rename_i e1;cases e1
  .rename_i a c e1
   cases e1
   simp only[ae] at he
   subst he
   exact Go.run_equalIn_bool' (P:=P) w n t b' c (by rw[ok.und,e])
  .cases he
theorem anA{m:Mem}{xs ys:Array Value}(n:Nat):∀ (fs:List Field) (o:Nat) (cs ds:List C) (vs us:List Value) (b:Bool),aev (TT.of P) o fs cs ds=some b->xs.toList.drop o=vs->ys.toList.drop o=us->bA m cs vs->bA m ds us ->
  (Op.eqFields (n+1) xs ys fs).run P w=.ok b w
 | [],o,cs,ds,vs,us,b,h,_,_,_,_=>by
  have:b=true:=by
   cases cs with
   | nil=>cases ds with
    | nil=>simpa [aev] using h.symm
    | cons d q=>simp[aev] at h
   | cons c r=>simp[aev] at h
  subst this
  simp[Op.eqFields]
 | f::fs,o,cs,ds,vs,us,b,h,hv,hu,rv,ru=>by
  obtain⟨u,r,v,q,rfl,rfl⟩ : ∃ u r v q,cs=.lit u::r/\ds=.lit v::q:=by
   cases cs with
   | nil=>simp[aev] at h
   | cons c r=>cases c with
    | lit u=>cases ds with
     | nil=>simp[aev] at h
     | cons d q=>cases d with
      | lit v=>exact⟨_,_,_,_,rfl,rfl⟩
      | _=>simp[aev] at h
    | _=>simp[aev] at h
  .unfold aev at h
   split at h
   .rename_i hc
    simp only[ar,adl,dL] at hc
    obtain⟨⟨⟨h1,rfl⟩,h3⟩,h4⟩:=hc
    simp only[bA,Rep] at rv ru
    obtain⟨u,vr,rfl,⟨rfl,_⟩,rv⟩:=rv
    obtain⟨v,ur,rfl,⟨rfl,_⟩,ru⟩:=ru
    have gx:∀ (zs:Array Value) (z:Value) (zr:List Value),zs.toList.drop f.offset=z::zr->zs[f.offset]?=some z/\zs.toList.drop (f.offset+1)=zr:=λzs z zr hz=>by
     constructor
     .rw[← ac8,← List.head?_drop,hz];rfl
     .rw[← ad0,hz];rfl
    obtain⟨x1,x2⟩:=gx _ _ _ hv
    obtain⟨y1,y2⟩:=gx _ _ _ hu
    have p1:=axf (w:=w) h3 xs f.offset x1
    have p2:=axf (w:=w) h4 ys f.offset y1
    cases hq:akG u v with
    | none=>simp[hq] at h
    | some b' =>
     have p3:=aSb (w:=w) h3 hq n
     rw[Op.eqFields,aE h1,Sem.run_bind,p1,Result.andThen_ok,Sem.run_bind,p2,Result.andThen_ok,Sem.run_bind,p3,Result.andThen_ok]
     cases b' with
     | true =>
      rw[hq] at h
      simpa using anA n fs (f.offset+1) r q vr ur b h x2 y2 rv ru
     | false =>
      rw[hq] at h
      simp only[ae] at h
      subst h
      rfl
   .cases h
theorem axU{op:BinOp}{t:TypeId}{c d:Option C}{cx dx:C}{u v:Value}{z:X}{e:Option Tk}(x y:Operand){m:Mem}(h:ae7 P (TT.of P) t op c d=some (z,e))(hc:c=some cx)(hd:d=some dx)(ru:Rep m cx u)(rv:Rep m dx v) :
  ∃ b:Bool,z=aN b/\e=none/\(do eqGuard op t x y u v;binOp op t u v).run P w=.ok (.bool b) w:=by
 subst hc hd
 unfold ae7 at h
 split at h
 .rename_i cs ds e1 e2
  cases e1;cases e2
  simp only[Rep] at ru rv
  obtain⟨vs,rfl,_,ru⟩:=ru
  obtain⟨us,rfl,_,rv⟩:=rv
  have key:∀ b,af4 P (TT.of P) t cs ds=some b->P.eqGuardType P.depth t=false/\(Op.equalIn 10000 t (.agg vs.toArray) (.agg us.toArray)).run P w=.ok b w:=λb hb=>by
   unfold af4 at hb
   split at hb
   .rename_i fs _ _ _ _ _ hT
    split at hb
    .rename_i hc
     have ok:=TT.of_ok hT
     have hf:P.fieldsOf t=fs:=by simp[Program.fieldsOf,ok.und]
     refine⟨hc.2,?_⟩
     rw[Go.run_equalIn_struct (P:=P) w 9999 t _ _ (by rw[hf];exact ok.und) hc.1,hf]
     exact anA 9998 fs.toList 0 cs ds vs us b hb rfl rfl ru rv
    .cases hb
   .cases hb
  split at h
  .obtain⟨b,hb,rfl,rfl⟩ : ∃ b,af4 P (TT.of P) t cs ds=some b/\aN b=z/\none=e:=by
    simp only[bX,adX,ay,Function.comp,bh] at h
    obtain⟨b,h1,h2,h3⟩:=h
    exact⟨b,h1,h2,h3⟩
   obtain⟨h1,h2⟩:=key b hb
   refine⟨b,rfl,rfl,?_⟩
   rw[Sem.run_bind,Go.run_eqGuard_agg (P:=P) w .eql t x y _ _ h1,Result.andThen_ok,Go.run_eql_struct,h2]
   rfl
  .obtain⟨b,hb,rfl,rfl⟩ : ∃ b,af4 P (TT.of P) t cs ds=some b/\aN (!b)=z/\none=e:=by
    simp only[bX,adX,ay,Function.comp,bh] at h
    obtain⟨b,h1,h2,h3⟩:=h
    exact⟨b,h1,h2,h3⟩
   obtain⟨h1,h2⟩:=key b hb
   refine⟨!b,rfl,rfl,?_⟩
   rw[Sem.run_bind,Go.run_eqGuard_agg (P:=P) w .neq t x y _ _ h1,Result.andThen_ok,Go.run_neq_struct,h2]
   rfl
  .cases h
 .cases h
theorem ayp{op:UnOp}{u r:Value}(h:aqk op u=some r):(Op.unary op u).run P w=.ok r w/\r.oneCell'=true:=by
 unfold aqk at h
 split at h
 .cases op <;> simp only[ae,reduceCtorEq] at h
  subst h
  simp[Op.unary,Op.intArith,Value.oneCell']
 .cases op <;> simp only[ae,reduceCtorEq] at h
  subst h
  simp[Op.unary,Value.oneCell']
 .cases h
theorem af2{x:X}{n:Int}{v:Value}(h:aa8 x=some n)(hx:aL k ow x v):v=.int .i64 n:=by
 unfold aa8 at h
 split at h
 .simp only[ae] at h
  subst h
  simp only[aL,Rep] at hx
  exact hx.1
 .cases h
theorem ajT{x:X}{b:Bool}{v:Value}(h:adk x=some b)(hx:aL k ow x v):v=.bool b:=by
 unfold adk at h
 split at h
 .simp only[ae] at h
  subst h
  simp only[aL,Rep] at hx
  exact hx.1
 .cases h
theorem aoM{x:X}{cs:List C}{n:Nat}{v:Value}(h:aaR x=some (cs,n))(hx:aL k ow x v):Rep k.m (.sl cs n) v:=by
 unfold aaR at h
 split at h
 .simp only[bT] at h
  obtain⟨rfl,rfl⟩:=h
  simp only[aL] at hx
  subst hx
  simp only[Rep]
  exact⟨none,0,[],rfl,am _,by simp[bA],λh=>absurd rfl h⟩
 .simp only[bT] at h
  obtain⟨rfl,rfl⟩:=h
  simp only[aL] at hx
  exact hx.2.2
 .simp only[bT] at h
  obtain⟨rfl,rfl⟩:=h
  simpa only [aL] using hx
 .cases h
theorem agd{t:Nat}{d:TD}(hT:TT.of P t=some d)(b o:Nat)(vs:List Value)(hlen:d.size<=vs.length)
  (hc:∀ i u,vs[i]?=some u->w.cell? ⟨b,o+i,none⟩=some u) (h1:d.agg=false->0<vs.length) :
  (loadVar t ⟨b,o,none⟩).run P w=.ok (if d.agg then .agg (vs.take d.size).toArray else vs.headD undef) w:=by
 have ok:=TT.of_ok hT
 unfold loadVar
 rw[Sem.run_bind,ok.run_isAgg,Result.andThen_ok]
 cases hagg:d.agg with
 | true =>
  simp only[ah,Sem.run_bind,ok.run_size,Result.andThen_ok]
  have hl:(loadCells ⟨b,o,none⟩ (vs.take d.size).length).run P w=.ok (vs.take d.size).toArray w :=
   run_loadCells_list (P:=P) w ⟨b,o,none⟩ (vs.take d.size) (λj v hv=>by
    rw[Addr.add_lit]
    refine hc j v ?_
    rw[List.getElem?_take] at hv
    split at hv
    .exact hv
    .cases hv)
  rw[abZ,Nat.min_eq_left hlen] at hl
  rw[hl]
  rfl
 | false =>
  have:=h1 hagg
  cases vs with
  | nil=>simp at this
  | cons v r =>
   have h0:=hc 0 v aT
   simp only[gV] at h0
   simp[h0]
theorem ajb{t:Nat}{d:TD}{cs:List C}{c:C}{vs:List Value}(hT:TT.of P t=some d)(h:dQ (TT.of P) t cs=some c)(hl:bA k.m cs vs)
  (h1:∀ u∈vs,u.oneCell'=true):d.size<=vs.length/\(d.agg=false->0<vs.length)/\Rep k.m c (if d.agg then .agg (vs.take d.size).toArray else vs.headD undef):=by
 unfold dQ at h
 simp only[hT] at h
 split at h
 .rename_i hs
  have hs':d.size<=vs.length:=by rw[hl.length];exact hs
  refine⟨hs',?_⟩
  cases hagg:d.agg with
  | true =>
   simp only[hagg,ah,ae] at h ⊢
   subst h
   refine⟨(λh=>(by cases h)),?_⟩
   simp only[Rep]
   exact⟨_,rfl,λu hu=>h1 u (aa0 hu),hl.take _⟩
  | false =>
   simp only[hagg,ab,ap] at h ⊢
   split at h
   .rename_i c' r'
    simp only[ae] at h
    subst h
    simp only[bA] at hl
    obtain⟨v,r,rfl,hv,_⟩:=hl
    exact⟨by simp,by simpa using hv⟩
   .cases h
 .cases h
theorem aja{t:Nat}{d:TD}{xs:List X}{x:X}{vs:List Value}(hT:TT.of P t=some d)(h:dP (TT.of P) t xs=some x)(hl:aV k ow xs vs)
  (h1:∀ u∈vs,u.oneCell'=true):d.size<=vs.length/\(d.agg=false->0<vs.length)/\aL k ow x (if d.agg then .agg (vs.take d.size).toArray else vs.headD undef):=by
 unfold dP at h
 simp only[hT] at h
 split at h
 .rename_i hs
  have hs':d.size<=vs.length:=by rw[hl.length];exact hs
  refine⟨hs',?_⟩
  cases hagg:d.agg with
  | true =>
   simp only[hagg,ah,ae] at h ⊢
   subst h
   refine⟨(λh=>(by cases h)),?_⟩
   simp only[aL]
   exact⟨_,rfl,λu hu=>h1 u (aa0 hu),hl.takeN _⟩
  | false =>
   simp only[hagg,ab,ap] at h ⊢
   split at h
   .rename_i c' r'
    simp only[ae] at h
    subst h
    simp only[aV] at hl
    obtain⟨v,r,rfl,hv,_⟩:=hl
    exact⟨by simp,by simpa using hv⟩
   .cases h
 .cases h
theorem apA{T:TT}{t:Nat}{cs:List C}{c:C}(h:dQ T t cs=some c):∃ d,T t=some d:=by
 unfold dQ at h
 split at h
 .cases h
 .exact⟨_,‹_›⟩
theorem awo{T:TT}{t:Nat}{cs:List X}{c:X}(h:dP T t cs=some c):∃ d,T t=some d:=by
 unfold dP at h
 split at h
 .cases h
 .exact⟨_,‹_›⟩
theorem aqT{objs:List Ob}(hs:Hp M0 k ow w0 w objs){t:Nat}{x y:X}{e:Option Tk}{v:Value}(h:abf (TT.of P) objs t x=some (y,e))(hx:aL k ow x v) :
  e=none/\∃ u,(Instr.loadAt t v).run P w=.ok u w/\aL k ow y u:=by
 unfold abf at h
 split at h
 .rename_i r off
  split at h
  .rename_i ty xs hr
   simp only[bX,ay,bh] at h
   obtain⟨y',h,rfl,rfl⟩:=h
   obtain⟨b,hb,_,_,_,vs,hh,h1,hl⟩:=hs.obj r _ hr
   simp only[aL] at hx
   obtain⟨b',hb',rfl⟩:=hx
   obtain rfl:b'=b:=aG (hb'.symm.trans hb)
   obtain⟨d,hT⟩:=awo h
   obtain⟨g1,g2,g3⟩:=aja hT h (hl.dropN off) (λu hu=>h1 u (eH hu))
   refine⟨rfl,_,?_,g3⟩
   simp only[Instr.loadAt,Instr.sureAddr,Sem.run_bind,Sem.run_pure,Result.andThen_ok]
   refine agd hT b' off (vs.drop off) g1 (λi u hu=>?_) g2
   rw[cell_of_row w b' (off+i) vs.toArray ty (0,0) hh]
   rw[eX] at hu
   simpa using hu
  .rename_i ty c0 cs hr
   simp only[bX,ay,bh] at h
   obtain⟨y',⟨c,h,rfl⟩,rfl,rfl⟩:=h
   obtain⟨b,hb,_,_,_,hob⟩:=hs.obj r _ hr
   rcases hob with h0|⟨vs,sp,hh,h1,hl⟩
   .cases h0
   simp only[aL] at hx
   obtain⟨b',hb',rfl⟩:=hx
   obtain rfl:b'=b:=aG (hb'.symm.trans hb)
   obtain⟨d,hT⟩:=apA h
   obtain⟨g1,g2,g3⟩:=ajb hT h (hl.drop off) (λu hu=>h1 u (eH hu))
   refine⟨rfl,_,?_,by simpa only [aL] using g3⟩
   simp only[Instr.loadAt,Instr.sureAddr,Sem.run_bind,Sem.run_pure,Result.andThen_ok]
   refine agd hT b' off (vs.drop off) g1 (λi u hu=>?_) g2
   rw[cell_of_row w b' (off+i) (vs++sp).toArray ty (0,0) hh]
   rw[eX] at hu
   have hlt:off+i<vs.length:=(List.getElem?_eq_some_iff.1 hu).1
   simpa [bq hlt] using hu
  .cases h
 .rename_i cs
  simp only[bX,ay,bh] at h
  obtain⟨y',⟨c,h,rfl⟩,rfl,rfl⟩:=h
  simp only[aL,Rep] at hx
  obtain⟨b,o,vs,rfl,hl,hm⟩:=hx
  obtain⟨d,hT⟩:=apA h
  have h1:∀ u∈vs,u.oneCell'=true:=λu hu=>by
   obtain⟨i,hi⟩:=List.mem_iff_getElem?.1 hu
   exact (hs.mem _ _ _ (hm i u hi)).2
  obtain⟨g1,g2,g3⟩:=ajb hT h hl h1
  refine⟨rfl,_,?_,by simpa only [aL] using g3⟩
  simp only[Instr.loadAt,Instr.sureAddr,Sem.run_bind,Sem.run_pure,Result.andThen_ok]
  exact agd hT b o vs g1 (λi u hu=>(hs.mem _ _ _ (hm i u hu)).1) g2
 .cases h
theorem ato{α β:Type}(f:α->Option β):∀ (l:List α) (r:List β),l.mapM f=some r->∀ (i:Nat) (y:β),r[i]?=some y->∃ x,l[i]?=some x/\f x=some y
 | [],r,h,i,y,hy=>by simp at h;subst h;simp at hy
 | a::l,r,h,i,y,hy=>by
  simp only[afC,Option.bind_eq_bind,Option.pure_def,bE,ae] at h
  obtain⟨b,hb,q,hq,rfl⟩:=h
  cases i with
  | zero=>simp at hy;subst hy;exact⟨a,by simp,hb⟩
  | succ i=>simp at hy;simpa using ato f l q hq i y hy
theorem atz{fs:Array Field}{fl':List (Nat×Nat)}{f:Nat}{o z:Nat}(h':fieldsOf P (.struct fs)=some fl')(h:fl'[f]?=some (o,z)) :
  ∃ fl,fs[f]?=some fl/\fl.offset=o/\∃ i,P.info? fl.type=some i/\i.size=z:=by
 obtain⟨x,h1,h2⟩:=ato _ _ _ h' f _ h
 simp only[ay,bh] at h2
 obtain⟨i,hi,h3,h4⟩:=h2
 exact⟨x,by simpa using h1,h3,i,hi,h4⟩
theorem akF{t f:Nat}{x y:X}{e:Option Tk}{v:Value}(h:gu (TT.of P) t f x=some (y,e))(hx:aL k ow x v) :
  e=none/\∃ u,(Instr.fieldAt t v f).run P w=.ok u w/\aL k ow y u:=by
 unfold gu aie at h
 cases hT:TT.of P t with
 | none=>simp[hT] at h
 | some d =>
  have ok:=TT.of_ok hT
  simp only[hT,dE] at h
  cases hf:d.fields[f]? with
  | none=>simp[hf] at h
  | some oz =>
   obtain⟨o,z⟩:=oz
   simp only[hf] at h
   split at h
   .rename_i hz
    have hfl:=ok.fields
    have hund:∃ fs,d.und=.struct fs:=by
     unfold fieldsOf at hfl
     split at hfl
     .exact⟨_,‹_›⟩
     .simp only[ae] at hfl
      rw[← hfl] at hf
      simp at hf
    obtain⟨fs,hund⟩:=hund
    rw[hund] at hfl
    obtain⟨fl,h1,h2,h3⟩:=atz hfl hf
    have hru:=ok.run_und w
    rw[hund] at hru
    have hplace:∀ a:Addr,(fieldPlace a fl).run P w=.ok (a.add o) w:=λa=>by
     unfold fieldPlace
     obtain⟨i,hi,hiz⟩:=h3
     have hsz:(sizeOf fl.type).run P w=.ok z w:=by simp[sizeOf,typeInfo,hi,hiz]
     rw[Sem.run_bind,hsz,Result.andThen_ok,aA aC,h2]
     rfl
    split at h
    .rename_i r off
     simp only[out,bT] at h
     obtain⟨rfl,rfl⟩:=h
     simp only[aL] at hx
     obtain⟨b,hb,rfl⟩:=hx
     refine⟨rfl,.pointer (some ((⟨b,off,none⟩ : Addr).add o)),?_,?_⟩
     .simp[Instr.fieldAt,hru,h1,Instr.sureAddr,hplace]
     .simp only[aL,Addr.add_lit];exact⟨b,hb,rfl⟩
    .simp only[out,bT] at h
     obtain⟨rfl,rfl⟩:=h
     simp only[aL,Rep] at hx
     obtain⟨b,off,vs,rfl,hl,hm⟩:=hx
     refine⟨rfl,.pointer (some ((⟨b,off,none⟩ : Addr).add o)),?_,?_⟩
     .simp[Instr.fieldAt,hru,h1,Instr.sureAddr,hplace]
     .simp only[aL,Rep,Addr.add_lit]
      exact⟨b,off+o,vs.drop o,rfl,hl.drop o,λi u hu=>by
       rw[eX] at hu
       rw[cE]
       exact hm _ _ hu⟩
    .cases h
   .cases h
theorem aq4{t:Nat}{x i y:X}{e:Option Tk}{v vi:Value}(h:cn (TT.of P) t x i=some (y,e))(hx:aL k ow x v)(hi:aL k ow i vi) :
  e=none/\∃ u,(Instr.indexAt t v vi).run P w=.ok u w/\aL k ow y u:=by
 unfold cn at h
 split at h
 .cases h
 .rename_i n hn
  obtain rfl:=af2 hn hi
  split at h
  .rename_i el sz by_ ag ze fi hT
   have hru:=(TT.of_ok hT).run_und w
   simp only at hru
   split at h
   .rename_i d cs m hd hsl
    split at h
    .rename_i hc
     obtain⟨h0,hlt,hlen,hpos⟩:=hc
     simp only[out,bT] at h
     obtain⟨rfl,rfl⟩:=h
     have hs:=aoM hsl hx
     simp only[Rep] at hs
     obtain⟨a,cap,vs,rfl,hcap,hl,hm⟩:=hs
     have hm0:0<m:=by omega
     have hvs:vs≠[]:=by
      intro e
      have:=hl.length
      rw[e,hlen] at this
      have:0<m*d.size:=ahw hm0 hpos
      simp at *
      omega
     obtain⟨b,o,rfl,hm2⟩:=hm hvs
     refine⟨rfl,.pointer (some ((⟨b,o,none⟩ : Addr).add (n.toNat*d.size))),?_,?_⟩
     .simp[Instr.indexAt,asIntOf,hru,h0,hlt,(TT.of_ok hd).run_size]
     .simp only[aL,Rep,Addr.add_lit]
      exact⟨b,_,vs.drop (n.toNat*d.size),rfl,hl.drop _,λi u hu=>by
       rw[eX] at hu
       rw[cE]
       exact hm2 _ _ hu⟩
    .cases h
   .rename_i d hd _
    unfold ahS at h
    split at h
    .rename_i r e' z'
     split at h
     .rename_i hc
      obtain⟨rfl,rfl,rfl,hpos⟩:=hc
      simp only[out,bT] at h
      obtain⟨rfl,rfl⟩:=h
      simp only[aL] at hx
      obtain⟨_,b,cap,hb,rfl⟩:=hx
      refine⟨rfl,.pointer (some ((⟨b,0,none⟩ : Addr).add 0)),?_,?_⟩
      .simp[Instr.indexAt,asIntOf,hru,(TT.of_ok hd).run_size]
      .simp only[aL,Addr.add_lit];exact⟨b,hb,rfl⟩
     .cases h
    .cases h
   .cases h
  .rename_i len el sz by_ ag ze fi hT
   have hru:=(TT.of_ok hT).run_und w
   simp only at hru
   split at h
   .rename_i d hd
    split at h
    .rename_i hc
     split at h
     .rename_i r off
      simp only[out,bT] at h
      obtain⟨rfl,rfl⟩:=h
      simp only[aL] at hx
      obtain⟨b,hb,rfl⟩:=hx
      refine⟨rfl,.pointer (some ((⟨b,off,none⟩ : Addr).add (n.toNat*d.size))),?_,?_⟩
      .simp[Instr.indexAt,asIntOf,hru,hc.1,hc.2,(TT.of_ok hd).run_size,Instr.sureAddr]
      .simp only[aL,Addr.add_lit];exact⟨b,hb,rfl⟩
     .simp only[out,bT] at h
      obtain⟨rfl,rfl⟩:=h
      simp only[aL,Rep] at hx
      obtain⟨b,o,vs,rfl,hl,hm⟩:=hx
      refine⟨rfl,.pointer (some ((⟨b,o,none⟩ : Addr).add (n.toNat*d.size))),?_,?_⟩
      .simp[Instr.indexAt,asIntOf,hru,hc.1,hc.2,(TT.of_ok hd).run_size,Instr.sureAddr]
      .simp only[aL,Rep,Addr.add_lit]
       exact⟨b,_,vs.drop (n.toNat*d.size),rfl,hl.drop _,λi u hu=>by
        rw[eX] at hu
        rw[cE]
        exact hm _ _ hu⟩
     .cases h
    .cases h
   .cases h
  .cases h
end
section
variable {P:Program} {M0:Base} {k:Know} {ow:Own} {done:Nat->Prop} {w0 w:World} {N:Nat} {s:S} {tmps:Array Value}
theorem alV{t:Nat}{d:TD}(hT:TT.of P t=some d)(vs:List Value)(o:Nat)(h1:d.agg=false->o<vs.length) :
  (part t vs.toArray o).run P w=.ok (if d.agg then .agg ((vs.drop o).take d.size).toArray else (vs.drop o).headD undef) w:=by
 have ok:=TT.of_ok hT
 unfold part
 rw[Sem.run_bind,ok.run_isAgg,Result.andThen_ok]
 cases hagg:d.agg with
 | true =>
  simp only[ah,Sem.run_bind,ok.run_size,Result.andThen_ok,Sem.run_pure]
  congr 2
  apply af3
  simp[ab9]
 | false =>
  have hlt:=h1 hagg
  simp only[ab,ap]
  have:vs.toArray[o]?=some vs[o]:=by simp[hlt]
  rw[this]
  simp only[Sem.run_pure]
  congr 1
  rw[bI hlt]
  rfl
theorem azl{t f:Nat}{x y:X}{e:Option Tk}{v:Value}(h:agv (TT.of P) t f x=some (y,e))(hx:aL k ow x v) :
  e=none/\∃ u,(Instr.field t v f).run P w=.ok u w/\aL k ow y u:=by
 unfold agv at h
 split at h
 .rename_i d hT
  have ok:=TT.of_ok hT
  split at h
  .rename_i o z u hf hu
   have hfl:=ok.fields
   unfold aoC at hu
   split at hu
   .rename_i fs i hund
    rw[hund] at hfl
    obtain⟨fl,h1,h2,_⟩:=atz hfl hf
    rw[h1] at hu
    simp only[aP,ae] at hu
    have hru:=ok.run_und w
    rw[hund] at hru
    split at h
    .rename_i xs
     simp only[bX,ay,bh] at h
     obtain⟨y',h,rfl,rfl⟩:=h
     simp only[aL] at hx
     obtain⟨vs,rfl,hone,hl⟩:=hx
     obtain⟨d',hT'⟩:=awo h
     obtain⟨g1,g2,g3⟩:=aja hT' h (hl.dropN o) (λu hu=>hone u (eH hu))
     refine⟨rfl,_,?_,g3⟩
     have hp:=alV (w:=w) hT' vs o (λha=>by have:=g2 ha;simp at this;omega)
     simp[Instr.field,hru,h1,asAgg,hu,h2,hp]
    .rename_i cs
     simp only[bX,ay,bh] at h
     obtain⟨y',⟨c,h,rfl⟩,rfl,rfl⟩:=h
     simp only[aL,Rep] at hx
     obtain⟨vs,rfl,hone,hl⟩:=hx
     obtain⟨d',hT'⟩:=apA h
     obtain⟨g1,g2,g3⟩:=ajb hT' h (hl.drop o) (λu hu=>hone u (eH hu))
     refine⟨rfl,_,?_,by simpa only [aL] using g3⟩
     have hp:=alV (w:=w) hT' vs o (λha=>by have:=g2 ha;simp at this;omega)
     simp[Instr.field,hru,h1,asAgg,hu,h2,hp]
    .cases h
   .cases hu
  .cases h
 .cases h
theorem avI{u:Option TypeDesc}(h:afF u=true):u=some .string:=by
 unfold afF at h
 split at h
 .rfl
 .cases h
theorem slD{u:Option TypeDesc}(h:ajj u=true):∃ e,u=some (.slice e):=by
 unfold ajj at h
 split at h
 .exact⟨_,rfl⟩
 .cases h
theorem aiA{t:Nat}{u:TypeDesc}(h:(TT.of P t).map (·.und)=some u):(underlying t).run P w=.ok u w:=by
 cases hT:TT.of P t with
 | none=>simp[hT] at h
 | some d =>
  simp only[hT,aP,ae] at h
  rw[← h]
  exact (TT.of_ok hT).run_und w
theorem azg{t:Nat}{x i y:X}{e:Option Tk}{v vi:Value}(h:afG (TT.of P) t x i=some (y,e))(hx:aL k ow x v)(hi:aL k ow i vi) :
  e=none/\∃ u,(Instr.index t v vi).run P w=.ok u w/\aL k ow y u:=by
 unfold afG at h
 split at h
 .cases h
 .rename_i n hn
  obtain rfl:=af2 hn hi
  split at h
  .rename_i st
   split at h
   .rename_i hc
    simp only[out,bT] at h
    obtain⟨rfl,rfl⟩:=h
    simp only[aL,Rep] at hx
    obtain⟨rfl,_⟩:=hx
    have hru:=aiA (w:=w) (avI hc.1)
    refine⟨rfl,.int .u8 (st[n.toNat]'hc.2.2).toNat,?_,by simp[aL,Rep,Value.oneCell']⟩
    have hg:st[n.toNat]?=some (st[n.toNat]'hc.2.2):=by simp[hc.2.2]
    simp[Instr.index,asIntOf,hru,hc.2.1,hg]
   .cases h
  .rename_i xs
   split at h
   .rename_i len el sz by_ ag ze fi hT
    have hru:=(TT.of_ok hT).run_und w
    simp only at hru
    split at h
    .rename_i d hd
     split at h
     .rename_i hc
      simp only[bX,ay,bh] at h
      obtain⟨y',h,rfl,rfl⟩:=h
      simp only[aL] at hx
      obtain⟨vs,rfl,hone,hl⟩:=hx
      obtain⟨g1,g2,g3⟩:=aja hd h (hl.dropN _) (λu hu=>hone u (eH hu))
      refine⟨rfl,_,?_,g3⟩
      have hp:=alV (w:=w) hd vs (n.toNat*d.size) (λha=>by have:=g2 ha;simp at this;omega)
      simp[Instr.index,asIntOf,hru,hc.1,hc.2,(TT.of_ok hd).run_size,hp]
     .cases h
    .cases h
   .cases h
  .rename_i cs
   split at h
   .rename_i len el sz by_ ag ze fi hT
    have hru:=(TT.of_ok hT).run_und w
    simp only at hru
    split at h
    .rename_i d hd
     split at h
     .rename_i hc
      simp only[bX,ay,bh] at h
      obtain⟨y',⟨c,h,rfl⟩,rfl,rfl⟩:=h
      simp only[aL,Rep] at hx
      obtain⟨vs,rfl,hone,hl⟩:=hx
      obtain⟨g1,g2,g3⟩:=ajb hd h (hl.drop _) (λu hu=>hone u (eH hu))
      refine⟨rfl,_,?_,by simpa only [aL] using g3⟩
      have hp:=alV (w:=w) hd vs (n.toNat*d.size) (λha=>by have:=g2 ha;simp at this;omega)
      simp[Instr.index,asIntOf,hru,hc.1,hc.2,(TT.of_ok hd).run_size,hp]
     .cases h
    .cases h
   .cases h
  .cases h
theorem aFn{t ty:Nat}{x y:X}{e:Option Tk}{v:Value}(h:aaI ((TT.of P t).map (·.und)) x=some (y,e))(hx:aL k ow x v) :
  e=none/\∃ u,(Builtin.len_ #[t] ty #[v]).run P w=.ok u w/\aL k ow y u:=by
 unfold aaI at h
 split at h
 .rename_i st
  split at h
  .rename_i hs
   simp only[out,bT] at h
   obtain⟨rfl,rfl⟩:=h
   simp only[aL,Rep] at hx
   obtain⟨rfl,_⟩:=hx
   exact⟨rfl,.int .i64 st.size,by simp[Builtin.len_,aiA (w:=w) (avI hs),goInt],by simp[aL,Rep,Value.oneCell']⟩
  .cases h
 .split at h
  .rename_i cs n hsl
   split at h
   .rename_i hs
    obtain⟨el,hs⟩:=slD hs
    simp only[out,bT] at h
    obtain⟨rfl,rfl⟩:=h
    have hs2:=aoM hsl hx
    simp only[Rep] at hs2
    obtain⟨a,cap,vs,rfl,_⟩:=hs2
    exact⟨rfl,.int .i64 n,by simp[Builtin.len_,aiA (w:=w) hs,goInt],by simp[aL,Rep,Value.oneCell']⟩
   .cases h
  .unfold ajD at h
   split at h
   .split at h
    .rename_i hs
     obtain⟨el,hs⟩:=slD hs
     simp only[out,bT] at h
     obtain⟨rfl,rfl⟩:=h
     simp only[aL] at hx
     obtain⟨_,b,cap,_,rfl⟩:=hx
     exact⟨rfl,.int .i64 1,by simp[Builtin.len_,aiA (w:=w) hs,goInt],by simp[aL,Rep,Value.oneCell']⟩
    .cases h
   .cases h
theorem u8D{d:Option TD}(h:amh d=true):∃ dd,d=some dd/\dd.und=.int .u8/\dd.size=1:=by
 unfold amh at h
 split at h
 .exact⟨_,rfl,rfl,rfl⟩
 .cases h
theorem aoT{m:Mem}:∀ (cs:List C) (vs:List Value) (l:List UInt8),ae9 cs=some l->bA m cs vs->∃ ns:List Int,vs=ns.map (Value.int .u8)/\l=ns.map λn=>UInt8.ofNat n.toNat
 | [],vs,l,h,hr=>by
  simp only[ae9,ae] at h
  subst h
  simp only[bA] at hr
  subst hr
  exact⟨[],rfl,rfl⟩
 | c::cs,vs,l,h,hr=>by
  unfold ae9 at h
  split at h
  .rename_i e;cases e
  .rename_i n r e
   cases e
   simp only[ay] at h
   obtain⟨q,hq,rfl⟩:=h
   simp only[bA,Rep] at hr
   obtain⟨v,rest,rfl,⟨rfl,_⟩,hr⟩:=hr
   obtain⟨ns,rfl,rfl⟩:=aoT _ rest q hq hr
   exact⟨n::ns,rfl,rfl⟩
  .cases h
theorem azp(hm:∀ b o v,k.m b o=some v->w.cell? ⟨b,o,none⟩=some v){a b:Nat}{x y:X}{e:Option Tk}{v:Value}(hb:(TT.of P b).map (·.und)=some .string)(h:ajm (TT.of P) (TT.of P a) x=some (y,e))(hx:aL k ow x v) :
  e=none/\∃ u,(convert a b v).run P w=.ok u w/\aL k ow y u:=by
 unfold ajm at h
 split at h
 .rename_i e' _ _ _ _ _ cs n hT hsl
  split at h
  .rename_i hc
   obtain⟨h8,hlen⟩:=hc
   obtain⟨l,hl,hy⟩ : ∃ l,ae9 cs=some l/\y=ahQ ⟨l.toArray⟩/\e=none:=by
    cases hu:ae9 cs with
    | none=>simp[hu,bX] at h
    | some l=>simp only[hu,bX,aP,bT] at h;exact⟨l,rfl,h.1.symm,h.2.symm⟩
   obtain⟨rfl,rfl⟩:=hy
   refine⟨rfl,?_⟩
   have hund:P.underlying a=some (.slice e'):=(TT.of_ok hT).und
   obtain⟨dd,hd1,hd2,_⟩:=u8D h8
   have hu8:P.underlying e'=some (.int .u8):=by rw[← hd2];exact (TT.of_ok hd1).und
   have hst:P.underlying b=some .string:=by
    cases hTb:TT.of P b with
    | none=>simp[hTb] at hb
    | some d2=>simp only[hTb,aP,ae] at hb;rw[← hb];exact (TT.of_ok hTb).und
   have hr:=aoM hsl hx
   simp only[Rep] at hr
   obtain⟨A,cap,vs,rfl,hcap,hvl,hmem⟩:=hr
   obtain⟨ns,rfl,rfl⟩:=aoT cs vs l hl hvl
   have hnl:ns.length=n:=by have:=hvl.length;simp only[bM] at this;omega
   by_cases hne:ns=[]
   .subst hne
    simp only[cq] at hnl
    subst hnl
    refine⟨.string ByteArray.empty,?_,by simp[aL,Rep,Value.oneCell'];rfl⟩
    cases A with
    | none=>exact run_convert_bytes_nil w a e' hund hu8 0 cap b hst
    | some ad =>
     rw[run_convert_bytes_string w a b e' _ 0 cap hund hu8 hst]
     have h0:(loadCells ad 0).run P w=.ok #[] w:=by simp[loadCells,loadCellsFrom]
     have:=run_bytesToString (P:=P) w ad 0 cap [] (by simpa using h0)
     simpa using this
   .obtain⟨bb,o,rfl,hcell⟩:=hmem (by simpa using hne)
    refine⟨.string (strOfNums ns),run_convert_bytes_arg w a e' hund hu8 bb o n cap ns hnl (λi hi=>?_) b hst,by simp[aL,Rep,Value.oneCell',strOfNums]⟩
    have hi':(ns.map (Value.int .u8))[i]?=some (.int .u8 (ns.getD i 0)):=by
     have:i<ns.length:=by omega
     simp[List.getD,this]
    exact hm _ _ _ (hcell i _ hi')
  .cases h
 .cases h
theorem aus(hm:∀ b o v,k.m b o=some v->w.cell? ⟨b,o,none⟩=some v){a b:Nat}{x y:X}{e:Option Tk}{v:Value}(h:adA (TT.of P) a b x=some (y,e))(hx:aL k ow x v) :
  e=none/\∃ u,(convert a b v).run P w=.ok u w/\aL k ow y u:=by
 unfold adA at h
 split at h
 .rename_i d kk kk' n hd hT
  simp only[out,bT] at h
  obtain⟨rfl,rfl⟩:=h
  simp only[aL,Rep] at hx
  obtain⟨rfl,_⟩:=hx
  refine⟨rfl,.int kk (kk.wrap n),?_,by simp[aL,Rep,Value.oneCell']⟩
  simp[convert,(TT.of_ok hd).run_und,aiA (w:=w) hT,Conv.intToInt]
 .rename_i d s' hd hT
  simp only[out,bT] at h
  obtain⟨rfl,rfl⟩:=h
  simp only[aL,Rep] at hx
  obtain⟨rfl,_⟩:=hx
  refine⟨rfl,.string s',?_,by simp[aL,Rep,Value.oneCell']⟩
  simp[convert,(TT.of_ok hd).run_und,aiA (w:=w) hT]
 .rename_i hT _
  exact azp hm hT h hx
 .cases h
theorem ahH{t e:Nat}{d:TD}(h:elemOf (TT.of P) t=some (e,d)):(TT.of P t).map (·.und)=some (.slice e)/\TT.of P e=some d:=by
 unfold elemOf at h
 split at h
 .rename_i el _ _ _ _ _ hT
  simp only[ay,bh] at h
  obtain⟨d',hd,rfl,rfl⟩:=h
  exact⟨by simp[hT],hd⟩
 .cases h
def aDO(k:Know)(ow:Own):Option X->Option Value->Prop
 | none,none=>True
 | some x,some v=>aL k ow x v
 | _,_=>False
theorem aoo{x:Option X}{n d:Int}{v:Option Value}(h:aeX d x=some n)(hx:aDO k ow x v):(v=none/\n=d)\/v=some (.int .i64 n):=by
 cases x with
 | none =>
  cases v with
  | none=>simp only[aeX,ae] at h;exact .inl ⟨rfl,h.symm⟩
  | some v=>exact hx.elim
 | some x =>
  cases v with
  | none=>exact hx.elim
  | some v=>exact .inr (by rw[af2 h hx])
theorem alW{sl:Bool}{len cap:Nat}{l h:Int}{vl vh:Option Value}(hl:(vl=none/\l=0)\/vl=some (.int .i64 l))(hh:(vh=none/\h=(len:Int))\/vh=some (.int .i64 h))
  (h0:0<=l) (h1:l<=h) (h2:h<=(cap:Int)):(Instr.sliceBounds sl len cap vl vh none).run P w=.ok (l.toNat,h.toNat,cap) w:=by
 have b1:0<=h:=by omega
 have b2:(h.toNat:Int)=h:=by omega
 rcases hl with ⟨rfl,rfl⟩|rfl <;> rcases hh with ⟨rfl,rfl⟩|rfl
 .simp[Instr.sliceBounds]
 .simp[Instr.sliceBounds,Instr.sliceBound,asIntOf,b1,h2]
 .have:l<=(len:Int):=h1
  simp[Instr.sliceBounds,Instr.sliceBound,asIntOf,h0,this]
 .have:l<=(h.toNat:Int):=by omega
  simp[Instr.sliceBounds,Instr.sliceBound,asIntOf,b1,h2,h0]
  intro hlt
  omega
theorem ayw{t:Nat}{x y:X}{lo hi:Option X}{e:Option Tk}{v:Value}{vl vh:Option Value}(h:adq (TT.of P) t x lo hi=some (y,e))(hx:aL k ow x v)
  (hl:aDO k ow lo vl) (hh:aDO k ow hi vh) :
  e=none/\∃ u,(Instr.sliceAt t v vl vh none).run P w=.ok u w/\aL k ow y u:=by
 unfold adq at h
 split at h
 .rename_i st
  split at h
  .rename_i hs
   split at h
   .rename_i l h' e1 e2
    split at h
    .rename_i hc
     simp only[out,bT] at h
     obtain⟨rfl,rfl⟩:=h
     simp only[aL,Rep] at hx
     obtain⟨rfl,_⟩:=hx
     have hru:=aiA (w:=w) (avI hs)
     have r1:(vl=none/\l=0)\/vl=some (.int .i64 l):=aoo e1 hl
     have r2:(vh=none/\h'=(st.size:Int))\/vh=some (.int .i64 h'):=aoo e2 hh
     refine⟨rfl,.string (st.extract l.toNat h'.toNat),?_,by simp[aL,Rep,Value.oneCell']⟩
     simp[Instr.sliceAt,Instr.slice,hru,alW (P:=P) (w:=w) (sl:=false) r1 r2 hc.1 hc.2.1 hc.2.2]
    .cases h
   .cases h
  .cases h
 .split at h
  .rename_i el d cs n he hsl
   split at h
   .rename_i l h' e1 e2
    split at h
    .rename_i hc
     obtain⟨c1,c2,c3,c4⟩:=hc
     simp only[out,bT] at h
     obtain⟨rfl,rfl⟩:=h
     obtain⟨hund,hd⟩:=ahH he
     have hru:=aiA (w:=w) hund
     have hs:=aoM hsl hx
     simp only[Rep] at hs
     obtain⟨a,cap,vs,rfl,hcap,hvl,hm⟩:=hs
     have r1:(vl=none/\l=0)\/vl=some (.int .i64 l):=aoo e1 hl
     have r2:(vh=none/\h'=(n:Int))\/vh=some (.int .i64 h'):=aoo e2 hh
     have hb:=alW (P:=P) (w:=w) (sl:=true) (cap:=cap) r1 r2 c1 c2 aC
     refine⟨rfl,.slice (if cap=l.toNat then a else a.map (·.add (l.toNat*d.size))) (h'.toNat-l.toNat) (cap-l.toNat),?_,?_⟩
     .simp[Instr.sliceAt,Instr.slice,hru,hb,(TT.of_ok hd).run_size]
     .simp only[aL,Rep]
      refine⟨_,_,(vs.drop (l.toNat*d.size)).take ((h'.toNat-l.toNat)*d.size),rfl,by omega,(hvl.drop _).take _,λhne=>?_⟩
      have hlt:l.toNat<h'.toNat:=by
       rcases av l.toNat h'.toNat with g|g
       .exact g
       .have:h'.toNat-l.toNat=0:=by omega
        rw[this] at hne
        simp at hne
      have hvs:vs≠[]:=by
       rintro rfl
       simp at hne
      obtain⟨b,o,rfl,hm2⟩:=hm hvs
      rw[aA aC]
      refine⟨b,o+l.toNat*d.size,by simp[Addr.add_lit],λi u hu=>?_⟩
      rw[List.getElem?_take] at hu
      split at hu
      .rw[eX] at hu
       rw[cE]
       exact hm2 _ _ hu
      .cases hu
    .cases h
   .cases h
  .cases h
theorem axa(off:Nat):∀ (vs:List Value) (cells:Array Value) (j:Nat),off+j+vs.length<=cells.size ->
  ((vs.zipIdx j).foldl (λcs p=>cs.setIfInBounds (off+p.2) p.1) cells).toList=cells.toList.take (off+j)++vs++cells.toList.drop (off+j+vs.length)
 | [],cells,j,_=>by simp
 | v::r,cells,j,h=>by
  simp only[aX] at h
  simp only[List.zipIdx_cons,adE]
  rw[axa off r (cells.setIfInBounds (off+j) v) (j+1) (by simp;omega)]
  have hlt:off+j<cells.toList.length:=by simp;omega
  have e1:(cells.setIfInBounds (off+j) v).toList=cells.toList.set (off+j) v:=by simp
  rw[e1]
  have e2:(cells.toList.set (off+j) v).take (off+(j+1))=cells.toList.take (off+j)++[v]:=by
   rw[← cE,List.take_succ_eq_append_getElem (by simpa using hlt)]
   simp[List.take_set_of_le]
  have e3:(cells.toList.set (off+j) v).drop (off+(j+1)+r.length)=cells.toList.drop (off+j+(v::r).length):=by
   rw[List.drop_set_of_lt aC]
   congr 1
   simp only[aX]
   omega
  rw[e2,e3]
  simp
theorem aJc(vs:List Value)(cells:Array Value)(off:Nat)(h:off+vs.length<=cells.size) :
  (vs.toArray.zipIdx.foldl (λcs (c,j)=>cs.setIfInBounds (off+j) c) cells).toList=cells.toList.take off++vs++cells.toList.drop (off+vs.length):=by
 rw[← Array.foldl_toList,Array.toList_zipIdx]
 exact axa off vs cells 0 (by simpa using h)
end
section
variable {P:Program} {M0:Base} {k:Know} {ow:Own} {done:Nat->Prop} {w0 w:World} {N:Nat} {s:S} {tmps:Array Value}
inductive RepParts (k:Know) (ow:Own):List (Nat×List X)->List (Nat×Value)->Prop where
 | nil:RepParts k ow [] []
 | cons {i:Nat} {xs:List X} {v:Value} {qs:List (Nat×List X)} {ps:List (Nat×Value)} (h:aV k ow xs v.cells.toList) (h1:∀ u∈v.cells.toList,u.oneCell'=true)
   (r:RepParts k ow qs ps):RepParts k ow ((i,xs)::qs) ((i,v)::ps)
theorem al3{f:Operand->X}{g:Operand->Value}(hf:∀ x,aL k ow (f x) (g x)):∀ (ps:List (Nat×Operand)) (qs:List (Nat×List X)),gN f ps=some qs->RepParts k ow qs (ps.map λp=>(p.1,g p.2))
 | [],qs,h=>by simp only[gN,ae] at h;subst h;exact .nil
 | (i,x)::r,qs,h=>by
  simp only[gN] at h
  split at h
  .rename_i l q hl hq
   simp only[ae] at h
   subst h
   obtain⟨h1,h2⟩:=aeJ hl (hf x)
   exact .cons h1 h2 (al3 hf r q hq)
  .cases h
theorem amo(place:Nat->Option (Nat×Nat)):∀ {qs:List (Nat×List X)} {ps:List (Nat×Value)} {cells r:List X} {vals:Array Value},RepParts k ow qs ps->aah place cells qs=some r ->
  aV k ow cells vals.toList->(∀ u∈vals.toList,u.oneCell'=true)->∃ o,Instr.fill place vals ps=some o/\aV k ow r o.toList/\∀ u∈o.toList,u.oneCell'=true:=by
 intro qs ps cells r vals hp
 induction hp generalizing cells vals with
 | nil =>
  intro h hc h1
  simp only[aah,ae] at h
  subst h
  exact⟨vals,rfl,hc,h1⟩
 | @cons i xs v qs ps hx hx1 hr ih =>
  intro h hc h1
  simp only[aah] at h
  split at h
  .cases h
  .rename_i off size hpl
   split at h
   .rename_i hsz
    have hlx:v.cells.size=xs.length:=by have:=hx.length;simpa using this
    have hlc:vals.size=cells.length:=by have:=hc.length;simpa using this
    simp only[Instr.fill,hpl]
    have hcond:(decide (v.cells.size≠size)||decide (off+v.cells.size>vals.size))=false:=by
     simp
     omega
    have hset:=aJc v.cells.toList vals off (by simp;omega)
    simp only[cN] at hset
    have hne:¬ (v.cells.size≠size\/off+v.cells.size>vals.size):=by omega
    have hlv:v.cells.toList.length=size:=by simp;omega
    obtain⟨o,ho,h2,h3⟩:=ih (vals:=v.cells.zipIdx.foldl (λcs (c,j)=>cs.setIfInBounds (off+j) c) vals) h
     (by
      rw[hset,hlv]
      have e:(off+size)=off+size:=rfl
      exact ((hc.takeN off).append hx).append (hc.dropN (off+size)))
     (by
      rw[hset]
      intro u hu
      simp only[bS] at hu
      rcases hu with (hu|hu)|hu
      .exact h1 u (aa0 hu)
      .exact hx1 u hu
      .exact h1 u (eH hu))
    refine⟨o,?_,h2,h3⟩
    rw[← ho]
    simp[hne]
   .cases h
theorem agV(l:List Value):aV k ow (l.map abK) l:=by
 induction l with
 | nil=>simp[aV]
 | cons v r ih=>simp only[bd,aV];exact⟨v,r,rfl,ati k ow v,ih⟩
theorem azw{t:Nat}{d:TD}{qs:List (Nat×List X)}{ps:Array (Nat×Value)}{fs:Array Field}{xs:List X}(hT:TT.of P t=some d)(hd:d.und=.struct fs)
  (hp:RepParts k ow qs ps.toList) (h:aah (λi=>d.fields[i]?) (fU d) qs=some xs):∃ u,(Instr.build t ps).run P w=.ok u w/\aL k ow (.agg xs) u:=by
 have ok:=TT.of_ok hT
 obtain⟨z,hz,hz2⟩:=ok.run_zero w
 have hru:=ok.run_und w
 rw[hd] at hru
 have hfl:=ok.fields
 rw[hd] at hfl
 obtain⟨o,ho,h2,h3⟩:=amo (k:=k) (ow:=ow) (λi=>d.fields[i]?) (vals:=z.cells) hp h (by rw[hz2];exact agV _) (by rw[hz2];exact ok.one)
 refine⟨.agg o,?_,by simp only[aL];exact⟨o.toList,rfl,h3,h2⟩⟩
 have hpl:(λx:Nat=>d.fields.toArray[x]?)=λi=>d.fields[i]?:=by funext i;simp
 simp only[fieldsOf] at hfl
 simp[Instr.build,hz,hru,Array.mapM_eq_mapM_toList,run_places w _ _ hfl,ho]
theorem aoR{t e n:Nat}{d de:TD}{qs:List (Nat×List X)}{ps:Array (Nat×Value)}{xs:List X}(hT:TT.of P t=some d)(hd:d.und=.array n e)(hE:TT.of P e=some de)
  (hp:RepParts k ow qs ps.toList) (h:aah (λi=>some (i*de.size,de.size)) (fU d) qs=some xs):∃ u,(Instr.build t ps).run P w=.ok u w/\aL k ow (.agg xs) u:=by
 have ok:=TT.of_ok hT
 obtain⟨z,hz,hz2⟩:=ok.run_zero w
 have hru:=ok.run_und w
 rw[hd] at hru
 obtain⟨o,ho,h2,h3⟩:=amo (k:=k) (ow:=ow) (λi=>some (i*de.size,de.size)) (vals:=z.cells) hp h (by rw[hz2];exact agV _) (by rw[hz2];exact ok.one)
 refine⟨.agg o,?_,by simp only[aL];exact⟨o.toList,rfl,h3,h2⟩⟩
 simp[Instr.build,hz,hru,(TT.of_ok hE).run_size,ho]
theorem aoW(zs:List Value)(d:Value):∀ n,(List.range (n*zs.length)).map (λi=>zs.getD (i % zs.length) d)=(List.replicate n zs).flatten
 | 0=>by simp
 | n+1=>by
  have ih:=aoW zs d n
  have hz:(List.range zs.length).map (λi=>zs.getD (i % zs.length) d)=zs:=by
   apply List.ext_getElem aT
   intro i h1 h2
   simp at h1
   simp[Nat.mod_eq_of_lt h1,h1]
  have hs:(n+1)*zs.length=zs.length+n*zs.length:=by rw[adZ,abY,fw]
  rw[hs,List.range_add,aae,hz,agR,List.replicate_succ,ag4,← ih]
  congr 1
  apply fm
  intro i _
  simp
theorem Sim.row(h:Sim M0 k ow done w0 w N s tmps){row:Option Nat}{w':World}{v':Value}{e z n':Nat}{us:List Value}{cs:List C}{c ix i:Nat}
  (hrow:∀ g,row=some g->agk M0.mod w0 g/\(∀ r,k.μ r=some g->gv s.objs 0 r)/\(∀ t v e z n,ow t=some (v,e,z,n)->v.ownBlock≠some g)/\∀ o u,k.m g o=some u->us[o]?=some u)
  (hg:w.grownBy w' row) (hown:w'.ownsRow 0 e z v' n' us) (hv:v'.ownBlock=row\/(v'.ownBlock=some w.heap.size/\row=none))
  (hcs:bA k.m cs us) (h1:∀ u∈us,u.oneCell'=true) (ht:ow (.nm c ix i)=none) (hf:c<s.clk\/(c=s.clk/\done ix)) :
  ∃ k',k.le k'/\Sim M0 k' (ow.add (.nm c ix i) (v',e,z,n')) done w0 w' N s tmps/\aL k' (ow.add (.nm c ix i) (v',e,z,n')) (.own (.nm c ix i) e z cs n') v':=by
 have hmlt:∀ b o u,k.m b o=some u->b<w.heap.size:=λb o u hm=>agq h.mem hm
 let k':Know:={m:=λb o=>if some b=v'.ownBlock then us[o]? else k.m b o,μ:=k.μ}
 have hm':∀ b o,k'.m b o=if some b=v'.ownBlock then us[o]? else k.m b o:=λ_ _=>rfl
 have hle:k.le k':=by
  refine⟨λb o u hm=>?_,λ_ _ h=>h⟩
  rw[hm']
  split
  .rename_i hb
   rcases hv with hv|⟨hv,_⟩
   .exact (hrow b (by rw[← hv,← hb])).2.2.2 o u hm
   .rw[hv] at hb
    have:=hmlt b o u hm
    simp only[ae] at hb
    omega
  .exact hm
 have hbw:Keeps M0.mod w0 w':=⟨hg.os.trans h.below.os,hg.tape.trans h.below.tape,hg.output.trans h.below.output,gU h.below.size hg.size,
  λb hb hm=>(hg.block b (cD hb h.below.size) (λe=>by rcases (hrow b e.symm).1 with h1|h1;omega;exact hm h1)).trans (h.below.block b hb hm)⟩
 have hblk:∀ b,b<w.heap.size->some b≠row->w'.heap[b]?=w.heap[b]?:=hg.block
 have hmem:∀ b o u,k'.m b o=some u->w'.cell? ⟨b,o,none⟩=some u/\u.oneCell'=true:=by
  intro b o u hm
  rw[hm'] at hm
  split at hm
  .rename_i hb
   refine⟨?_,h1 u (co hm)⟩
   have:=hown.cells (g:=b) hb.symm o u hm
   rwa [Addr.add_lit,cB] at this
  .rename_i hb
   obtain⟨g1,g2⟩:=h.mem b o u hm
   have hlt:=hmlt b o u hm
   have hne:some b≠row:=by
    rcases hv with hv|⟨_,hv⟩
    .rw[← hv];exact hb
    .rw[hv];simp
   exact⟨(World.cell?_of_block (a:=⟨b,o,none⟩) (hblk b hlt hne)).trans g1,g2⟩
 have hnew:∀ g,v'.ownBlock=some g->agk M0.mod w0 g/\(∀ r,k.μ r=some g->gv s.objs 0 r)/\(∀ t v e z n,ow t=some (v,e,z,n)->v.ownBlock≠some g):=by
  intro g hgo
  rcases hv with hv|⟨hv,_⟩
  .obtain⟨a,b,c,_⟩:=hrow g (by rw[← hv,hgo]);exact⟨a,b,c⟩
  .have e1:g=w.heap.size:=aG (hgo.symm.trans hv)
   subst e1
   refine⟨.inl h.below.size,λr hr=>?_,λt v e z n ho hb=>?_⟩
   .have:=(h.lt hr).2.1
    exact absurd this aC
   .have:=(h.tlt ho hb).2
    omega
 have hSim:Sim M0 k' ow done w0 w' N s tmps:={
  good:=h.good
  size:=h.size
  cells:=h.cells
  below:=hbw
  fr:=λj=>aL.mono hle (λ_ _ h=>h) _ _ (h.fr j)
  mem:=hmem
  obj:=λr ob hr=>by
   obtain⟨b,g1,g2,g3,g4,g5⟩:=h.obj r ob hr
   refine⟨b,g1,g2,cD g3 hg.size,λhl o=>?_,?_⟩
   .have hnb:some b≠v'.ownBlock:=λe=>ahn ((hnew b e.symm).2.1 r g1) ⟨ob,hr,hl⟩
    rw[hm',aA hnb];exact g4 hl o
   .by_cases e:some b=row
    .obtain⟨ty,cs,q1,q2⟩:=(hrow b e.symm).2.1 r g1
     obtain rfl:=aG (q1.symm.trans hr)
     exact .inl (cr aC)
    .exact (g5.keep (hblk b g3 e)).mono hle (λ_ _ h=>h)
  dom:=h.dom
  inj:=h.inj
  tok:=λt v e z n ht=>by
   obtain⟨⟨xs,g1⟩,g2⟩:=h.tok t v e z n ht
   refine⟨⟨xs,acE (λg hgo hlt=>hblk g hlt (λe=>(hrow g e.symm).2.2.1 t v _ _ _ ht hgo)) g1⟩,λg hgo=>⟨(g2 g hgo).1,λo ho=>?_,(g2 g hgo).2.2⟩⟩
   rw[hm',aA (λe=>(hnew g e.symm).2.2 t v _ _ _ ht hgo)]
   exact (g2 g hgo).2.1 o ho
  tokne:=h.tokne
  fresh:=h.fresh
  m0:=λb o u hm hb hmd=>by
   rw[hm',aA (λe=>by rcases (hnew b e.symm).1 with h1|h1;omega;exact hmd h1)] at hm
   exact h.m0 b o u hm hb hmd}
 refine⟨k',hle,hSim.add ht hown (λg hgo=>⟨(hnew g hgo).1,λo ho=>?_,(hnew g hgo).2.1⟩) (λt' v2 e2 z2 n2 h2 g hgo=>(hnew g hgo).2.2 t' v2 e2 z2 n2 h2) hf,?_⟩
 .rw[hm',aE hgo.symm]
  rw[bc]
  rw[hown.1]
  exact ho
 .have hlen:=hcs.length
  have hk2:=bA.mono hle.1 _ _ hcs
  simp only[aL,Rep]
  refine⟨by simp[Own.add],by rw[← hlen,hown.1],?_⟩
  rcases hown.2 with ⟨rfl,rfl⟩|⟨g,cap,cur,rfl,_,_,hcap,_,_,_⟩
  .have:us=[]:=cr (by rw[hown.1];simp)
   subst this
   exact⟨none,0,[],rfl,am _,hk2,λh=>absurd rfl h⟩
  .refine⟨some ⟨g,0,none⟩,cap,us,rfl,hcap,hk2,λ_=>⟨g,0,rfl,λi u hu=>?_⟩⟩
   rw[hm']
   simp only[Value.ownBlock,ah,cB]
   exact hu
end
def alX(us:List Value):Value:=match us with
 | [u]=>u
 | us=>.tuple us.toArray
def agB(pan:Bool)(us:List Value)(e:Ending):Prop:=match pan with
 | false=>e=.returned (alX us)
 | true=>∃ u,us=[u]/\e=.panicked [{v:=u,recovered:=false}]
def abi(k:Know)(ow:Own)(b:Nat):Prop:=(∃ r,k.μ r=some b)\/∃ t v e z n,ow t=some (v,e,z,n)/\v.ownBlock=some b
def abu(P:Program)(G:GP)(f:Nat)(xs:List X)(obs:List Ob)(an:An):Prop :=
 ∀ fn,P.funcs[f]?=some fn->∀ (k:Know) (ow:Own) (w:World) (vs:List Value),Hp ⟨G,k.m,abi k ow⟩ k ow w w obs ->
  (∀ t p,ow t=some p->t.older 1 λ_=>False)->(∀ r off p,ow (.cell r off)=some p->r<obs.length)->aV k ow xs vs ->
  Calls P f vs.toArray w λe w'=>∃ k' ow' us,agB an.pan us e/\Hp ⟨G,k.m,abi k ow⟩ k' ow' w w' an.obs/\k.m.le k'.m/\obs.length<=an.obs.length/\(∀ r,r<obs.length->k'.μ r=k.μ r) /\
   (∀ t p,ow' t=some p->t.older 1 λ_=>False)/\(∀ r off p,ow' (.cell r off)=some p->r<an.obs.length)/\aV k' ow' an.rs us
section
variable {P:Program} {M0:Base} {k:Know} {ow:Own} {done:Nat->Prop} {w0 w:World} {N:Nat} {s:S} {tmps:Array Value}
theorem ap4(hs:Sim M0 k ow done w0 w N s tmps){t e n:Nat}{d:TD}{qs:List (Nat×List X)}{ps:Array (Nat×Value)}{xs:List X}{cs:List C}{c ix i:Nat}
  (he:elemOf (TT.of P) t=some (e,d)) (hn:n*d.size<=16777216) (hz:0<d.size) (hp:RepParts k ow qs ps.toList)
  (h:aah (λi=>some (i*d.size,d.size)) ((List.replicate n (fU d)).flatten) qs=some xs) (hcs:X.rds xs=some cs) (ht:ow (.nm c ix i)=none) (hf:c<s.clk\/(c=s.clk/\done ix)) :
  ∃ u w' k' ow',(Instr.buildSlice t n ps).run P w=.ok u w'/\k.le k'/\Sim M0 k' ow' done w0 w' N s tmps/\aL k' ow' (.own (.nm c ix i) e d.size cs n) u:=by
 obtain⟨hund,hd⟩:=ahH he
 have ok:=TT.of_ok hd
 have hru:=aiA (w:=w) hund
 obtain⟨z,hzr,hz2⟩:=ok.run_zero w
 have hzl:z.cells.toList.length=d.size:=by rw[hz2];exact ok.len
 let zs:Array Value:=if n*d.size=0 then #[] else z.cells
 let vals:Array Value:=(Array.range (n*d.size)).map λi=>zs[i % zs.size]!
 have hvals:vals.toList=(List.replicate n d.zero).flatten:=by
  by_cases h0:n*d.size=0
  .have hn0:n=0:=by rcases aaE n with g|g;exact g;have:=ahw g hz;omega
   subst hn0
   simp[vals]
  .have hzs:zs=z.cells:=by simp only[zs,aA h0]
   have hr:=aoW d.zero default n
   have hsz:zs.size=d.size:=by rw[hzs];simpa using hzl
   rw[← hr,ok.len]
   simp only[vals,ac7,Array.toList_range]
   apply fm
   intro i _
   rw[hsz]
   have hlt:i % d.size<d.size:=Nat.mod_lt _ hz
   have h1:i % d.size<zs.size:=by rw[hsz];exact hlt
   rw[getElem!_pos zs _ h1]
   have:zs.toList=d.zero:=by rw[hzs];exact hz2
   rw[ba,← this]
   simp[h1]
 have hz1:∀ u∈vals.toList,u.oneCell'=true:=by
  rw[hvals]
  intro u hu
  obtain⟨l,hl,hul⟩:=List.mem_flatten.1 hu
  rw[List.mem_replicate] at hl
  exact ok.one u (hl.2▸hul)
 have hzx:aV k ow ((List.replicate n (fU d)).flatten) vals.toList:=by
  rw[hvals]
  clear hvals hz1 h hn
  induction n with
  | zero=>simp[aV]
  | succ n ih =>
   simp only[List.replicate_succ,ag4]
   exact (agV _).append ih
 obtain⟨o,ho,h2,h3⟩:=amo (k:=k) (ow:=ow) _ hp h hzx hz1
 have hcl:=ajK _ _ _ hcs h2
 have hol:o.size=n*d.size:=by
  have e1:=h2.length
  have e2:∀ (qs:List (Nat×List X)) (cells r:List X),aah (λi=>some (i*d.size,d.size)) cells qs=some r->r.length=cells.length:=by
   intro qs
   induction qs with
   | nil=>intro cells r hr;simp only[aah,ae] at hr;rw[hr]
   | cons q qs ih =>
    intro cells r hr
    obtain⟨i,xs⟩:=q
    simp only[aah] at hr
    split at hr
    .rename_i hc
     rw[ih _ _ hr]
     simp
     omega
    .cases hr
  have e3:=e2 _ _ _ h
  have e4:((List.replicate n (fU d)).flatten).length=n*d.size:=by
   simp[List.length_flatten,fU,ok.len]
  simp only[eL] at e1
  omega
 have hrow:(w.alloc (.cells o e)).ownsRow 0 e d.size (.slice (some ⟨w.heap.size,0,none⟩) n n) n o.toList :=
  ⟨by simpa using hol,.inr ⟨w.heap.size,n,o,rfl,bn _,heap_alloc_new w _,am _,by
   have:n<=n*d.size:=Nat.le_mul_of_pos_right n hz
   simp only[maxLen];omega,hol,by rw[aaA (by simp;omega)]⟩⟩
 obtain⟨k',g1,g2,g3⟩:=hs.row (row:=none) (w':=w.alloc (.cells o e)) (c:=c) (ix:=ix) (i:=i) (λg hg=>by cases hg) (World.grownBy_alloc w _ none) hrow (.inr ⟨rfl,rfl⟩) hcl h3 ht hf
 refine⟨_,_,k',_,?_,g1,g2,g3⟩
 have hvdef:(Array.map (λx=>(if n*d.size=0 then #[] else z.cells)[x % (if n*d.size=0 then (#[]:Array Value) else z.cells).size]!) (Array.range (n*d.size)))=vals:=rfl
 by_cases h0:n*d.size=0
 .simp only[Instr.buildSlice,Sem.run_bind,hru,Result.andThen_ok,ok.run_size,h0,aA (show ¬ (0:Nat)>2 ^ 24 by omega),Sem.run_pure,ah]
  have hv0:vals=Array.map (λx=>(#[]:Array Value)[x % (#[]:Array Value).size]!) (Array.range 0):=by simp only[vals,zs,h0,ah]
  rw[hv0] at ho
  rw[ho]
  rfl
 .simp only[Instr.buildSlice,Sem.run_bind,hru,Result.andThen_ok,ok.run_size,aA (show ¬ n*d.size>2 ^ 24 by omega),Sem.run_pure,h0,ap,hzr]
  have hv0:vals=Array.map (λx=>z.cells[x % z.cells.size]!) (Array.range (n*d.size)):=by simp only[vals,zs,h0,ap]
  rw[hv0] at ho
  rw[ho]
  rfl
theorem aiR{t ty e:Nat}{d:TD}(hund:P.underlying t=some (.slice e))(hd:TT.of P e=some d)(hz:0<d.size){B:Nat}{v:Value}{n:Nat}{xs:List Value}(hown:w.ownsRow B e d.size v n xs)
  {A:Option Addr} {m c:Nat} {news:List Value} (hl:news.length=m*d.size) (hA:news≠[]->∃ b o,A=some ⟨b,o,none⟩/\∀ i u,news[i]?=some u->w.cell? ⟨b,o+i,none⟩=some u)
  (h1:∀ u∈news,u.oneCell'=true) (hLIM:n+m<=LIM) (hby:d.bytes<=32768) (hbase:B<=w.heap.size) :
  ∃ v' w',(Builtin.append_ #[t,t] ty #[v,.slice A m c]).run P w=.ok v' w'/\w'.ownsRow B e d.size v' (n+m) (xs++news) /\
   ((w.grownBy w' v.ownBlock/\v'.ownBlock=v.ownBlock)\/(w.grownBy w' none/\v'.ownBlock=some w.heap.size)):=by
 obtain⟨i,hi,hsz,hbi,z,hzz,hzl,_⟩:=(TT.of_ok hd).info
 have hzsz:z.cells.size=i.size:=by
  have:=(TT.of_ok hd).len
  rw[← hzl] at this
  rw[hsz]
  simpa using this
 unfold LIM at hLIM
 have hbytes:(n+m)*i.bytes<=140737488355328:=by
  rw[hbi]
  have:(n+m)*d.bytes<=4294967296*32768:=Nat.mul_le_mul hLIM hby
  omega
 have h63:n+m<=maxLen:=by simp only[maxLen];omega
 have hlen:(xs++news).length=(n+m)*d.size:=by rw[bp,hown.1,hl,adZ]
 by_cases hm:m=0
 .subst hm
  have hn:news=[]:=cr (by simpa using hl)
  subst hn
  refine⟨v,w,?_,by simpa using hown,.inl ⟨⟨rfl,rfl,rfl,am _,λ_ _ _=>rfl⟩,rfl⟩⟩
  have hf:(Builtin.firstCells d.size 0 (.slice A 0 c)).run P w=.ok #[] w:=by
   cases A <;> simp[Builtin.firstCells,loadCells,loadCellsFrom]
  rcases hown.2 with ⟨rfl,rfl⟩|⟨g,cap,cur,rfl,_,_,hcap,_⟩
  .simp[Builtin.append_,run_underlying hund,(TT.of_ok hd).run_size,Builtin.lenOf,hf]
  .simp[Builtin.append_,run_underlying hund,(TT.of_ok hd).run_size,Builtin.lenOf,hf,hcap,storeCells]
 .have hne:news≠[]:=by
   intro e0
   rw[e0] at hl
   have:0<m*d.size:=ahw aC hz
   simp at hl
   omega
  obtain⟨b,o,rfl,hcells⟩:=hA hne
  have hnews:∀ j u,news[j]?=some u->w.cell? ((⟨b,o,none⟩ : Addr).add j)=some u:=λj u hu=>by rw[Addr.add_lit];exact hcells j u hu
  have grown:∀ (old:Nat),old<n+m ->
    (w.drew.alloc (.cells (xs.toArray++news.toArray++Builtin.zeroCells z.cells (grownCap w (n+m) old e-(n+m))) e)).ownsRow B e d.size
     (.slice (some ⟨w.heap.size,0,none⟩) (n+m) (grownCap w (n+m) old e)) (n+m) (xs++news) /\
    w.grownBy (w.drew.alloc (.cells (xs.toArray++news.toArray++Builtin.zeroCells z.cells (grownCap w (n+m) old e-(n+m))) e)) none:=by
   intro old ho
   have hge:=grownCap_ge w (n+m) old e
   have hcm:grownCap w (n+m) old e<=maxLen:=grownCap_le_maxLen w (n+m) old e h63
   refine⟨⟨hlen,.inr ⟨w.heap.size,_,_,rfl,hbase,heap_alloc_new w.drew _,hge,hcm,?_,?_⟩⟩,⟨rfl,rfl,rfl,by simp,λk hk _=>Go.RowKit.Below.heap_alloc w.drew _ k hk⟩⟩
   .simp only[Array.size_append,dZ,size_zeroCells,hzsz,hsz,hown.1,hl,← adZ]
    congr 1
    omega
   .simp only[aas,eO]
    rw[← eO,← hlen]
    exact acG
  rcases hown.2 with ⟨rfl,rfl⟩|⟨g,cap,cur,rfl,hbg,hg,hnc,hcm,hcs,htake⟩
  .have hx:xs=[]:=cr (by simpa using hown.1)
   subst hx
   have hr:=run_append_nil (P:=P) w t ty e i z hund hi hzz ⟨b,o,none⟩ m c news (by rw[hsz];exact hl) hnews aC aC (by have hb:=hbytes;simp only[cB] at hb;omega)
   have hgr:=grown 0 aC
   simp only[cB,db,aaF] at hgr ⊢
   exact⟨_,_,hr,hgr.1,.inr ⟨hgr.2,rfl⟩⟩
  .by_cases hroom:n+m<=cap
   .have hfit:n*i.size+news.length<=cur.size:=by rw[hl,hcs,hsz,← adZ];exact Nat.mul_le_mul_right _ hroom
    have hr:=run_append_room (P:=P) w t ty e i hund hi g n cap cur hg ⟨b,o,none⟩ m c news (by rw[hsz];exact hl) hnews h1 hroom hfit
    refine⟨_,_,hr,⟨hlen,.inr ⟨g,cap,_,rfl,hbg,setRow_heap w g cur _ e _ hg,hroom,hcm,?_,?_⟩⟩,.inl ⟨⟨rfl,rfl,rfl,by simp,λk hk hkg=>setRow_other w g k _ (λe=>hkg (by simp[Value.ownBlock,e]))⟩,rfl⟩⟩
    .rw[hsz] at hfit
     simp only[dZ,bp,abZ,cU,eL,hsz]
     omega
    .rw[hsz,htake,← hlen]
     exact acG
   .have holds:∀ j u,xs[j]?=some u->w.cell? ((⟨g,0,none⟩ : Addr).add j)=some u:=hown.cells (g:=g) rfl
    have hr:=run_append_grow (P:=P) w t ty e i z hund hi hzz ⟨g,0,none⟩ n cap xs (by rw[hsz];exact hown.1) holds ⟨b,o,none⟩ m c news (by rw[hsz];exact hl) hnews aC aC (growslice_fits aC hbytes)
    have hgr:=grown cap aC
    exact⟨_,_,hr,hgr.1,.inr ⟨hgr.2,rfl⟩⟩
theorem aoQ{t u ty e:Nat}{d:TD}(hund:P.underlying t=some (.slice e))(hu:P.underlying u=some .string)(hd:TT.of P e=some d)(hz:d.size=1){B:Nat}{v:Value}{n:Nat}{xs:List Value}(hown:w.ownsRow B e d.size v n xs)
  (s:ByteArray) (hLIM:n+s.size<=LIM) (hby:d.bytes<=32768) (hbase:B<=w.heap.size) :
  ∃ v' w',(Builtin.append_ #[t,u] ty #[v,.string s]).run P w=.ok v' w'/\w'.ownsRow B e d.size v' (n+s.size) (xs++Lib.strCells s) /\
   ((w.grownBy w' v.ownBlock/\v'.ownBlock=v.ownBlock)\/(w.grownBy w' none/\v'.ownBlock=some w.heap.size)):=by
 obtain⟨i,hi,hsz,hbi,z,hzz,hzl,_⟩:=(TT.of_ok hd).info
 have hi1:i.size=1:=hsz.trans hz
 have hzsz:z.cells.size=i.size:=by
  have:=(TT.of_ok hd).len
  rw[← hzl] at this
  rw[hsz]
  simpa using this
 unfold LIM at hLIM
 have hbytes:(n+s.size)*i.bytes<=140737488355328:=by
  rw[hbi]
  have:(n+s.size)*d.bytes<=4294967296*32768:=Nat.mul_le_mul hLIM hby
  omega
 have hxl:xs.length=n:=by have:=hown.1;rw[hz] at this;simpa using this
 have h63:n+s.size<=maxLen:=by simp only[maxLen];omega
 have hlen:(xs++Lib.strCells s).length=(n+s.size)*d.size:=by rw[bp,hxl,Lib.strCells_length,hz,adY]
 by_cases hm:s.size=0
 .have hn:Lib.strCells s=[]:=cr (by rw[Lib.strCells_length];exact hm)
  rw[hn,hm]
  refine⟨v,w,?_,by simpa using hown,.inl ⟨⟨rfl,rfl,rfl,am _,λ_ _ _=>rfl⟩,rfl⟩⟩
  have hf:(Builtin.firstCells 1 0 (.string s)).run P w=.ok #[] w:=by
   have:=Lib.run_firstCells_string (P:=P) w 1 s
   rw[hm,hn] at this
   exact this
  rcases hown.2 with ⟨rfl,rfl⟩|⟨g,cap,cur,rfl,_,_,hcap,_⟩
  .simp[Builtin.append_,run_underlying hund,run_underlying hu,sizeOf,typeInfo,hi,hi1,Builtin.lenOf,hm,hf]
  .simp[Builtin.append_,run_underlying hund,run_underlying hu,sizeOf,typeInfo,hi,hi1,Builtin.lenOf,hm,hf,hcap,storeCells]
 .have grown:∀ (old:Nat),old<n+s.size ->
    (w.drew.alloc (.cells (xs.toArray++(Lib.strCells s).toArray++Builtin.zeroCells z.cells (grownCap w (n+s.size) old e-(n+s.size))) e)).ownsRow B e d.size
     (.slice (some ⟨w.heap.size,0,none⟩) (n+s.size) (grownCap w (n+s.size) old e)) (n+s.size) (xs++Lib.strCells s) /\
    w.grownBy (w.drew.alloc (.cells (xs.toArray++(Lib.strCells s).toArray++Builtin.zeroCells z.cells (grownCap w (n+s.size) old e-(n+s.size))) e)) none:=by
   intro old ho
   have hge:=grownCap_ge w (n+s.size) old e
   have hcm:grownCap w (n+s.size) old e<=maxLen:=grownCap_le_maxLen w (n+s.size) old e h63
   refine⟨⟨hlen,.inr ⟨w.heap.size,_,_,rfl,hbase,heap_alloc_new w.drew _,hge,hcm,?_,?_⟩⟩,⟨rfl,rfl,rfl,by simp,λk hk _=>Go.RowKit.Below.heap_alloc w.drew _ k hk⟩⟩
   .simp only[Array.size_append,dZ,size_zeroCells,hzsz,hi1,hz,hxl,Lib.strCells_length,adY]
    omega
   .simp only[aas,eO]
    rw[← eO,← hlen]
    exact acG
  rcases hown.2 with ⟨rfl,rfl⟩|⟨g,cap,cur,rfl,hbg,hg,hnc,hcm,hcs,htake⟩
  .have hx:xs=[]:=cr hxl
   subst hx
   have hr:=run_append_nil_string (P:=P) w t u ty e i z hund hu hi hzz s aC aC (by have hb:=hbytes;simp only[cB] at hb;omega)
   have hgr:=grown 0 aC
   have he:s.data.map (λb=>Value.int .u8 b.toNat)=(Lib.strCells s).toArray:=by
    apply af3
    simp[Lib.strCells]
   rw[he] at hr
   simp only[cB,db,aaF] at hgr ⊢
   exact⟨_,_,hr,hgr.1,.inr ⟨hgr.2,rfl⟩⟩
  .by_cases hroom:n+s.size<=cap
   .have hfit:n+s.size<=cur.size:=by rw[hcs,hz,adY];exact hroom
    have hr:=Lib.run_append_room_string (P:=P) w t u ty e i hund hu hi hi1 g n cap cur hg s hroom hfit
    refine⟨_,_,hr,⟨hlen,.inr ⟨g,cap,_,rfl,hbg,setRow_heap w g cur _ e _ hg,hroom,hcm,?_,?_⟩⟩,.inl ⟨⟨rfl,rfl,rfl,by simp,λk hk hkg=>setRow_other w g k _ (λe=>hkg (by simp[Value.ownBlock,e]))⟩,rfl⟩⟩
    .simp only[dZ,bp,abZ,cU,eL,Lib.strCells_length]
     omega
    .have ht:cur.toList.take n=xs:=by have:=htake;rw[hz,adY] at this;exact this
     rw[ht,← hlen]
     exact acG
   .have holds:∀ j u,xs[j]?=some u->w.cell? ((⟨g,0,none⟩ : Addr).add j)=some u:=hown.cells (g:=g) rfl
    have hr:=Lib.run_append_grow_string (P:=P) w t u ty e i z hund hu hi hzz ⟨g,0,none⟩ n cap xs (by rw[hi1,adY];exact hxl) holds s aC aC (growslice_fits aC hbytes)
    have hgr:=grown cap aC
    exact⟨_,_,hr,hgr.1,.inr ⟨hgr.2,rfl⟩⟩
theorem arr{m:Mem}(s:ByteArray):bA m (aj3 s) (Lib.strCells s):=by
 unfold aj3 Lib.strCells
 induction s.data.toList with
 | nil=>simp[bA]
 | cons b l ih =>
  simp only[bd,bA,Rep]
  exact⟨_,_,rfl,⟨rfl,rfl⟩,ih⟩
theorem aEp(hs:Sim M0 k ow done w0 w N s tmps){st xt ty el:Nat}{y:X}{d:TD}{ys:List C}{m:Nat}{vy:Value}(hund:P.underlying st=some (.slice el))(hd:TT.of P el=some d)(hpos:0<d.size)(hsl:aiK (TT.of P) st xt el y=some (ys,m))(hlen:ys.length=m*d.size)(hy:aL k ow y vy) :
  ∃ vs,bA k.m ys vs/\(∀ u∈vs,u.oneCell'=true)/\∀ {B:Nat} {v:Value} {n:Nat} {xs:List Value},w.ownsRow B el d.size v n xs->n+m<=LIM->d.bytes<=32768->B<=w.heap.size ->
   ∃ v' w',(Builtin.append_ #[st,xt] ty #[v,vy]).run P w=.ok v' w'/\w'.ownsRow B el d.size v' (n+m) (xs++vs)/\((w.grownBy w' v.ownBlock/\v'.ownBlock=v.ownBlock)\/(w.grownBy w' none/\v'.ownBlock=some w.heap.size)):=by
 unfold aiK at hsl
 split at hsl
 .rename_i hst
  subst hst
  have hy2:=aoM hsl hy
  simp only[Rep] at hy2
  obtain⟨A,cap,vs,rfl,hcap,hvl,hm⟩:=hy2
  have hA:vs≠[]->∃ b o,A=some ⟨b,o,none⟩/\∀ i u,vs[i]?=some u->w.cell? ⟨b,o+i,none⟩=some u:=λhne=>by
   obtain⟨b,o,ha,hc⟩:=hm hne
   exact⟨b,o,ha,λi u hu=>(hs.mem _ _ _ (hc i u hu)).1⟩
  have h1:∀ u∈vs,u.oneCell'=true:=λu hu=>by
   have hne:vs≠[]:=by rintro rfl;cases hu
   obtain⟨b,o,ha,hc⟩:=hm hne
   obtain⟨i,hi⟩:=List.mem_iff_getElem?.1 hu
   exact (hs.mem _ _ _ (hc i u hi)).2
  have hvlen:vs.length=m*d.size:=by rw[hvl.length];exact hlen
  exact⟨vs,hvl,h1,λhown hb1 hb2 hB=>aiR (P:=P) (w:=w) (ty:=ty) hund hd hpos hown hvlen hA h1 hb1 hb2 hB⟩
 .split at hsl
  .rename_i s'
   split at hsl
   .rename_i hc
    simp only[bT] at hsl
    obtain⟨rfl,rfl⟩:=hsl
    simp only[aL,Rep] at hy
    obtain⟨rfl,_⟩:=hy
    have hu:P.underlying xt=some .string:=by
     have:=avI hc.1
     cases hT:TT.of P xt with
     | none=>simp[hT] at this
     | some dd=>simp only[hT,aP,ae] at this;rw[← this];exact (TT.of_ok hT).und
    obtain⟨dd,hd1,_,hd2⟩:=u8D hc.2
    rw[hd] at hd1
    cases hd1
    exact⟨Lib.strCells s',arr s',Lib.strCells_oneCell s',λhown hb1 hb2 hB=>aoQ (P:=P) (w:=w) (ty:=ty) hund hu hd hd2 hown s' hb1 hb2 hB⟩
   .cases hsl
  .cases hsl
theorem axV(hs:Sim M0 k ow done w0 w N s tmps){st xt ty:Nat}{x y z:X}{v vy:Value}{c ix i:Nat}{e:Option Tk}(h:aaG (TT.of P) (.nm c ix i) st xt x y=some (z,e))(hek:∀ t,e=some t->t.isRow=false)(hx:aL k ow x v)(hy:aL k ow y vy)
  (ht:ow (.nm c ix i)=none) (hf:c<s.clk\/(c=s.clk/\done ix)) :
  ∃ u w' k' ow',(Builtin.append_ #[st,xt] ty #[v,vy]).run P w=.ok u w'/\k.le k'/\Sim M0 k' ow' done w0 w' N (s.drop e) tmps/\aL k' ow' z u:=by
 unfold aaG at h
 split at h
 .rename_i el d he
  split at h
  .rename_i ys m hsl
   obtain⟨hund,hd⟩:=ahH he
   have hund':P.underlying st=some (.slice el):=by
    cases hT:TT.of P st with
    | none=>simp[hT] at hund
    | some dd=>simp only[hT,aP,ae] at hund;rw[← hund];exact (TT.of_ok hT).und
   split at h
   .rename_i hc
    obtain⟨hlen,hpos⟩:=hc
    obtain⟨vs,hvl,h1,hrun⟩:=aEp (ty:=ty) hs hund' hd hpos hsl hlen hy
    split at h
    .-- nil
     split at h
     .rename_i hb
      simp only[bT] at h
      obtain⟨rfl,rfl⟩:=h
      simp only[aL] at hx
      subst hx
      obtain⟨v',w',hr,hown,hcase⟩:=hrun (World.ownsRow_nil w 0 el d.size) (by simpa using hb.1) hb.2 (bn _)
      simp only[cB,db] at hown
      have hcase':(v'.ownBlock=none\/v'.ownBlock=some w.heap.size)/\w.grownBy w' none:=by
       rcases hcase with ⟨g1,g2⟩|⟨g1,g2⟩
       .exact⟨.inl g2,g1⟩
       .exact⟨.inr g2,g1⟩
      obtain⟨k',g1,g2,g3⟩:=hs.row (row:=none) (w':=w') (v':=v') (c:=c) (ix:=ix) (i:=i) (λg hg=>by cases hg) hcase'.2 hown (hcase'.1.imp id (λh=>⟨h,rfl⟩)) hvl h1 ht hf
      exact⟨v',w',k',_,hr,g1,g2,g3⟩
     .cases h
    .rename_i t' e' z' cs n
     split at h
     .rename_i hb
      obtain⟨rfl,rfl,hb1,hb2⟩:=hb
      simp only[bT] at h
      obtain⟨rfl,rfl⟩:=h
      simp only[aL] at hx
      obtain⟨ho,hcl,hrep⟩:=hx
      obtain⟨⟨xs,hown⟩,htok⟩:=hs.tok _ _ _ _ _ ho
      have hxs:bA k.m cs xs:=by
       simp only[Rep] at hrep
       obtain⟨a,cp,us,rfl,_,hul,hum⟩:=hrep
       have:us=xs:=by
        have e1:us.length=xs.length:=by rw[hul.length,hown.1,hcl]
        apply abD
        intro i
        by_cases hi:i<us.length
        .have hne:us≠[]:=by rintro rfl;simp at hi
         obtain⟨b,o,rfl,hc⟩:=hum hne
         rcases hown.2 with ⟨h0,_⟩|⟨g,cap2,cur,hv,_⟩
         .cases h0
         .simp only[Value.slice.injEq,ae,Addr.mk.injEq] at hv
          obtain⟨⟨rfl,rfl,_⟩,_,rfl⟩:=hv
          have hu:us[i]?=some us[i]:=by simp[hi]
          have hc1:=(hs.mem _ _ _ (hc i _ hu)).1
          have hx2:xs[i]?=some (xs[i]'(by omega)):=by simp[show i<xs.length by omega]
          have hc2:=hown.cells (g:=b) rfl i _ hx2
          rw[Addr.add_lit] at hc2
          rw[hc1] at hc2
          rw[hu,hx2]
          exact hc2
        .rw[bc aC,bc aC]
       rw[← this]
       exact hul
      have hx1:∀ u∈xs,u.oneCell'=true:=by
       intro u hu
       simp only[Rep] at hrep
       obtain⟨a,cp,us,rfl,_,hul,hum⟩:=hrep
       obtain⟨i,hi⟩:=List.mem_iff_getElem?.1 hu
       have hlt:i<xs.length:=by
        rcases av i xs.length with g|g
        .exact g
        .rw[bc g] at hi;cases hi
       have hne:us≠[]:=by
        rintro rfl
        have e1:=hul.length
        rw[hown.1,← hcl,← e1] at hlt
        simp at hlt
       obtain⟨b,o,rfl,hc⟩:=hum hne
       have hlu:i<us.length:=by rw[hul.length,hcl,← hown.1];exact hlt
       have hc1:=hs.mem _ _ _ (hc i _ (aO hlu))
       rcases hown.2 with ⟨h0,_⟩|⟨g,cap2,cur,hv,_⟩
       .cases h0
       .simp only[Value.slice.injEq,ae,Addr.mk.injEq] at hv
        obtain⟨⟨rfl,rfl,_⟩,_,rfl⟩:=hv
        have hc2:=hown.cells (g:=b) rfl i _ hi
        rw[Addr.add_lit,hc1.1] at hc2
        have:=aG hc2
        rw[← this]
        exact hc1.2
      obtain⟨v',w',hr,hown',hcase⟩:=hrun hown hb1 hb2 (bn _)
      have hsd:=hs.del t' (hek t' rfl)
      have hdead:∀ g,v.ownBlock=some g->∀ r,k.μ r=some g->gv (s.drop (some t')).objs 0 r:=λg hg r hr=>by
       obtain⟨ty,rs,q1,q2⟩:=((htok g hg).2.2 r hr).1
       cases rs with
       | nil=>exact⟨ty,[],by simp[S.drop,cd,q1,Ob.drop],am _⟩
       | cons a rs =>
        exfalso
        have hnone:=(hs.toHp.lt hr).2.2 ⟨_,q1,rfl⟩
        simp only[Rep] at hrep
        obtain⟨a',cp,us,rfl,_,hul,hum⟩:=hrep
        have hpos':0<us.length:=by rw[hul.length,hcl];simp only[aX] at q2;omega
        have hne:us≠[]:=by rintro rfl;simp at hpos'
        obtain⟨b,o,rfl,hc⟩:=hum hne
        have hc0:=hc 0 _ (aO hpos')
        simp only[Value.ownBlock,ae] at hg
        subst hg
        rw[hnone] at hc0
        cases hc0
      have hcells:∀ g o u,v.ownBlock=some g->k.m g o=some u->(xs++vs)[o]?=some u:=by
       intro g o u hg hm2
       have hlt:o<n*d.size:=by
        rcases av o (n*d.size) with g1|g1
        .exact g1
        .rw[(htok g hg).2.1 o g1] at hm2;cases hm2
       have hlx:o<xs.length:=by rw[hown.1];exact hlt
       have hc1:=(hs.mem _ _ _ hm2).1
       have hx2:xs[o]?=some (xs[o]'hlx):=by simp[hlx]
       have hc2:=hown.cells hg o _ hx2
       rw[Addr.add_lit,cB,hc1] at hc2
       rw[bq hlx,hx2]
       exact hc2.symm
      have htk:(ow.del t') (.nm c ix i)=none:=by simp only[Own.del];split;rfl;exact ht
      have hone2:∀ u∈xs++vs,u.oneCell'=true:=λu hu=>by
       rcases bS.1 hu with hu|hu
       .exact hx1 u hu
       .exact h1 u hu
      have hne2:∀ g,v.ownBlock=some g->∀ t v2 e z n,(ow.del t') t=some (v2,e,z,n)->v2.ownBlock≠some g:=by
       intro g hg t v2 e2 z2 n2 h2
       simp only[Own.del] at h2
       split at h2
       .cases h2
       .rename_i hne
        exact hs.tokne t' t _ _ _ _ _ _ _ _ ho h2 (bC hne) g hg
      rcases hcase with ⟨g1,g2⟩|⟨g1,g2⟩
      .obtain⟨k',q1,q2,q3⟩:=hsd.row (row:=v.ownBlock) (w':=w') (v':=v') (c:=c) (ix:=ix) (i:=i) (λg hg=>⟨(htok g hg).1,hdead g hg,hne2 g hg,λo u hm2=>hcells g o u hg hm2⟩) g1 hown' (.inl g2) (hxs.append hvl) hone2 htk hf
       exact⟨v',w',k',_,hr,q1,q2,q3⟩
      .obtain⟨k',q1,q2,q3⟩:=hsd.row (row:=none) (w':=w') (v':=v') (c:=c) (ix:=ix) (i:=i) (λg hg=>by cases hg) g1 hown' (.inr ⟨g2,rfl⟩) (hxs.append hvl) hone2 htk hf
       exact⟨v',w',k',_,hr,q1,q2,q3⟩
     .cases h
    .cases h
   .cases h
  .cases h
 .cases h
end
theorem aeR(kind:TypeDesc)(k:Value):∀ (ms:List MapEntry) (es:List (Value×C)) (i:Nat) (r:Option Nat),ms.map (·.key)=es.map (·.1)->aeQ kind k es i=some r ->
  (∀ j,r=some j->i<=j/\∃ e,ms[j-i]?=some e/\Instr.findNow kind k ms i=some (some (j,e.val)))/\(r=none->Instr.findNow kind k ms i=some none)
 | [],[],i,r,_,h=>by
  simp only[aeQ,ae] at h
  subst h
  exact⟨λj hj=>(by cases hj),λ_=>rfl⟩
 | [],_::_,i,r,hk,_=>by simp at hk
 | _::_,[],i,r,hk,_=>by simp at hk
 | m::ms,e::es,i,r,hk,h=>by
  simp only[bd,gp] at hk
  simp only[aeQ] at h
  simp only[Instr.findNow,hk.1]
  split at h
  .rename_i hsn
   simp only[ae] at h
   subst h
   rw[hsn]
   exact⟨λj hj=>by cases hj;exact⟨am _,m,by simp,rfl⟩,λh=>(by cases h)⟩
  .rename_i hsn
   rw[hsn]
   obtain⟨g1,g2⟩:=aeR kind k ms es (i+1) r hk.2 h
   refine⟨λj hj=>?_,g2⟩
   obtain⟨h1,e',h2,h3⟩:=g1 j hj
   refine⟨by omega,e',?_,h3⟩
   obtain⟨q,rfl⟩ : ∃ q,j=i+1+q:=⟨j-(i+1),by omega⟩
   have e1:i+1+q-i=q+1:=by omega
   have e2:i+1+q-(i+1)=q:=by omega
   rw[e1]
   rw[e2] at h2
   simpa using h2
  .cases h
section
variable {P:Program} {M0:Base} {k:Know} {ow:Own} {done:Nat->Prop} {w0 w:World} {N:Nat} {s:S} {tmps:Array Value}
theorem anj{T:TT}{t et:Nat}{kind:TypeDesc}(h:agG T t=some (kind,et)):∃ d kt d',T t=some d/\d.und=.map kt et/\T kt=some d'/\d'.und=kind/\aox kind=true:=by
 unfold agG at h
 split at h
 .rename_i kt et' _ _ _ _ _ hT
  split at h
  .rename_i kind' hK
   split at h
   .rename_i hkk
    simp only[bT] at h
    obtain⟨rfl,rfl⟩:=h
    simp only[ay] at hK
    obtain⟨d',h1,h2⟩:=hK
    exact⟨_,kt,d',hT,rfl,h1,h2,hkk⟩
   .cases h
  .cases h
 .cases h
theorem aes{kt:Nat}{kind:TypeDesc}(hu:(underlying kt).run P w=.ok kind w)(hk:aox kind=true)(b:Bool)(v:Value):(Instr.checkKey b 10000 kt v).run P w=.ok () w:=by
 have:∀ n,(Instr.checkKey b (n+1) kt v).run P w=.ok () w:=λn=>by
  unfold Instr.checkKey
  simp only[Sem.run_bind,hu,Result.andThen_ok]
  cases kind <;> simp[aox] at hk <;> rfl
 exact this 9999
theorem agl{kt:Nat}{kind:TypeDesc}(hu:(underlying kt).run P w=.ok kind w){v:Value}{ms:List MapEntry}{r:Option (Nat×Value)}(h:Instr.findNow kind v ms 0=some r):(Instr.findKey kt v ms).run P w=.ok r w:=by
 simp only[Instr.findKey,Sem.run_bind,hu,Result.andThen_ok,h,Sem.run_pure]
theorem ag3{x:X}{u v:Value}(h:gG x=some u)(hx:aL k ow x v):v=u:=by
 unfold gG at h
 split at h
 .simp only[ae] at h
  subst h
  simp only[aL,Rep] at hx
  exact hx.1
 .cases h
theorem aDX{et:Nat}{z:X}(h:ake (TT.of P) et=some z)(w:World):∃ u,(zeroValue et).run P w=.ok u w/\aL k ow z u:=by
 unfold ake at h
 split at h
 .rename_i d hT
  have ok:=TT.of_ok hT
  obtain⟨u,h1,h2,h3⟩:=ok.run_zero2 w
  have hrep:aV k ow (fU d) d.zero:=agV d.zero
  obtain⟨g1,g2,g3⟩:=aja hT h hrep ok.one
  refine⟨u,h1,?_⟩
  rw[ok.len.symm,aeN] at g3
  cases hagg:d.agg with
  | true =>
   rw[hagg] at h3 g3
   cases u with
   | agg us =>
    simp only[ah] at g3
    have:us=d.zero.toArray:=by rw[← h2];simp[Value.cells]
    rw[this]
    exact g3
   | _=>simp[anr] at h3
  | false =>
   rw[hagg] at h3 g3
   have hu:u.cells=#[u]:=by cases u <;> simp_all [anr,Value.cells]
   rw[hu] at h2
   rw[← h2] at g3
   simpa using g3
 .cases h
theorem aFi(hs:Sim M0 k ow done w0 w N s tmps){x:X}{es:List (Value×C)}{v:Value}(h:agH s.objs x=some es)(hx:aL k ow x v) :
  ∃ ms:List MapEntry,ms.map (·.key)=es.map (·.1)/\bA k.m (es.map (·.2)) (ms.map (·.val)) /\
   ((v=.map none/\ms=[])\/∃ r cl,v=.map (some r)/\w.heap[r]?=some (.map ms.toArray cl)):=by
 unfold agH at h
 split at h
 .rename_i r
  split at h
  .rename_i es' hr
   simp only[ae] at h
   subst h
   obtain⟨b,hb,_,_,_,ms,cl,hh,h1,h2⟩:=hs.obj r _ hr
   simp only[aL] at hx
   obtain⟨b',hb',rfl⟩:=hx
   obtain rfl:b'=b:=aG (hb'.symm.trans hb)
   exact⟨ms.toList,h1,h2,.inr ⟨b',cl,rfl,hh⟩⟩
  .cases h
 .simp only[ae] at h
  subst h
  simp only[aL,Rep] at hx
  exact⟨[],rfl,by simp[bA],.inl ⟨hx.1,rfl⟩⟩
 .cases h
theorem awP(hs:Sim M0 k ow done w0 w N s tmps){t:Nat}{x kx y:X}{ok:Bool}{e:Option Tk}{v vk:Value}(h:afc (TT.of P) s.objs t x kx ok=some (y,e))(hx:aL k ow x v)(hkx:aL k ow kx vk) :
  e=none/\∃ u,(Instr.lookup t v vk ok).run P w=.ok u w/\aL k ow y u:=by
 unfold afc at h
 split at h
 .rename_i kind et kv es hty hlit hmap
  obtain⟨d,kt,d',hT,hu,hT',hu',hkk⟩:=anj hty
  have r1:=(TT.of_ok hT).run_und w
  have r2:=(TT.of_ok hT').run_und w
  rw[hu] at r1
  rw[hu'] at r2
  obtain rfl:=ag3 hlit hkx
  obtain⟨ms,hk1,hk2,hv⟩:=aFi hs hmap hx
  have pre:∀ r,Instr.findNow kind vk ms 0=some r->(Instr.lookup t v vk ok).run P w=(do
    let (v,ok') ← match r with
     | some (_,v)=>pure (v,true)
     | none=>do pure (← zeroValue et,false)
    pure (if ok then Value.tuple #[v,.bool ok'] else v):Sem Value).run P w:=by
   intro r hr
   have hf:=agl r2 hr
   rcases hv with ⟨rfl,rfl⟩|⟨b,cl,rfl,hh⟩
   .simp only[Instr.lookup,Sem.run_bind,r1,Result.andThen_ok,Sem.run_pure,aes r2 hkk]
    rw[hf]
    rfl
   .simp only[Instr.lookup,Sem.run_bind,r1,Result.andThen_ok,Sem.run_pure,aes r2 hkk,Go.MapKept.run_getObj_map hh]
    rw[hf]
    rfl
  split at h
  .rename_i i hfind
   obtain⟨g1,_⟩:=aeR kind vk ms es 0 _ hk1 hfind
   obtain⟨_,e',he,hnow⟩:=g1 i rfl
   simp only[bX,ay,bh] at h
   obtain⟨y',⟨p,hp,rfl⟩,rfl,rfl⟩:=h
   refine⟨rfl,?_⟩
   rw[pre _ hnow]
   simp only[aeL] at he
   obtain⟨u,hu1,hu2⟩:=hk2.get i p.2 (by simp[hp])
   simp only[cd,he,aP,ae] at hu1
   subst hu1
   cases ok with
   | true=>exact⟨_,rfl,by simp[aL,aV,Rep,Value.oneCell',hu2]⟩
   | false=>exact⟨_,rfl,by simpa [aL] using hu2⟩
  .rename_i hfind
   obtain⟨_,g2⟩:=aeR kind vk ms es 0 _ hk1 hfind
   have hnow:=g2 rfl
   simp only[bX,ay,bh] at h
   obtain⟨y',⟨z,hz,rfl⟩,rfl,rfl⟩:=h
   refine⟨rfl,?_⟩
   rw[pre _ hnow]
   obtain⟨u,hu1,hu2⟩:=aDX (k:=k) (ow:=ow) hz w
   cases ok with
   | true=>exact⟨_,by simp[hu1];rfl,by simp[aL,aV,Rep,Value.oneCell',hu2]⟩
   | false=>exact⟨_,by simp[hu1];rfl,by simpa [aL] using hu2⟩
  .cases h
 .cases h
end
