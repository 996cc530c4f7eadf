/- A part. Conditions: none. -/
import Derived.Test.YtghkmcffifpkeaaGreatPa5
import Derived.Lib.AppendStr
import Derived.Lib.Builder
import Derived.Lib.UnsafeStr
import Derived.Lib.ItoaMem
import Derived.WalkKit
import Derived.Shelf.Strings.Builder1
import Derived.Lib.ItoaNum
import Derived.Lib.Replace
import Derived.Lib.DecodeN
import Derived.Shelf.GgClosure.StringsIndexFunc
import Derived.Lib.Join
import Derived.Lib.IndexMore
import Derived.Test.YtghkmcffifpkeaaGreatProg
import Derived.Test.YtghkmcffifpkeaaGreatChecked
import Derived.LoopTactic
import Derived.Laws.RangeString
import Derived.Laws.RangeAny
import Derived.Lib.Strings
import Derived.Lib.Bytealg
import Derived.KernelRfl
import Derived.Lib.AppendIntMem
import Derived.Recover
set_option linter.all false
set_option maxRecDepth 100000
set_option maxHeartbeats 64000000
namespace Go.Proofs.YtghkmcffifpkeaaGreat
open RowKit Pe
def apk:(Tryz.prog.info? 245).map (·.size)=some 2:=by kernel_rfl
def azR:liesAt Tryz.prog Tryz.prog.depth 245 (2 / Tryz.prog.cellsOf 245) 0 245 1=true:=by kernel_rfl
def aEU(b:Nat)(w:World)(h0:w.cell? ⟨b,0,none⟩=some (.pointer (some ⟨b,0,none⟩))) :
  Calls Tryz.prog 282 #[.pointer (some ⟨b,0,none⟩)] w λe w'=>e=.returned (.tuple #[])/\w'=w:=by
 obtain⟨j,hj,_⟩:=ap.1 apk
 go_enter Tryz.func282,Tryz.ntmps282
 go_wp2
 rw[Lib.run_neq_ptr_same w _ Tryz.underlying243 hj]
 go_wp2
 go_end0
 exact⟨rfl,rfl⟩
def aAa(b:Nat)(w:World)(h0:w.cell? ⟨b,0,none⟩=some (.pointer none))(hsh:w.shape? b=some (245,2))(hfz:w.frozen? ⟨b,0,none⟩=false) :
  Calls Tryz.prog 282 #[.pointer (some ⟨b,0,none⟩)] w λe w'=>e=.returned (.tuple #[])/\w'=w.setCell ⟨b,0,none⟩ (.pointer (some ⟨b,0,none⟩)):=by
 obtain⟨j,hj,hjs⟩:=ap.1 apk
 go_enter Tryz.func282,Tryz.ntmps282
 go_wp2
 rw[Lib.run_to_unsafe w ⟨b,0,none⟩ Tryz.underlying243 Tryz.underlying294 hj (by rw[hjs];decide) hsh (Nat.zero_lt_succ 1)]
 simp only[Result.andThen]
 rw[Oper.upon_value]
 go_wp2
 rw[run_callFunc_extern Tryz.func302 aS aS aS (e:=Extern.AbiNoEscape.same) aS]
 rw[Lib.run_noEscape]
 simp only[Result.andThen]
 rw[Oper.upon_value]
 go_wp2
 rw[Lib.run_from_unsafe w ⟨b,0,none⟩ Tryz.underlying294 Tryz.underlying243 hj hsh azR]
 simp only[Result.andThen]
 rw[Oper.upon_value]
 go_wp2
 go_end0
 exact⟨rfl,rfl⟩
structure BAt (b:Nat) (p v:Value) (bs:List Value) (w:World):Prop where
 blk:w.heap[b]?=some (.cells #[p,v] 245 (0,0))
 own:w.ownsRow 0 5 1 v bs.length bs
 ne:v.ownBlock≠some b
theorem BAt.lt{b:Nat}{p v:Value}{bs:List Value}{w:World}(h:BAt b p v bs w):b<w.heap.size:=(Array.getElem?_eq_some_iff.1 h.blk).1
structure BPost (b:Nat) (v:Value) (w w':World) (v':Value) (bs':List Value):Prop where
 at':BAt b (.pointer (some ⟨b,0,none⟩)) v' bs' w'
 size:w.heap.size<=w'.heap.size
 os:w'.os=w.os
 tape:w'.tape=w.tape
 output:w'.output=w.output
 row:(v'.ownBlock=v.ownBlock/\∀ k,k<w.heap.size->k≠b->some k≠v.ownBlock->w'.heap[k]?=w.heap[k]?)\/((∃ g,v'.ownBlock=some g/\w.heap.size<=g)/\∀ k,k<w.heap.size->k≠b->w'.heap[k]?=w.heap[k]?)
structure CPost (b:Nat) (v:Value) (w w':World) (bs:List Value):Prop where
 at':BAt b (.pointer (some ⟨b,0,none⟩)) v bs w'
 size:w'.heap.size=w.heap.size
 os:w'.os=w.os
 tape:w'.tape=w.tape
 output:w'.output=w.output
 rest:∀ k,k≠b->w'.heap[k]?=w.heap[k]?
def aeU(w:World)(b o:Nat)(x:Value)(k:Nat)(h:k≠b):(w.setCell ⟨b,o,none⟩ x).heap[k]?=w.heap[k]?:=by
 simp only[World.setCell,aab]
 rw[ar (bo h)]
def anp(w:World)(b o:Nat)(x:Value):(w.setCell ⟨b,o,none⟩ x).heap.size=w.heap.size:=by simp[World.setCell]
def a6L(b:Nat)(p v:Value)(bs:List Value)(w:World)(hp:p=.pointer none\/p=.pointer (some ⟨b,0,none⟩))(h:BAt b p v bs w) :
  Calls Tryz.prog 282 #[.pointer (some ⟨b,0,none⟩)] w λe w'=>e=.returned (.tuple #[])/\CPost b v w w' bs:=by
 rcases hp with rfl|rfl
 .refine (aAa b w (by rw[Lib.cell_of_heap h.blk];rfl) (by simp[World.shape?,h.blk]) (Lib.frozen_of_heap h.blk 0)).mono ?_
  rintro e w' ⟨rfl,rfl⟩
  refine⟨rfl,⟨?_,?_,h.ne⟩,anp w b 0 _,rfl,rfl,rfl,λk hk=>aeU w b 0 _ k hk⟩
  .simp[World.setCell,aab,h.blk]
  .exact h.own.kept (row:=some b) ⟨rfl,rfl,rfl,by simp[World.setCell],λk _ hk=>aeU w b 0 _ k (λe=>hk (by simp[e]))⟩ (Or.inr h.ne)
 .refine (aEU b w (by rw[Lib.cell_of_heap h.blk];rfl)).mono ?_
  rintro e w' ⟨rfl,rfl⟩
  exact⟨rfl,h,rfl,rfl,rfl,rfl,λ_ _=>rfl⟩
def aHX:(Tryz.prog.info? 5).map (λi=>(i.zero,i.size,i.bytes))=some (some (.int .u8 0),1,1):=by kernel_rfl
def aMg:∃ i,Tryz.prog.info? 5=some i/\i.zero=some (.int .u8 0)/\i.size=1/\i.bytes=1:=by
 obtain⟨i,hi,he⟩:=ap.1 aHX
 simp only[aY] at he
 exact⟨i,hi,he⟩
def auE{P:Program}{w:World}{ops:Array Oper}{rest:List Oper}{o:Oper}{a:Act}{Q:Exit->Act->World->Prop}(hgd:o.guard=none)(sl x:Operand)(t:TypeId)
  (ho:o.op=.call {callee:=.builtin .append,args:=#[sl,x],argTypes:=#[t,t]})
  (e:TypeId) (d:TD) (ht:P.underlying t=some (.slice e)) (hd:TT.of P e=some d) (hz:d.size=1) (hby:d.bytes<=32768)
  (v:Value) (n:Nat) (xs:List Value) (hs:a.eval sl=v) (hown:w.ownsRow 0 e 1 v n xs) (b off m c:Nat) (news:List Value) (hx:a.eval x=.slice (some ⟨b,off,none⟩) m c) (hl:news.length=m)
  (hnews:∀ i u,news[i]?=some u->w.cell? ⟨b,off+i,none⟩=some u) (h1:∀ u∈news,u.oneCell'=true) (hb:n+m<=LIM)
  (h:∀ v' w',w'.ownsRow 0 e 1 v' (n+m) (xs++news)->((w.grownBy w' v.ownBlock/\v'.ownBlock=v.ownBlock)\/(w.grownBy w' none/\v'.ownBlock=some w.heap.size))->wpList P ops Q rest (a.put o.dst v') w'):wpList P ops Q (o::rest) a w:=by
 refine wpList_plain hgd λK hK=>?_
 obtain⟨v',w',hr,h2,h3⟩:=ai4 (P:=P) (w:=w) (t:=t) (ty:=o.type) (c:=c) ht hd aC (by rw[hz];exact hown) (A:=some ⟨b,off,none⟩) (m:=m) (news:=news) (by rw[hz];omega) (λ_=>⟨b,off,rfl,hnews⟩) h1 hb hby (aU _)
 rw[hz] at h2
 unfold Oper.wp execOp
 simp only[ho,resolve,invoke,builtin,Sem.run_bind,Sem.run_pure,Result.andThen_ok,List.map_toArray,bc,bm,hs,hx,hr]
 exact hK _ _ (h v' w' h2 h3)
theorem CPost.put{b:Nat}{v v':Value}{bs bs':List Value}{w w1 w2:World}(h1:CPost b v w w1 bs)(hown:w2.ownsRow 0 5 1 v' bs'.length bs')(hg:(w1.grownBy w2 v.ownBlock/\v'.ownBlock=v.ownBlock)\/(w1.grownBy w2 none/\∃ g,v'.ownBlock=some g/\w1.heap.size<=g)) :
  BPost b v w (w2.setCell ⟨b,1,none⟩ v') v' bs'/\w2.heap[b]?=some (.cells #[.pointer (some ⟨b,0,none⟩),v] 245 (0,0)):=by
 have hb2:w2.heap[b]?=some (.cells #[.pointer (some ⟨b,0,none⟩),v] 245 (0,0)):=by
  rcases hg with ⟨hg,_⟩|⟨hg,_⟩
  .rw[hg.block b h1.at'.lt (λe=>h1.at'.ne e.symm)]
   exact h1.at'.blk
  .rw[hg.block b h1.at'.lt aT]
   exact h1.at'.blk
 have hne:v'.ownBlock≠some b:=by
  rcases hg with ⟨_,h⟩|⟨_,g,h,hl⟩
  .rw[h];exact h1.at'.ne
  .rw[h]
   intro e
   have:=h1.at'.lt
   simp only[ab] at e
   omega
 have hos:w2.os=w1.os/\w2.tape=w1.tape/\w2.output=w1.output/\w1.heap.size<=w2.heap.size:=by
  rcases hg with ⟨hg,_⟩|⟨hg,_⟩ <;> exact⟨hg.os,hg.tape,hg.output,hg.size⟩
 refine⟨⟨⟨?_,?_,hne⟩,?_,hos.1.trans h1.os,hos.2.1.trans h1.tape,hos.2.2.1.trans h1.output,?_⟩,hb2⟩
 .simp[World.setCell,aab,hb2]
 .exact hown.kept (row:=some b) ⟨rfl,rfl,rfl,by simp[World.setCell],λk _ hk=>aeU w2 b 1 _ k (λe=>hk (by simp[e]))⟩ (Or.inr hne)
 .rw[anp];have:=h1.size;omega
 .rcases hg with ⟨hg,h⟩|⟨hg,g,h,hl⟩
  .refine .inl ⟨h,λk hk hkb hkv=>?_⟩
   rw[aeU w2 b 1 _ k hkb,hg.block k (by rw[h1.size];exact hk) hkv]
   exact h1.rest k hkb
  .refine .inr ⟨⟨g,h,by rw[← h1.size];exact hl⟩,λk hk hkb=>?_⟩
   rw[aeU w2 b 1 _ k hkb,hg.block k (by rw[h1.size];exact hk) aT]
   exact h1.rest k hkb
def aF0(b:Nat)(p v:Value)(bs:List Value)(c:Int)(w:World)(hp:p=.pointer none\/p=.pointer (some ⟨b,0,none⟩))(h:BAt b p v bs w)(hlen:bs.length+1<=4294967296) :
  Calls Tryz.prog 241 #[.pointer (some ⟨b,0,none⟩),.int .u8 c] w λe w'=>e=.returned .nilIface/\∃ v',BPost b v w w' v' (bs++[.int .u8 c]):=by
 obtain⟨i0,hi,hz0,hz1,hz2⟩:=aMg
 go_enter Tryz.func241,Tryz.ntmps241
 go_wp2_with (go_at_call 282;refine (a6L b p v bs _ hp h).mono ?_)
 rintro e w1 ⟨rfl,h1⟩
 have c0:w1.cell? ⟨b,0,none⟩=some (.pointer (some ⟨b,0,none⟩)):=by rw[Lib.cell_of_heap h1.at'.blk];rfl
 have c1:w1.cell? ⟨b,1,none⟩=some v:=by rw[Lib.cell_of_heap h1.at'.blk];rfl
 have hblt:=h1.at'.lt
 go_wp2_with (at_builtin;refine auE rfl _ _ 64 rfl 5 _ Tryz.underlying64 T5 rfl aI _ _ _ rfl (h1.at'.own.alloc _) w1.heap.size 0 1 1 [.int .u8 c] rfl rfl ?c1 ?c2 ?c3 ?_)
 case c1 =>
  intro j u hj
  match j,hj with
  | 0,hj=>simp at hj;subst hj;simp
 case c2=>intro u hu;simp at hu;subst hu;rfl
 case c3=>unfold LIM;omega
 intro v' w2 hown' hgrow
 have hgrow1:(w1.grownBy w2 v.ownBlock/\v'.ownBlock=v.ownBlock)\/(w1.grownBy w2 none/\∃ g,v'.ownBlock=some g/\w1.heap.size<=g):=by
  rcases hgrow with ⟨hg,h⟩|⟨hg,h⟩
  .exact .inl ⟨⟨hg.os,hg.tape,hg.output,by have:=hg.size;simp at this;omega,λk hk hne=>by rw[hg.block k (by simp;omega) hne,Lib.alloc_old w1 _ k hk]⟩,h⟩
  .exact .inr ⟨⟨hg.os,hg.tape,hg.output,by have:=hg.size;simp at this;omega,λk hk hne=>by rw[hg.block k (by simp;omega) hne,Lib.alloc_old w1 _ k hk]⟩,_,h,by simp⟩
 obtain⟨hpost,hb2⟩:=h1.put (v':=v') (bs':=bs++[.int .u8 c]) (w2:=w2) (by simpa using hown') hgrow1
 have d0:w2.cell? ⟨b,0,none⟩=some (.pointer (some ⟨b,0,none⟩)):=by rw[Lib.cell_of_heap hb2];rfl
 have d1:w2.cell? ⟨b,1,none⟩=some v:=by rw[Lib.cell_of_heap hb2];rfl
 have f1:w2.frozen? ⟨b,1,none⟩=false:=Lib.frozen_of_heap hb2 1
 obtain⟨ao,n',cap,rfl⟩ : ∃ ao n' cap,v'=.slice ao n' cap:=by
  rcases hown'.2 with ⟨hv,_⟩|⟨g,cap,cur,hv,_⟩
  .exact⟨_,_,_,hv⟩
  .exact⟨_,_,_,hv⟩
 go_wp2
 go_ret
 exact⟨rfl,_,hpost⟩
structure SPost (v:Value) (w w':World):Prop where
 grown:∀ k,k<w.heap.size->some k≠v.ownBlock->w'.heap[k]?=w.heap[k]?
 size:w.heap.size<=w'.heap.size
 os:w'.os=w.os
 tape:w'.tape=w.tape
 output:w'.output=w.output
 cell:∀ c o,c<w.heap.size->w'.cell? ⟨c,o,none⟩=w.cell? ⟨c,o,none⟩
theorem SPost.drew(v:Value)(w:World):SPost v w w.drew:=⟨λ_ _ _=>rfl,ae _,rfl,rfl,rfl,λ_ _ _=>rfl⟩
def aAb(w:World)(p:Addr)(n c o:Nat):(w.freeze p n).cell? ⟨c,o,none⟩=w.cell? ⟨c,o,none⟩:=by
 unfold World.freeze
 split
 .rfl
 .simp only[World.cell?,aab]
  by_cases e:p.block=c
  .rw[au e]
   cases w.heap[c]? with
   | none=>rfl
   | some ob=>cases ob <;> rfl
  .rw[ar e]
theorem SPost.alloc(v:Value)(w:World)(o:Obj):SPost v w (w.drew.alloc o):=⟨λk hk _=>Lib.alloc_old w.drew _ k hk,by simp,rfl,rfl,rfl,λc o hc=>World.cell?_of_block (a:=⟨c,o,none⟩) (Lib.alloc_old w.drew _ c hc)⟩
theorem SPost.freeze{g n c m:Nat}(w:World):SPost (.slice (some ⟨g,0,none⟩) n c) w (w.drew.freeze ⟨g,0,none⟩ m):=by
 unfold World.freeze
 split
 .exact SPost.drew _ w
 .refine⟨λk hk hne=>?_,by simp,rfl,rfl,rfl,λc o _=>?_⟩
  .have:¬ g=k:=λe=>hne (by simp[Value.ownBlock,e])
   simp only[aab]
   rw[ar this]
   rfl
  .have:=aAb w.drew ⟨g,0,none⟩ m c o
   unfold World.freeze at this
   rename_i hm _
   rw[ar hm] at this
   exact this
def aIH:Tryz.prog.cellsOf 5=1:=by kernel_rfl
def azk(b g cap:Nat)(p:Value)(cur:Array Value)(l:List UInt8)(w:World)(h0:l≠[])(h:BAt b p (.slice (some ⟨g,0,none⟩) l.length cap) (Lib.byteCells l) w)(hg:w.heap[g]?=some (.cells cur 5 (0,0)))(hnc:l.length<=cap)(hcm:cap<=maxLen)(hcs:cur.size=cap*1) :
  Calls Tryz.prog 242 #[.pointer (some ⟨b,0,none⟩)] w λe w'=>e=.returned (.string ⟨l.toArray⟩)/\SPost (.slice (some ⟨g,0,none⟩) l.length cap) w w':=by
 have hl0:l.length≠0:=by simpa using h0
 have hown:=h.own
 have c1:w.drew.cell? ⟨b,1,none⟩=some (.slice (some ⟨g,0,none⟩) l.length cap):=by
  have:w.drew.heap[b]?=some (.cells #[p,.slice (some ⟨g,0,none⟩) l.length cap] 245 (0,0)):=h.blk
  rw[Lib.cell_of_heap this];rfl
 have hSD:(Builtin.unsafeSliceData_ #[64] 277 #[.slice (some ⟨g,0,none⟩) l.length cap]).run Tryz.prog w.drew=.ok (.pointer (some ⟨g,0,none⟩)) w.drew :=
  Lib.run_unsafeSliceData_row _ _ _ _ _ _ aC
 have hUS:(Builtin.unsafeString_ #[277,3] 9 #[.pointer (some ⟨g,0,none⟩),.int .i64 l.length]).run Tryz.prog w.drew=.ok (.string ⟨l.toArray⟩) (w.drew.freeze ⟨g,0,none⟩ l.length):=by
  refine Lib.run_unsafeString_row w.drew 277 3 9 5 Tryz.underlying277 aIH g cur.size (by have hg':w.drew.heap[g]?=some (.cells cur 5 (0,0)):=hg;simp[World.shape?,hg']) l h0 aC (by unfold maxLen at hcm;omega) ?_
  intro j x hx
  exact hown.cells (g:=g) rfl j (.int .u8 x.toNat) (by simp[Lib.byteCells,hx])
 clear hown h
 have hmixed:=mixed
 go_enter Tryz.func242,Tryz.ntmps242
 go_wp2
 go_region_o
 all_goals (go_wp2;go_ret;exact⟨rfl,SPost.freeze w⟩)
def aCS(b:Nat)(p:Value)(w:World)(hbk:w.heap[b]?=some (.cells #[p,.slice none 0 0] 245 (0,0))) :
  Calls Tryz.prog 242 #[.pointer (some ⟨b,0,none⟩)] w λe w'=>e=.returned (.string ⟨#[]⟩)/\SPost (.slice none 0 0) w w':=by
 have hUS:∀ (W:World) (q:Option Addr),(Builtin.unsafeString_ #[277,3] 9 #[.pointer q,.int .i64 0]).run Tryz.prog W=.ok (.string .empty) W:=λW q=>Lib.run_unsafeString_none W _ _ _ q
 have c1:w.drew.cell? ⟨b,1,none⟩=some (.slice none 0 0):=by
  have:w.drew.heap[b]?=some (.cells #[p,.slice none 0 0] 245 (0,0)):=hbk
  rw[Lib.cell_of_heap this];rfl
 have hSD:(Builtin.unsafeSliceData_ #[64] 277 #[.slice none 0 0]).run Tryz.prog w.drew=.ok (.pointer none) w.drew:=rfl
 have hmixed:=mixed
 go_enter Tryz.func242,Tryz.ntmps242
 go_wp2
 go_region_o
 all_goals (go_wp2;go_ret;exact⟨rfl,SPost.drew _ w⟩)
def azl(b g cap:Nat)(p:Value)(w:World)(hc0:cap≠0)(hbk:w.heap[b]?=some (.cells #[p,.slice (some ⟨g,0,none⟩) 0 cap] 245 (0,0))) :
  Calls Tryz.prog 242 #[.pointer (some ⟨b,0,none⟩)] w λe w'=>e=.returned (.string ⟨#[]⟩)/\SPost (.slice (some ⟨g,0,none⟩) 0 cap) w w':=by
 have hUS:∀ (W:World) (q:Option Addr),(Builtin.unsafeString_ #[277,3] 9 #[.pointer q,.int .i64 0]).run Tryz.prog W=.ok (.string .empty) W:=λW q=>Lib.run_unsafeString_none W _ _ _ q
 have c1:w.drew.cell? ⟨b,1,none⟩=some (.slice (some ⟨g,0,none⟩) 0 cap):=by
  have:w.drew.heap[b]?=some (.cells #[p,.slice (some ⟨g,0,none⟩) 0 cap] 245 (0,0)):=hbk
  rw[Lib.cell_of_heap this];rfl
 have hSD:(Builtin.unsafeSliceData_ #[64] 277 #[.slice (some ⟨g,0,none⟩) 0 cap]).run Tryz.prog w.drew=.ok (.pointer (some ⟨g,0,none⟩)) w.drew :=
  Lib.run_unsafeSliceData_row _ _ _ _ _ _ hc0
 clear hc0
 have hmixed:=mixed
 go_enter Tryz.func242,Tryz.ntmps242
 go_wp2
 go_region_o
 all_goals (go_wp2;go_ret;exact⟨rfl,SPost.drew _ w⟩)
def auL(b g:Nat)(p:Value)(cur:Array Value)(w:World)(hbk:w.heap[b]?=some (.cells #[p,.slice (some ⟨g,0,none⟩) 0 0] 245 (0,0)))(hg:w.heap[g]?=some (.cells cur 5 (0,0))) :
  Calls Tryz.prog 242 #[.pointer (some ⟨b,0,none⟩)] w λe w'=>e=.returned (.string ⟨#[]⟩)/\SPost (.slice (some ⟨g,0,none⟩) 0 0) w w':=by
 have hUS:∀ (W:World) (q:Option Addr),(Builtin.unsafeString_ #[277,3] 9 #[.pointer q,.int .i64 0]).run Tryz.prog W=.ok (.string .empty) W:=λW q=>Lib.run_unsafeString_none W _ _ _ q
 have hlt:b<w.heap.size:=(Array.getElem?_eq_some_iff.1 hbk).1
 have c1:w.drew.cell? ⟨b,1,none⟩=some (.slice (some ⟨g,0,none⟩) 0 0):=by
  have:w.drew.heap[b]?=some (.cells #[p,.slice (some ⟨g,0,none⟩) 0 0] 245 (0,0)):=hbk
  rw[Lib.cell_of_heap this];rfl
 have hSD:(Builtin.unsafeSliceData_ #[64] 277 #[.slice (some ⟨g,0,none⟩) 0 0]).run Tryz.prog w.drew=.ok (.pointer (some ⟨w.drew.heap.size,0,none⟩)) (w.drew.alloc (.view ⟨g,0,none⟩ 5)) :=
  Lib.run_unsafeSliceData_zero w.drew _ _ 5 Tryz.underlying277 ⟨g,0,none⟩ 0 (5,cur.size) (by have hg':w.drew.heap[g]?=some (.cells cur 5 (0,0)):=hg;simp[World.shape?,hg'])
 have c2:(w.drew.alloc (.view ⟨g,0,none⟩ 5)).cell? ⟨b,1,none⟩=some (.slice (some ⟨g,0,none⟩) 0 0):=by
  have:(w.drew.alloc (.view ⟨g,0,none⟩ 5)).heap[b]?=_:=(Lib.alloc_old w.drew _ b hlt).trans hbk
  rw[Lib.cell_of_heap this];rfl
 have c3:(w.alloc (.view ⟨g,0,none⟩ 5)).drew.cell? ⟨b,1,none⟩=some (.slice (some ⟨g,0,none⟩) 0 0):=c2
 have c0:w.cell? ⟨b,1,none⟩=some (.slice (some ⟨g,0,none⟩) 0 0):=c1
 have hmixed:=mixed
 go_enter Tryz.func242,Tryz.ntmps242
 go_wp2
 go_region_o
 all_goals (go_wp2;go_ret;exact⟨rfl,SPost.alloc _ w _⟩)
def aJT(b:Nat)(p v:Value)(l:List UInt8)(w:World)(h:BAt b p v (Lib.byteCells l) w) :
  Calls Tryz.prog 242 #[.pointer (some ⟨b,0,none⟩)] w λe w'=>e=.returned (.string ⟨l.toArray⟩)/\SPost v w w':=by
 have hown:=h.own
 rw[Lib.byteCells_length] at hown
 rcases hown.2 with ⟨rfl,hz⟩|⟨g,cap,cur,rfl,_,hg,hnc,hcm,hcs,_⟩
 .obtain rfl:=bP hz
  exact aCS b p w h.blk
 .by_cases hl:l=[]
  .subst hl
   by_cases hc:cap=0
   .subst hc
    exact auL b g p cur w h.blk hg
   .exact azl b g cap p w hc h.blk
  .exact azk b g cap p cur l w hl h hg hnc hcm hcs
end Go.Proofs.YtghkmcffifpkeaaGreat
namespace Go.Tab
structure IsOrd {α:Type} (f:α->α->Int):Prop where
 sgn:∀ a b,f a b=-1\/f a b=0\/f a b=1
 zero:∀ a b,f a b=0↔a=b
 anti:∀ a b,f a b=- f b a
 tr:∀ a b c,f a b<=0->f b c<=0->f a c<=0
def aMb(a b:Int):Int:=if a<b then -1 else if b<a then 1 else 0
def aXX{α:Type}(f:α->α->Int):List α->List α->Int
 | [],[]=>0
 | [],_::_=>-1
 | _::_,[]=>1
 | a::r,b::q=>if f a b=0 then aXX f r q else f a b
def a8c(a b:UInt8):Int:=aMb a.toNat b.toNat
def aOq:List UInt8->List UInt8->Int:=aXX a8c
structure V where
 k:Int
 n:Int
 s:ByteArray
 deriving DecidableEq
def V.t(v:V):List UInt8:=v.s.data.toList
def ame{a b:ByteArray}:a.data.toList=b.data.toList↔a=b:=by
 constructor
 .intro h
  cases a with
  | mk x=>cases b with
   | mk y=>simp at h;rw[h]
 .rintro rfl;rfl
def aOB(a b:V):Int:=if a.k=b.k then (if a.n=b.n then aOq a.t b.t else aMb a.n b.n) else aMb a.k b.k
def okB(b:UInt8):Bool:=decide (32<=b.toNat)&&decide (b.toNat<=126)
def alC(s:ByteArray):Bool:=s.data.toList.all okB&&decide (s.size<=100)
def inB(n:Int):Bool:=decide (-1000000000000000<=n)&&decide (n<=1000000000000000)
def acZ(v:V):Bool :=
 if v.k=0 then decide (v.n=0)&&decide (v.s=ByteArray.empty)
 else if v.k=1 then (decide (v.n=0)||decide (v.n=1))&&decide (v.s=ByteArray.empty)
 else if v.k=2 then inB v.n&&decide (v.s=ByteArray.empty)
 else if v.k=3 then decide (v.n=0)&&alC v.s
 else false
def aia(r:Nat):Bool:=decide (r<32)||decide (126<r)
def az4(n b0 b1 b2 b3:Nat)(h:128<=b0):126<(Lib.decodeN n b0 b1 b2 b3).1:=by
 unfold Lib.decodeN
 repeat' split
 all_goals omega
def ayd(s:ByteArray)(i:Nat)(h:(s.get! i).toNat<128):Utf8.decode s i=((s.get! i).toNat,1):=by
 rw[Lib.decode_at,Lib.decodeN,au h]
def aMt(s:ByteArray)(i:Nat)(h:i<s.size):s.data.toList[i]?=some (s.get! i):=by
 obtain⟨⟨l⟩⟩:=s
 have h:i<l.length:=h
 show l[i]?=some ((⟨l⟩ : Array UInt8)[i]!)
 rw[aL h,getElem!_pos (⟨l⟩ : Array UInt8) i h]
 rfl
theorem aub(s:ByteArray):∀ (f pos:Nat),s.size<=pos+f->(Lib.idxFuncFrom aia true s f pos<0↔(s.data.toList.drop pos).all okB=true)
 | 0,pos,h=>by
  have:s.data.toList.drop pos=[]:=aby (by simp only[ep];exact h)
  rw[this]
  simp[Lib.idxFuncFrom]
 | f+1,pos,h=>by
  unfold Lib.idxFuncFrom
  by_cases hp:pos<s.size
  .rw[au hp]
   have hg:=aMt s pos hp
   obtain⟨hl,hg2⟩:=List.getElem?_eq_some_iff.1 hg
   rw[co hl,hg2,agm]
   by_cases hb:(s.get! pos).toNat<128
   .rw[ayd s pos hb]
    simp only
    by_cases ho:aia (s.get! pos).toNat=true
    .rw[au ho]
     have:okB (s.get! pos)=false:=by
      simp only[aia,bk,aV] at ho
      simp only[okB,ada,abl]
      omega
     rw[this]
     simp
    .rw[ar ho]
     have:okB (s.get! pos)=true:=by
      simp only[aia,bk,aV] at ho
      simp only[okB,aj,aV]
      omega
     rw[this,cO]
     exact aub s f (pos+1) aC
   .have ho:aia (Utf8.decode s pos).1=true:=by
     rw[Lib.decode_at]
     have:=az4 (s.size-pos) (s.get! pos).toNat (s.get! (pos+1)).toNat (s.get! (pos+2)).toNat (s.get! (pos+3)).toNat aC
     simp only[aia,bk,aV]
     exact .inr this
    rw[au ho]
    have:okB (s.get! pos)=false:=by
     simp only[okB,ada,abl]
     omega
    rw[this]
    simp
  .rw[ar hp]
   have:s.data.toList.drop pos=[]:=aby (by simp only[ep];exact Nat.le_of_not_lt hp)
   rw[this]
   simp
def aBB(s:ByteArray):Lib.idxFunc aia true s<0↔s.data.toList.all okB=true:=by
 have:=aub s s.size 0 aC
 simpa [Lib.idxFunc] using this
def aK(l:List UInt8):ByteArray:=⟨l.toArray⟩
def aLY(l:List UInt8):({data:=l.toArray}:ByteArray)=aK l:=rfl
def aJU{a b:List UInt8}(h:aK a=aK b):a=b:=by
 have:=congrArg (λs:ByteArray=>s.data.toList) h
 simpa [aK] using this
def fst(s:ByteArray):Option UInt8:=s.data.toList.head?
end Go.Tab
namespace Go.Tab
open Pe
structure Cl where
 tb:List UInt8
 nm:List UInt8
 ty:Int
 deriving DecidableEq
inductive Tm where
 | mk (op:Int) (v:V) (dep at':Int) (nm:List UInt8) (kids:List Tm) (sub:C) (ty:Int)
inductive Pn where
 | mk (op:Int) (tb ix:List UInt8) (cols:List Cl) (kids:List Pn) (terms lk rk:List Tm) (r:Nat->C) (est cost:Int)
def Pn.op:Pn->Int | .mk op ..=>op
def Pn.cols:Pn->List Cl | .mk _ _ _ cols ..=>cols
def Pn.kids:Pn->List Pn | .mk _ _ _ _ kids ..=>kids
def I64(n:Int):Prop:=-9223372036854775808<=n/\n<=9223372036854775807
def fl{α:Type}(f:α->List C)(l:List α):List C:=(l.map f).flatten
def slC{α:Type}(f:α->List C)(l:List α):C:=.sl (fl f l) l.length
def lsC{α:Type}(f:α->List C)(l:List α):List C:=[slC f l]
def ahV(v:V):List C:=[ci v.k,ci v.n,aG v.s]
def aa6(n:Int):List C:=[ci n]
def afp(b:Bool):List C:=[cb b]
def bU(s:List UInt8):List C:=[aG (aK s)]
def fL{α:Type}(_:α):Nat:=1
def dT(s:List UInt8):Nat:=s.length+1
def aCA(v:V):Nat:=v.s.size+4
def lsW{α:Type}(w:α->Nat)(l:List α):Nat:=(l.map w).sum+1
def eM{α:Type}(_:α):Prop:=True
def V64(v:V):Prop:=I64 v.k/\I64 v.n
def lsP{α:Type}(p:α->Prop)(l:List α):Prop:=∀ x∈l,p x
structure Od where
 nm:List UInt8
 pl:Int
 dn:Bool
def odC(x:Od):List C:=bU x.nm++(aa6 x.pl++(afp x.dn))
def odW(x:Od):Nat:=dT x.nm+fL x.pl+fL x.dn+1
def akx(x:Od):Prop:=eM x.nm/\I64 x.pl/\eM x.dn
mutual
inductive Xp where
 | mk (op:Int) (v:V) (tb:List UInt8) (nm:List UInt8) (di:Bool) (ks:List Xp) (sb:List Qy)
inductive Qy where
 | mk (op:Int) (al:Bool) (ks:List Qy) (di:Bool) (its:List Im) (fr:List Fm) (wh:List Xp) (gr:List Xp) (hv:List Xp) (od:List Od) (li:Int) (sk:Int)
inductive Im where
 | mk (st:Bool) (tb:List UInt8) (e:Xp) (az:List UInt8)
inductive Fm where
 | mk (kd:Int) (nm:List UInt8) (az:List UInt8) (sb:List Qy) (ks:List Fm) (on:List Xp)
end
def Xp.op:Xp->Int | .mk op _ _ _ _ _ _=>op
def Xp.v:Xp->V | .mk _ v _ _ _ _ _=>v
def Xp.tb:Xp->List UInt8 | .mk _ _ tb _ _ _ _=>tb
def Xp.nm:Xp->List UInt8 | .mk _ _ _ nm _ _ _=>nm
def Xp.di:Xp->Bool | .mk _ _ _ _ di _ _=>di
def Xp.ks:Xp->List Xp | .mk _ _ _ _ _ ks _=>ks
def Xp.sb:Xp->List Qy | .mk _ _ _ _ _ _ sb=>sb
def Qy.op:Qy->Int | .mk op _ _ _ _ _ _ _ _ _ _ _=>op
def Qy.al:Qy->Bool | .mk _ al _ _ _ _ _ _ _ _ _ _=>al
def Qy.ks:Qy->List Qy | .mk _ _ ks _ _ _ _ _ _ _ _ _=>ks
def Qy.di:Qy->Bool | .mk _ _ _ di _ _ _ _ _ _ _ _=>di
def Qy.its:Qy->List Im | .mk _ _ _ _ its _ _ _ _ _ _ _=>its
def Qy.fr:Qy->List Fm | .mk _ _ _ _ _ fr _ _ _ _ _ _=>fr
def Qy.wh:Qy->List Xp | .mk _ _ _ _ _ _ wh _ _ _ _ _=>wh
def Qy.gr:Qy->List Xp | .mk _ _ _ _ _ _ _ gr _ _ _ _=>gr
def Qy.hv:Qy->List Xp | .mk _ _ _ _ _ _ _ _ hv _ _ _=>hv
def Qy.od:Qy->List Od | .mk _ _ _ _ _ _ _ _ _ od _ _=>od
def Qy.li:Qy->Int | .mk _ _ _ _ _ _ _ _ _ _ li _=>li
def Qy.sk:Qy->Int | .mk _ _ _ _ _ _ _ _ _ _ _ sk=>sk
def Im.st:Im->Bool | .mk st _ _ _=>st
def Im.tb:Im->List UInt8 | .mk _ tb _ _=>tb
def Im.e:Im->Xp | .mk _ _ e _=>e
def Im.az:Im->List UInt8 | .mk _ _ _ az=>az
def Fm.kd:Fm->Int | .mk kd _ _ _ _ _=>kd
def Fm.nm:Fm->List UInt8 | .mk _ nm _ _ _ _=>nm
def Fm.az:Fm->List UInt8 | .mk _ _ az _ _ _=>az
def Fm.sb:Fm->List Qy | .mk _ _ _ sb _ _=>sb
def Fm.ks:Fm->List Fm | .mk _ _ _ _ ks _=>ks
def Fm.on:Fm->List Xp | .mk _ _ _ _ _ on=>on
mutual
def xpC:Xp->List C
 | .mk op v tb nm di ks sb=>aa6 op++(ahV v++(bU tb++(bU nm++(afp di++([.sl (anb ks) ks.length]++([.sl (asD sb) sb.length]))))))
def anb:List Xp->List C
 | []=>[]
 | x::r=>xpC x++anb r
def qyC:Qy->List C
 | .mk op al ks di its fr wh gr hv od li sk=>aa6 op++(afp al++([.sl (asD ks) ks.length]++(afp di++([.sl (aD4 its) its.length]++([.sl (axS fr) fr.length]++([.sl (anb wh) wh.length]++([.sl (anb gr) gr.length]++([.sl (anb hv) hv.length]++((lsC odC) od++(aa6 li++(aa6 sk)))))))))))
def asD:List Qy->List C
 | []=>[]
 | x::r=>qyC x++asD r
def imC:Im->List C
 | .mk st tb e az=>afp st++(bU tb++(xpC e++(bU az)))
def aD4:List Im->List C
 | []=>[]
 | x::r=>imC x++aD4 r
def fmC:Fm->List C
 | .mk kd nm az sb ks on=>aa6 kd++(bU nm++(bU az++([.sl (asD sb) sb.length]++([.sl (axS ks) ks.length]++([.sl (anb on) on.length])))))
def axS:List Fm->List C
 | []=>[]
 | x::r=>fmC x++axS r
end
mutual
def xpW:Xp->Nat
 | .mk op v tb nm di ks sb=>fL op+aCA v+dT tb+dT nm+fL di+(cD ks+1)+(aaw sb+1)+1
def cD:List Xp->Nat
 | []=>0
 | x::r=>xpW x+cD r
def qyW:Qy->Nat
 | .mk op al ks di its fr wh gr hv od li sk=>fL op+fL al+(aaw ks+1)+fL di+(adu its+1)+(abM fr+1)+(cD wh+1)+(cD gr+1)+(cD hv+1)+(lsW odW) od+fL li+fL sk+1
def aaw:List Qy->Nat
 | []=>0
 | x::r=>qyW x+aaw r
def imW:Im->Nat
 | .mk st tb e az=>fL st+dT tb+xpW e+dT az+1
def adu:List Im->Nat
 | []=>0
 | x::r=>imW x+adu r
def fmW:Fm->Nat
 | .mk kd nm az sb ks on=>fL kd+dT nm+dT az+(aaw sb+1)+(abM ks+1)+(cD on+1)+1
def abM:List Fm->Nat
 | []=>0
 | x::r=>fmW x+abM r
end
mutual
def eN:Xp->Prop
 | .mk op v tb nm di ks sb=>I64 op/\V64 v/\eM tb/\eM nm/\eM di/\dh ks/\ab1 sb
def dh:List Xp->Prop
 | []=>True
 | x::r=>eN x/\dh r
def fM:Qy->Prop
 | .mk op al ks di its fr wh gr hv od li sk=>I64 op/\eM al/\ab1 ks/\eM di/\adj its/\acS fr/\dh wh/\dh gr/\dh hv/\(lsP akx) od/\I64 li/\I64 sk
def ab1:List Qy->Prop
 | []=>True
 | x::r=>fM x/\ab1 r
def akz:Im->Prop
 | .mk st tb e az=>eM st/\eM tb/\eN e/\eM az
def adj:List Im->Prop
 | []=>True
 | x::r=>akz x/\adj r
def acY:Fm->Prop
 | .mk kd nm az sb ks on=>I64 kd/\eM nm/\eM az/\ab1 sb/\acS ks/\dh on
def acS:List Fm->Prop
 | []=>True
 | x::r=>acY x/\acS r
end
theorem aol:∀ l:List Xp,anb l=fl xpC l
 | []=>rfl
 | x::r=>by rw[anb,aol r];rfl
theorem ajX:∀ l:List Xp,cD l=(l.map xpW).sum
 | []=>rfl
 | x::r=>by rw[cD,ajX r];rfl
theorem aiZ:∀ l:List Xp,dh l↔lsP eN l
 | []=>by simp[dh,lsP]
 | x::r=>by simp[dh,lsP,aiZ r]
theorem aoz:∀ l:List Qy,asD l=fl qyC l
 | []=>rfl
 | x::r=>by rw[asD,aoz r];rfl
theorem aj3:∀ l:List Qy,aaw l=(l.map qyW).sum
 | []=>rfl
 | x::r=>by rw[aaw,aj3 r];rfl
theorem ai0:∀ l:List Qy,ab1 l↔lsP fM l
 | []=>by simp[ab1,lsP]
 | x::r=>by simp[ab1,lsP,ai0 r]
theorem aBz:∀ l:List Im,aD4 l=fl imC l
 | []=>rfl
 | x::r=>by rw[aD4,aBz r];rfl
theorem axJ:∀ l:List Im,adu l=(l.map imW).sum
 | []=>rfl
 | x::r=>by rw[adu,axJ r];rfl
theorem auB:∀ l:List Im,adj l↔lsP akz l
 | []=>by simp[adj,lsP]
 | x::r=>by simp[adj,lsP,auB r]
theorem as6:∀ l:List Fm,axS l=fl fmC l
 | []=>rfl
 | x::r=>by rw[axS,as6 r];rfl
theorem ap6:∀ l:List Fm,abM l=(l.map fmW).sum
 | []=>rfl
 | x::r=>by rw[abM,ap6 r];rfl
theorem aoc:∀ l:List Fm,acS l↔lsP acY l
 | []=>by simp[acS,lsP]
 | x::r=>by simp[acS,lsP,aoc r]
def aqp(x:Xp):xpC x=aa6 x.op++(ahV x.v++(bU x.tb++(bU x.nm++(afp x.di++((lsC xpC) x.ks++((lsC qyC) x.sb)))))):=by
 cases x
 simp only[xpC,Xp.op,Xp.v,Xp.tb,Xp.nm,Xp.di,Xp.ks,Xp.sb,lsC,slC,aol,aoz]
def aiI(x:Xp):xpW x=fL x.op+aCA x.v+dT x.tb+dT x.nm+fL x.di+(lsW xpW) x.ks+(lsW qyW) x.sb+1:=by
 cases x
 simp only[xpW,Xp.op,Xp.v,Xp.tb,Xp.nm,Xp.di,Xp.ks,Xp.sb,lsW,ajX,aj3]
def aU7(x:Xp):eN x↔I64 x.op/\V64 x.v/\eM x.tb/\eM x.nm/\eM x.di/\(lsP eN) x.ks/\(lsP fM) x.sb:=by
 cases x
 simp only[eN,Xp.op,Xp.v,Xp.tb,Xp.nm,Xp.di,Xp.ks,Xp.sb,aiZ,ai0]
def aGJ(x:Qy):qyC x=aa6 x.op++(afp x.al++((lsC qyC) x.ks++(afp x.di++((lsC imC) x.its++((lsC fmC) x.fr++((lsC xpC) x.wh++((lsC xpC) x.gr++((lsC xpC) x.hv++((lsC odC) x.od++(aa6 x.li++(aa6 x.sk))))))))))):=by
 cases x
 simp only[qyC,Qy.op,Qy.al,Qy.ks,Qy.di,Qy.its,Qy.fr,Qy.wh,Qy.gr,Qy.hv,Qy.od,Qy.li,Qy.sk,lsC,slC,aol,aoz,aBz,as6]
def ahz(x:Qy):qyW x=fL x.op+fL x.al+(lsW qyW) x.ks+fL x.di+(lsW imW) x.its+(lsW fmW) x.fr+(lsW xpW) x.wh+(lsW xpW) x.gr+(lsW xpW) x.hv+(lsW odW) x.od+fL x.li+fL x.sk+1:=by
 cases x
 simp only[qyW,Qy.op,Qy.al,Qy.ks,Qy.di,Qy.its,Qy.fr,Qy.wh,Qy.gr,Qy.hv,Qy.od,Qy.li,Qy.sk,lsW,ajX,aj3,axJ,ap6]
def aVd(x:Qy):fM x↔I64 x.op/\eM x.al/\(lsP fM) x.ks/\eM x.di/\(lsP akz) x.its/\(lsP acY) x.fr/\(lsP eN) x.wh/\(lsP eN) x.gr/\(lsP eN) x.hv/\(lsP akx) x.od/\I64 x.li/\I64 x.sk:=by
 cases x
 simp only[fM,Qy.op,Qy.al,Qy.ks,Qy.di,Qy.its,Qy.fr,Qy.wh,Qy.gr,Qy.hv,Qy.od,Qy.li,Qy.sk,aiZ,ai0,auB,aoc]
def aYg(x:Im):imC x=afp x.st++(bU x.tb++(xpC x.e++(bU x.az))):=by
 cases x
 simp only[imC,Im.st,Im.tb,Im.e,Im.az]
def akj(x:Im):imW x=fL x.st+dT x.tb+xpW x.e+dT x.az+1:=by
 cases x
 simp only[imW,Im.st,Im.tb,Im.e,Im.az]
def aVk(x:Im):akz x↔eM x.st/\eM x.tb/\eN x.e/\eM x.az:=by
 cases x
 simp only[akz,Im.st,Im.tb,Im.e,Im.az]
def aIc(x:Fm):fmC x=aa6 x.kd++(bU x.nm++(bU x.az++((lsC qyC) x.sb++((lsC fmC) x.ks++((lsC xpC) x.on))))):=by
 cases x
 simp only[fmC,Fm.kd,Fm.nm,Fm.az,Fm.sb,Fm.ks,Fm.on,lsC,slC,aol,aoz,as6]
def afN(x:Fm):fmW x=fL x.kd+dT x.nm+dT x.az+(lsW qyW) x.sb+(lsW fmW) x.ks+(lsW xpW) x.on+1:=by
 cases x
 simp only[fmW,Fm.kd,Fm.nm,Fm.az,Fm.sb,Fm.ks,Fm.on,lsW,ajX,aj3,ap6]
def aVl(x:Fm):acY x↔I64 x.kd/\eM x.nm/\eM x.az/\(lsP fM) x.sb/\(lsP acY) x.ks/\(lsP eN) x.on:=by
 cases x
 simp only[acY,Fm.kd,Fm.nm,Fm.az,Fm.sb,Fm.ks,Fm.on,aiZ,ai0,aoc]
structure Cd where
 nm:List UInt8
 ty:Int
 nn:Bool
def cdC(x:Cd):List C:=bU x.nm++(aa6 x.ty++(afp x.nn))
def cdW(x:Cd):Nat:=dT x.nm+fL x.ty+fL x.nn+1
def aFU(x:Cd):Prop:=eM x.nm/\I64 x.ty/\eM x.nn
structure Kd where
 pr:Bool
 ns:List (List UInt8)
def kdC(x:Kd):List C:=afp x.pr++((lsC bU) x.ns)
def kdW(x:Kd):Nat:=fL x.pr+(lsW dT) x.ns+1
def a1m(x:Kd):Prop:=eM x.pr/\(lsP eM) x.ns
structure Rd where
 ns:List (List UInt8)
 tb:List UInt8
 to:List (List UInt8)
def rdC(x:Rd):List C:=(lsC bU) x.ns++(bU x.tb++((lsC bU) x.to))
def rdW(x:Rd):Nat:=(lsW dT) x.ns+dT x.tb+(lsW dT) x.to+1
def a07(x:Rd):Prop:=(lsP eM) x.ns/\eM x.tb/\(lsP eM) x.to
structure As where
 nm:List UInt8
 e:Xp
def asC(x:As):List C:=bU x.nm++(xpC x.e)
def asW(x:As):Nat:=dT x.nm+xpW x.e+1
def att(x:As):Prop:=eM x.nm/\eN x.e
structure Sm where
 kd:Int
 tb:List UInt8
 nm:List UInt8
 cs:List Cd
 ns:List (List UInt8)
 un:Bool
 kys:List Kd
 rfs:List Rd
 chs:List Xp
 rws:List (List Xp)
 sts:List As
 wh:List Xp
 q:List Qy
def smC(x:Sm):List C:=aa6 x.kd++(bU x.tb++(bU x.nm++((lsC cdC) x.cs++((lsC bU) x.ns++(afp x.un++((lsC kdC) x.kys++((lsC rdC) x.rfs++((lsC xpC) x.chs++((lsC (lsC xpC)) x.rws++((lsC asC) x.sts++((lsC xpC) x.wh++((lsC qyC) x.q))))))))))))
def smW(x:Sm):Nat:=fL x.kd+dT x.tb+dT x.nm+(lsW cdW) x.cs+(lsW dT) x.ns+fL x.un+(lsW kdW) x.kys+(lsW rdW) x.rfs+(lsW xpW) x.chs+(lsW (lsW xpW)) x.rws+(lsW asW) x.sts+(lsW xpW) x.wh+(lsW qyW) x.q+1
def aaW(x:Sm):Prop:=I64 x.kd/\eM x.tb/\eM x.nm/\(lsP aFU) x.cs/\(lsP eM) x.ns/\eM x.un/\(lsP a1m) x.kys/\(lsP a07) x.rfs/\(lsP eN) x.chs/\(lsP (lsP eN)) x.rws/\(lsP att) x.sts/\(lsP eN) x.wh/\(lsP fM) x.q
structure Tn where
 k:Int
 pl:Int
 sz:Int
 n:Int
 s:List UInt8
def tnC(x:Tn):List C:=aa6 x.k++(aa6 x.pl++(aa6 x.sz++(aa6 x.n++(bU x.s))))
structure Th where
 q:Bool
 w:Bool
 y:Qy
 e:Xp
 f:Fm
def thC(x:Th):List C:=afp x.q++(afp x.w++(qyC x.y++(xpC x.e++(fmC x.f))))
def aj9(x:Od):odC x=[aG (aK x.nm),ci x.pl,cb x.dn]:=by
 unfold odC;rfl
def aBg(x:Od):(odC x).length=3:=by rw[aj9];rfl
def eU(x:Xp):xpC x=[ci x.op,ci x.v.k,ci x.v.n,aG x.v.s,aG (aK x.tb),aG (aK x.nm),cb x.di,slC xpC x.ks,slC qyC x.sb]:=by
 rw[aqp];rfl
def ar0(x:Xp):(xpC x).length=9:=by rw[eU];rfl
def adK(x:Qy):qyC x=[ci x.op,cb x.al,slC qyC x.ks,cb x.di,slC imC x.its,slC fmC x.fr,slC xpC x.wh,slC xpC x.gr,slC xpC x.hv,slC odC x.od,ci x.li,ci x.sk]:=by
 rw[aGJ];rfl
def aBb(x:Qy):(qyC x).length=12:=by rw[adK];rfl
def alT(x:Im):imC x=[cb x.st,aG (aK x.tb),ci x.e.op,ci x.e.v.k,ci x.e.v.n,aG x.e.v.s,aG (aK x.e.tb),aG (aK x.e.nm),cb x.e.di,slC xpC x.e.ks,slC qyC x.e.sb,aG (aK x.az)]:=by
 rw[aYg,aqp];rfl
def aBA(x:Im):(imC x).length=12:=by rw[alT];rfl
def adS(x:Fm):fmC x=[ci x.kd,aG (aK x.nm),aG (aK x.az),slC qyC x.sb,slC fmC x.ks,slC xpC x.on]:=by
 rw[aIc];rfl
def aBJ(x:Fm):(fmC x).length=6:=by rw[adS];rfl
def al0(x:Cd):cdC x=[aG (aK x.nm),ci x.ty,cb x.nn]:=by
 unfold cdC;rfl
def aBR(x:Cd):(cdC x).length=3:=by rw[al0];rfl
def alP(x:Kd):kdC x=[cb x.pr,slC bU x.ns]:=by
 unfold kdC;rfl
def aBs(x:Kd):(kdC x).length=2:=by rw[alP];rfl
def alz(x:Rd):rdC x=[slC bU x.ns,aG (aK x.tb),slC bU x.to]:=by
 unfold rdC;rfl
def aBa(x:Rd):(rdC x).length=3:=by rw[alz];rfl
def al3(x:As):asC x=[aG (aK x.nm),ci x.e.op,ci x.e.v.k,ci x.e.v.n,aG x.e.v.s,aG (aK x.e.tb),aG (aK x.e.nm),cb x.e.di,slC xpC x.e.ks,slC qyC x.e.sb]:=by
 unfold asC;rw[aqp];rfl
def aB9(x:As):(asC x).length=10:=by rw[al3];rfl
def aeT(x:Sm):smC x=[ci x.kd,aG (aK x.tb),aG (aK x.nm),slC cdC x.cs,slC bU x.ns,cb x.un,slC kdC x.kys,slC rdC x.rfs,slC xpC x.chs,slC (lsC xpC) x.rws,slC asC x.sts,slC xpC x.wh,slC qyC x.q]:=by
 unfold smC;rfl
def aA4(x:Sm):(smC x).length=13:=by rw[aeT];rfl
def bC(x:Tn):tnC x=[ci x.k,ci x.pl,ci x.sz,ci x.n,aG (aK x.s)]:=by
 unfold tnC;rfl
def aAV(x:Tn):(tnC x).length=5:=by rw[bC];rfl
def alu(x:Th):thC x=[cb x.q,cb x.w,ci x.y.op,cb x.y.al,slC qyC x.y.ks,cb x.y.di,slC imC x.y.its,slC fmC x.y.fr,slC xpC x.y.wh,slC xpC x.y.gr,slC xpC x.y.hv,slC odC x.y.od,ci x.y.li,ci x.y.sk,ci x.e.op,ci x.e.v.k,ci x.e.v.n,aG x.e.v.s,aG (aK x.e.tb),aG (aK x.e.nm),cb x.e.di,slC xpC x.e.ks,slC qyC x.e.sb,ci x.f.kd,aG (aK x.f.nm),aG (aK x.f.az),slC qyC x.f.sb,slC fmC x.f.ks,slC xpC x.f.on]:=by
 unfold thC;rw[aGJ];rw[aqp];rw[aIc];rfl
def aRA(x:Th):(thC x).length=29:=by rw[alu];rfl
def dC{α:Type}{w:α->Nat}{l:List α}{x:α}(h:x∈l):w x<lsW w l:=by
 have:∀ l:List α,x∈l->w x<=(l.map w).sum:=λl=>by
  induction l with
  | nil=>intro h;cases h
  | cons y r ih =>
   intro h
   rw[bc,dF]
   rcases bj.1 h with rfl|h
   .omega
   .have:=ih h
    omega
 have:=this l h
 unfold lsW
 omega
def aiQ:Int:=1000000000000000
def eE(c:UInt8):Bool:=(decide (97<=c.toNat)&&decide (c.toNat<=122))||decide (c=95)
def cJ(c:UInt8):Bool:=decide (48<=c.toNat)&&decide (c.toNat<=57)
def dq:List UInt8->Bool
 | []=>false
 | c::r=>eE c&&r.all (λc=>eE c||cJ c)&&decide (r.length+1<=20)
def ads(s:List UInt8):Bool:=decide (s=[])||dq s
def alY:List UInt8:=[99,111,117,110,116]
def aiV(s:List UInt8):Bool:=decide (s=alY)||decide (s=[115,117,109])||decide (s=[109,105,110])||decide (s=[109,97,120])
def al6:V:=⟨0,0,ByteArray.empty⟩
def aql:Xp:=.mk 0 al6 [] [] false [] []
def aqm(e:Xp):Bool:=decide (e.op=0)&&decide (e.v=al6)&&decide (e.tb=[])&&decide (e.nm=[])&&!e.di&&decide (e.ks.length=0)&&decide (e.sb.length=0)
def aFX(e:Xp):aqm e=true↔e=aql:=by
 simp only[aqm,aj,aV,List.length_eq_zero_iff,cV]
 cases e
 simp only[aql,Xp.op,Xp.v,Xp.tb,Xp.nm,Xp.di,Xp.ks,Xp.sb,aja,Xp.mk.injEq]
def aiM(op:Int):Option (Nat×Nat×Nat) :=
 if op=1\/op=2 then some (0,0,0)
 else if op=26\/op=27 then some (0,0,1)
 else if op=3\/op=4\/op=19 then some (1,1,0)
 else if op=28 then some (1,1,1)
 else if op=22 then some (3,3,0)
 else if op=21 then some (2,65,0)
 else if op=23 then some (2,129,0)
 else if op=24 then some (0,64,0)
 else if op=25 then some (0,1,0)
 else if 5<=op/\op<=20 then some (2,2,0)
 else none
def abL(op:Int)(v:V)(tb nm:List UInt8)(di:Bool)(n:Nat):Bool :=
 if op=1 then acZ v&&(decide (v.k≠2)||decide (0<=v.n))&&decide (tb=[])&&decide (nm=[])&&!di
 else if op=2 then decide (v=al6)&&dq nm&&ads tb&&!di
 else if op=24 then decide (v=al6)&&decide (tb=[])&&dq nm&&!aiV nm&&!di
 else if op=25 then decide (v=al6)&&decide (tb=[])&&aiV nm&&(decide (n=1)||(decide (nm=alY)&&!di))
 else decide (v=al6)&&decide (tb=[])&&decide (nm=[])&&!di
def eI(n lo hi:Nat):Bool:=decide (lo<=n)&&decide (n<=hi)
def ai5(o:Od):Bool:=if o.nm≠[] then dq o.nm&&decide (o.pl=0) else decide (1<=o.pl)&&decide (o.pl<=aiQ)
mutual
def aau:Fm->Nat
 | .mk kd _ _ _ ks _=>if kd=1\/kd=2 then 1 else amI ks
def amI:List Fm->Nat
 | []=>0
 | x::r=>aau x+amI r
end
mutual
def ew:Xp->Bool
 | .mk op v tb nm di ks sb=>match aiM op with
  | none=>false
  | some (lo,hi,n)=>abL op v tb nm di ks.length&&eI ks.length lo hi&&decide (sb.length=n)&&akR ks&&aoE sb
def akR:List Xp->Bool
 | []=>true
 | x::r=>ew x&&akR r
def abU:Qy->Bool
 | .mk op al ks di its fr wh gr hv od li sk =>
  decide (-1<=li)&&decide (li<=aiQ)&&decide (0<=sk)&&decide (sk<=aiQ)&&eI od.length 0 64&&od.all ai5 &&
  (if op=1 then !al&&eI ks.length 0 0&&eI its.length 1 64&&avF its&&eI fr.length 0 1&&aqV fr&&fr.all (λf=>decide (aau f<=8))&&eI wh.length 0 1&&akR wh&&eI gr.length 0 64&&akR gr&&eI hv.length 0 1&&akR hv
   else if op=2\/op=3\/op=4 then eI ks.length 2 2&&aoE ks&&!di&&decide (its.length+fr.length+wh.length+gr.length+hv.length=0)
   else false)
def aoE:List Qy->Bool
 | []=>true
 | x::r=>abU x&&aoE r
def ah9:Im->Bool
 | .mk st tb e az=>if st then ads tb&&aqm e&&decide (az=[]) else decide (tb=[])&&ads az&&ew e
def avF:List Im->Bool
 | []=>true
 | x::r=>ah9 x&&avF r
def ae9:Fm->Bool
 | .mk kd nm az sb ks on =>
  if kd=1 then dq nm&&ads az&&decide (sb.length+ks.length+on.length=0)
  else if kd=2 then decide (nm=[])&&dq az&&eI sb.length 1 1&&aoE sb&&decide (ks.length+on.length=0)
  else if kd=3\/kd=4\/kd=5 then decide (nm=[])&&decide (az=[])&&decide (sb.length=0)&&eI ks.length 2 2&&aqV ks&&decide (on.length=if kd=3 then 0 else 1)&&akR on
  else false
def aqV:List Fm->Bool
 | []=>true
 | x::r=>ae9 x&&aqV r
end
theorem akQ:∀ l:List Xp,akR l=l.all ew
 | []=>rfl
 | x::r=>by rw[akR,akQ r];rfl
theorem akS:∀ l:List Qy,aoE l=l.all abU
 | []=>rfl
 | x::r=>by rw[aoE,akS r];rfl
theorem atV:∀ l:List Im,avF l=l.all ah9
 | []=>rfl
 | x::r=>by rw[avF,atV r];rfl
theorem anF:∀ l:List Fm,aqV l=l.all ae9
 | []=>rfl
 | x::r=>by rw[aqV,anF r];rfl
def abi(l:List Xp)(lo hi:Nat):Bool:=eI l.length lo hi&&l.all ew
def ai6(c:Cd):Bool:=dq c.nm&&decide (1<=c.ty)&&decide (c.ty<=3)
def abc(l:List (List UInt8))(lo hi:Nat):Bool:=eI l.length lo hi&&l.all dq
def amz(k:Kd):Bool:=abc k.ns 1 16
def aj8(r:Rd):Bool:=abc r.ns 1 16&&dq r.tb&&abc r.to 1 16
def alc(a:As):Bool:=dq a.nm&&ew a.e
def dy(s:Sm):Bool :=
 if s.kd=1 then dq s.tb&&(eI s.cs.length 1 16&&s.cs.all ai6)&&(eI s.kys.length 0 64&&s.kys.all amz)&&(eI s.rfs.length 0 64&&s.rfs.all aj8)&&abi s.chs 0 64
  && (decide (s.nm=[])&&decide (s.ns=[])&&!s.un&&decide (s.rws.length=0)&&decide (s.sts.length=0)&&decide (s.wh.length=0)&&decide (s.q.length=0))
 else if s.kd=2 then dq s.tb&&dq s.nm&&abc s.ns 1 16
  && (decide (s.cs.length=0)&&decide (s.kys.length=0)&&decide (s.rfs.length=0)&&decide (s.chs.length=0)&&decide (s.rws.length=0)&&decide (s.sts.length=0)&&decide (s.wh.length=0)&&decide (s.q.length=0))
 else if s.kd=3 then ((dq s.tb&&decide (s.nm=[]))||(decide (s.tb=[])&&dq s.nm))
  && (decide (s.cs.length=0)&&decide (s.ns.length=0)&&!s.un&&decide (s.kys.length=0)&&decide (s.rfs.length=0)&&decide (s.chs.length=0)&&decide (s.rws.length=0)&&decide (s.sts.length=0)&&decide (s.wh.length=0)&&decide (s.q.length=0))
 else if s.kd=4 then dq s.tb&&abc s.ns 0 16&&((decide (s.rws.length=0)&&eI s.q.length 1 1&&s.q.all abU)||(decide (s.q.length=0)&&eI s.rws.length 1 64&&s.rws.all (λl=>abi l 1 16)))
  && (decide (s.nm=[])&&decide (s.cs.length=0)&&!s.un&&decide (s.kys.length=0)&&decide (s.rfs.length=0)&&decide (s.chs.length=0)&&decide (s.sts.length=0)&&decide (s.wh.length=0))
 else if s.kd=5 then dq s.tb&&(eI s.sts.length 1 16&&s.sts.all alc)&&abi s.wh 0 1
  && (decide (s.nm=[])&&decide (s.cs.length=0)&&decide (s.ns.length=0)&&!s.un&&decide (s.kys.length=0)&&decide (s.rfs.length=0)&&decide (s.chs.length=0)&&decide (s.rws.length=0)&&decide (s.q.length=0))
 else if s.kd=6 then dq s.tb&&abi s.wh 0 1
  && (decide (s.nm=[])&&decide (s.cs.length=0)&&decide (s.ns.length=0)&&!s.un&&decide (s.kys.length=0)&&decide (s.rfs.length=0)&&decide (s.chs.length=0)&&decide (s.rws.length=0)&&decide (s.sts.length=0)&&decide (s.q.length=0))
 else if s.kd=7\/s.kd=11 then (eI s.q.length 1 1&&s.q.all abU)
  && (decide (s.tb=[])&&decide (s.nm=[])&&decide (s.cs.length=0)&&decide (s.ns.length=0)&&!s.un&&decide (s.kys.length=0)&&decide (s.rfs.length=0)&&decide (s.chs.length=0)&&decide (s.rws.length=0)&&decide (s.sts.length=0)&&decide (s.wh.length=0))
 else if s.kd=8\/s.kd=9\/s.kd=10\/s.kd=12\/s.kd=13\/s.kd=14 then
  decide (s.tb=[])&&decide (s.nm=[])&&decide (s.cs.length=0)&&decide (s.ns.length=0)&&!s.un&&decide (s.kys.length=0)&&decide (s.rfs.length=0)&&decide (s.chs.length=0)&&decide (s.rws.length=0)&&decide (s.sts.length=0)&&decide (s.wh.length=0)&&decide (s.q.length=0)
 else false
def cr(a b:Nat×Nat):Nat×Nat:=(a.1+b.1,max a.2 b.2)
def upN(a:Nat×Nat):Nat×Nat:=(a.1+1,a.2+1)
def cH{α:Type}(f:α->Nat×Nat):List α->Nat×Nat
 | []=>(0,0)
 | x::r=>cr (f x) (cH f r)
mutual
def eH:Xp->Nat×Nat
 | .mk _ _ _ _ _ ks sb=>upN (cr (akM ks) (aov sb))
def akM:List Xp->Nat×Nat
 | []=>(0,0)
 | x::r=>cr (eH x) (akM r)
def abR:Qy->Nat×Nat
 | .mk _ _ ks _ its fr wh gr hv _ _ _=>upN (cr (cr (cr (cr (cr (aov ks) (avv its)) (aqF fr)) (akM wh)) (akM gr)) (akM hv))
def aov:List Qy->Nat×Nat
 | []=>(0,0)
 | x::r=>cr (abR x) (aov r)
def agj:Im->Nat×Nat
 | .mk st _ e _=>if st then (0,0) else eH e
def avv:List Im->Nat×Nat
 | []=>(0,0)
 | x::r=>cr (agj x) (avv r)
def adZ:Fm->Nat×Nat
 | .mk _ _ _ sb ks on=>upN (cr (cr (aov sb) (aqF ks)) (akM on))
def aqF:List Fm->Nat×Nat
 | []=>(0,0)
 | x::r=>cr (adZ x) (aqF r)
end
theorem ag9:∀ l:List Xp,akM l=cH eH l
 | []=>rfl
 | x::r=>by rw[akM,ag9 r];rfl
theorem akN:∀ l:List Qy,aov l=cH abR l
 | []=>rfl
 | x::r=>by rw[aov,akN r];rfl
theorem atB:∀ l:List Im,avv l=cH agj l
 | []=>rfl
 | x::r=>by rw[avv,atB r];rfl
theorem anh:∀ l:List Fm,aqF l=cH adZ l
 | []=>rfl
 | x::r=>by rw[aqF,anh r];rfl
def aFE(a b c:Nat×Nat):cr (cr a b) c=cr a (cr b c):=by simp[cr,bA,Nat.max_assoc]
def aJh(a:Nat×Nat):cr a (0,0)=a:=by simp[cr]
def aFW(a:Nat×Nat):cr (0,0) a=a:=by simp[cr]
def asf(s:Sm):Nat×Nat:=cr (cr (cr (cr (cH eH s.chs) (cH (λl=>cH eH l) s.rws)) (cH (λa:As=>eH a.e) s.sts)) (cH eH s.wh)) (cH abR s.q)
def aiA(n:Nat×Nat):Bool:=decide (n.1<=400)&&decide (n.2<=40)
def ahe(e:Xp):Bool:=aiA (eH e)&&ew e
def aoy(q:Qy):Bool:=aiA (abR q)&&abU q
def ajN(s:Sm):Bool:=aiA (asf s)&&dy s
def aq8:List UInt8->Bool
 | []=>false
 | c::r=>eE c&&r.all (λc=>eE c||cJ c)
def aVD:List UInt8:=[32,97,108,108,32,97,110,97,108,121,122,101,32,97,110,100,32,97,115,32,97,115,99,32,98,101,103,105,110,32,98,101,116,119,101,101,110,32,98,111,111,108,32,98,121,32,99,97,115,101,32,99,104,101,99,107,32,99,104,101,99,107,112,111,105,110,116,32,99,111,109,109,105,116,32,99,114,101,97,116,101,32,99,114,111,115,115,32,100,101,108,101,116,101,32,100,101,115,99,32,100,105,115,116,105,110,99,116,32,100,114,111,112,32,101,108,115,101,32,101,110,100,32,101,120,99,101,112,116,32,101,120,105,115,116,115,32,101,120,112,108,97,105,110,32,102,97,108,115,101,32,102,111,114,101,105,103,110,32,102,114,111,109,32,103,114,111,117,112,32,104,97,118,105,110,103,32,105,110,32,105,110,100,101,120,32,105,110,110,101,114,32,105,110,115,101,114,116,32,105,110,116,32,105,110,116,101,114,115,101,99,116,32,105,110,116,111,32,105,115,32,106,111,105,110,32,107,101,121,32,108,101,102,116,32,108,105,107,101,32,108,105,109,105,116,32,110,111,116,32,110,117,108,108,32,111,102,102,115,101,116,32,111,110,32,111,114,32,111,114,100,101,114,32,112,114,105,109,97,114,121,32,114,101,102,101,114,101,110,99,101,115,32,114,111,108,108,98,97,99,107,32,115,101,108,101,99,116,32,115,101,116,32,116,97,98,108,101,32,116,101,120,116,32,116,104,101,110,32,116,114,117,101,32,117,110,105,111,110,32,117,110,105,113,117,101,32,117,112,100,97,116,101,32,118,97,99,117,117,109,32,118,97,108,117,101,115,32,119,104,101,110,32,119,104,101,114,101,32]
def amt(s:List UInt8):Bool:=Lib.contains aVD (32::(s++[32]))
def plN:Nat->List UInt8->Bool
 | _,[]=>true
 | k,c::r=>(eE c||(decide (k≠0)&&cJ c))&&plN (k+1) r
def aKk(r:List UInt8):∀ k,plN (k+1) r=r.all (λc=>eE c||cJ c):=by
 induction r with
 | nil=>intro k;rfl
 | cons x r ih=>intro k;simp[plN,ih]
def aS0(l:List UInt8):aq8 l=(decide (l≠[])&&plN 0 l):=by
 cases l with
 | nil=>rfl
 | cons c r=>simp[aq8,plN,aKk]
def aGU{l:List UInt8}{k:Nat}(h:k<l.length):plN k (l.drop k)=((eE l[k]||(decide (k≠0)&&cJ l[k]))&&plN (k+1) (l.drop (k+1))):=by rw[co h,plN]
def c95(c:UInt8):(c=95)=(c.toNat=95):=propext ⟨λh=>by rw[h];rfl,λh=>UInt8.toNat_inj.1 h⟩
end Go.Tab
namespace Go.Proofs.YtghkmcffifpkeaaGreat
open RowKit Pe Tab
set_option maxRecDepth 1000000 in
def aDb(s:ByteArray)(w:World) :
  Calls Tryz.prog 244 #[.string s] w λe w'=>e=.returned (.bool (aq8 s.data.toList))/\Below w.heap.size w w':=by
 rw[aS0]
 have hsz:s.data.toList.length=s.size:=by simp
 go_enter Tryz.func244,Tryz.ntmps244
 go_wp2
 go_loopw [] (λwr=>∃ pos:Nat,wr=w.iter s pos/\pos<=s.size/\plN 0 s.data.toList=plN pos (s.data.toList.drop pos)) (λwr=>s.size-wr.iterPos w.heap.size)
 case atStart=>exact⟨0,rfl,aU _,rfl⟩
 case round =>
  obtain⟨pos,rfl,hle,HS⟩:=hrel
  have hB:Below w.heap.size w (w.iter s pos):=(Below.refl _ _).alloc (ae _) _
  by_cases hp:pos<s.size
  .rcases aA (s[pos]'hp).toNat 128 with ha|ha
   rotate_left
   .have hd:=decode_high s pos hp ha
    have hd2:=decode_le s pos
    have hnx:∀ ty,(Instr.next (.pointer (some ⟨w.heap.size,0,none⟩)) true ty).run Tryz.prog (w.iter s pos)=_:=λty=>run_next_any w s pos ty hp
    have hpl:pos<s.data.toList.length:=by omega
    rw[aGU hpl] at HS
    have hg:s.data.toList[pos]=s[pos]'hp:=by simp[ByteArray.getElem_eq_getElem_data]
    rw[hg] at HS
    have hne:s.data.toList≠[]:=by intro e;rw[e] at hpl;simp at hpl
    have hn:plN 0 s.data.toList=false:=by
     rw[HS]
     have:(eE (s[pos]'hp)||(decide (pos≠0)&&cJ (s[pos]'hp)))=false:=by
      simp only[eE,cJ,Bool.or_eq_false_iff,ada,abl,c95]
      omega
     rw[this,cY]
    generalize (Utf8.decode s pos)=dc at *
    obtain⟨rn,nb⟩:=dc
    dsimp only at hd hd2 hnx
    have hB2:Below w.heap.size w (w.iter s (pos+nb)):=(Below.refl _ _).alloc (ae _) _
    clear HS hg
    go_wp2
    all_goals try simp only[dm,beq_eq_false_iff_ne,fR] at *
    all_goals first
     | (exfalso;omega)
     | (go_ret;exact⟨by simp[hn],hB2⟩)
   have hnx:∀ ty,(Instr.next (.pointer (some ⟨w.heap.size,0,none⟩)) true ty).run Tryz.prog (w.iter s pos)=_:=λty=>run_next_ascii w s pos ty hp ha
   have hpl:pos<s.data.toList.length:=by omega
   rw[aGU hpl] at HS
   have hg:s.data.toList[pos]=s[pos]'hp:=by simp[ByteArray.getElem_eq_getElem_data]
   rw[hg] at HS
   generalize hc:(s[pos]'hp)=c at *
   have hne:s.data.toList≠[]:=by intro e;rw[e] at hpl;simp at hpl
   have hB2:Below w.heap.size w (w.iter s (pos+1)):=(Below.refl _ _).alloc (ae _) _
   have key:(eE c||(decide (pos≠0)&&cJ c))=true↔(97<=(c.toNat:Int)/\(c.toNat:Int)<=122)\/(c.toNat:Int)=95\/(0<(pos:Int)/\48<=(c.toNat:Int)/\(c.toNat:Int)<=57):=by
    simp only[eE,cJ,bk,aj,aV,c95]
    omega
   have yes:(97<=(c.toNat:Int)/\(c.toNat:Int)<=122)\/(c.toNat:Int)=95\/(0<(pos:Int)/\48<=(c.toNat:Int)/\(c.toNat:Int)<=57)->plN 0 s.data.toList=plN (pos+1) (s.data.toList.drop (pos+1)):=λh=>by rw[HS,key.2 h,cO]
   have no:¬((97<=(c.toNat:Int)/\(c.toNat:Int)<=122)\/(c.toNat:Int)=95\/(0<(pos:Int)/\48<=(c.toNat:Int)/\(c.toNat:Int)<=57))->plN 0 s.data.toList=false:=λh=>by
    cases hb:(eE c||(decide (pos≠0)&&cJ c)) with
    | false=>rw[HS,hb,cY]
    | true=>exact absurd (key.1 hb) h
   clear HS key hc
   go_wp2
   all_goals try simp only[dm,beq_eq_false_iff_ne,fR] at *
   all_goals first
    | (refine⟨⟨pos+1,rfl,by omega,yes aC⟩,?_⟩;simp;omega)
    | (have hn:=no aC;go_ret;exact⟨by simp[hn],hB2⟩)
  .have hnx:∀ ty,(Instr.next (.pointer (some ⟨w.heap.size,0,none⟩)) true ty).run Tryz.prog (w.iter s pos)=_:=λty=>run_next_end w s pos ty hp
   rw[dv aC,plN] at HS
   rw[HS]
   go_wp2
   go_ret
   refine⟨?_,hB⟩
   rw[HS,aag]
   have e:(!s.toList.isEmpty)=decide (s.data.toList≠[]):=by rw[ByteArray.toList_eq];cases s.data.toList <;> rfl
   rw[← e]
   rfl
end Go.Proofs.YtghkmcffifpkeaaGreat
namespace Go.Pe
section
variable (s:S) (d j:Nat) (x:X) (t:Tk)
theorem Z6w:(s.put (some d) x).fr j=if j=d then x else s.fr j:=rfl
theorem Z6y(d:Option Nat):(s.put d x).objs=s.objs:=by cases d <;> rfl
theorem Z6v(d:Option Nat):(s.put d x).clk=s.clk:=by cases d <;> rfl
theorem Z6x:s.put none x=s:=rfl
theorem Z31:(s.drop (some t)).fr j=(s.fr j).drop t:=rfl
theorem Z32:(s.drop (some t)).objs=s.objs.map (Ob.drop t):=rfl
theorem Z30:(s.drop (some t)).clk=s.clk:=rfl
theorem Z3i(n:Nat):s.ev (.tmp n)=s.fr n:=rfl
theorem Z3g(v:Value):s.ev (.const v)=aa5 v:=rfl
theorem Z3h(f:Nat):s.ev (.func f)=.of (.fn f []):=rfl
end
def Z63(k:IntKind)(n:Int):aa5 (.int k n)=.of (.lit (.int k n)):=rfl
def Z62(b:Bool):aa5 (.bool b)=.of (.lit (.bool b)):=rfl
def Z67(b:ByteArray):aa5 (.string b)=.of (.lit (.string b)):=rfl
def Z65:aa5 (.slice none 0 0)=.nil:=rfl
def Z66:aa5 (.pointer none)=.of (.lit (.pointer none)):=rfl
def Z64:aa5 (.map none)=.of (.lit (.map none)):=rfl
def aoR:List X->Nat->X
 | [],_=>.of .undef
 | c::_,0=>c
 | _::cs,j+1=>aoR cs j
theorem Z42(obs:List Ob):∀ (xs:List X) (j:Nat),(adQ xs obs).fr j=aoR xs j
 | [],j=>rfl
 | c::cs,0=>rfl
 | c::cs,j+1=>by have:=Z42 obs cs j;simpa [adQ,aoR] using this
def Z43(xs:List X)(obs:List Ob):(adQ xs obs).objs=obs:=rfl
def Z41(xs:List X)(obs:List Ob):(adQ xs obs).clk=1:=rfl
def Z40(x:X)(xs:List X):aoR (x::xs) 0=x:=rfl
def Z3z(x:X)(xs:List X)(j:Nat):aoR (x::xs) (j+1)=aoR xs j:=rfl
def Z8q(P:Program)(pr:Pr)(b:Code)(Q:Ex->S->Prop)(s:S):aou P pr b Q .normal s↔WC P pr b s Q:=bf
def Z8p(P:Program)(pr:Pr)(b:Code)(Q:Ex->S->Prop)(i:Nat)(s:S):aou P pr b Q (.exit i) s↔Q (.exit i) s:=bf
def Z8s(P:Program)(pr:Pr)(b:Code)(Q:Ex->S->Prop)(s:S):aou P pr b Q .ret s↔Q .ret s:=bf
def Z8r(P:Program)(pr:Pr)(b:Code)(Q:Ex->S->Prop)(x:X)(s:S):aou P pr b Q (.pan x) s↔Q (.pan x) s:=bf
def Z24(i:Nat)(Q:Ex->S->Prop)(x:X)(s:S):aku i Q (.pan x) s↔Q (.pan x) s:=bf
def Z23(i:Nat)(Q:Ex->S->Prop)(s:S):aku i Q .normal s↔Q .normal s:=bf
def Z22(i j:Nat)(Q:Ex->S->Prop)(s:S):aku i Q (.exit j) s↔if j=i then Q .normal s else Q (.exit j) s:=bf
def Z25(i:Nat)(Q:Ex->S->Prop)(s:S):aku i Q .ret s↔Q .ret s:=bf
def S.tk(s:S):S:={s with clk:=s.clk+1}
def Z8u(s:S)(j:Nat):s.tk.fr j=s.fr j:=rfl
def Z8v(s:S):s.tk.objs=s.objs:=rfl
def Z8t(s:S):s.tk.clk=s.clk+1:=rfl
def Z7g(Q:Ex->S->Prop)(s:S):ae7 Q none s↔Q .normal s.tk:=bf
def Z7h(Q:Ex->S->Prop)(x:X)(s:S):ae7 Q (some x) s↔Q (.pan x) s.tk:=bf
def Z5j(F:S->Prop)(Q:Option X->S->Prop)(s:S):aoJ F Q none s↔F s:=bf
def Z5k(F:S->Prop)(Q:Option X->S->Prop)(x:X)(s:S):aoJ F Q (some x) s↔Q (some x) s:=bf
def Z2t(b:Bool)(p q:Prop):avY (some b) p q↔if b=true then p else q:=bf
def Z3s(ops:Array Oper)(s:S)(d:Option Nat)(op:Op)(ty:Nat)(pos:String)(af:Array Edge):dI ops s ⟨d,op,ty,pos,af,none⟩=some true:=rfl
def arp(want:Bool):X->Option Bool
 | .of (.lit (.bool b))=>some (b == want)
 | .of .undef=>some false
 | _=>none
def aH6(s:S)(want:Bool):Option Nat->Option Bool
 | some d=>arp want (s.fr d)
 | none=>some false
def Z3t(ops:Array Oper)(s:S)(d:Option Nat)(op:Op)(ty:Nat)(pos:String)(af:Array Edge)(j:Nat)(want:Bool) :
  dI ops s ⟨d,op,ty,pos,af,some (j,want)⟩=aH6 s want ((ops[j]?).bind (·.dst)):=by
 simp only[dI]
 cases (ops[j]?).bind (·.dst) with
 | none=>rfl
 | some d=>rfl
def Z3r(s:S)(want:Bool)(d:Nat):aH6 s want (some d)=arp want (s.fr d):=rfl
def Z3u(want b:Bool):arp want (.of (.lit (.bool b)))=some (b == want):=rfl
def Z3v(want:Bool):arp want (.of .undef)=some false:=rfl
def Z6g(s:S)(d:Option Nat)(af:Array Edge)(K:S->Prop)(x:X):aaP s d af K (out x)↔K (s.put d x):=bf
def Z6i(s:S)(d:Option Nat)(af:Array Edge)(K:S->Prop)(x:X)(t:Tk):aaP s d af K (some (x,some t))↔aae s.clk af.toList (some t)=true/\K ((s.drop (some t)).put d x):=bf
def Z6f(s:S)(d:Option Nat)(af:Array Edge)(K:S->Prop)(x:X):aaP s d af K (some (x,none))↔K (s.put d x):=bf
def Z3w(b:Bool)(p q:Prop):aiU (some b) p q↔if b=true then p else q:=by cases b <;> simp[aiU]
def Zw(P:Program)(pr:Pr)(id:Nat)(l:List Oper)(s:S)(Q:Ex->S->Prop):WC P pr (.region id l.toArray false) s Q↔WO P pr false l.toArray 0 l s (ae7 Q):=aFH id l.toArray s Q
def Zx(P:Program)(pr:Pr)(id:Nat)(l:List Oper)(s:S)(Q:Ex->S->Prop):WC P pr (.region id l.toArray true) s Q↔if plB pr.mt l=true then plQ (avB P pr l.toArray s (ae7 Q)) (aiP pr.obj l.toArray) else if tlB l=true then WOT P pr l.toArray 0 l s (ae7 Q) else tlQ (acw pr.obj l) (λn=>WD P pr l.toArray n 0 false l s (ae7 Q)) (if aaU l=true then WOB P pr l.toArray 0 l s (ae7 Q) else if aib pr.obj l=true then WS P pr l.toArray l s (ae7 Q) else WO P pr true l.toArray 0 l s (ae7 Q)):=aFG id l.toArray s Q
def aOk(A:Nat->Prop)(B:Prop):tlQ 0 A B↔B:=bf
def aVO{n n':Nat}(A:Nat->Prop)(B:Prop)(h:Unit->n=n'):tlQ n A B=tlQ n' A B:=by rw[h ()]
def aJQ{b b':Bool}(A B:Prop)(h:Unit->b=b'):aOr b A B=aOr b' A B:=by rw[h ()]
attribute [congr] aVO aJQ
def aRx(obj:Nat->Bool)(a b c:Oper)(l:List Oper):acw obj (a::b::c::l)=acw obj (b::c::l):=rfl
def aVN(obj:Nat->Bool)(d:Option Nat)(o:Op)(ty:Nat)(po:String)(af:Array Edge)(g:Option (Nat×Bool))(d':Option Nat)(o':Op)(ty':Nat)(po':String)(af':Array Edge)(g':Option (Nat×Bool)):acw obj [⟨d,o,ty,po,af,g⟩,⟨d',o',ty',po',af',g'⟩]=if (acM obj o'&&g'.isNone)=true then 1 else if (acM obj o&&g.isNone&&(opK o' == 2&&g'.isNone))=true then 2 else 0:=rfl
def aSO(obj:Nat->Bool)(g:Nat)(a:Array Operand)(t:Array Nat):acM obj (.call {callee:=.value (.func g),args:=a,argTypes:=t})=obj g:=rfl
def a3T(obj:Nat->Bool)(g:Builtin)(a:Array Operand)(t:Array Nat):acM obj (.call {callee:=.builtin g,args:=a,argTypes:=t})=false:=rfl
def aHe(obj:Nat->Bool):∀ x0,acM obj (.assign x0)=false:=λ_=>rfl
def aSM(obj:Nat->Bool):∀ x0 x1 x2,acM obj (.pick x0 x1 x2)=false:=λ_ _ _=>rfl
def aLb(obj:Nat->Bool):∀ x0 x1 x2 x3 x4,acM obj (.binOp x0 x1 x2 x3 x4)=false:=λ_ _ _ _ _=>rfl
def aSL(obj:Nat->Bool):∀ x0 x1 x2,acM obj (.unOp x0 x1 x2)=false:=λ_ _ _=>rfl
def aSN(obj:Nat->Bool):∀ x0 x1,acM obj (.load x0 x1)=false:=λ_ _=>rfl
def axf(obj:Nat->Bool):∀ x0 x1 x2,acM obj (.fieldAddr x0 x1 x2)=false:=λ_ _ _=>rfl
def aLa(obj:Nat->Bool):∀ x0 x1,acM obj (.build x0 x1)=false:=λ_ _=>rfl
def auS(obj:Nat->Bool):∀ x0 x1 x2,acM obj (.buildSlice x0 x1 x2)=false:=λ_ _ _=>rfl
def aLc(obj:Nat->Bool):∀ x0,acM obj (.alloc x0)=false:=λ_=>rfl
def aK9(obj:Nat->Bool):∀ x0 x1 x2,acM obj (.store x0 x1 x2)=false:=λ_ _ _=>rfl
def Z4q(obj:Nat->Bool)(d:Option Nat)(o:Op)(ty:Nat)(po:String)(af:Array Edge)(g:Option (Nat×Bool))(r:List Oper):aib obj (⟨d,o,ty,po,af,g⟩::r)=(aem obj o&&g.isNone):=rfl
def Z7y(a b:Oper)(l:List Oper):aaU (a::b::l)=aaU (b::l):=rfl
def Z7z(d:Option Nat)(o:Op)(ty:Nat)(po:String)(af:Array Edge)(g:Option (Nat×Bool)):aaU [⟨d,o,ty,po,af,g⟩]=(cL o&&g.isNone):=rfl
def Z8i(t:Nat)(a x:Operand):cL (.store t a x)=true:=rfl
def Z84(c:Call):cL (.call c)=false:=rfl
def Z4v(obj:Nat->Bool)(g:Nat)(tys:Array Nat):aem obj (.call {callee:=.value (.func g),args:=#[],argTypes:=tys})=obj g:=rfl
def Z56(obj:Nat->Bool):∀ x0,aem obj (.move x0)=false:=λ_=>rfl
def Z80:∀ x0,cL (.assign x0)=false:=λ_=>rfl
def Z8g:∀ x0 x1 x2,cL (.pick x0 x1 x2)=false:=λ_ _ _=>rfl
def Z81:∀ x0 x1 x2 x3 x4,cL (.binOp x0 x1 x2 x3 x4)=false:=λ_ _ _ _ _=>rfl
def Z8j:∀ x0 x1 x2,cL (.unOp x0 x1 x2)=false:=λ_ _ _=>rfl
def Z8b:∀ x0 x1,cL (.load x0 x1)=false:=λ_ _=>rfl
def Z53(obj:Nat->Bool):∀ x0 x1,aem obj (.load x0 x1)=false:=λ_ _=>rfl
def Z88:∀ x0 x1 x2,cL (.fieldAddr x0 x1 x2)=false:=λ_ _ _=>rfl
def Z50(obj:Nat->Bool):∀ x0 x1 x2,aem obj (.fieldAddr x0 x1 x2)=false:=λ_ _ _=>rfl
def Z82:∀ x0 x1,cL (.build x0 x1)=false:=λ_ _=>rfl
def Z83:∀ x0 x1 x2,cL (.buildSlice x0 x1 x2)=false:=λ_ _ _=>rfl
def aSF:∀ x0,opK (.move x0)=0:=λ_=>rfl
def aG4:∀ x0,opK (.assign x0)=2:=λ_=>rfl
def aSE:∀ x0 x1 x2,opK (.pick x0 x1 x2)=0:=λ_ _ _=>rfl
def aK4:∀ x0,opK (.alloc x0)=3:=λ_=>rfl
def aSG:∀ x0 x1,opK (.load x0 x1)=4:=λ_ _=>rfl
def aK3:∀ x0 x1 x2 x3 x4,opK (.binOp x0 x1 x2 x3 x4)=0:=λ_ _ _ _ _=>rfl
def aSC:∀ x0 x1 x2,opK (.unOp x0 x1 x2)=0:=λ_ _ _=>rfl
def axb:∀ x0 x1 x2,opK (.fieldAddr x0 x1 x2)=0:=λ_ _ _=>rfl
def axa:∀ x0 x1 x2,opK (.indexAddr x0 x1 x2)=0:=λ_ _ _=>rfl
def aG3:∀ x0 x1 x2 x3,opK (.lookup x0 x1 x2 x3)=0:=λ_ _ _ _=>rfl
def aDo:∀ x0 x1,opK (.extract x0 x1)=0:=λ_ _=>rfl
def aSH:∀ x0,opK (.call x0)=0:=λ_=>rfl
def aK2:∀ x0 x1 x2,opK (.store x0 x1 x2)=1:=λ_ _ _=>rfl
def aVQ(l:List Oper):tlB l=tlM l (akJ l):=rfl
def aJJ(l:List Oper):tlM l none=false:=rfl
def aJI(l:List Oper)(d:Nat):tlM l (some d)=!alM d l:=rfl
def aJK(a b c:Oper)(l:List Oper):akJ (a::b::c::l)=akJ (b::c::l):=rfl
def aRy(d:Option Nat)(o:Op)(ty:Nat)(po:String)(af:Array Edge)(g:Option (Nat×Bool))(d':Option Nat)(o':Op)(ty':Nat)(po':String)(af':Array Edge)(g':Option (Nat×Bool)):akJ [⟨d,o,ty,po,af,g⟩,⟨d',o',ty',po',af',g'⟩]=if (cL o&&g.isNone&&(g'.isNone&&(cL o'||opK o' == 2)))=true then aNC o else none:=rfl
def a0N(t d:Nat)(x:Operand):aNC (.store t (.tmp d) x)=some d:=rfl
def aLR(d:Nat):alM d []=false:=rfl
def aHy(j:Nat)(d:Option Nat)(o:Op)(ty:Nat)(po:String)(af:Array Edge)(g:Option (Nat×Bool))(l:List Oper):alM j (⟨d,o,ty,po,af,g⟩::l)=((opK o == 3&&eqD d j)||alM j l):=rfl
def aMS(a d:Nat):eqD (some a) d=(a == d):=rfl
def aMT(d:Nat):eqD none d=false:=rfl
def aTl{b b':Bool}(p:Prop)(h:Unit->b=b'):aYp b p=aYp b' p:=by rw[h ()]
def aVP(l:List Oper){x x':Option Nat}(h:Unit->x=x'):tlM l x=tlM l x':=by rw[h ()]
def aH5{g g':Option Bool}(p q:Prop)(h:Unit->g=g'):aiU g p q=aiU g' p q:=by rw[h ()]
def aM6{g g':Option Bool}(p q:Prop)(h:Unit->g=g'):avY g p q=avY g' p q:=by rw[h ()]
def aSx(s:S)(d:Option Nat)(af:Array Edge)(K:S->Prop){v v':Out}(h:Unit->v=v'):aaP s d af K v=aaP s d af K v':=by rw[h ()]
def aSA(Q:S->Prop){v v':Option S}(h:Unit->v=v'):abT Q v=abT Q v':=by rw[h ()]
def aNU(P:Program)(pr:Pr)(f:Nat){xs xs':List X}{obs obs':List Ob}(K:An->Prop)(h:Unit->xs=xs')(h':Unit->obs=obs'):aba P pr f xs obs K=aba P pr f xs' obs' K:=by rw[h (),h' ()]
def aNi(P:Program)(pr:Pr)(dr:Bool)(s:S)(k:Nat)(d:Option Nat)(Q:Option X->S->Prop)(f:Nat){us us':List X}(caps:List C){cs cs':Option (List C)}{b b':Bool}(h1:Unit->us=us')(h2:Unit->cs=cs')(h3:Unit->b=b') :
  ajH P pr dr s k d Q f us caps cs b=ajH P pr dr s k d Q f us' caps cs' b':=by rw[h1 (),h2 (),h3 ()]
def aNg(P:Program)(pr:Pr)(dr:Bool)(s:S)(k:Nat)(d:Option Nat)(Q:Option X->S->Prop){us us':List X}{cs cs':Option (List C)}{x x':X}(h1:Unit->us=us')(h2:Unit->cs=cs')(h3:Unit->x=x') :
  ahS P pr dr s k d Q us cs x=ahS P pr dr s k d Q us' cs' x':=by rw[h1 (),h2 (),h3 ()]
def aGT(P:Program)(pr:Pr)(s:S)(k:Nat)(d:Option Nat)(Q:Option X->S->Prop)(f:Nat)(caps:List C){cs cs':Option (List C)}(h:Unit->cs=cs'):alB P pr s k d Q f caps cs=alB P pr s k d Q f caps cs':=by rw[h ()]
def aK8(P:Program)(pr:Pr)(s:S)(k:Nat)(d:Option Nat)(Q:Option X->S->Prop)(f:Nat){us us':List X}{refs refs':List Nat}{ts ts':List Tk}(h1:Unit->us=us')(h2:Unit->refs=refs')(h3:Unit->ts=ts') :
  ahB P pr s k d Q f us refs ts=ahB P pr s k d Q f us' refs' ts':=by rw[h1 (),h2 (),h3 ()]
def aK7(P:Program)(pr:Pr)(s:S)(k:Nat)(d:Option Nat)(refs:List Nat)(ts:List Tk)(Q:Option X->S->Prop)(f:Nat)(us:List X){obs obs':Option (List Ob)}(h1:Unit->obs=obs') :
  aqX P pr s k d refs ts Q f us obs=aqX P pr s k d refs ts Q f us obs':=by rw[h1 ()]
def aSu(Q:Option X->S->Prop)(s:S){c c':Option C}(h:Unit->c=c'):asF Q s c=asF Q s c':=by rw[h ()]
attribute [congr] aH5 aM6 aSx aSA aNU aNi aNg aGT aK8 aK7 aSu
section
variable (P:Program) (T:TT) (t:Nat) (u:Option TypeDesc) (k:IntKind) (a b:Int)
theorem Z1r:eT P T t u .lss (.of (.lit (.int k a))) (.of (.lit (.int k b)))=out (aM (decide (a<b))):=by simp[eT,fu,abI,aer,bE,out]
theorem Z1q:eT P T t u .leq (.of (.lit (.int k a))) (.of (.lit (.int k b)))=out (aM (decide (a<=b))):=by simp[eT,fu,abI,aer,bE,out]
theorem Z1p:eT P T t u .gtr (.of (.lit (.int k a))) (.of (.lit (.int k b)))=out (aM (decide (b<a))):=by simp[eT,fu,abI,aer,bE,out]
theorem Z1o:eT P T t u .geq (.of (.lit (.int k a))) (.of (.lit (.int k b)))=out (aM (decide (b<=a))):=by simp[eT,fu,abI,aer,bE,out]
theorem Z1n:eT P T t u .eql (.of (.lit (.int k a))) (.of (.lit (.int k b)))=out (aM (decide (a=b))):=by simp[eT,fu,abI,aer,bE,out]
theorem Z1t:eT P T t u .neq (.of (.lit (.int k a))) (.of (.lit (.int k b)))=out (aM (!decide (a=b))):=by simp[eT,fu,abI,aer,bE,out]
theorem Z1k:eT P T t u .add (.of (.lit (.int k a))) (.of (.lit (.int k b)))=out (.of (.lit (.int k (k.wrap (a+b))))):=by simp[eT,fu,abI,aer,bE,out]
theorem Z1x:eT P T t u .sub (.of (.lit (.int k a))) (.of (.lit (.int k b)))=out (.of (.lit (.int k (k.wrap (a-b))))):=by simp[eT,fu,abI,aer,bE,out]
theorem Z1s:eT P T t u .mul (.of (.lit (.int k a))) (.of (.lit (.int k b)))=out (.of (.lit (.int k (k.wrap (a*b))))):=by simp[eT,fu,abI,aer,bE,out]
theorem Z1v(x y:ByteArray):eT P T t u .eql (.of (.lit (.string x))) (.of (.lit (.string y)))=out (aM (decide (x=y))):=by simp[eT,fu,abI,an5,bE,out]
theorem Z1w(x y:ByteArray):eT P T t u .neq (.of (.lit (.string x))) (.of (.lit (.string y)))=out (aM (!decide (x=y))):=by simp[eT,fu,abI,an5,bE,out]
theorem Z1u(x y:ByteArray):eT P T t u .add (.of (.lit (.string x))) (.of (.lit (.string y)))=if x.size+y.size<=akw then out (agi (x++y)) else none:=by
 simp only[eT,fu,abI,an5]
 split <;> rfl
theorem Z1l(x y:Bool):eT P T t (some .bool) .eql (.of (.lit (.bool x))) (.of (.lit (.bool y)))=out (aM (x == y)):=by simp[eT,fu,abI,ao4,alS,bE,out]
theorem Z1m(x y:Bool):eT P T t (some .bool) .neq (.of (.lit (.bool x))) (.of (.lit (.bool y)))=out (aM (!(x == y))):=by simp[eT,fu,abI,ao4,alS,bE,out]
theorem Z9n(b:Bool):unX .not (.of (.lit (.bool b)))=out (aM (!b)):=rfl
end
def Z4h(b:Bool):adm (.of (.lit (.bool b)))=some b:=rfl
def Z4i(n:Int):aas (.of (.lit (.int .i64 n)))=some n:=rfl
def aXQ(m n:Int):apT (.of (.lit (.int .i64 m))) (.of (.lit (.int .i64 n)))=out (aQ (if m<n then n else m)):=rfl
def Z4p(m n:Int):apS (.of (.lit (.int .i64 m))) (.of (.lit (.int .i64 n)))=out (aQ (if n<m then n else m)):=rfl
def Z4j(v:Value):fu (.of (.lit v))=some v:=rfl
def Z6q(s:S)(x y:Operand)(b:Bool):aDe s x y (some b)=out (if b=true then s.ev x else s.ev y):=rfl
def Z4f(s:ByteArray):fV (some .string) (.of (.lit (.string s)))=out (aQ s.size):=rfl
def Z4d(e:Nat)(t:Tk)(e' z:Nat)(cs:List C)(n:Nat):fV (some (.slice e)) (.own t e' z cs n)=out (aQ n):=rfl
def Z4c(e:Nat):fV (some (.slice e)) .nil=out (aQ 0):=rfl
def Z6e(s:S)(d:Option Nat)(af:Array Edge)(K:S->Prop)(c:Prop)[Decidable c](v:Out):aaP s d af K (if c then v else none)↔c/\aaP s d af K v:=by
 split
 .simp[*]
 .simp[*,aaP]
def Z1b(t:Tk)(e z:Nat)(cs:List C)(n:Nat):aaT (.own t e z cs n)=some (cs,n):=rfl
def Z72(c:C):X.rd (.of c)=some c:=rfl
def Z73(t:Tk)(e z:Nat)(cs:List C)(n:Nat):X.rd (.own t e z cs n)=some (.sl cs n):=rfl
def Z71:X.rd .nil=some (.sl [] 0):=rfl
def Z70(f:Operand->X):abh f []=some []:=rfl
def avX(c:Option C)(cs:Option (List C)):Option (List C):=match c,cs with
 | some c,some cs=>some (c::cs)
 | _,_=>none
def Z6z(f:Operand->X)(x:Operand)(r:List Operand):abh f (x::r)=avX (f x).rd (abh f r):=by
 simp only[abh,avX]
 cases (f x).rd <;> cases abh f r <;> rfl
def Z2u(c:C)(cs:List C):avX (some c) (some cs)=some (c::cs):=rfl
def Z26(P:Program)(pr:Pr)(dr:Bool)(s:S)(k:Nat)(d:Option Nat)(Q:Option X->S->Prop)(f:Nat)(us:List X)(caps:List C)(cs:Option (List C)):ajH P pr dr s k d Q f us caps cs false↔alB P pr s k d Q f caps cs:=bf
def Z27(P:Program)(pr:Pr)(dr:Bool)(s:S)(k:Nat)(d:Option Nat)(Q:Option X->S->Prop)(f:Nat)(us:List X)(caps:List C)(cs:Option (List C)):ajH P pr dr s k d Q f us caps cs true↔dr=false/\ahB P pr s k d Q f us (dQ s.objs 999 (X.refsL us) []) (agC (pr.tk f) us):=bf
def Z29(P:Program)(pr:Pr)(dr:Bool)(s:S)(k:Nat)(d:Option Nat)(Q:Option X->S->Prop)(args:List X)(cs:Option (List C))(f:Nat)(caps:List C):ahS P pr dr s k d Q args cs (.of (.fn f caps))↔ajH P pr dr s k d Q f (args++caps.map .of) caps cs (pr.obj f):=bf
def Z28(P:Program)(pr:Pr)(dr:Bool)(s:S)(k:Nat)(d:Option Nat)(Q:Option X->S->Prop)(args:List X)(cs:Option (List C))(f:Nat)(caps:List X):ahS P pr dr s k d Q args cs (.clo f caps)↔pr.obj (ahQ f)=true/\dr=false/\ahB P pr s k d Q (ahQ f) (ako f caps args) (dQ s.objs 999 (X.refsL (ako f caps args)) []) (agC (pr.tk (ahQ f)) (ako f caps args)):=bf
def aSQ(r o:Nat):aXM (.ptr r o)=out (.ptr r o):=rfl
def aUk(f:Nat):ahQ f=f / 2:=rfl
def aUl(f:Nat)(caps args:List X):ako f caps args=if f % 2=0 then args++caps else caps++args:=rfl
def aNf(r o:Nat):ag5 (.ptr r o)=some (.ptr r o):=rfl
def ayk:Option X->Option (List X)->Option (List X)
 | some y,some r=>some (y::r)
 | _,_=>none
def aIJ:acE []=some []:=rfl
def aFa(x:X)(l:List X):acE (x::l)=ayk (ag5 x) (acE l):=by
 simp only[acE,ayk]
 cases ag5 x <;> cases acE l <;> rfl
def az7(y:X)(r:List X):ayk (some y) (some r)=some (y::r):=rfl
def aIC(f:Nat)(xs:List X):amV f (some xs)=out (.clo f xs):=rfl
def aWB(r o:Nat):X.rd (.ptr r o)=none:=rfl
def aER(cs:Option (List C)):avX none cs=none:=rfl
def Z6s(P:Program)(pr:Pr)(s:S)(k:Nat)(d:Option Nat)(Q:Option X->S->Prop)(f:Nat)(caps cs:List C):alB P pr s k d Q f caps (some cs)↔d9 P f=true/\aba P pr f ((cs++caps).map .of) [] (aw3 s k d Q):=bf
def apX{α:Type}(v:α)(K:α->Prop):Prop:=K v
def aS2{α:Type}{v v':α}(K:α->Prop)(h:Unit->v=v'):apX v K=apX v' K:=by rw[h ()]
attribute [congr] aS2
def Z4g{α:Type}(v:α)(K:α->Prop):apX v K↔K v:=bf
def Z6r(s:S)(k:Nat)(d:Option Nat)(Q:Option X->S->Prop)(rs:List X):aw3 s k d Q ⟨false,rs,[]⟩↔apX (ae8 (ahD s.clk k rs)) λx=>Q none (s.put d x):=bf
def Z5w(P:Program)(pr:Pr)(s:S)(k:Nat)(d:Option Nat)(Q:Option X->S->Prop)(f:Nat)(us:List X)(refs:List Nat)(ts:List Tk):ahB P pr s k d Q f us refs ts↔aqX P pr s k d refs ts Q f us (aj5 (af7 s.objs refs) (aaj (pos refs) (fD refs ts) (aeX ts s.objs) refs)):=bf
def Z5x(P:Program)(pr:Pr)(s:S)(k:Nat)(d:Option Nat)(refs:List Nat)(ts:List Tk)(Q:Option X->S->Prop)(f:Nat)(us:List X)(obs:List Ob):aqX P pr s k d refs ts Q f us (some obs)↔d9 P f=true/\aba P pr f (X.trs (pos refs) (fD refs ts) us) obs (ak4 s k d refs ts Q):=bf
def S.bfr(s:S)(refs:List Nat)(ts:List Tk):S:={s with fr:=λj=>(s.fr j).tr some (cf refs ts)}
def S.withO(s:S)(objs:List Ob):S:={s with objs:=objs}
def aFp(refs:List Nat)(ts:List Tk)(clk k:Nat)(objs obs:List Ob):List Ob:=aai (λi=>some (ce refs objs.length i)) (cB refs objs.length clk k) (objs.map (Ob.tr some (cf refs ts))) refs obs++(obs.drop refs.length).map (Ob.tr (λi=>some (ce refs objs.length i)) (cB refs objs.length clk k))
def Z1e(refs:List Nat)(ts:List Tk)(clk k:Nat)(objs obs:List Ob):aFp refs ts clk k objs obs=aai (λi=>some (ce refs objs.length i)) (cB refs objs.length clk k) (objs.map (Ob.tr some (cf refs ts))) refs obs++(obs.drop refs.length).map (Ob.tr (λi=>some (ce refs objs.length i)) (cB refs objs.length clk k)):=rfl
def Z1f(s:S)(k:Nat)(d:Option Nat)(refs:List Nat)(ts:List Tk)(Q:Option X->S->Prop)(rs:List X)(obs:List Ob)(h:refs.length<=obs.length) :
  ak4 s k d refs ts Q ⟨false,rs,obs⟩↔apX (aFp refs ts s.clk k s.objs obs) λo=>apX (ae8 (X.trs (λi=>some (ce refs s.objs.length i)) (cB refs s.objs.length s.clk k) rs)) λx=>Q none (((s.bfr refs ts).withO o).put d x):=by
 unfold ak4 afq
 rw[au h]
 rfl
def Z1g(s:S)(k:Nat)(d:Option Nat)(refs:List Nat)(ts:List Tk)(Q:Option X->S->Prop)(x:X)(obs:List Ob)(h:refs.length<=obs.length) :
  ak4 s k d refs ts Q ⟨true,[x],obs⟩↔apX (aFp refs ts s.clk k s.objs obs) λo=>Q (some (x.tr (λi=>some (ce refs s.objs.length i)) (cB refs s.objs.length s.clk k))) ((s.bfr refs ts).withO o):=by
 unfold ak4 afq
 rw[au h]
 rfl
def Z1i(s:S)(refs:List Nat)(ts:List Tk)(j:Nat):(s.bfr refs ts).fr j=(s.fr j).tr some (cf refs ts):=rfl
def Z1h(s:S)(refs:List Nat)(ts:List Tk):(s.bfr refs ts).clk=s.clk:=rfl
section
variable (σ:Nat->Option Nat) (ρ:Tk->Option Tk)
theorem Z9g(c:C):(X.of c).tr σ ρ=.of c:=rfl
theorem Z9f:X.nil.tr σ ρ=.nil:=rfl
theorem Z9c(xs:List X):(X.agg xs).tr σ ρ=.agg (X.trs σ ρ xs):=rfl
theorem Z9d(f:Nat)(xs:List X):(X.clo f xs).tr σ ρ=.clo f (X.trs σ ρ xs):=rfl
def trP(off:Nat):Option Nat->X
 | some r=>.ptr r off
 | none=>.of .any
def trM:Option Nat->X
 | some r=>.mp r
 | none=>.of .any
def trO(e z:Nat)(cs:List C)(n:Nat):Option Tk->X
 | some t=>.own t e z cs n
 | none=>.of (.sl cs n)
theorem Z9i(r off:Nat):(X.ptr r off).tr σ ρ=trP off (σ r):=by simp only[X.tr,trP];cases σ r <;> rfl
theorem Z9e(r:Nat):(X.mp r).tr σ ρ=trM (σ r):=by simp only[X.tr,trM];cases σ r <;> rfl
theorem Z9h(t:Tk)(e z:Nat)(cs:List C)(n:Nat):(X.own t e z cs n).tr σ ρ=trO e z cs n (ρ t):=by simp only[X.tr,trO];cases ρ t <;> rfl
theorem Z9l:X.trs σ ρ []=[]:=rfl
theorem Z9k(x:X)(xs:List X):X.trs σ ρ (x::xs)=x.tr σ ρ::X.trs σ ρ xs:=rfl
theorem Z61(ty:Nat)(xs:List X):(Ob.var ty xs).tr σ ρ=.var ty (X.trs σ ρ xs):=rfl
theorem Z60(es:List (Value×C)):(Ob.map es).tr σ ρ=.map es:=rfl
end
def Z9b(off r:Nat):trP off (some r)=.ptr r off:=rfl
def Z98(r:Nat):trM (some r)=.mp r:=rfl
def Z9a(e z:Nat)(cs:List C)(n:Nat)(t:Tk):trO e z cs n (some t)=.own t e z cs n:=rfl
def Z99(e z:Nat)(cs:List C)(n:Nat):trO e z cs n none=.of (.sl cs n):=rfl
def Z5i(c k:Nat):ahD c k []=[]:=rfl
def Z5h(c k:Nat)(x:X)(xs:List X):ahD c k (x::xs)=x.tr (λ_=>none) (adr c k)::ahD c k xs:=rfl
def Z6u{α:Type}[DecidableEq α](a:α):pos [] a=none:=rfl
def Z6t{α:Type}[DecidableEq α](b:α)(l:List α)(a:α):pos (b::l) a=if b=a then some 0 else (pos l a).map (·+1):=rfl
def aWy(refs:List Nat):Tk->Option Tk
 | .cell r off=>(pos refs r).map λr'=>.cell r' off
 | .nm ..=>none
def aC4(refs:List Nat)(t:Tk):Option Nat->Option Tk
 | some i=>some (.nm 0 0 i)
 | none=>aWy refs t
def Z7n(refs:List Nat)(ts:List Tk)(t:Tk):fD refs ts t=aC4 refs t (pos ts t):=by
 unfold fD aC4 aWy
 cases pos ts t <;> rfl
def Z7o(refs:List Nat)(r off:Nat):aC4 refs (.cell r off) none=(pos refs r).map λr'=>.cell r' off:=rfl
def Z7p(refs:List Nat)(a b c:Nat):aC4 refs (.nm a b c) none=none:=rfl
def Z44(refs:List Nat)(ts:List Tk)(r off:Nat):cf refs ts (.cell r off)=if Tk.cell r off∈ts then none else if r∈refs then none else some (.cell r off):=rfl
def Z45(refs:List Nat)(ts:List Tk)(a b c:Nat):cf refs ts (.nm a b c)=if Tk.nm a b c∈ts then none else some (.nm a b c):=rfl
def Z7w(r:Nat)(refs:List Nat)(L:Nat):ce (r::refs) L 0=r:=rfl
def Z7u(L i:Nat):ce [] L i=L+i:=rfl
def Z7v(r:Nat)(refs:List Nat)(L i:Nat):ce (r::refs) L (i+1)=ce refs L i:=by
 simp only[ce,eL,aN]
 cases refs[i]? with
 | some r=>rfl
 | none=>simp only;congr 1;omega
def Z7l(refs:List Nat)(L c k r off:Nat):cB refs L c k (.cell r off)=some (.cell (ce refs L r) off):=rfl
def Z2z(objs:List Ob):aeX [] objs=objs:=rfl
def ayl:Option Ob->Option (List Ob)->Option (List Ob)
 | some a,some b=>some (a::b)
 | _,_=>none
def Z6p(σ:Nat->Option Nat)(ρ:Tk->Option Tk)(objs:List Ob):aaj σ ρ objs []=some []:=rfl
def Z6o(σ:Nat->Option Nat)(ρ:Tk->Option Tk)(objs:List Ob)(r:Nat)(l:List Nat):aaj σ ρ objs (r::l)=ayl ((objs[r]?).map (Ob.tr σ ρ)) (aaj σ ρ objs l):=by
 simp only[aaj,ayl]
 cases objs[r]? <;> cases aaj σ ρ objs l <;> rfl
def Z2v(a:Ob)(b:List Ob):ayl (some a) (some b)=some (a::b):=rfl
def Z7t(σ:Nat->Option Nat)(ρ:Tk->Option Tk)(objs obs:List Ob):aai σ ρ objs [] obs=objs:=by cases obs <;> rfl
def Z7s(σ:Nat->Option Nat)(ρ:Tk->Option Tk)(objs:List Ob)(r:Nat)(l:List Nat)(ob:Ob)(q:List Ob):aai σ ρ objs (r::l) (ob::q)=aai σ ρ (objs.set r (ob.tr σ ρ)) l q:=rfl
def Z75(objs:List Ob)(n:Nat)(seen:List Nat):dQ objs n [] seen=seen:=by cases n <;> rfl
def Z74(objs:List Ob)(n r:Nat)(todo seen:List Nat):dQ objs (n+1) (r::todo) seen=if r∈seen then dQ objs n todo seen else dQ objs n (((objs[r]?).map Ob.refs).getD []++todo) (seen++[r]):=rfl
def Z7c(c:C):(X.of c).refs=[]:=rfl
def Z7b:X.nil.refs=[]:=rfl
def Z7d(t:Tk)(e z:Nat)(cs:List C)(n:Nat):(X.own t e z cs n).refs=[]:=rfl
def Z7e(r o:Nat):(X.ptr r o).refs=[r]:=rfl
def Z7a(r:Nat):(X.mp r).refs=[r]:=rfl
def Z79(f:Nat)(xs:List X):(X.clo f xs).refs=X.refsL xs:=rfl
def Z78(xs:List X):(X.agg xs).refs=X.refsL xs:=rfl
def Z77:X.refsL []=[]:=rfl
def Z76(x:X)(xs:List X):X.refsL (x::xs)=x.refs++X.refsL xs:=rfl
def Z5z(ty:Nat)(xs:List X):(Ob.var ty xs).refs=X.refsL xs:=rfl
def Z5y(es:List (Value×C)):(Ob.map es).refs=[]:=rfl
def Z94(c:C):(X.of c).toks=[]:=rfl
def Z92(r:Nat):(X.mp r).toks=[]:=rfl
def Z8z:X.toksL []=[]:=rfl
def Z8y(x:X)(xs:List X):X.toksL (x::xs)=x.toks++X.toksL xs:=rfl
def Z8w(us:List X):agC false us=[]:=rfl
def Z5v{α:Type}[DecidableEq α](seen:List α):nub [] seen=seen:=rfl
def Z6d(Q:S->Prop)(s:S):abT Q (some s)↔Q s:=bf
def Z15(s:S)(d:Option Nat)(ty:Nat)(xs:List X):arU s d ty (some xs)=some (al4 s d ty xs):=rfl
def Z5p:ace []=true:=rfl
def Z5q(c:C)(xs:List X):ace (.of c::xs)=ace xs:=rfl
def Z5o(xs:List X):ace (.nil::xs)=ace xs:=rfl
def Z5r(t:Tk)(e z:Nat)(cs:List C)(n:Nat)(xs:List X):ace (.own t e z cs n::xs)=false:=rfl
def Z9p(s:S)(objs:List Ob)(j:Nat):(s.withO objs).fr j=s.fr j:=rfl
def Z9q(s:S)(objs:List Ob):(s.withO objs).objs=objs:=rfl
def Z9o(s:S)(objs:List Ob):(s.withO objs).clk=s.clk:=rfl
def Z8n(ρ:Tk->Option Tk)(s:S)(j:Nat):(s.tr ρ).fr j=(s.fr j).tr some ρ:=rfl
def Z8o(ρ:Tk->Option Tk)(s:S):(s.tr ρ).objs=s.objs.map (Ob.tr some ρ):=rfl
def Z8m(ρ:Tk->Option Tk)(s:S):(s.tr ρ).clk=s.clk:=rfl
def apZ(r off:Nat)(xs:List X)(s:S):Bool->S
 | true=>s
 | false=>s.tr (aar r off xs.length (dN r off xs))
def Z16(s:S)(d:Option Nat)(ty:Nat)(xs:List X):al4 s d ty xs=(apZ s.objs.length 0 xs (s.withO (s.objs++[Ob.var ty xs])) (ace xs)).put d (.ptr s.objs.length 0):=by
 unfold al4 apY apZ S.withO
 cases ace xs <;> simp[ace]
def aqJ(s:S)(d:Option Nat)(n r off:Nat)(xs:List X):Option Ob->Option S
 | some (.var ty ys)=>if xs.length=n/\off+xs.length<=ys.length then some ((apZ r off xs (s.withO (s.objs.set r (Ob.var ty (ys.take off++xs++ys.drop (off+xs.length))))) (ace xs&&ace ((ys.drop off).take xs.length))).put d (.of .undef)) else none
 | _=>none
def Z8k(s:S)(d:Option Nat)(td:TD)(r off:Nat)(xs:List X):anj s d (some td) (.ptr r off) (some xs)=aqJ s d td.size r off xs (s.objs[r]?):=by
 simp only[anj,afv,aqJ]
 cases s.objs[r]? with
 | none=>rfl
 | some ob =>
  cases ob with
  | map es=>rfl
  | row ty cs=>rfl
  | var ty ys =>
   simp only
   split
   .simp only[ab]
    unfold apY apZ S.withO
    cases ace xs <;> cases ace ((ys.drop off).take xs.length) <;> rfl
   .rfl
def Z47(r off:Nat)(xs:List X)(s:S):apZ r off xs s true=s:=rfl
def Z46(r off:Nat)(xs:List X)(s:S):apZ r off xs s false=s.tr (aar r off xs.length (dN r off xs)):=rfl
def avN(r off n:Nat)(t:Tk):Option Tk->Option Tk
 | some t'=>some t'
 | none=>match t with
  | .cell r' o'=>if r'=r/\off<=o'/\o'<off+n then none else some t
  | .nm ..=>some t
def Z5f(r off n:Nat)(mv:List (Tk×Tk))(t:Tk):aar r off n mv t=avN r off n t (acF mv t):=by
 unfold aar avN
 cases acF mv t <;> rfl
def Z5e(r off n:Nat)(t t':Tk):avN r off n t (some t')=some t':=rfl
def Z5c(r off n r' o':Nat):avN r off n (.cell r' o') none=if r'=r/\off<=o'/\o'<off+n then none else some (.cell r' o'):=rfl
def Z1d(t:Tk):acF [] t=none:=rfl
def Z1c(a b:Tk)(l:List (Tk×Tk))(t:Tk):acF ((a,b)::l) t=if a=t then some b else acF l t:=rfl
def Z2d(r off:Nat):dN r off []=[]:=rfl
def Z2f(r off:Nat)(t:Tk)(e z:Nat)(cs:List C)(n:Nat)(xs:List X):dN r off (.own t e z cs n::xs)=(t,.cell r off)::dN r (off+1) xs:=rfl
def Z2e(r off:Nat)(c:C)(xs:List X):dN r off (.of c::xs)=dN r (off+1) xs:=rfl
def Z2c(r off:Nat)(xs:List X):dN r off (.nil::xs)=dN r (off+1) xs:=rfl
def aXP{b b':Bool}(p q:Prop)(h:Unit->b=b'):mtQ b p q=mtQ b' p q:=by rw[h ()]
def aLj(p q:Prop):mtQ true p q↔p:=bf
def aHr(p q:Prop):mtQ false p q↔q:=bf
def stQ(dr mt:Bool)(s:S)(j t:Nat)(af:Array Edge)(Q:S->Prop)(td:Option TD)(xs:Option (List X))(cs:Option (List C))(ax:X):Prop:=abT Q (stO dr mt s j t af td xs cs ax)
def aWf(dr:Bool){mt mt':Bool}(s:S)(j t:Nat)(af:Array Edge)(Q:S->Prop){td td':Option TD}{xs xs':Option (List X)}{cs cs':Option (List C)}{ax ax':X}(h1:Unit->mt=mt')(h2:Unit->td=td')(h3:Unit->xs=xs')(h4:Unit->cs=cs')(h5:Unit->ax=ax') :
  stQ dr mt s j t af Q td xs cs ax=stQ dr mt' s j t af Q td' xs' cs' ax':=by rw[h1 (),h2 (),h3 (),h4 (),h5 ()]
def a8t(P:Program)(pr:Pr)(dr:Bool)(k:Nat)(ty:Nat)(po:String)(af:Array Edge)(s:S)(Q:Option X->S->Prop)(t j:Nat)(x:Operand):SO P pr dr k ⟨none,.store t (.tmp j) x,ty,po,af,none⟩ s Q↔stQ dr (pr.mt po (some j)) s j t af (Q none) (TT.of P t) (cn (s.ev x)) (ec (s.ev x)) (s.fr j):=Zr dr k ty po af s Q t j x
def ash(s:S)(td:TD)(r off:Nat)(xs:List X)(Q:S->Prop)(o:Option Ob):Prop:=abT Q (aqJ s none td.size r off xs o)
def aRF(s:S)(td:TD)(r off:Nat)(xs:List X)(Q:S->Prop){o o':Option Ob}(h:Unit->o=o'):ash s td r off xs Q o=ash s td r off xs Q o':=by rw[h ()]
def aA9(s:S)(j t:Nat)(af:Array Edge)(Q:S->Prop)(td:TD)(cs:List C)(tk:Tk)(ty z:Nat):abT Q (awX s j t tk ty z af (some td) (some cs))↔(ty=t/\z=td.size/\cs.length=z/\aae s.clk af.toList (some tk)=true)/\Q ((s.drop (some tk)).put (some j) (.of (.ref cs))):=by
 unfold awX
 simp only
 split
 .rename_i h;simp only[abT];exact⟨λq=>⟨h,q⟩,λq=>q.2⟩
 .rename_i h;simp only[abT];exact⟨λq=>q.elim,λq=>h q.1⟩
def aRQ(mt:Bool)(s:S)(j t:Nat)(af:Array Edge)(Q:S->Prop)(td:TD)(xs:Option (List X))(cs:List C)(tk:Tk)(ty z:Nat):stQ true mt s j t af Q (some td) xs (some cs) (.nw (some tk) ty z)↔(ty=t/\z=td.size/\cs.length=z/\aae s.clk af.toList (some tk)=true)/\Q ((s.drop (some tk)).put (some j) (.of (.ref cs))):=aA9 s j t af Q td cs tk ty z
def aJY(s:S)(j t:Nat)(af:Array Edge)(Q:S->Prop)(td:TD)(xs:Option (List X))(cs:List C)(tk:Tk)(ty z:Nat):stQ false false s j t af Q (some td) xs (some cs) (.nw (some tk) ty z)↔(ty=t/\z=td.size/\cs.length=z/\aae s.clk af.toList (some tk)=true)/\Q ((s.drop (some tk)).put (some j) (.of (.ref cs))):=aA9 s j t af Q td cs tk ty z
def aJZ(s:S)(j t:Nat)(af:Array Edge)(Q:S->Prop)(td:TD)(xs:List X)(cs:Option (List C))(tk:Tk)(ty z:Nat):stQ false true s j t af Q (some td) (some xs) cs (.nw (some tk) ty z)↔(ty=t/\z=td.size/\xs.length=z/\aae s.clk af.toList (some tk)=true)/\Q (((s.drop (some tk)).withO ((s.drop (some tk)).objs++[Ob.var t (X.drops tk xs)])).put (some j) (.ptr (s.drop (some tk)).objs.length 0)):=by
 show abT Q (avO s j t tk ty z af (some td) (some xs))↔_
 unfold avO
 simp only
 split
 .rename_i h;simp only[abT];exact⟨λq=>⟨h,q⟩,λq=>q.2⟩
 .rename_i h;simp only[abT];exact⟨λq=>q.elim,λq=>h q.1⟩
def aRR(mt:Bool)(s:S)(j t:Nat)(af:Array Edge)(Q:S->Prop)(td:TD)(xs:List X)(cs:Option (List C))(r off:Nat):stQ false mt s j t af Q (some td) (some xs) cs (.ptr r off)↔ash s td r off xs Q (s.objs[r]?):=by
 unfold ash
 rw[← Z8k]
 exact bf
def aRH(s:S)(td:TD)(r off:Nat)(xs:List X)(Q:S->Prop)(ty:Nat)(ys:List X):ash s td r off xs Q (some (.var ty ys))↔(xs.length=td.size/\off+xs.length<=ys.length)/\Q ((apZ r off xs (s.withO (s.objs.set r (Ob.var ty (ys.take off++xs++ys.drop (off+xs.length))))) (ace xs&&ace ((ys.drop off).take xs.length))).put none (.of .undef)):=by
 unfold ash
 simp only[aqJ]
 split
 .rename_i h;simp only[abT];exact⟨λq=>⟨h,q⟩,λq=>q.2⟩
 .rename_i h;simp only[abT];exact⟨λq=>q.elim,λq=>h q.1⟩
def ayE(s:S)(d:Option Nat)(Q:S->Prop)(td:Option TD)(cs:Option (List C)):Prop:=abT Q (aFj s d td cs)
def aU2(s:S)(d:Option Nat)(Q:S->Prop){td td':Option TD}{cs cs':Option (List C)}(h:Unit->td=td')(h':Unit->cs=cs'):ayE s d Q td cs=ayE s d Q td' cs':=by rw[h (),h' ()]
def a8u(P:Program)(pr:Pr)(k:Nat)(d:Option Nat)(ty:Nat)(po:String)(af:Array Edge)(g:Option (Nat×Bool))(s:S)(Q:Option X->S->Prop)(t:Nat)(x:Operand):SO P pr false k ⟨d,.box t x,ty,po,af,g⟩ s Q↔mtQ (pr.mt po d) (abT (Q none) (arU s d t (aFk (TT.of P t) (cn (s.ev x))))) (ayE s d (Q none) (TT.of P t) (ec (s.ev x))):=Z4 k d ty po af g s Q t x
def aU3(s:S)(d:Option Nat)(Q:S->Prop)(td:TD)(cs:List C):ayE s d Q (some td) (some cs)↔(cs.length=td.size/\0<td.size)/\Q (s.put d (.of (.ref cs))):=by
 unfold ayE aFj
 simp only
 split
 .rename_i h;simp only[abT];exact⟨λq=>⟨h,q⟩,λq=>q.2⟩
 .rename_i h;simp only[abT];exact⟨λq=>q.elim,λq=>h q.1⟩
def aXJ(tk:Tk)(t:Nat)(td:TD):nwX tk t (some td)=if 0<td.size then out (.nw (some tk) t td.size) else none:=rfl
def aJ7(cs:List C):ec (.of (.agg cs))=some cs:=by
 show ((some (cs.map X.of)).bind X.rds)=some cs
 rw[db]
 induction cs with
 | nil=>rfl
 | cons c r ih=>rw[bc,X.rds,ih,X.rd]
def aR4(v:Value):ec (.of (.lit v))=some [.lit v]:=rfl
def aWA(f:Nat)(cs:List C):ec (.of (.fn f cs))=some [.fn f cs]:=rfl
def aR3:ec .nil=some [.sl [] 0]:=rfl
def aR2(t:Tk)(e z:Nat)(cs:List C)(n:Nat):ec (.own t e z cs n)=some [.sl cs n]:=rfl
def aR5(xs:List X):ec (.agg xs)=X.rds xs:=rfl
def aR0:X.rds []=some []:=rfl
def aEP(x:Option C)(l:Option (List C)):Option (List C):=match x,l with
 | some c,some cs=>some (c::cs)
 | _,_=>none
def aJ6(x:X)(r:List X):X.rds (x::r)=aEP x.rd (X.rds r):=by
 unfold aEP
 rw[X.rds]
 cases x.rd <;> cases X.rds r <;> rfl
def aEO(c:C)(cs:List C):aEP (some c) (some cs)=some (c::cs):=rfl
def aWC(xs:List X):X.rd (.agg xs)=(X.rds xs).map .agg:=by rw[X.rd]
def aMW(t:Tk)(o:Option Tk)(ty z:Nat):(X.nw o ty z).drop t=.nw (agd t o) ty z:=by rw[X.drop]
def aEG(t t':Tk):agd t (some t')=if t'=t then none else some t':=rfl
def aIp(t:Tk):X.drops t []=[]:=by rw[X.drops]
def aEB(t:Tk)(x:X)(r:List X):X.drops t (x::r)=x.drop t::X.drops t r:=by rw[X.drops]
def awM:∀ t,cL (.alloc t)=false:=λ_=>rfl
attribute [congr] aXP aWf aRF aU2 aTl aVP
def aEN(x:Option X)(l:Option (List X)):Option (List X):=match x,l with
 | some x,some l=>some (x::l)
 | _,_=>none
def Z7j(T:TT)(s:S):acx T s []=some []:=rfl
def Z7k(T:TT)(s:S)(t:Nat)(r:List ResultVar):acx T s (.tmp t::r)=(acx T s r).map (s.fr t::·):=rfl
def Z7i(T:TT)(s:S)(a t:Nat)(r:List ResultVar):acx T s (.cell a t::r)=aEN ((abk T s.objs t (s.fr a)).map (·.1)) (acx T s r):=by
 simp only[acx,aEN]
 cases abk T s.objs t (s.fr a) with
 | none=>rfl
 | some p=>cases acx T s r <;> rfl
def Z2x(x:X)(l:List X):aEN (some x) (some l)=some (x::l):=rfl
def ara(refs:List Nat)(rs:List X):List Tk:=(nub (X.toksL rs) []).filter λt=>match t with
  | .nm ..=>true
  | .cell r _=>!decide (r∈refs)
def axA(refs:List Nat)(ts:List Tk)(pan:Bool)(rs:List X)(objs:List Ob):Option An:=(aaj (pos refs) (fD refs ts) objs refs).map λobs=>⟨pan,X.trs (pos refs) (fD refs ts) rs,obs⟩
def aHL(refs:List Nat)(pan:Bool)(rs:List X)(objs:List Ob):Option An:=axA refs (ara refs rs) pan rs objs
def Z4b(m:Nat)(pan:Bool)(rs:List X)(objs:List Ob):aec m pan rs objs=aHL (dQ objs 999 (X.refsL rs++((objs.take m).map Ob.refs).flatten) (List.range m)) pan rs objs:=rfl
def Z48(refs:List Nat)(pan:Bool)(rs:List X)(objs:List Ob):aHL refs pan rs objs=axA refs (ara refs rs) pan rs objs:=rfl
def Z49(refs:List Nat)(ts:List Tk)(pan:Bool)(rs:List X)(objs:List Ob):axA refs ts pan rs objs=(aaj (pos refs) (fD refs ts) objs refs).map λobs=>⟨pan,X.trs (pos refs) (fD refs ts) rs,obs⟩:=rfl
def aoS(refs:List Nat):List Tk->List Tk
 | []=>[]
 | .nm a b c::l=>.nm a b c::aoS refs l
 | .cell r o::l=>if r∈refs then aoS refs l else .cell r o::aoS refs l
def Z4a(refs:List Nat)(rs:List X):ara refs rs=aoS refs (nub (X.toksL rs) []):=by
 unfold ara
 generalize nub (X.toksL rs) []=l
 induction l with
 | nil=>rfl
 | cons t l ih =>
  cases t with
  | nm a b c=>rw[List.filter_cons_of_pos (by rfl),ih];rfl
  | cell r o =>
   simp only[aoS]
   split
   .rename_i h;rw[List.filter_cons_of_neg (by simp[h]),ih]
   .rename_i h;rw[List.filter_cons_of_pos (by simp[h]),ih]
def Z3o(refs:List Nat):aoS refs []=[]:=rfl
def Z1z(i:Nat):Region.binds .any ⟨i,.data⟩=true:=rfl
def Z1y(i:Nat):Region.binds .any ⟨i,.chain⟩=true:=rfl
def Z21(i:Nat):Region.binds .any ⟨i,.phase⟩=true:=rfl
def Z6b(x:X):ae8 [x]=x:=rfl
def Z6a:ae8 []=.tup []:=rfl
def Z6c(x y:X)(r:List X):ae8 (x::y::r)=.tup (x::y::r):=rfl
def Z3j(xs:List X)(i:Nat):amP i (.tup xs)=bE (xs[i]?):=rfl
def Z3d(P:Program)(b:Bool)(f m:Nat)(an:An)(s:S):endQ P b f m an .normal s↔((acx (TT.of P) s (aef P f)).bind λrs=>aec m false (agI b rs) s.objs)=some an:=bf
def Z3f(P:Program)(b:Bool)(f m:Nat)(an:An)(s:S):endQ P b f m an .ret s↔((acx (TT.of P) s (aef P f)).bind λrs=>aec m false (agI b rs) s.objs)=some an:=bf
def Z3e(P:Program)(b:Bool)(f m:Nat)(an:An)(x:X)(s:S):endQ P b f m an (.pan x) s↔aec m true [x] s.objs=some an:=bf
def Z5t(p:Prop)[Decidable p]:((!decide p)=true)=¬ p:=by simp
def at8(s:ByteArray)(k:Nat):Nat:=(s.data.toList.getD k 0).toNat
def aHY{T:TT}{t:Nat}(hT:(T t).map (·.und)=some .string)(s:ByteArray)(n:Int):afL T t (.of (.lit (.string s))) (.of (.lit (.int .i64 n)))=if 0<=n/\n.toNat<s.size then out (.of (.lit (.int .u8 (at8 s n.toNat)))) else none:=by
 have hs:afK ((T t).map (·.und))=true:=by rw[hT];rfl
 simp only[afL,aas]
 by_cases h:0<=n/\n.toNat<s.size
 .rw[aix ⟨hs,h.1,h.2⟩,au h]
  congr 5
  unfold at8
  have:s.data.toList.getD n.toNat 0=s[n.toNat]:=by
   rw[aW]
   have hl:n.toNat<s.data.toList.length:=by simpa using h.2
   rw[aL hl]
   rfl
  rw[this]
 .rw[ar h,dif_neg (λg=>h g.2)]
def abY{T:TT}{t e:Nat}{d:TD}(h:elemOf T t=some (e,d))(cs:List C)(n:Nat)(i:Int)(x:X)(hx:aaT x=some (cs,n)):bz T t x (.of (.lit (.int .i64 i)))=if 0<=i/\i<(n:Int)/\cs.length=n*d.size/\0<d.size then out (.of (.ref (cs.drop (i.toNat*d.size)))) else none:=by
 unfold elemOf at h
 split at h
 .rename_i e' _ _ _ _ _ hT
  simp only[ap,aY] at h
  obtain⟨d',hd,rfl,rfl⟩:=h
  simp only[bz,aas,hT,hd,hx]
 .cases h
def eu(n:Int)(h1:-9223372036854775808<=n)(h2:n<=9223372036854775807):IntKind.i64.wrap n=n:=IntWalk.i64_in n ⟨h1,h2⟩
def alh{T:TT}{a b:Nat}{d:TD}{k:IntKind}(ha:T a=some d)(hb:(T b).map (·.und)=some (.int k))(k':IntKind)(n:Int):aed T a b (.of (.lit (.int k' n)))=out (.of (.lit (.int k (k.wrap n)))):=by
 simp only[aed,adv,ha,hb]
def a5q(T:TT)(t off:Nat):List C->Option X
 | []=>none
 | c::cs=>(bi T t ((c::cs).drop off)).map .of
def amF(T:TT)(t off:Nat):Option Ob->Option X
 | some (.var _ xs)=>bx T t (xs.drop off)
 | some (.row _ cs)=>a5q T t off cs
 | _=>none
def Z4l(T:TT)(objs:List Ob)(t r off:Nat):abk T objs t (.ptr r off)=bE (amF T t off (objs[r]?)):=by
 simp only[abk,amF]
 cases objs[r]? with
 | none=>rfl
 | some ob =>
  cases ob with
  | row ty cs=>cases cs <;> rfl
  | _=>rfl
def Z4k(T:TT)(t off ty:Nat)(xs:List X):amF T t off (some (.var ty xs))=bx T t (xs.drop off):=rfl
def Z6j(x:X):bE (some x)=out x:=rfl
def Z4m(T:TT)(objs:List Ob)(t:Nat)(cs:List C):abk T objs t (.of (.ref cs))=bE ((bi T t cs).map .of):=rfl
def aUj{T:TT}{a b e:Nat}(ha:afK ((T a).map (·.und))=true)(hb:(T b).map (·.und)=some (.slice e))(he:amK (T e)=true)(s:ByteArray):aed T a b (.of (.lit (.string s)))=out (.of (.sl (akt s) s.size)):=by
 simp only[aed,hb,avW,ha,he,agn,am]
def Z39(t:Tk)(c:C):(X.of c).drop t=.of c:=rfl
def Z38(t:Tk):X.nil.drop t=.nil:=rfl
def Z3b(t:Tk)(r o:Nat):(X.ptr r o).drop t=.ptr r o:=rfl
def Z3a(t t':Tk)(e z:Nat)(cs:List C)(n:Nat):(X.own t' e z cs n).drop t=if t'=t then .of (.sl cs n) else .own t' e z cs n:=rfl
def Z34(t:Tk)(ty:Nat)(xs:List X):(Ob.var ty xs).drop t=.var ty (xs.map (X.drop t)):=by simp[Ob.drop,ab0]
def Z33(t:Tk)(es:List (Value×C)):(Ob.map es).drop t=.map es:=rfl
def Old(clk:Nat)(t:Tk):Prop:=(t.older clk λ_=>False)/\t.isRow=false
def Z68(clk c ix i:Nat):Old clk (.nm c ix i)↔c<clk:=by simp[Old,Tk.older,Tk.isRow]
def aK1(clk r o:Nat):Old clk (.cell r o)↔(o == 1099511627776)=false:=by simp[Old,Tk.older,Tk.isRow]
def Z69{clk:Nat}{t:Tk}(h:Old clk t)(af:List Edge):aae clk af (some t)=true:=by
 cases t with
 | nm c ix i=>rw[Z68] at h;simp[aae,h]
 | cell r o=>rw[aK1] at h;simp[aae,h]
def Z7r(clk ix i:Nat)(af:List Edge):aae clk af (some (.nm clk ix i))=af.any λe=>Region.binds .any e&&e.on == ix:=by simp[aae]
def Z2s(s:S)(n:Nat):s.clk+n+1=s.clk+(n+1):=rfl
def Z6n(f:Operand->X):fQ f []=some []:=rfl
def aEQ(i:Nat)(l:Option (List X))(q:Option (List (Nat×List X))):Option (List (Nat×List X)):=match l,q with
 | some l,some q=>some ((i,l)::q)
 | _,_=>none
def Z6m(f:Operand->X)(i:Nat)(x:Operand)(r:List (Nat×Operand)):fQ f ((i,x)::r)=aEQ i (cn (f x)) (fQ f r):=by
 simp only[fQ,aEQ]
 cases cn (f x) <;> cases fQ f r <;> rfl
def Z2w(i:Nat)(l:List X)(q:List (Nat×List X)):aEQ i (some l) (some q)=some ((i,l)::q):=rfl
theorem aqu:∀ l:List UInt8,aeZ (l.map λb=>C.lit (.int .u8 b.toNat))=some l
 | []=>rfl
 | b::l=>by
  rw[bc,aeZ,aqu l]
  simp
def auY{T:TT}{a b e:Nat}{sz by_:Nat}{ag:Bool}{ze:List Value}{fi:List (Nat×Nat)}(ha:T a=some ⟨.slice e,sz,by_,ag,ze,fi⟩)(hb:(T b).map (·.und)=some .string)(h8:amK (T e)=true)(tk:Tk)(z n:Nat)(l:List UInt8)(hn:l.length=n) :
  aed T a b (.own tk e z (l.map λb=>C.lit (.int .u8 b.toNat)) n)=out (agi ⟨l.toArray⟩):=by
 simp only[aed,adv,ajD,ha,hb,aaT,h8,cN,hn,bM,am,aqu,aJ,bE]
 rfl
def Z17{α:Type}{A:List α}{n:Nat}(h:A.length=n)(x:α):(A++[x])[n]?=some x:=by subst h;simp
def Z18{α:Type}{A:List α}{n:Nat}(h:A.length=n)(x y:α):(A++[x]).set n y=A++[y]:=by subst h;simp
def Z2m(v:Value):cn (.of (.lit v))=some [.of (.lit v)]:=rfl
def Z2o:cn .nil=some [.nil]:=rfl
def Z2p(t:Tk)(e z:Nat)(cs:List C)(n:Nat):cn (.own t e z cs n)=some [.own t e z cs n]:=rfl
def Z2h(xs:List X):cn (.agg xs)=some xs:=rfl
def Z2i(cs:List C):cn (.of (.agg cs))=some (cs.map .of):=rfl
def aEg(place:Nat->Option (Nat×Nat))(cells xs:List X)(r:List (Nat×List X)):Option (Nat×Nat)->Option (List X)
 | some (off,size)=>if xs.length=size/\off+size<=cells.length then aah place (cells.take off++xs++cells.drop (off+size)) r else none
 | none=>none
def Z3m(place:Nat->Option (Nat×Nat))(cells:List X):aah place cells []=some cells:=rfl
def Z3l(place:Nat->Option (Nat×Nat))(cells xs:List X)(i:Nat)(r:List (Nat×List X)):aah place cells ((i,xs)::r)=aEg place cells xs r (place i):=by
 simp only[aah,aEg]
 cases place i <;> rfl
def Z3k(place:Nat->Option (Nat×Nat))(cells xs:List X)(r:List (Nat×List X))(off size:Nat)(h:xs.length=size/\off+size<=cells.length):aEg place cells xs r (some (off,size))=aah place (cells.take off++xs++cells.drop (off+size)) r:=au h
def aAu(rs:List X):agI false rs=rs.map air:=rfl
def aJR(c:C):air (.of c)=.of c:=rfl
def aGh:air .nil=.of (.sl [] 0):=rfl
def aGg(t:Tk)(e z:Nat)(cs:List C)(n:Nat):air (.own t e z cs n)=.of (.sl cs n):=rfl
def aGi(xs:List X):air (.agg xs)=aqI (.agg xs) ((X.rds xs).map .agg):=by unfold air;rw[X.rd]
def aCR(x:X)(c:C):aqI x (some c)=.of c:=rfl
def aJS(r:Nat):air (.mp r)=.mp r:=rfl
def zD:=ai (gz (gz @Zz @Zt @Zu @Zy @Z10 @Zv @Zw @Zx @Z12) (gz @Z11 @Z13 @Z14 @Zm @Z2 @Zp @Z3 @Zs @Zg) (gz @Zc @Zb @Ze @Zd @Zq @Z9 @Za @Zn @Zi) (gz @Z5 @Z6 @Zf @Z1 @Zl @a06 @Z7 @Z8 @Z0) (gz @Zh @Zk @Zj @Zo @Z6w @Z6y @Z6v @Z6x @Z8u) (gz @Z8v @Z8t @Z31 @Z32 @Z30 @Z1i @Z1h @Z9p @Z9q) (gz @Z9o @Z8n @Z8o @Z8m @Z3i @Z3g @Z3h @Z42 @Z43) (gz @Z41 @Z8q @Z8p @Z8s @Z8r @Z23 @Z22 @Z25 @Z24) (gz @Z7g @Z7h @Z5j @Z5k @Z3s @Z3t @Z70 @Z6z @Z1f)) (gj (gv @Z1g @Z7k @Z7i @Z3d @Z3f @Z3e @aJo @a8t) (gv @a8u @aU3 @aRQ @aJY @aJZ @aRR @aRH @aLj) (gq @aHr @aVQ @aJK @aRy @aLR @aHy))
def zU:=gj (gz (gz @Z2m @Z2o @Z2p @Z2h @Z2i @Z3m @Z3l @Z3k @Z17) (gz @Z18 @Z39 @Z38 @Z3b @Z3a @Z34 @Z33 @Z2s @Z68) (gz @Z69 @Z7r @Z6n @Z6m @Z2w @Z4q @Z7y @Z7z @Z8i) (gz @Z84 @Z4v @Z56 @Z80 @Z8g @Z81 @Z8j @Z8b @Z53) (gz @Z88 @Z50 @Z82 @Z83 @Z4g @Z1e @Z63 @Z62 @Z67) (gz @Z65 @Z66 @Z64 @Z40 @Z3z @Z2t @Z3w @Z3r @Z3u) (gz @Z3v @Z6g @Z6f @Z6e @Z6i @Z1r @Z1q @Z1p @Z1o) (gz @Z1n @Z1t @Z1k @Z1x @Z1s @Z1v @Z1w @Z1l @Z1m) (gz @Z9n @Z4h @Z4i @Z4p @aXQ @Z4j @Z6q @Z4f @Z4d)) (gz (gz @Z4c @Z1b @Z72 @Z73 @Z71 @Z2u @Z26 @Z27 @Z29) (gz @Z28 @Z6s @Z6r @Z5w @Z5x @Z9g @Z9f @Z9c @Z9d) (gz @Z9i @Z9e @Z9h @Z9l @Z9k @Z61 @Z60 @Z9b @Z98) (gz @Z9a @Z99 @Z5i @Z5h @Z6u @Z6t @Z7n @Z7o @Z7p) (gz @Z44 @Z45 @Z7w @Z7u @Z7v @Z7l @Z2z @Z6p @Z6o) (gz @Z2v @Z7t @Z7s @Z75 @Z74 @Z7c @Z7b @Z7d @Z7e) (gz @Z7a @Z79 @Z78 @Z77 @Z76 @Z5z @Z5y @Z94 @Z92) (gz @Z8z @Z8y @Z8w @Z5v @Z6d @Z15 @Z5p @Z5q @Z5o) (gz @Z5r @Z16 @Z8k @Z47 @Z46 @Z5f @Z5e @Z5c @Z1d)) (gv (gz @Z1c @Z2d @Z2f @Z2e @Z2c @Z7j @Z2x @Z4b @Z48) (gz @Z49 @Z4a @Z3o @Z1z @Z1y @Z21 @Z6b @Z6a @Z6c) (gz @Z3j @Z4m @Z4l @Z4k @Z6j @Z5t @aXJ @aJ7 @aR4) (gz @aWA @aR3 @aR2 @aR5 @aR0 @aJ6 @aEO @aWC @aMW) (gz @aEG @aIp @aEB @awM @aAu @aJR @aGh @aGg @aGi) (gz @aCR @aJS @aSF @aG4 @aSE @aK4 @awM @aSG @aK3) (gz @aSC @axb @axa @aG3 @aDo @aSH @aK2 @aJJ @aJI) (gj @a0N @aMS @aMT))
def zD2:=ai @aJm @aOk
def zU2:=gj (gz @aOk @aRx @aVN @aSO @a3T @aHe @aSM @aLb @aSL) (gz @aSN @axf @aLa @auS @aLc @aK9 @aUk @aUl @aNf) (gu @aIJ @aFa @az7 @aIC @aWB @aER @aSQ)
end Go.Pe
namespace Go.Proofs.YtghkmcffifpkeaaGreat
open Pe Tab
def byC(l:List UInt8):List C:=l.map λb=>.lit (.int .u8 b.toNat)
def apA:List C->Option (List UInt8)
 | []=>some []
 | .lit (.int .u8 n)::r=>if n=(UInt8.ofNat n.toNat).toNat then (apA r).map (UInt8.ofNat n.toNat::·) else none
 | _=>none
theorem awr:∀ l:List UInt8,apA (byC l)=some l
 | []=>rfl
 | b::l=>by
  have h:=awr l
  simp only[byC,bc,apA] at h ⊢
  rw[h]
  simp
theorem aAQ:∀ (cs:List C) (l:List UInt8),apA cs=some l->cs=byC l
 | [],l,h=>by simp only[apA,ab] at h;subst h;rfl
 | c::cs,l,h=>by
  unfold apA at h
  split at h
  .rename_i e;cases e
  .rename_i n r e
   cases e
   split at h
   .rename_i hn
    simp only[ap] at h
    obtain⟨l',h',rfl⟩:=h
    rw[aAQ _ l' h']
    simp only[byC,bc]
    rw[← hn]
   .cases h
  .cases h
def arL(l:List UInt8):(byC l).length=l.length:=by simp[byC]
def arM(l q:List UInt8):byC (l++q)=byC l++byC q:=by simp[byC]
def str(l:List UInt8):ByteArray:=⟨l.toArray⟩
def bld(l:List UInt8):List X:=[.ptr 0 0,.own (.cell 0 1) 5 1 (byC l) l.length]
def ak3:List Ob->Option (List UInt8)
 | [.var 245 [.of (.lit (.pointer none)),.nil]]=>some []
 | [.var 245 [.ptr 0 0,.own (.cell 0 1) 5 1 cs _]]=>apA cs
 | _=>none
def ixP(xs:List X)(obs:List Ob):Option An:=match xs,obs with
 | [.of (.lit (.string s)),.of (.fn f [])],[]=>if f=202 then some ⟨false,[aQ (Lib.idxFunc aia true s)],[]⟩ else none
 | _,_=>none
def arE(xs:List X)(obs:List Ob):Option An:=match xs,obs with
 | [.of (.lit (.string s)),.of (.lit (.string sub))],[]=>if s.size<4294967281 then some ⟨false,[aM (Lib.contains s.data.toList sub.data.toList)],[]⟩ else none
 | _,_=>none
def wbP(xs:List X)(obs:List Ob):Option An:=match xs with
 | [.ptr 0 0,.of (.lit (.int .u8 n))]=>(ak3 obs).bind λl=>if l.length+1<=LIM/\0<=n/\n<256 then some ⟨false,[.of (.lit .nilIface)],[.var 245 (bld (l++[UInt8.ofNat n.toNat]))]⟩ else none
 | _=>none
def bsP(xs:List X)(obs:List Ob):Option An:=match xs with
 | [.ptr 0 0]=>(ak3 obs).map λl=>⟨false,[agi (str l)],[.var 245 [.of .any,.of .any]]⟩
 | _=>none
def lxP(xs:List X)(obs:List Ob):Option An:=match xs,obs with
 | [.of (.lit (.string s))],[]=>some ⟨false,[aM (aq8 s.data.toList)],[]⟩
 | _,_=>none
def hpP(xs:List X)(obs:List Ob):Option An:=match xs,obs with
 | [.of (.lit (.string s)),.of (.lit (.string p))],[]=>some ⟨false,[aM (Lib.hasPrefix s.data.toList p.data.toList)],[]⟩
 | _,_=>none
def ibP(xs:List X)(obs:List Ob):Option An:=match xs,obs with
 | [.of (.lit (.string s)),.of (.lit (.int .u8 n))],[]=>some ⟨false,[aQ (Lib.indexByte s.data.toList n.toNat.toUInt8)],[]⟩
 | _,_=>none
def prims:Orc:=λf xs obs =>
 if f=201 then ixP xs obs
 else if f=283 then arE xs obs
 else if f=238 then hpP xs obs
 else if f=239 then ibP xs obs
 else if f=241 then wbP xs obs
 else if f=242 then bsP xs obs
 else if f=244 then lxP xs obs
 else none
def pr:Pr:=⟨prims,acW,tkF,afl,mtF⟩
abbrev cKp(f:Nat)(xs:List X)(obs:List Ob)(K:An->Prop):Prop:=aba Tryz.prog pr f xs obs K
def acj:pr.obj=acW:=rfl
def aWH(f:Nat):pr.obj f=acW f:=rfl
def a3B(f:Nat):pr.tk f=tkF f:=rfl
def aBd(f:Nat):pr.keep f=afl f:=rfl
def a3C(p:String)(d:Option Nat):pr.mt p d=mtF p d:=rfl
abbrev G1(f:Nat)(xs:List X)(x:X):Prop:=aH Tryz.prog pr f xs [] ⟨false,[x],[]⟩
abbrev GN(f:Nat)(xs:List X)(rs:List X):Prop:=aH Tryz.prog pr f xs [] ⟨false,rs,[]⟩
def a2Z{P:Program}{f:Nat}{fn:Func}(h:FnI P f fn):aef P f=fn.results.toList:=by unfold aef;rw[h.2]
def ahj{f:Nat}{fn:Func}{xs:List X}{obs:List Ob}{an:An}{kp:Bool}(hp:prims f xs obs=none)(hi:FnI Tryz.prog f fn)(hk:afl f=kp)(hl:Nat.ble xs.length fn.ntmps=true)
  (h:WC Tryz.prog pr (fn.body.getD .skip) (adQ xs obs) (endQ Tryz.prog kp f obs.length an)):aH Tryz.prog pr f xs obs an :=
 aH.of_body hp hi.1 (by unfold ao6;rw[hi.2];exact Nat.le_of_ble_eq_true hl) (by unfold al2;rw[hi.2,aBd,hk];exact h)
def kf{f:Nat}{fn:Func}(h:FnI Tryz.prog f fn)(k:afl f=false:=by exact rfl):afl f=false/\aef Tryz.prog f=fn.results.toList:=⟨k,a2Z h⟩
def bB{f:Nat}{fn:Func}{xs:List X}{obs:List Ob}{an:An}(hi:FnI Tryz.prog f fn)(h:WC Tryz.prog pr (fn.body.getD .skip) (adQ xs obs) (endQ Tryz.prog false f obs.length an))(hp:prims f xs obs=none:=by exact rfl)(hk:afl f=false:=by exact rfl)(hl:Nat.ble xs.length fn.ntmps=true:=by exact rfl):aH Tryz.prog pr f xs obs an:=ahj hp hi hk hl h
def bb6:=cF 10
def a0t:=cF 11
def aE3:=cF 13
def bb5:=cF 14
def bb4:=cF 16
def bb3:=cF 17
def bb2:=cF 20
def a0s:=cF 22
def a0r:=cF 24
def aEY:=cF 25
def a0q:=cF 27
def bb1:=cF 28
def bb0:=cF 29
def bbZ:=cF 30
def akr:=cT 31
def aNb:=cF 36
def aNa:=cF 37
def bbY:=cF 38
def aqc:=cT 39
def bbX:=cF 42
def a0p:=cF 43
def bbW:=cF 44
def bbV:=cF 45
def a0o:=cT 46
def bbU:=cF 51
def an2:=cF 56
def aM9:=cF 57
def amW:=cF 58
def ays:=cF 59
def ayr:=cF 60
def bbT:=cF 61
def bbS:=cF 62
def bbR:=cF 63
def akq:=cT 65
def ayq:=cT 66
def bbQ:=cT 74
def ayp:=cT 75
def alm:=cT 76
def a0n:=cT 77
def abO:=cT 78
def aeo:=cT 79
def bbP:=cT 80
def a0m:=cT 81
def bbO:=cT 91
def akp:=cT 92
def bbN:=cT 93
def bbM:=cT 94
def a0l:=cT 95
def arF:=cF 105
def aiC:=cF 106
def av3:=cF 107
def aE5:=cF 108
def a8a:=cT 109
def aoZ:=cF 110
def av2:=cF 111
def a79:=cF 112
def ajF:=cF 113
def aE4:=cF 114
def a78:=cF 115
def ak2:=cF 116
def a77:=cF 117
def aRm:=cF 119
def a76:=cF 121
def a75:=cF 123
def aRl:=cF 125
def aRk:=cF 127
def a74:=cF 128
def a73:=cF 130
def a72:=cF 132
def a71:=cF 134
def a70:=cF 136
def aE2:=cF 138
def a7Z:=cF 139
def a7Y:=cF 141
def a7X:=cF 143
def a7W:=cF 144
def aRj:=cF 145
def a7V:=cF 146
def aE1:=cF 147
def a7U:=cF 148
def a7T:=cF 149
def a7S:=cF 150
def a7R:=cF 151
def aRi:=cT 152
def a7Q:=cT 172
def amX:=cT 173
def aoY:=cT 174
def aRh:=cT 182
def a7P:=cT 183
def aE0:=cT 184
def av1:=cT 185
def a7O:=cF 197
def a7N:=cF 198
def a7M:=cF 199
def a7L:=cF 200
def a7K:=cF 201
def a7J:=cF 203
def a7I:=cF 204
def a7H:=cF 205
def av0:=cF 206
def avZ:=cF 207
def a7G:=cF 209
def a7F:=cF 210
def a7E:=cF 211
def a7D:=cF 212
def a7C:=cF 213
def a7B:=cF 214
def aRf:=cF 215
def aRe:=cF 216
def a7A:=cF 217
def a7z:=cF 218
def a7y:=cF 219
def a7x:=cF 220
def a7w:=cF 221
def a7v:=cF 222
def a7u:=cF 223
def a7t:=cF 224
def a7s:=cF 225
def a7r:=cF 226
def a7q:=cF 227
def aEZ:=cF 229
def a7p:=cF 231
def a7o:=cF 233
def a7n:=cF 234
def a7m:=cF 235
def a7l:=cF 236
def a7k:=cF 237
def a7j:=cF 238
def aRd:=cF 239
def aRc:=cF 240
def a7i:=cT 241
def a7h:=cT 242
def a7g:=cF 243
def a7f:=cF 244
def aRb:=cF 245
def a7e:=cT 246
def a7d:=cT 257
def a7c:=cF 261
def a7b:=cF 262
def a7a:=cF 264
def a69:=cF 265
def a68:=cF 266
def aRa:=cF 268
def a67:=cF 270
def a66:=cF 271
def a65:=cF 272
def a64:=cF 273
def a63:=cF 274
def a62:=cF 275
def a61:=cF 276
def a60:=cF 277
def a6Z:=cF 278
def a6Y:=cF 279
def a6X:=cF 283
def aQ9:=cT 284
def a6W:=cF 285
def a6V:=cT 286
def a6U:=cT 296
def aQ8:=cT 297
def a6T:=cF 300
def aEX:=cT 305
def aEW:=cF 306
def aEV:=cT 311
def a6S:=cT 312
def aQ7:=cT 317
def a6R:=cT 319
def aQ6:=cT 325
def aQ5:=cT 326
def a6Q:=cT 330
def a6P:=cT 332
def a6O:=cT 333
def a6N:=cT 334
def a6M:=cT 335
end Go.Proofs.YtghkmcffifpkeaaGreat
namespace Go.Proofs.YtghkmcffifpkeaaGreat
open Pe Tab RowKit
theorem awU(m:Mem):∀ (l:List UInt8) (vs:List Value),bu m (byC l) vs->vs=Lib.byteCells l
 | [],vs,h=>by simpa [byC,bu,Lib.byteCells] using h
 | b::l,vs,h=>by
  simp only[byC,bc,bu,Rep] at h
  obtain⟨v,r,rfl,⟨rfl,_⟩,h2⟩:=h
  rw[awU m l r h2]
  rfl
theorem ayz(m:Mem):∀ l:List UInt8,bu m (byC l) (Lib.byteCells l)
 | []=>rfl
 | b::l=>⟨_,_,rfl,⟨rfl,rfl⟩,ayz m l⟩
def aIV(l:List UInt8)(u:Value)(h:u∈Lib.byteCells l):u.oneCell'=true:=by
 simp only[Lib.byteCells,List.mem_map] at h
 obtain⟨b,_,rfl⟩:=h
 rfl
def avy{ty:Nat}{xs:List X}{n:Nat}(h:fG [.var ty xs] n 0):False:=by
 obtain⟨_,_,h,_⟩:=h;cases h
def atc{k:Know}{ob:Ob}(hd:∀ r b,k.μ r=some b->r<[ob].length){r c:Nat}(h:k.μ r=some c):r=0:=by
 have:=hd r c h;simpa using this
def aI5{G:GP}{k:Know}{ow:Own}{w:World}{xs0:List X}{l:List UInt8}(hp:Hp ⟨G,k.m,abK k ow⟩ k ow w w [.var 245 xs0])(hl:ak3 [.var 245 xs0]=some l) :
  ∃ b p v,k.μ 0=some b/\(p=.pointer none\/p=.pointer (some ⟨b,0,none⟩))/\BAt b p v (Lib.byteCells l) w/\(v.ownBlock=none\/ow (.cell 0 1)=some (v,5,1,l.length)):=by
 obtain⟨b,hb,_,_,hbm,vs,hh,_,hvs⟩:=hp.obj 0 _ rfl
 unfold ak3 at hl
 split at hl
 .rename_i e
  simp only[fE,Ob.var.injEq,cM,aak] at e
  subst e
  simp only[ab] at hl
  subst hl
  simp only[aP,aE,Rep] at hvs
  obtain⟨v1,r1,rfl,⟨rfl,_⟩,v2,r2,rfl,rfl,rfl⟩:=hvs
  exact⟨b,_,_,hb,.inl rfl,⟨hh,World.ownsRow_nil w 0 _ 1,by simp[Value.ownBlock]⟩,.inl rfl⟩
 .rename_i cs n e
  simp only[fE,Ob.var.injEq,cM,aak] at e
  subst e
  obtain rfl:=aAQ cs l hl
  simp only[aP,aE] at hvs
  obtain⟨v1,r1,rfl,⟨b',hb',rfl⟩,v2,r2,rfl,⟨ho,hcl,hrep⟩,rfl⟩:=hvs
  obtain rfl:=ay (hb.symm.trans hb')
  obtain rfl:n=l.length:=by rw[arL] at hcl;omega
  obtain⟨⟨xs,hown⟩,htok⟩:=hp.tok _ _ _ _ _ ho
  have hxs:xs=Lib.byteCells l:=by
   simp only[Rep] at hrep
   obtain⟨a,cp,us,rfl,_,hul,hum⟩:=hrep
   rw[← awU _ _ _ hul]
   have e1:us.length=xs.length:=by rw[hul.length,hown.1,hcl]
   apply abF
   intro i
   by_cases hi:i<us.length
   .have hne:us≠[]:=by rintro rfl;simp at hi
    obtain⟨b1,o,rfl,hc⟩:=hum hne
    rcases hown.2 with ⟨h0,_⟩|⟨g,cap2,cur,hv,_⟩
    .cases h0
    .simp only[Value.slice.injEq,ab,Addr.mk.injEq] at hv
     obtain⟨⟨rfl,rfl,_⟩,_,rfl⟩:=hv
     have hu:us[i]?=some us[i]:=by simp[hi]
     have hc1:=(hp.mem _ _ _ (hc i _ hu)).1
     have hx2:xs[i]?=some (xs[i]'(by omega)):=by simp[show i<xs.length by omega]
     have hc2:=hown.cells (g:=b1) rfl i _ hx2
     rw[Addr.add_lit] at hc2
     rw[hu,hx2,ay (hc2.symm.trans hc1)]
   .rw[aX aC,aX aC]
  subst hxs
  refine⟨b,_,_,hb,.inr rfl,⟨hh,by rw[Lib.byteCells_length];exact hown,λe=>avy ((htok b e).2.2 0 hb).1⟩,.inr ho⟩
 .cases hl
def owB(ow:Own)(v:Value)(n:Nat):Own:=λt=>if t=.cell 0 1 then some (v,5,1,n) else ow t
def aI6{G:GP}{k:Know}{ow:Own}{w w':World}{xs0:List X}{l l':List UInt8}{b:Nat}{v v':Value}{p:Value}(hp:Hp ⟨G,k.m,abK k ow⟩ k ow w w [.var 245 xs0])(hb:k.μ 0=some b)
  (hB:BAt b p v (Lib.byteCells l) w) (hv:v.ownBlock=none\/ow (.cell 0 1)=some (v,5,1,l.length)) (h:BPost b v w w' v' (Lib.byteCells (l++l'))) :
  ∃ k',Hp ⟨G,k.m,abK k ow⟩ k' (owB ow v' (l++l').length) w w' [.var 245 (bld (l++l'))]/\k.m.le k'.m/\k'.μ=k.μ:=by
 have hbl:=Lib.byteCells_length (l++l')
 obtain⟨_,hb',_,hblt,hbm',_⟩:=hp.obj 0 _ rfl
 obtain rfl:=ay (hb.symm.trans hb')
 have hbm:=hbm' rfl
 let m':Mem:=λc o=>if some c=v'.ownBlock/\o<(l++l').length then (Lib.byteCells (l++l'))[o]? else k.m c o
 have hdom:∀ r c,k.μ r=some c->r=0/\c=b:=λr c hr=>by
  have:=hp.dom r c hr
  simp only[dR,Nat.lt_one_iff] at this
  subst this
  exact⟨rfl,ay (hr.symm.trans hb)⟩
 have hold:∀ g,v.ownBlock=some g->abK k ow g/\(∀ o,l.length<=o->k.m g o=none)/\∀ t u e z n,t≠.cell 0 1->ow t=some (u,e,z,n)->u.ownBlock≠some g:=λg hg=>by
  rcases hv with h0|h0
  .rw[h0] at hg;cases hg
  .obtain⟨_,ht⟩:=hp.tok _ _ _ _ _ h0
   exact⟨.inr ⟨_,_,_,_,_,h0,hg⟩,by simpa using (ht g hg).2.1,λt u e z n hne h1=>hp.tokne _ _ _ _ _ _ _ _ _ _ h0 h1 (bo hne) g hg⟩
 have hnew:∀ g,v'.ownBlock=some g->v.ownBlock=some g\/w.heap.size<=g:=λg hg=>by
  rcases h.row with ⟨h1,_⟩|⟨⟨g',h1,h2⟩,_⟩
  .exact .inl (h1▸hg)
  .rw[h1] at hg;exact .inr (ay hg▸h2)
 have hsame:∀ c,c<w.heap.size->c≠b->(some c≠v.ownBlock\/some c≠v'.ownBlock)->w'.heap[c]?=w.heap[c]?:=λc hc hcb hcv=>by
  rcases h.row with ⟨h1,h2⟩|⟨_,h2⟩
  .exact h2 c hc hcb (by rw[h1] at hcv;exact hcv.elim id id)
  .exact h2 c hc hcb
 have hrow:∀ c o u,v'.ownBlock=some c->(Lib.byteCells (l++l'))[o]?=some u->w'.cell? ⟨c,o,none⟩=some u:=λc o u hc hu=>by
  have:=h.at'.own.cells (g:=c) hc o u hu
  rwa [Addr.add_lit,bK] at this
 have hle:k.m.le m':=λc o u hu=>by
  simp only[m']
  split
  .rename_i hc
   rcases hnew c hc.1.symm with h1|h1
   .have ho:o<l.length:=by
     rcases aA o l.length with h2|h2
     .exact h2
     .rw[(hold c h1).2.1 o h2] at hu;cases hu
    have hx:(Lib.byteCells l)[o]?=some ((Lib.byteCells l)[o]'(by rw[Lib.byteCells_length];exact ho)):=by simp[Lib.byteCells_length,ho]
    have h2:=hB.own.cells (g:=c) h1 o _ hx
    rw[Addr.add_lit,bK] at h2
    have h3:=(hp.mem c o u hu).1
    have e:=ay (h2.symm.trans h3)
    simp only[Lib.byteCells,bX]
    rw[aZ (by simpa using ho)]
    rw[← e]
    exact hx
   .have:=agt hp.mem hu
    omega
  .exact hu
 refine⟨⟨m',k.μ⟩,?_,hle,rfl⟩
 exact {
  good:=hp.good
  below:=⟨h.os,h.tape,h.output,h.size,λc hc hm=>hsame c hc (λe=>hm (.inl ⟨0,by rw[e];exact hb⟩)) (.inl λe=>hm (hold c e.symm).1)⟩
  mem:=λc o u hu=>by
   simp only[m'] at hu
   split at hu
   .rename_i hc
    exact⟨hrow c o u hc.1.symm hu,aIV _ u (bO hu)⟩
   .rename_i hc
    obtain⟨h1,h2⟩:=hp.mem c o u hu
    have hlt:=agt hp.mem hu
    refine⟨(World.cell?_of_block (a:=⟨c,o,none⟩) (hsame c hlt ?_ ?_)).trans h1,h2⟩
    .rintro rfl;rw[hbm o] at hu;cases hu
    .by_cases e:some c=v'.ownBlock
     .left
      intro e2
      have:¬ o<(l++l').length:=λh3=>hc ⟨e,h3⟩
      rw[(hold c e2.symm).2.1 o (by simp at this;omega)] at hu
      cases hu
     .exact .inr e
  obj:=λr ob hr=>by
   match r,hr with
   | 0,hr =>
    simp only[dg,ab] at hr
    subst hr
    refine⟨b,hb,.inr (.inl ⟨0,hb⟩),h.at'.lt,λ_ o=>?_,[.pointer (some ⟨b,0,none⟩),v'],h.at'.blk,?_,?_⟩
    .simp only[m']
     rw[ar λe=>h.at'.ne e.1.symm]
     exact hbm o
    .intro u hu
     simp only[bj,bH,dJ] at hu
     rcases hu with rfl|rfl
     .rfl
     .rcases h.at'.own.2 with ⟨rfl,_⟩|⟨g,cap,cur,rfl,_⟩ <;> rfl
    .refine⟨_,_,rfl,⟨b,hb,rfl⟩,_,_,rfl,⟨?_,?_,?_⟩,rfl⟩
     .simp[owB]
     .rw[arL];omega
     .have hown:=h.at'.own
      rw[hbl] at hown
      rcases hown.2 with ⟨e1,e2⟩|⟨g,cap,cur,e1,_,_,hnc,_⟩
      .have:l++l'=[]:=bP e2
       rw[this,e1]
       exact⟨none,0,[],rfl,ae _,rfl,λh=>absurd rfl h⟩
      .refine⟨_,cap,Lib.byteCells (l++l'),e1,hnc,ayz _ _,λ_=>⟨g,0,rfl,λi u hu=>?_⟩⟩
       simp only[m',bK]
       rw[au ⟨by rw[e1];rfl,by rw[← hbl];exact (List.getElem?_eq_some_iff.1 hu).1⟩]
       exact hu
  dom:=hp.dom
  inj:=λr r' c h1 h2 _ _=>(atc hp.dom h1).trans (atc hp.dom h2).symm
  tok:=λt u e z n ht=>by
   simp only[owB] at ht
   split at ht
   .simp only[bD] at ht
    obtain⟨rfl,rfl,rfl,rfl⟩:=ht
    refine⟨⟨_,by have:=h.at'.own;rw[hbl] at this;exact this⟩,λg hg=>⟨?_,λo ho=>?_,λr hr=>?_⟩⟩
    .rcases hnew g hg with h1|h1
     .exact .inr (hold g h1).1
     .exact .inl h1
    .simp only[m']
     rw[ar λe=>by have:=e.2;omega]
     rcases hnew g hg with h1|h1
     .exact (hold g h1).2.1 o (by simp at ho;omega)
     .cases hm:k.m g o with
      | none=>rfl
      | some u=>have:=agt hp.mem hm;omega
    .obtain⟨_,rfl⟩:=hdom r g hr
     exact (h.at'.ne hg).elim
   .rename_i hne
    obtain⟨⟨xs,h1⟩,h2⟩:=hp.tok t u e z n ht
    refine⟨⟨xs,acK (λg hg hlt=>hsame g hlt (λe=>avy ((h2 g hg).2.2 0 (by rw[e];exact hb)).1) (.inl λe=>(hold g e.symm).2.2 t u _ _ _ hne ht hg)) h1⟩,λg hg=>⟨(h2 g hg).1,λo ho=>?_,λr hr=>by
     obtain rfl:=atc hp.dom hr
     exact (avy ((h2 g hg).2.2 0 hr).1).elim⟩⟩
    simp only[m']
    rw[ar]
    .exact (h2 g hg).2.1 o ho
    .rintro⟨e,_⟩
     rcases hnew g e.symm with h3|h3
     .exact (hold g h3).2.2 t u _ _ _ hne ht hg
     .have:=(hp.tlt ht hg).2;omega
  tokne:=λt t' u e z n u' e' z' n' ht ht' hne g hg hg'=>by
   have key:∀ t u e z n,t≠.cell 0 1->ow t=some (u,e,z,n)->u.ownBlock=some g->v'.ownBlock=some g->False:=λt u e z n h0 h1 h2 h3=>by
    rcases hnew g h3 with h4|h4
    .exact (hold g h4).2.2 t u _ _ _ h0 h1 h2
    .have:=(hp.tlt h1 h2).2;omega
   simp only[owB] at ht ht'
   split at ht
   .rename_i e1
    simp only[bD] at ht
    obtain⟨rfl,rfl,rfl,rfl⟩:=ht
    split at ht'
    .rename_i e2
     exact hne (e1.trans e2.symm)
    .rename_i e2
     exact key t' u' _ _ _ e2 ht' hg' hg
   .rename_i e1
    split at ht'
    .simp only[bD] at ht'
     obtain⟨rfl,rfl,rfl,rfl⟩:=ht'
     exact key t u _ _ _ e1 ht hg hg'
    .exact hp.tokne t t' _ _ _ _ _ _ _ _ ht ht' hne g hg hg'
  m0:=λc o u hu hc hm=>by
   simp only[m'] at hu
   split at hu
   .rename_i e
    rcases hnew c e.1.symm with h3|h3
    .exact absurd (hold c h3).1 hm
    .omega
   .exact hu}
def GT:GP where
 holds w:=∃ m,w.cell? ⟨0,0,none⟩=some (.int .i64 m)
 blk b:=b=0
 keep w w' h hk:=by
  obtain⟨m,hm⟩:=h
  exact⟨m,(World.cell?_of_block (a:=⟨0,0,none⟩) (hk 0 rfl)).trans hm⟩
def aB7{obs:List Ob}{l:List UInt8}(h:ak3 obs=some l):∃ xs0,obs=[.var 245 xs0]:=by
 unfold ak3 at h
 split at h
 .exact⟨_,rfl⟩
 .exact⟨_,rfl⟩
 .cases h
def aSw{ow:Own}(hold:∀ t p,ow t=some p->t.older 1 λ_=>False)(v:Value)(n:Nat):∀ t p,owB ow v n t=some p->t.older 1 λ_=>False:=λt p ht=>by
 simp only[owB] at ht
 split at ht
 .rename_i e;subst e;trivial
 .exact hold t p ht
def aWO{ow:Own}{m:Nat}(hm:0<m)(hcl:∀ r off p,ow (.cell r off)=some p->r<m)(v:Value)(n:Nat):∀ r off p,owB ow v n (.cell r off)=some p->r<m:=λr off p ht=>by
 simp only[owB] at ht
 split at ht
 .rename_i e;cases e;exact hm
 .exact hcl r off p ht
def aJv(xs:List X)(obs:List Ob)(an:An)(h:wbP xs obs=some an):aa9 Tryz.prog GT 241 xs obs an:=by
 unfold wbP at h
 split at h
 .rename_i n
  simp only[bI] at h
  obtain⟨l,hl,h⟩:=h
  split at h
  .rename_i hlen
   simp only[ab] at h
   subst h
   obtain⟨hlen,hn0,hn1⟩:=hlen
   obtain⟨xs0,rfl⟩:=aB7 hl
   intro fn hf k ow w vs hp hold hcl hvs
   obtain⟨b,p,v,hb,hpp,hB,hv⟩:=aI5 hp hl
   simp only[aP,aE,Rep] at hvs
   obtain⟨v1,r1,rfl,⟨b',hb',rfl⟩,v2,r2,rfl,⟨rfl,_⟩,rfl⟩:=hvs
   obtain rfl:=ay (hb.symm.trans hb')
   refine (aF0 b p v (Lib.byteCells l) n w hpp hB (by rw[Lib.byteCells_length];exact hlen)).mono ?_
   rintro e w' ⟨rfl,v',hpost⟩
   have hpost':BPost b v w w' v' (Lib.byteCells (l++[UInt8.ofNat n.toNat])):=by
    have:Lib.byteCells (l++[UInt8.ofNat n.toNat])=Lib.byteCells l++[.int .u8 n]:=by
     have:((UInt8.ofNat n.toNat).toNat:Int)=n:=by simp;omega
     simp only[Lib.byteCells,bX,bc,bm,this]
    rw[this];exact hpost
   obtain⟨k',g1,g2,g3⟩:=aI6 hp hb hB hv hpost'
   exact⟨k',_,[.nilIface],rfl,g1,g2,ae _,λr _=>by rw[g3],aSw hold _ _,aWO Nat.zero_lt_one hcl _ _,_,_,rfl,⟨rfl,rfl⟩,rfl⟩
  .cases h
 .cases h
def aNm(xs:List X)(obs:List Ob)(an:An)(h:bsP xs obs=some an):aa9 Tryz.prog GT 242 xs obs an:=by
 unfold bsP at h
 split at h
 .simp only[ap] at h
  obtain⟨l,hl,rfl⟩:=h
  obtain⟨xs0,rfl⟩:=aB7 hl
  intro fn hf k ow w vs hp hold hcl hvs
  obtain⟨b,p,v,hb,hpp,hB,hv⟩:=aI5 hp hl
  simp only[aP,aE] at hvs
  obtain⟨v1,r1,rfl,⟨b',hb',rfl⟩,rfl⟩:=hvs
  obtain rfl:=ay (hb.symm.trans hb')
  refine (aJT b p v l w hB).mono ?_
  rintro e w' ⟨rfl,hpost⟩
  obtain⟨_,hb',_,hblt,hbm,_⟩:=hp.obj 0 _ rfl
  obtain rfl:=ay (hb.symm.trans hb')
  have hgiven:∀ g,v.ownBlock=some g->abK k ow g:=λg hg=>by
   rcases hv with h0|h0
   .rw[h0] at hg;cases hg
   .exact .inr ⟨_,_,_,_,_,h0,hg⟩
  refine⟨k,ow.del (.cell 0 1),[_],rfl,?_,Mem.le_refl _,ae _,λ_ _=>rfl,λt p ht=>?_,λr off p ht=>?_,_,_,rfl,⟨rfl,rfl⟩,rfl⟩
  .exact {
    good:=hp.good
    below:=⟨hpost.os,hpost.tape,hpost.output,hpost.size,λc hc hm=>hpost.grown c hc λe=>hm (hgiven c e.symm)⟩
    mem:=λc o u hu=>⟨(hpost.cell c o (agt hp.mem hu)).trans (hp.mem c o u hu).1,(hp.mem c o u hu).2⟩
    obj:=λr ob hr=>by
     match r,hr with
     | 0,hr =>
      simp only[dg,ab] at hr
      subst hr
      refine⟨b,hb,.inr (.inl ⟨0,hb⟩),cq hblt hpost.size,hbm,[p,v],?_,?_,?_⟩
      .rw[hpost.grown b hblt λe=>hB.ne e.symm]
       exact hB.blk
      .intro u hu
       simp only[bj,bH,dJ] at hu
       rcases hu with rfl|rfl
       .rcases hpp with rfl|rfl <;> rfl
       .rcases hB.own.2 with ⟨rfl,_⟩|⟨g,cap,cur,rfl,_⟩ <;> rfl
      .exact⟨_,_,rfl,trivial,_,_,rfl,trivial,rfl⟩
    dom:=hp.dom
    inj:=λr r' c h1 h2 _ _=>(atc hp.dom h1).trans (atc hp.dom h2).symm
    tok:=λt u e z n ht=>by
     simp only[Own.del] at ht
     split at ht
     .cases ht
     .rename_i hne
      obtain⟨⟨xs,h1⟩,h2⟩:=hp.tok t u e z n ht
      refine⟨⟨xs,acK (λg hg hlt=>hpost.grown g hlt λe=>?_) h1⟩,λg hg=>⟨(h2 g hg).1,(h2 g hg).2.1,λr hr=>by
       obtain rfl:=atc hp.dom hr
       exact (avy ((h2 g hg).2.2 0 hr).1).elim⟩⟩
      rcases hv with h0|h0
      .rw[h0] at e;cases e
      .exact hp.tokne _ _ _ _ _ _ _ _ _ _ h0 ht (bo hne) g e.symm hg
    tokne:=λt t' u e z n u' e' z' n' ht ht'=>by
     simp only[Own.del] at ht ht'
     split at ht
     .cases ht
     .split at ht'
      .cases ht'
      .exact hp.tokne t t' _ _ _ _ _ _ _ _ ht ht'
    m0:=hp.m0}
  .simp only[Own.del] at ht
   split at ht
   .cases ht
   .exact hold t p ht
  .simp only[Own.del] at ht
   split at ht
   .cases ht
   .exact hcl r off p ht
 .cases h
def aEL(xs:List X)(obs:List Ob)(an:An)(h:arE xs obs=some an):aa9 Tryz.prog GT 283 xs obs an:=by
 unfold arE at h
 split at h
 .rename_i s a
  split at h
  .rename_i hc
   simp only[ab] at h
   subst h
   intro fn hf k ow w vs hp hold hcl hvs
   simp only[aP,aE,Rep] at hvs
   obtain⟨v,r,rfl,⟨rfl,_⟩,v2,r2,rfl,⟨rfl,_⟩,rfl⟩:=hvs
   obtain⟨m,hm⟩:=hp.table
   refine (Tryz.strings_Contains s a m w hc hm).mono ?_
   rintro e w' ⟨rfl,rfl⟩
   exact⟨k,ow,[_],rfl,hp,Mem.le_refl _,ae _,λ_ _=>rfl,hold,hcl,_,_,rfl,⟨rfl,rfl⟩,rfl⟩
  .cases h
 .cases h
def aK5(r:Nat)(w:World):Calls Tryz.prog 202 #[.int .i32 (r:Int)] w λe w'=>e=.returned (.bool (aia r))/\Below w.heap.size w w':=by
 unfold aia
 by_cases h1:(r:Int)<32
 .have h2:r<32:=by omega
  go_enter Tryz.func202,Tryz.ntmps202
  go_wp2
  go_ret
  exact⟨by simp[h2],.refl _ _⟩
 .have h2:¬ r<32:=by omega
  by_cases h3:(126:Int)<r
  .have h4:126<r:=by omega
   go_enter Tryz.func202,Tryz.ntmps202
   go_wp2
   go_ret
   exact⟨by simp[],.refl _ _⟩
  .have h4:¬ 126<r:=by omega
   go_enter Tryz.func202,Tryz.ntmps202
   go_wp2
   go_ret
   exact⟨by simp[],.refl _ _⟩
def aL9(xs:List X)(obs:List Ob)(an:An)(h:ixP xs obs=some an):aa9 Tryz.prog GT 201 xs obs an:=by
 unfold ixP at h
 split at h
 .rename_i s f
  split at h
  .rename_i hf
   subst hf
   simp only[ab] at h
   subst h
   intro fn hf k ow w vs hp hold hcl hvs
   simp only[aP,aE,Rep,bu] at hvs
   obtain⟨v,r,rfl,⟨rfl,_⟩,v2,r2,rfl,⟨us,rfl,rfl⟩,rfl⟩:=hvs
   refine (Tryz.strings_IndexFunc_grows 202 #[] (enters_of Tryz.func202 aS rfl) aia s w λW x _ _=>aK5 x W).mono ?_
   rintro e w' ⟨rfl,hB⟩
   exact⟨k,ow,[_],rfl,hp.grow hB,Mem.le_refl _,ae _,λ_ _=>rfl,hold,hcl,_,_,rfl,⟨rfl,rfl⟩,rfl⟩
  .cases h
 .cases h
def aMo(xs:List X)(obs:List Ob)(an:An)(h:hpP xs obs=some an):aa9 Tryz.prog GT 238 xs obs an:=by
 unfold hpP at h
 split at h
 .rename_i s a
  simp only[ab] at h
  subst h
  intro fn hf k ow w vs hp hold hcl hvs
  simp only[aP,aE,Rep] at hvs
  obtain⟨v,r,rfl,⟨rfl,_⟩,v2,r2,rfl,⟨rfl,_⟩,rfl⟩:=hvs
  refine (Tryz.strings_HasPrefix s a w).mono ?_
  rintro e w' ⟨rfl,rfl⟩
  exact⟨k,ow,[_],rfl,hp,Mem.le_refl _,ae _,λ_ _=>rfl,hold,hcl,_,_,rfl,⟨rfl,rfl⟩,rfl⟩
 .cases h
def aMj(xs:List X)(obs:List Ob)(an:An)(h:ibP xs obs=some an):aa9 Tryz.prog GT 239 xs obs an:=by
 unfold ibP at h
 split at h
 .rename_i s n
  simp only[ab] at h
  subst h
  intro fn hf k ow w vs hp hold hcl hvs
  simp only[aP,aE,Rep] at hvs
  obtain⟨v,r,rfl,⟨rfl,_⟩,v2,r2,rfl,⟨rfl,_⟩,rfl⟩:=hvs
  refine (Tryz.strings_IndexByte s n w).mono ?_
  rintro e w' ⟨rfl,rfl⟩
  exact⟨k,ow,[_],rfl,hp,Mem.le_refl _,ae _,λ_ _=>rfl,hold,hcl,_,_,rfl,⟨rfl,rfl⟩,rfl⟩
 .cases h
def aLT(xs:List X)(obs:List Ob)(an:An)(h:lxP xs obs=some an):aa9 Tryz.prog GT 244 xs obs an:=by
 unfold lxP at h
 split at h
 .rename_i s
  simp only[ab] at h
  subst h
  intro fn hf k ow w vs hp hold hcl hvs
  simp only[aP,aE,Rep] at hvs
  obtain⟨v,r,rfl,⟨rfl,_⟩,rfl⟩:=hvs
  refine (aDb s w).mono ?_
  rintro e w' ⟨rfl,hB⟩
  exact⟨k,ow,[_],rfl,hp.grow hB,Mem.le_refl _,ae _,λ_ _=>rfl,hold,hcl,_,_,rfl,⟨rfl,rfl⟩,rfl⟩
 .cases h
def aKg:PrSound Tryz.prog GT pr where
 prim f xs obs an h:=by
  replace h:prims f xs obs=some an:=h
  unfold prims at h
  split at h
  .rename_i e;subst e;exact aL9 xs obs an h
  split at h
  .rename_i e;subst e;exact aEL xs obs an h
  split at h
  .rename_i e;subst e;exact aMo xs obs an h
  split at h
  .rename_i e;subst e;exact aMj xs obs an h
  split at h
  .rename_i e;subst e;exact aJv xs obs an h
  split at h
  .rename_i e;subst e;exact aNm xs obs an h
  split at h
  .rename_i e;subst e;exact aLT xs obs an h
  cases h
end Go.Proofs.YtghkmcffifpkeaaGreat
namespace Go.Pe
open RowKit
section
variable {P:Program} {G:GP} {pr:Pr} {M0:Base} {k:Know} {ow:Own} {w0 w:World} {N:Nat} {s:S} {tmps:Array Value} {ds:List Deferred} {Q:Exit->Act->World->Prop}
theorem awe(hm:P.follows .mixedOrders=true)(hpr:PrSound P G pr){c:Code}(hok:aa3 pr.mt N c=true){Φ:Ex->S->Prop}(h:WC P pr c s Φ)(hG:M0.G=G)(hs:Sim M0 k ow (λ_=>False) w0 w N s tmps)
  (hQ:∀ e s' x tmps' w' k' ow',Φ e s'->k.le k'->Sim M0 k' ow' (λ_=>False) w0 w' N s' tmps'->e.is k' ow' x->Q x ⟨tmps',ds⟩ w'):c.wp P Q ⟨tmps,ds⟩ w:=by
 obtain⟨n,e,s',h1,h2⟩:=h
 exact (ajE hm hpr n M0 w0 N c s e s' hG h1 hok k ow w tmps ds Q hs λx tmps' w' k' ow' g1 g2 g3=>hQ e s' x tmps' w' k' ow' h2 g1 g2 g3).wp
theorem amb(hm:P.follows .mixedOrders=true)(hpr:PrSound P G pr){a X:Code}(hok:aa3 pr.mt N a=true){Φ:Ex->S->Prop}(h:WC P pr a s Φ)(hG:M0.G=G)(hs:Sim M0 k ow (λ_=>False) w0 w N s tmps)
  (hN:∀ s' tmps' w' k' ow',Φ .normal s'->k.le k'->Sim M0 k' ow' (λ_=>False) w0 w' N s' tmps'->X.wp P Q ⟨tmps',ds⟩ w')
  (hX:∀ e s' x tmps' w' k' ow',e≠.normal->Φ e s'->k.le k'->Sim M0 k' ow' (λ_=>False) w0 w' N s' tmps'->e.is k' ow' x->Q x ⟨tmps',ds⟩ w'):(Code.seq a X).wp P Q ⟨tmps,ds⟩ w:=by
 refine wp_seq (awe hm hpr hok h hG hs λe s' x tmps' w' k' ow' g1 g2 g3 g4=>?_)
 cases e with
 | normal=>simp only[Ex.is] at g4;subst g4;exact hN s' tmps' w' k' ow' g1 g2 g3
 | exit i =>
  have h:=hX (.exit i) s' x tmps' w' k' ow' aT g1 g2 g3 g4
  simp only[Ex.is] at g4;subst g4;exact h
 | ret =>
  have h:=hX .ret s' x tmps' w' k' ow' aT g1 g2 g3 g4
  simp only[Ex.is] at g4;subst g4;exact h
 | pan y =>
  have h:=hX (.pan y) s' x tmps' w' k' ow' aT g1 g2 g3 g4
  simp only[Ex.is] at g4;obtain⟨v,rfl,_⟩:=g4;exact h
theorem Sim.reslot{done:Nat->Prop}(h:Sim M0 k ow done w0 w N s tmps)(s2:S)(ho:s2.objs=s.objs)(hc:s2.clk=s.clk){tmps2:Array Value}{N2:Nat}(hz:tmps2.size=N2)(hf:∀ j,aE k ow (s2.fr j) (tmps2.getD j undef)):Sim M0 k ow done w0 w N2 s2 tmps2 :=
 {(show Hp M0 k ow w0 w s2.objs from ho▸h.toHp) with size:=hz,fr:=hf,fresh:=λt p q=>by rw[hc];exact h.fresh t p q,cells:=λr o p q=>by rw[ho];exact h.cells r o p q}
theorem alx(v:Value):aE k ow (.of .any) v:=by simp[aE,Rep]
theorem apW{objs:List Ob}{r:Nat}{a b:Ob}(ha:objs[r]?=some a)(hl:a.live=b.live){q:Nat}:Liv (objs.set r b) q↔Liv objs q:=by
 have hr:r<objs.length:=(List.getElem?_eq_some_iff.1 ha).1
 unfold Liv
 by_cases e:r=q
 .subst e
  rw[cW hr,ha]
  simp[hl]
 .rw[dZ e]
theorem aC3{objs:List Ob}{r:Nat}{ty ty':Nat}{xs ys:List X}(ha:objs[r]?=some (.var ty xs)){n q:Nat}:fG (objs.set r (.var ty' ys)) n q↔fG objs n q:=by
 have hr:r<objs.length:=(List.getElem?_eq_some_iff.1 ha).1
 unfold fG
 by_cases e:r=q
 .subst e
  rw[cW hr,ha]
  simp
 .rw[dZ e]
theorem Sim.nilOwn{done:Nat->Prop}(h:Sim M0 k ow done w0 w N s tmps){r ty:Nat}{A B:List X}(hr:s.objs[r]?=some (.var ty (A++.nil::B)))(e z:Nat)(ht:ow (.cell r A.length)=none) :
  ∃ ow',Sim M0 k ow' done w0 w N {s with objs:=s.objs.set r (.var ty (A++.own (.cell r A.length) e z [] 0::B))} tmps/\∀ t,t≠.cell r A.length->ow' t=ow t:=by
 have hrl:r<s.objs.length:=(List.getElem?_eq_some_iff.1 hr).1
 let ow':Own:=λt=>if t=.cell r A.length then some (.slice none 0 0,e,z,0) else ow t
 have hself:ow' (.cell r A.length)=some (.slice none 0 0,e,z,0):=by simp[ow']
 have hoth:∀ t,t≠.cell r A.length->ow' t=ow t:=λt q=>by simp[ow',q]
 have hsub:ow.sub ow':=λt p q=>by
  have:t≠.cell r A.length:=by rintro rfl;rw[ht] at q;cases q
  rw[hoth t this];exact q
 have hk:=Know.le_refl k
 refine⟨ow',{good:=h.good,below:=h.below,mem:=h.mem,obj:=?_,dom:=?_,inj:=?_,tok:=?_,tokne:=?_,m0:=h.m0,size:=h.size,fr:=λj=>aE.mono hk hsub _ _ (h.fr j),fresh:=?_,cells:=?_},hoth⟩
 .intro q ob hq
  by_cases e1:r=q
  .subst e1
   simp only[cW hrl,ab] at hq
   subst hq
   obtain⟨b,h1,h2,h3,h4,vs,h5,h6,h7⟩:=h.obj r _ hr
   refine⟨b,h1,h2,h3,λ_=>h4 rfl,vs,h5,h6,?_⟩
   have h7:=aP.mono hk hsub _ _ h7
   clear h5 h6 hr
   have key:∀ (A':List X) (vs':List Value),aP k ow' (A'++.nil::B) vs'->aP k ow' (A'++.own (.cell r A.length) e z [] 0::B) vs':=by
    intro A'
    induction A' with
    | nil =>
     intro vs' hh
     simp only[ch,aP,aE] at hh ⊢
     obtain⟨v,l,rfl,rfl,h8⟩:=hh
     exact⟨_,_,rfl,⟨hself,by simp,by simp only[Rep,bu];exact⟨none,0,[],rfl,ae _,rfl,λq=>absurd rfl q⟩⟩,h8⟩
    | cons x A' ih =>
     intro vs' hh
     simp only[cQ,aP] at hh ⊢
     obtain⟨v,l,rfl,h8,h9⟩:=hh
     exact⟨v,l,rfl,h8,ih _ h9⟩
   exact key A vs h7
  .rw[dZ e1] at hq
   obtain⟨b,h1,h2,h3,h4,h5⟩:=h.obj q ob hq
   exact⟨b,h1,h2,h3,h4,h5.mono hk hsub⟩
 .intro q b hq
  simp only[List.length_set]
  exact h.dom q b hq
 .intro q q' b h1 h2 h3 h4
  exact h.inj q q' b h1 h2 ((apW hr (by rfl)).1 h3) ((apW hr (by rfl)).1 h4)
 .intro t v e' z' n hq
  by_cases e1:t=.cell r A.length
  .subst e1
   rw[hself] at hq
   simp only[bD] at hq
   obtain⟨rfl,rfl,rfl,rfl⟩:=hq
   exact⟨⟨[],World.ownsRow_nil w 0 e z⟩,λg hg=>by simp[Value.ownBlock] at hg⟩
  .rw[hoth t e1] at hq
   obtain⟨h1,h2⟩:=h.tok t v e' z' n hq
   exact⟨h1,λg hg=>⟨(h2 g hg).1,(h2 g hg).2.1,λq hq2=>⟨(aC3 hr).2 ((h2 g hg).2.2 q hq2).1,λhl=>((h2 g hg).2.2 q hq2).2 ((apW hr (by rfl)).1 hl)⟩⟩⟩
 .intro t t' v e1 z1 n1 v' e2 z2 n2 h1 h2 hne g hg
  by_cases q:t=.cell r A.length
  .subst q
   rw[hself] at h1
   simp only[bD] at h1
   obtain⟨rfl,_⟩:=h1
   simp[Value.ownBlock] at hg
  by_cases q':t'=.cell r A.length
  .subst q'
   rw[hself] at h2
   simp only[bD] at h2
   obtain⟨rfl,_⟩:=h2
   simp[Value.ownBlock]
  rw[hoth _ q] at h1
  rw[hoth _ q'] at h2
  exact h.tokne t t' v e1 z1 n1 v' e2 z2 n2 h1 h2 hne g hg
 .intro t p hq
  by_cases q:t=.cell r A.length
  .subst q;trivial
  .rw[hoth _ q] at hq;exact h.fresh t p hq
 .intro q off p hq
  simp only[List.length_set]
  by_cases e1:(Tk.cell q off)=.cell r A.length
  .cases e1;exact hrl
  .rw[hoth _ e1] at hq;exact h.cells q off p hq
theorem aMf{xs:List X}{obs:List Ob}{vs:List Value}(hhp:Hp M0 k ow w0 w obs)(hold:∀ t p,ow t=some p->t.older 1 λ_=>False)(hcl:∀ r off p,ow (.cell r off)=some p->r<obs.length)(hvs:aP k ow xs vs)(hvl:vs.length<=N) :
  Sim M0 k ow (λ_=>False) w0 w N (adQ xs obs) (vs.toArray++Array.replicate (N-vs.toArray.size) undef):={hhp with
 size:=by simp;omega
 fresh:=hold
 cells:=hcl
 fr:=λj=>by
  simp only[adQ]
  have hg:(vs.toArray++Array.replicate (N-vs.toArray.size) undef).getD j undef=vs.getD j undef:=by
   rw[dS,aW]
   rcases aA j vs.length with g|g
   .rw[Array.getElem?_append_left (by simpa using g)]
    simp
   .rw[Array.getElem?_append_right (by simpa using g)]
    rw[aX g]
    simp only[dD,Array.getElem?_replicate]
    split <;> rfl
  rw[hg]
  cases hc:xs[j]? with
  | none =>
   have:vs[j]?=none:=by
    rw[List.getElem?_eq_none_iff] at hc ⊢
    rw[hvs.length];exact hc
   rw[aW,aW,this,hc]
   simp[aE,Rep]
  | some c =>
   obtain⟨v,hv,hr⟩:=hvs.get j c hc
   rw[aW,aW,hv,hc]
   exact hr}
def acN(x:X)(objs:List Ob)(clk:Nat):S:=⟨λj=>match j with
 | 0=>.ptr 0 0
 | 1=>.ptr 1 0
 | 2=>.ptr 2 0
 | 3=>x
 | _=>.of .any,objs,clk⟩
def agl(objs:List Ob)(clk:Nat):S:=⟨λj=>match j with
 | 6=>.ptr 0 0
 | 7=>.ptr 1 0
 | 8=>.ptr 2 0
 | _=>.of .any,objs,clk⟩
def aaC(P:Program)(b:Bool)(fn:Func)(s:S):Option An:=(acx (TT.of P) s fn.results.toList).bind λrs=>aec 0 false (agI b rs) s.objs
def am1(s s1:S):Prop:=∀ (M0:Base) (k:Know) (ow:Own) (w0 w:World) (N:Nat) (tmps:Array Value),Sim M0 k ow (λ_=>False) w0 w N s tmps->∃ ow',Sim M0 k ow' (λ_=>False) w0 w N s1 tmps
end
theorem am1.of{s4:S}{objs:List Ob}(fr5:Nat->X)(ho:s4.objs=objs)(hfr:∀ j,fr5 j=.of .any\/(fr5 j=s4.fr j/\∀ t,(fr5 j).drop t=fr5 j))(hd:∀ t:Tk,objs.map (Ob.drop t)=objs){r ty:Nat}{A:List X}
  (hr:objs[r]?=some (.var ty (A++[.nil,.nil,.nil]))) (e1 z1 e2 z2 e3 z3:Nat) (h0:∀ o,(A.length=o\/A.length+1=o\/A.length+2=o)->(o == 1099511627776)=false) :
  am1 s4 ⟨fr5,objs.set r (.var ty (A++[.own (.cell r A.length) e1 z1 [] 0,.own (.cell r (A.length+1)) e2 z2 [] 0,.own (.cell r (A.length+2)) e3 z3 [] 0])),s4.clk⟩:=by
 intro M0 k ow w0 w N tmps hs
 have h1:Sim M0 k ow (λ_=>False) w0 w N ⟨fr5,objs,s4.clk⟩ tmps:=hs.reslot ⟨fr5,objs,s4.clk⟩ ho.symm rfl hs.size λj=>by
  rcases hfr j with q|q
  .show aE k ow (fr5 j) _;rw[q];exact alx _
  .show aE k ow (fr5 j) _;rw[q.1];exact hs.fr j
 have del:∀ (t:Tk) (ow:Own),t.isRow=false->Sim M0 k ow (λ_=>False) w0 w N ⟨fr5,objs,s4.clk⟩ tmps->Sim M0 k (ow.del t) (λ_=>False) w0 w N ⟨fr5,objs,s4.clk⟩ tmps:=by
  intro t ow ht h
  have g:=h.del t ht
  refine g.reslot ⟨fr5,objs,s4.clk⟩ (by show objs=objs.map (Ob.drop t);exact (hd t).symm) rfl g.size λj=>?_
  have q:aE k (ow.del t) ((fr5 j).drop t) (tmps.getD j undef):=g.fr j
  rcases hfr j with e|e
  .show aE k _ (fr5 j) _;rw[e];exact alx _
  .rw[e.2 t] at q;exact q
 have g:=del (.cell r (A.length+2)) _ (by exact h0 _ (.inr (.inr rfl))) (del (.cell r (A.length+1)) _ (by exact h0 _ (.inr (.inl rfl))) (del (.cell r A.length) _ (by exact h0 _ (.inl rfl)) h1))
 have hrl:r<objs.length:=(List.getElem?_eq_some_iff.1 hr).1
 obtain⟨ow1,k1,f1⟩:=g.nilOwn (A:=A) (B:=[.nil,.nil]) (by exact hr) e1 z1 (by simp[Own.del])
 obtain⟨ow2,k2,f2⟩:=k1.nilOwn (r:=r) (ty:=ty) (A:=A++[.own (.cell r A.length) e1 z1 [] 0]) (B:=[.nil]) (by simp[cW hrl]) e2 z2 (by
  have q:(Tk.cell r (A++[X.own (.cell r A.length) e1 z1 [] 0]).length)≠.cell r A.length:=by simp
  rw[f1 _ q];simp[Own.del])
 obtain⟨ow3,k3,f3⟩:=k2.nilOwn (r:=r) (ty:=ty) (A:=A++[.own (.cell r A.length) e1 z1 [] 0,.own (.cell r (A.length+1)) e2 z2 [] 0]) (B:=[]) (by simp[hrl]) e3 z3 (by
  have q:(Tk.cell r (A++[X.own (.cell r A.length) e1 z1 [] 0,X.own (.cell r (A.length+1)) e2 z2 [] 0]).length)≠.cell r A.length:=by simp
  have q2:(Tk.cell r (A++[X.own (.cell r A.length) e1 z1 [] 0,X.own (.cell r (A.length+1)) e2 z2 [] 0]).length)≠.cell r (A++[X.own (.cell r A.length) e1 z1 [] 0]).length:=by simp
  rw[f2 _ q2,f1 _ q];simp[Own.del])
 refine⟨ow3,?_⟩
 have e:∀ (x y z:Ob),((objs.set r x).set r y).set r z=objs.set r z:=λx y z=>by simp
 simp only[e,aey,fH,av7] at k3
 exact k3
def alX(o:Oper):List Nat:=(o.after.toList.filter λe=>Region.binds .any e).map (·.on)
def dU(E:List (List Nat))(l:List Bool):List Nat:=(List.range E.length).filter λi=>!(l.getD i true)&&(E.getD i []).all λd=>l.getD d false
def aDm(ops:List Oper)(i:Nat)(K:Oper->Prop):Prop:=match ops[i]? with
 | some o=>K o
 | none=>False
def WF(P:Program)(pr:Pr)(ops:List Oper)(E:List (List Nat))(Q:S->Prop):Nat->List Bool->S->Prop
 | 0,_,s=>Q s
 | n+1,l,s=>∀ i∈dU E l,aDm ops i λo=>o.guard=none/\SO P pr false i o s λe s'=>e=none/\WF P pr ops E Q n (l.set i true) s'
section
variable {P:Program} {G:GP} {pr:Pr} {M0:Base} {w0:World} {N:Nat} {ds:List Deferred}
theorem aLQ{E:List (List Nat)}{l:List Bool}{i:Nat}(h1:i<E.length)(h2:l.getD i true=false)(h3:∀ d∈E.getD i [],l.getD d false=true):i∈dU E l:=by
 unfold dU
 rw[List.mem_filter,List.mem_range]
 refine⟨h1,?_⟩
 rw[h2,dH,cO,List.all_eq_true]
 exact h3
theorem aft(l:List Bool)(i:Nat)(b:Bool):l.toArray.getD i b=l.getD i b:=by
 rw[dS,aW,ac8]
theorem aIu{l:List Bool}{i:Nat}(h:l.getD i true=false):(l.set i true).count false+1=l.count false:=by
 induction l generalizing i with
 | nil=>simp at h
 | cons b r ih =>
  cases i with
  | zero=>simp only[List.getD_cons_zero] at h;subst h;simp
  | succ i =>
   simp only[List.getD_cons_succ] at h
   have:=ih h
   simp only[agu,List.count_cons]
   omega
theorem aLf{l:List Bool}(h:l.count false=0)(i:Nat):l.getD i true=true:=by
 rw[List.count_eq_zero] at h
 rw[aW]
 cases e:l[i]? with
 | none=>rfl
 | some b =>
  cases b with
  | true=>rfl
  | false=>exact absurd (bO e) h
theorem ayT(hm:P.follows .mixedOrders=true)(hpr:PrSound P G pr)(hG:M0.G=G){ops:Array Oper}(hdst:∀ (j:Nat) (o:Oper),ops[j]?=some o->abZ N o=true){E:List (List Nat)}(hE:ops.toList.map alX=E)(hlt:∀ i d,d∈E.getD i []->d<i)
  {Q:Exit->Act->World->Prop} {Qs:S->Prop} {k0:Know} (hQ:∀ s' tmps' w' k' ow' done',k0.le k'->Qs s'->Sim M0 k' ow' done' w0 w' N s' tmps'->Q .normal ⟨tmps',ds⟩ w') :
  ∀ (n:Nat) (l:List Bool) (s:S) (w:World) (tmps:Array Value) (k:Know) (ow:Own),l.count false=n->l.length=ops.size->k0.le k->Sim M0 k ow (λj=>l.getD j true=true) w0 w N s tmps->WF P pr ops.toList E Qs n l s->wpAny P .any ops Q n l.toArray ⟨tmps,ds⟩ w
 | 0,l,s,w,tmps,k,ow,hn,hz,hk,hs,h=>by
  have:Region.ready .any ops l.toArray=[]:=List.eq_nil_iff_forall_not_mem.2 λi hi=>by
   have:=(mem_ready.1 hi).1
   rw[aft,aLf hn] at this
   cases this
  exact⟨this,hQ s tmps w k ow _ hk h hs⟩
 | n+1,l,s,w,tmps,k,ow,hn,hz,hk,hs,h=>by
  have hEl:E.length=ops.size:=by rw[← hE];simp
  have hEi:∀ i o,ops[i]?=some o->E.getD i []=alX o:=λi o ho=>by
   rw[← hE,aW,bp,adc,ho];rfl
  refine⟨λh0=>?_,λi hi=>?_⟩
  .-- the first that is not done is ready
   exfalso
   have:∃ i,l.getD i true=false:=by
    by_cases q:∃ i,l.getD i true=false
    .exact q
    .exfalso
     have:false∈l:=by
      rcases aaH (l.count false) with z|z
      .omega
      .exact List.count_pos_iff.1 z
     obtain⟨i,hi⟩:=List.mem_iff_getElem?.1 this
     exact q ⟨i,by rw[aW,hi];rfl⟩
   obtain⟨i,hi⟩:=this
   have key:∀ n i,i<=n->l.getD i true=false->∃ j,l.getD j true=false/\∀ d,d<j->l.getD d true=true:=by
    intro n
    induction n with
    | zero=>intro i hi h;exact⟨i,h,λd hd=>by omega⟩
    | succ n ih =>
     intro i hi h
     by_cases q:∃ d,d<i/\l.getD d true=false
     .obtain⟨d,h1,h2⟩:=q
      exact ih d aC h2
     .exact⟨i,h,λd hd=>by
       cases e:l.getD d true with
       | true=>rfl
       | false=>exact absurd ⟨d,hd,e⟩ q⟩
   obtain⟨j,hj,hd⟩:=key i i (ae _) hi
   have hjl:j<l.length:=by
    rcases aA j l.length with g|g
    .exact g
    .rw[aW,aX g] at hj;cases hj
   have hjo:j<ops.size:=by omega
   have:j∈Region.ready .any ops l.toArray:=by
    refine mem_ready.2 ⟨by rw[aft];exact hj,ops[j],Array.getElem?_eq_getElem hjo,λe he hb=>?_⟩
    have h1:e.on∈E.getD j []:=by
     rw[hEi j _ (Array.getElem?_eq_getElem hjo)]
     unfold alX
     exact List.mem_map.2 ⟨e,List.mem_filter.2 ⟨by simpa using he,hb⟩,rfl⟩
    have h2:=hlt j _ h1
    have h3:=hd _ h2
    rw[aft]
    have:e.on<l.length:=by omega
    rw[aW,aL this] at h3 ⊢
    exact h3
   rw[h0] at this
   cases this
  .obtain⟨hun,o,ho,hdep⟩:=mem_ready.1 hi
   rw[aft] at hun
   have hil:i<E.length:=by rw[hEl];exact (Array.getElem?_eq_some_iff.1 ho).1
   have hmem:i∈dU E l:=aLQ hil hun λd hd=>by
    rw[hEi i o ho] at hd
    unfold alX at hd
    obtain⟨e,h1,rfl⟩:=List.mem_map.1 hd
    obtain⟨h1,h2⟩:=List.mem_filter.1 h1
    have:=hdep e (by simpa using h1) h2
    rw[aft] at this
    exact this
   have h2:=h i hmem
   unfold aDm at h2
   rw[adc,ho] at h2
   obtain⟨hg,m,e,s',hst,rfl,H⟩:=h2
   have horc:EnSound P M0.G (enN P pr m):=by rw[hG];exact amU hpr (ajE hm hpr m)
   have hstG:bv P (TT.of P) (enN P pr m) false ops s i o=some (none,s'):=by
    unfold bv dI
    rw[hg]
    exact hst
   have hun':¬ (l.getD i true=true):=by rw[hun];simp
   refine aao hs horc hun' ho (hdst i o ho) hstG (λ_ tmps' w' k' ow' g1 g2=>?_) (λx hx=>by cases hx)
   have hset:(l.toArray.setIfInBounds i true)=(l.set i true).toArray:=by simp
   rw[hset]
   have hc:=aIu hun
   refine ayT hm hpr hG hdst hE hlt hQ n (l.set i true) s' w' tmps' k' ow' aC (by simpa using hz) (Know.le_trans hk g1) (g2.more λj hj=>?_) H
   rcases hj with hj|rfl
   .by_cases hij:i=j
    .subst hij;exact absurd hj hun'
    .rw[aW,dZ hij,← aW];exact hj
   .rcases aA j l.length with g|g
    .rw[aW,cW g];rfl
    .rw[aW,aX (by simpa using g)];rfl
end
def bt(P:Program)(G:GP)(N:Nat)(c:Code)(s:S)(Φ:Ex->S->Prop):Prop :=
 ∀ (M0:Base) (k:Know) (ow:Own) (w0 w:World) (tmps:Array Value) (ds:List Deferred) (Q:Exit->Act->World->Prop),M0.G=G->Sim M0 k ow (λ_=>False) w0 w N s tmps ->
  (∀ e s' x tmps' w' k' ow',Φ e s'->k.le k'->Sim M0 k' ow' (λ_=>False) w0 w' N s' tmps'->e.is k' ow' x->Q x ⟨tmps',ds⟩ w')->c.wp P Q ⟨tmps,ds⟩ w
section
variable {P:Program} {G:GP} {pr:Pr} {N:Nat} {s:S} {Φ:Ex->S->Prop}
theorem bt.of(hm:P.follows .mixedOrders=true)(hpr:PrSound P G pr){c:Code}(hok:aa3 pr.mt N c=true)(h:WC P pr c s Φ):bt P G N c s Φ :=
 λ_ _ _ _ _ _ _ _ hG hs hQ=>awe hm hpr hok h hG hs hQ
def a3U(P:Program)(G:GP)(N:Nat)(b:Code)(Φ:Ex->S->Prop):Ex->S->Prop
 | .normal,s=>bt P G N b s Φ
 | e,s=>Φ e s
theorem bt.seq{a b:Code}(h:bt P G N a s (a3U P G N b Φ)):bt P G N (.seq a b) s Φ:=by
 intro M0 k ow w0 w tmps ds Q hG hs hQ
 refine wp_seq (h M0 k ow w0 w tmps ds _ hG hs λe s' x tmps' w' k' ow' g1 g2 g3 g4=>?_)
 cases e with
 | normal =>
  simp only[Ex.is] at g4;subst g4
  exact g1 M0 k' ow' w0 w' tmps' ds Q hG g3 λe s'' x tmps'' w'' k'' ow'' q1 q2 q3 q4=>hQ e s'' x tmps'' w'' k'' ow'' q1 (Know.le_trans g2 q2) q3 q4
 | exit i =>
  have h:=hQ (.exit i) s' x tmps' w' k' ow' g1 g2 g3 g4
  simp only[Ex.is] at g4;subst g4;exact h
 | ret =>
  have h:=hQ .ret s' x tmps' w' k' ow' g1 g2 g3 g4
  simp only[Ex.is] at g4;subst g4;exact h
 | pan y =>
  have h:=hQ (.pan y) s' x tmps' w' k' ow' g1 g2 g3 g4
  simp only[Ex.is] at g4;obtain⟨v,rfl,_⟩:=g4;exact h
theorem bt.cond{c:Operand}{a b:Code}{t:Bool}(hc:adm (s.ev c)=some t)(h:bt P G N (if t then a else b) s Φ):bt P G N (.cond c a b) s Φ:=by
 intro M0 k ow w0 w tmps ds Q hG hs hQ
 cases t with
 | true=>exact wp_cond_true (akb hc (Sim.ev (ds:=ds) hs c)) (h M0 k ow w0 w tmps ds Q hG hs hQ)
 | false=>exact wp_cond_false (akb hc (Sim.ev (ds:=ds) hs c)) (h M0 k ow w0 w tmps ds Q hG hs hQ)
theorem bt.any(hm:P.follows .mixedOrders=true)(hpr:PrSound P G pr){id:Nat}{ops:Array Oper}(hdst:ops.all (abZ N)=true){E:List (List Nat)}(hE:ops.toList.map alX=E)(hlt:((List.range E.length).all λi=>(E.getD i []).all λd=>decide (d<i))=true)
  (h:WF P pr ops.toList E (λs'=>Φ .normal {s' with clk:=s'.clk+1}) ops.size (List.replicate ops.size false) s):bt P G N (.region id ops true) s Φ:=by
 intro M0 k ow w0 w tmps ds Q hG hs hQ
 have hb:Below w.heap.size w {w with drawn:=w.drawn+1}:=⟨rfl,rfl,rfl,ae _,λ_ _=>rfl⟩
 have hd':∀ (j:Nat) (o:Oper),ops[j]?=some o->abZ N o=true:=λj o ho=>by
  rw[Array.all_eq_true_iff_forall_mem] at hdst
  exact hdst o (Array.mem_of_getElem? ho)
 have hlt':∀ i d,d∈E.getD i []->d<i:=λi d hd=>by
  rcases aA i E.length with g|g
  .have:=List.all_eq_true.1 hlt i (List.mem_range.2 g)
   exact abD (List.all_eq_true.1 this d hd)
  .rw[aW,aX g] at hd;cases hd
 refine wp_region_any hm ?_
 have h2:=(hs.grow hb).more (done':=λj=>(List.replicate ops.size false).getD j true=true) (λ_ h=>h.elim)
 have:=ayT (Q:=Q) (ds:=ds) hm hpr hG hd' hE hlt' (k0:=k) (λs' tmps' w' k' ow' done' g1 g2 g3=>hQ .normal _ .normal tmps' w' k' ow' g2 g1 g3.tick rfl) ops.size (List.replicate ops.size false) s _ tmps k ow aT aT (Know.le_refl k) h2 h
 simpa using this
end
section
variable (P:Program) (pr:Pr) (ops:List Oper) (E:List (List Nat)) (Q:S->Prop) (n:Nat) (l:List Bool) (s:S)
def WFk(e:Option X)(s':S):Prop:=e=none/\WF P pr ops E Q n l s'
def WFo(i:Nat):Option Oper->Prop
 | some o=>o.guard=none/\SO P pr false i o s (WFk P pr ops E Q n (l.set i true))
 | none=>False
def WFs:List Nat->Prop
 | []=>True
 | i::r=>WFo P pr ops E Q n l s i ops[i]?/\WFs r
theorem ahk:WFs P pr ops E Q n l s []↔True:=bf
theorem aeR(i:Nat)(r:List Nat):WFs P pr ops E Q n l s (i::r)↔WFo P pr ops E Q n l s i ops[i]?/\WFs P pr ops E Q n l s r:=bf
theorem afT(i:Nat)(d:Option Nat)(op:Op)(ty:Nat)(po:String)(af:Array Edge):WFo P pr ops E Q n l s i (some ⟨d,op,ty,po,af,none⟩)↔SO P pr false i ⟨d,op,ty,po,af,none⟩ s (WFk P pr ops E Q n (l.set i true)):=by simp[WFo]
theorem afU(s':S):WFk P pr ops E Q n l none s'↔WF P pr ops E Q n l s':=by simp[WFk]
theorem ahl:WF P pr ops E Q 0 l s↔Q s:=bf
theorem aU9(L:List Nat):WFs P pr ops E Q n l s L↔∀ i∈L,aDm ops i λo=>o.guard=none/\SO P pr false i o s λe s'=>e=none/\WF P pr ops E Q n (l.set i true) s':=by
 induction L with
 | nil=>simp[WFs]
 | cons i r ih =>
  rw[aeR,ih,List.forall_mem_cons]
  refine and_congr ?_ bf
  unfold aDm
  cases ops[i]? with
  | none=>exact bf
  | some o=>exact bf
theorem ahm:WF P pr ops E Q (n+1) l s↔WFs P pr ops E Q n l s (dU E l):=(aU9 P pr ops E Q n l s _).symm
end
def adz(P:Program)(G:GP)(pr:Pr)(f:Nat)(fn:Func)(N Ng:Nat)(B D:Code)(an:An)(s5:S):Prop :=
 bt P G N B s5 λe s6=>(e=.ret/\aaC P (pr.keep f) fn s6=some an)\/(∃ t c,e=.pan (.of (.ifc t c))/\s6.fr 6=.ptr 0 0/\s6.fr 7=.ptr 1 0/\s6.fr 8=.ptr 2 0 /\
  bt P G Ng D (acN (.of (.ifc t c)) s6.objs s6.clk) λe s7=>e=.normal/\aaC P (pr.keep f) fn (agl s7.objs s7.clk)=some an)
def alq(P:Program)(pr:Pr)(f:Nat)(fn:Func)(an:An)(K:S->Prop)(e:Ex)(s2:S):Prop:=(e=.ret/\aaC P (pr.keep f) fn s2=some an)\/(e=.normal/\K s2)
def a1r(K:S->Prop)(e:Ex)(s4:S):Prop:=e=.normal/\s4.fr 6=.ptr 0 0/\s4.fr 7=.ptr 1 0/\s4.fr 8=.ptr 2 0/\∃ s5,s5.fr 6=.ptr 0 0/\s5.fr 7=.ptr 1 0/\s5.fr 8=.ptr 2 0/\s5.fr 30=.of .any/\am1 s4 s5/\K s5
def abH{P:Program}{G:GP}{pr:Pr}(hm:P.follows .mixedOrders=true)(hpr:PrSound P G pr){f g N Ng:Nat}{fn fg:Func}(hf:P.funcs[f]?=some fn)(hN:fn.ntmps=N){r0 r1 r2 r4 r5 B D:Code}
  (hb:fn.body=some (.seq r0 (.seq r1 (.seq r2 (.seq r4 (.seq r5 B)))))) (hg0:fg.results=#[])
  (ok0:aa3 pr.mt N r0=true) (ok1:aa3 pr.mt N r1=true) (ok2:aa3 pr.mt N r2=true) (ok4:aa3 pr.mt N r4=true)
  (h5:∀ (tmps:Array Value) (w:World) (X:Act->World->Prop) (Q:Exit->Act->World->Prop),tmps.size=N->(∀ cap,cap=#[tmps.getD 6 undef,tmps.getD 7 undef,tmps.getD 8 undef]->X ⟨tmps.setIfInBounds 30 (.func (.func g) #[] cap),[⟨.fn (.func g) cap,#[]⟩]⟩ w)->r5.wp P (Exit.then X Q) ⟨tmps,[]⟩ w)
  (hinv:∀ cap w,(invoke (.fn (.func g) cap) #[]).run P w=.ok (.enter g cap) w)
  (hidle:∀ p6 p7 p8 w,CallsD P g #[p6,p7,p8] .returning w λe u' w'=>e=.returned (.tuple #[])/\u'=.returning/\w'=w)
  (hcat:∀ t u p6 p7 p8 w R,(∀ (c₀:Frame) (cs:List Frame) (T:Array Value),T.size=Ng->T.getD 0 undef=p6->T.getD 1 undef=p7->T.getD 2 undef=p8->T.getD 3 undef=.iface t u ->
    D.wp P (λe a w'=>bodyPostS P fg c₀ cs R e a ({c₀ with mode:=.panicking [{v:=.iface t u,recovered:=true}]}::cs) w') ⟨T,[]⟩ w)->CallsD P g #[p6,p7,p8] (.panicking [{v:=.iface t u,recovered:=false}]) w R)
  {xs:List X} (har:xs.length<=N) {an:An}
  (hA:WC P pr r0 (adQ xs []) λe s0=>e=.normal/\WC P pr r1 s0 λe s1=>e=.normal/\WC P pr r2 s1 (alq P pr f fn an λs2=>WC P pr r4 s2 (a1r (adz P G pr f fn N Ng B D an)))) :
  aa9 P G f xs [] an:=by
 unfold alq a1r adz at hA
 intro fn' hf' k ow w vs hhp hold hcl hvs
 obtain rfl:fn=fn':=ay (hf.symm.trans hf')
 let M0:Base:=⟨G,k.m,abK k ow⟩
 have hvl:vs.length<=N:=by rw[hvs.length];exact har
 have hsim:=aMf (M0:=M0) (N:=N) hhp hold hcl hvs hvl
 have fin:∀ (s:S) (tmps':Array Value) (w':World) (k':Know) (ow':Own) (N':Nat),aaC P (pr.keep f) fn s=some an->k.le k'->Sim M0 k' ow' (λ_=>False) w w' N' s tmps' ->
   ∃ v,(results fn tmps').run P w'=.ok v w'/\∃ k' ow' us,ahT an.pan us (.returned v)/\Hp M0 k' ow' w w' an.obs/\k.m.le k'.m/\([]:List Ob).length<=an.obs.length/\(∀ r,r<([]:List Ob).length->k'.μ r=k.μ r) /\
    (∀ t p,ow' t=some p->t.older 1 λ_=>False)/\(∀ r off p,ow' (.cell r off)=some p->r<an.obs.length)/\aP k' ow' an.rs us:=by
  intro s tmps' w' k' ow' N' hl hle hs
  unfold aaC at hl
  simp only[bI] at hl
  obtain⟨rs,hrs,hl⟩:=hl
  obtain⟨us,h1,h2⟩:=ait (P:=P) hs fn.results.toList rs hrs
  obtain⟨k2,ow2,g1,g2,g3,g4,g5,g6,g7,g8⟩:=aph hs.toHp hl (auv (pr.keep f) h2)
  exact⟨_,apc h1,k2,ow2,us,by rw[g1];rfl,g2,by rw[g3];exact hle.1,aU _,λr hr=>absurd hr (Nat.not_lt_zero _),g6,g7,g8⟩
 have rep6:∀ {k:Know} {ow:Own} {r:Nat} {v:Value},aE k ow (.ptr r 0) v->aE k ow (.ptr r 0) v:=λh=>h
 refine calls_of_wp_defers hf hb ?_
 rw[hN]
 refine amb hm hpr ok0 hA rfl hsim ?_ (λe s' x tmps' w' k' ow' hne h=>absurd h.1 hne)
 rintro s0 t0 w1 k1 ow1 ⟨_,h1⟩ l1 hs1
 refine amb hm hpr ok1 h1 rfl hs1 ?_ (λe s' x tmps' w' k' ow' hne h=>absurd h.1 hne)
 rintro s1 t1 w2 k2 ow2 ⟨_,h2⟩ l2 hs2
 have l2:=Know.le_trans l1 l2
 refine amb hm hpr ok2 h2 rfl hs2 ?_ ?_
 rotate_left
 .intro e s' x tmps' w' k' ow' hne h g2 g3 g4
  rcases h with ⟨rfl,h⟩|h
  .simp only[Ex.is] at g4
   subst g4
   obtain⟨v,g5,g6⟩:=fin s' tmps' w' k' ow' N h (Know.le_trans l2 g2) g3
   exact⟨v,g5,g6⟩
  .exact absurd h.1 hne
 rintro s2 t2 w3 k3 ow3 h3 l3 hs3
 rcases h3 with h3|⟨_,h3⟩
 .cases h3.1
 have l3:=Know.le_trans l2 l3
 refine amb hm hpr ok4 h3 rfl hs3 ?_ (λe s' x tmps' w' k' ow' hne h=>absurd h.1 hne)
 rintro s4 t4 w4 k4 ow4 ⟨_,e6,e7,e8,s5,q6,q7,q8,q30,turn,hB⟩ l4 hs4
 have l4:=Know.le_trans l3 l4
 obtain⟨ow5,hs5⟩:=turn _ _ _ _ _ _ _ hs4
 refine wp_seq (h5 t4 w4 _ _ hs4.size λcap hcap=>?_)
 have c6:=hs5.fr 6;rw[q6] at c6
 have c7:=hs5.fr 7;rw[q7] at c7
 have c8:=hs5.fr 8;rw[q8] at c8
 have hs5':Sim M0 k4 ow5 (λ_=>False) w w4 N s5 (t4.setIfInBounds 30 (.func (.func g) #[] cap)):=hs5.reslot s5 rfl rfl (by rw[acq];exact hs5.size) λj=>by
  by_cases hj:j=30
  .subst hj;rw[q30];exact alx _
  .have:(t4.setIfInBounds 30 (.func (.func g) #[] cap)).getD j undef=t4.getD j undef:=by
    rw[dS,dS,aaa (λh=>hj h.symm)]
   rw[this];exact hs5.fr j
 refine hB _ _ _ _ _ _ _ _ rfl hs5' λe s6 x t6 w6 k6 ow6 hΦ l6 hs6 hx=>?_
 have l6':=Know.le_trans l4 l6
 rcases hΦ with ⟨rfl,h⟩|⟨t,c,rfl,p6,p7,p8,hD⟩
 .simp only[Ex.is] at hx
  subst hx
  show Leaves P fn t6 _ _ .returning w6
  subst hcap
  refine leaves_cons aT (hinv _ _) ((hidle _ _ _ _).mono ?_)
  rintro e u' w' ⟨rfl,rfl,rfl⟩
  obtain⟨v,g5,g6⟩:=fin s6 t6 _ k6 ow6 N h l6' hs6
  exact⟨v,g5,g6⟩
 .simp only[Ex.is,aE,Rep] at hx
  obtain⟨v,rfl,u,rfl,hu⟩:=hx
  show Leaves P fn t6 _ _ (.panicking _) w6
  subst hcap
  refine leaves_cons aT (hinv _ _) (hcat _ _ _ _ _ _ _ λc₀ cs T hT a0 a1 a2 a3=>?_)
  have hsD:Sim M0 k6 ow6 (λ_=>False) w w6 Ng (acN (.of (.ifc t c)) s6.objs s6.clk) T:=hs6.reslot (acN (.of (.ifc t c)) s6.objs s6.clk) rfl rfl hT λj=>by
   match j with
   | 0=>rw[a0];simpa only [acN,aE] using (show ∃ b,k6.μ 0=some b/\t4.getD 6 undef=.pointer (some ⟨b,0,none⟩) by
     simp only[aE] at c6;obtain⟨b,hb1,hb2⟩:=c6;exact⟨b,l6.2 _ _ hb1,hb2⟩)
   | 1=>rw[a1];simpa only [acN,aE] using (show ∃ b,k6.μ 1=some b/\t4.getD 7 undef=.pointer (some ⟨b,0,none⟩) by
     simp only[aE] at c7;obtain⟨b,hb1,hb2⟩:=c7;exact⟨b,l6.2 _ _ hb1,hb2⟩)
   | 2=>rw[a2];simpa only [acN,aE] using (show ∃ b,k6.μ 2=some b/\t4.getD 8 undef=.pointer (some ⟨b,0,none⟩) by
     simp only[aE] at c8;obtain⟨b,hb1,hb2⟩:=c8;exact⟨b,l6.2 _ _ hb1,hb2⟩)
   | 3=>rw[a3];simp only[acN,aE,Rep];exact⟨u,rfl,hu⟩
   | j+4=>exact alx _
  refine hD _ _ _ _ _ _ _ _ rfl hsD λe s7 x t7 w7 k7 ow7 hΦ l7 hs7 hx=>?_
  obtain⟨rfl,h⟩:=hΦ
  simp only[Ex.is] at hx
  subst hx
  refine⟨rfl,_,rfl,.tuple #[],by simp[results,hg0],?_⟩
  have d6:=hs6.fr 6;rw[p6] at d6;simp only[aE] at d6
  have d7:=hs6.fr 7;rw[p7] at d7;simp only[aE] at d7
  have d8:=hs6.fr 8;rw[p8] at d8;simp only[aE] at d8
  have hsR:Sim M0 k7 ow7 (λ_=>False) w w7 N (agl s7.objs s7.clk) t6:=hs7.reslot (agl s7.objs s7.clk) rfl rfl hs6.size λj=>by
   by_cases h6:j=6
   .subst h6;obtain⟨b,hb1,hb2⟩:=d6;simp only[agl,aE];exact⟨b,l7.2 _ _ hb1,hb2⟩
   by_cases h7:j=7
   .subst h7;obtain⟨b,hb1,hb2⟩:=d7;simp only[agl,aE];exact⟨b,l7.2 _ _ hb1,hb2⟩
   by_cases h8:j=8
   .subst h8;obtain⟨b,hb1,hb2⟩:=d8;simp only[agl,aE];exact⟨b,l7.2 _ _ hb1,hb2⟩
   have:(agl s7.objs s7.clk).fr j=.of .any:=by
    unfold agl
    simp only
   rw[this]
   exact alx (t6.getD j undef)
  obtain⟨v,g5,g6⟩:=fin _ t6 _ k7 ow7 N h (Know.le_trans l6' l7) hsR
  exact⟨v,g5,g6⟩
end Go.Pe
namespace Go.Pe
open Tab
def aDk{α:Type}(o:Option α)(A:α->Prop)(B:Prop):Prop:=match o with
 | some a=>A a
 | none=>B
def atU{α:Type}(a:α)(A:α->Prop)(B:Prop):aDk (some a) A B↔A a:=bf
def aSB{α:Type}{o o':Option α}(A:α->Prop)(B:Prop)(h:Unit->o=o'):aDk o A B=aDk o' A B:=by rw[h ()]
attribute [congr] aSB
def ifP(p:Prop)(A B:Prop):Prop:=(p/\A)\/(¬p/\B)
def as0{p A B:Prop}(h:p):ifP p A B↔A:=by simp[ifP,h]
def axL(A B:Prop):ifP True A B↔A:=by simp[ifP]
def aYj{p p':Prop}(A B:Prop)(h:Unit->p=p'):ifP p A B=ifP p' A B:=by rw[h ()]
attribute [congr] aYj
def aiF(P:Program)(pr:Pr)(f:Nat)(xs:List X)(K:An->Prop):Prop:=aba P pr f xs [] K
def amr{P:Program}{pr:Pr}{f:Nat}{xs:List X}{p:Prop}{an:An}(h:p->aH P pr f xs [] an)(K:An->Prop):aba P pr f xs [] K↔ifP p (K an) (aiF P pr f xs K):=by
 by_cases hp:p
 .rw[as0 hp];exact aH.k (h hp) K
 .simp only[ifP,hp,fv,aaY,cM,ahG];exact bf
def a2Y{α:Type}(f:α->List C)(l:List α):C.sl (fl f l) l.length=slC f l:=rfl
def ars{α:Type}(f:α->List C):fl f []=[]:=rfl
def axU{α:Type}(f:α->List C)(a b:List α):fl f (a++b)=fl f a++fl f b:=by simp[fl]
def akl{α:Type}(f:α->List C)(a:α):fl f [a]=f a:=by simp[fl]
def ajT{α:Type}(f:α->List C)(a:α)(l:List α):fl f (a::l)=f a++fl f l:=by simp[fl]
theorem axT{α:Type}{f:α->List C}{z:Nat}(hf:∀ x,(f x).length=z):∀ l:List α,(fl f l).length=l.length*z
 | []=>by simp[fl]
 | a::l=>by rw[ajT,bg,hf,axT hf l,aN,akf,ey]
theorem aBK{α:Type}{f:α->List C}{z:Nat}(hf:∀ x,(f x).length=z):∀ (l:List α) (k:Nat),(fl f l).drop (k*z)=fl f (l.drop k)
 | l,0=>by simp
 | [],k+1=>by simp[fl]
 | a::l,k+1=>by
  rw[ajT,agh,← aBK hf l k,akf,ey,← afG,aap (by rw[hf];exact ae _),(show (f a).drop z=[] from dv (by rw[hf];exact ae _)),ch]
def aaA{α:Type}(l:List α)(i:Int):Option α:=if 0<=i then l[i.toNat]? else none
def akk{α:Type}(l:List α)(k:Nat):aaA l (k:Int)=l[k]?:=by simp[aaA]
def eX{α:Type}{l:List α}{k:Nat}(h:k<l.length):aaA l (k:Int)=some l[k]:=by rw[akk,aL h]
def ad0{α:Type}(o:Option α)(g:α->X):Out:=match o with
 | some a=>out (g a)
 | none=>none
def aG0{α:Type}(s:S)(d:Option Nat)(af:Array Edge)(K:S->Prop)(o:Option α)(g:α->X):aaP s d af K (ad0 o g)↔aDk o (λa=>K (s.put d (g a))) False:=by
 cases o <;> exact bf
def ac1{T:TT}{t e:Nat}{d:TD}(h:elemOf T t=some (e,d)){α:Type}{f:α->List C}(hf:∀ x,(f x).length=d.size)(hz:0<d.size)(l:List α)(i:Int) :
  bz T t (.of (slC f l)) (.of (.lit (.int .i64 i)))=ad0 (aaA l i) λx=>.of (.ref (f x++fl f (l.drop (i.toNat+1)))):=by
 rw[abY h (fl f l) l.length i _ rfl]
 unfold aaA
 by_cases h0:0<=i
 .obtain⟨k,rfl⟩:=abn h0
  rw[au (acA k)]
  simp only[aaZ]
  by_cases h1:k<l.length
  .rw[au ⟨acA k,by omega,axT hf l,hz⟩,aL h1,aBK hf,co h1,ajT]
   rfl
  .rw[ar (λh=>h1 aC),aX aC]
   rfl
 .rw[ar (λh=>h0 h.1),ar h0]
  rfl
def acQ{u:Option TypeDesc}{α:Type}(f:α->List C)(l:List α)(h:ahK u=true):fV u (.of (slC f l))=out (aQ l.length):=by
 simp only[fV,slC,aaT,h,am]
def aR1{α:Type}(f:α->List C)(l:List α):ec (.of (slC f l))=some [slC f l]:=rfl
def aIF{α:Type}(f:α->List C)(l:List α):cn (.of (slC f l))=some [.of (slC f l)]:=rfl
def adX{T:TT}{t e:Nat}{d:TD}(h:elemOf T t=some (e,d))(hz:0<d.size)(hb:d.bytes<=32768)(tk tk':Tk)(cs0:List C)(n:Nat)(y:X)(cs:List C)(m:Nat)(hy:aaT y=some (cs,m)) :
  dP T tk t t (.own tk' e d.size cs0 n) y=if cs.length=m*d.size/\n+m<=LIM then some (.own tk e d.size (cs0++cs) (n+m),some tk') else none:=by
 simp only[dP,aiY,h,hy,am]
 by_cases h1:cs.length=m*d.size
 .by_cases h2:n+m<=LIM
  .simp only[h1,h2,hz,hb,bM,am]
  .simp only[h1,h2,hz,bM,am,fv,cI,av]
 .simp only[h1,fv,av]
def ae5{T:TT}{t e:Nat}{d:TD}(h:elemOf T t=some (e,d))(hz:0<d.size)(hb:d.bytes<=32768)(tk:Tk)(y:X)(cs:List C)(m:Nat)(hy:aaT y=some (cs,m)) :
  dP T tk t t .nil y=if cs.length=m*d.size/\m<=LIM then some (.own tk e d.size cs m,none) else none:=by
 simp only[dP,aiY,h,hy,am]
 by_cases h1:cs.length=m*d.size
 .by_cases h2:m<=LIM
  .simp only[h1,h2,hz,hb,bM,am]
  .rw[au ⟨h1,hz⟩,ar (λh=>h2 h.1),ar (λh=>h2 h.2)]
 .simp only[h1,fv,av]
def ac2{T:TT}{t e:Nat}{d:TD}(h:elemOf T t=some (e,d))(hz:0<d.size)(hd:d.size<=1000)(hl:d.zero.length=d.size)(tk:Tk)(xs:List X) :
  bW tk 1 (elemOf T t) (some [(0,xs)])=if xs.length=d.size then bE ((X.rds xs).map λcs=>.own tk e d.size cs 1) else none:=by
 have h1:(fj d).length=d.size:=by simp[fj,hl]
 simp only[bW,h,abW,List.replicate_one,List.flatten_singleton,hz,hl,bM,aak]
 rw[au aC]
 simp only[aah,abB,bK,h1]
 by_cases hx:xs.length=d.size
 .rw[au ⟨hx,ae _⟩,au hx]
  simp only[List.take_zero,ch]
  rw[dv aC,cZ]
  cases X.rds xs <;> rfl
 .rw[ar (λh=>hx h.1),ar hx]
def afw(l:List UInt8):(aK l).size=l.length:=by simp[aK,ByteArray.size]
def aX6{T:TT}{t:Nat}(hT:(T t).map (·.und)=some .string)(s:List UInt8)(i:Int):afL T t (.of (.lit (.string (aK s)))) (.of (.lit (.int .i64 i)))=ad0 (aaA s i) λc=>.of (.lit (.int .u8 (c.toNat:Nat))):=by
 rw[aHY hT,afw]
 unfold aaA
 by_cases h0:0<=i
 .obtain⟨k,rfl⟩:=abn h0
  simp only[aaZ,acA,cM,am]
  by_cases h1:k<s.length
  .rw[au h1,aL h1]
   simp only[ad0,at8]
   congr 5
   show ((aK s).data.toList.getD k 0).toNat=_
   simp[aK,aW,aL h1]
  .rw[ar h1,aX aC]
   rfl
 .rw[ar (λh=>h0 h.1),ar h0]
  rfl
def zE:=ai @atU @axL
def zB:=gv (gz @abB @List.length_map.{0,0} @fv @cI @aeH @ae @aD @eG @aag) (gz @cO @cY @eA @bh @Option.isNone_none.{0} @Option.isNone_some.{0} @List.any_cons.{0} @List.any_nil.{0} @cj) (gz @Int.cast_ofNat_Int @List.drop_succ_cons.{0} @List.take_succ_cons.{0} @List.singleton_append.{0} @bK @List.set_cons_zero.{0} @List.set_cons_succ.{0} @List.drop_nil.{0} @List.take_nil.{0}) (gz @Option.map_some.{0,0} @Option.map_none.{0,0} @Option.getD_some.{0} @Option.getD_none.{0} @Option.bind_some.{0,0} @List.cons_append.{0} @List.nil_append.{0} @List.append_nil.{0} @List.map_cons.{0,0}) (gz @List.map_nil.{0,0} @List.range_zero @List.take_zero.{0} @List.flatten_nil.{0} @List.filter_nil.{0} @List.length_nil.{0} @List.length_cons.{0} @List.drop_zero.{0} @List.not_mem_nil.{0}) (gz @List.mem_cons.{0} @acB @ah @List.getElem?_toArray.{0} @List.toList_toArray.{0} @List.getElem?_cons_zero.{0} @List.getElem?_cons_succ.{0} @aV @beq_self_eq_true.{0}) (gz @beq_true @beq_false @fS @fw @cX @dH @cM @aak @dJ) (gu @ahG @aj @aaY @List.append_assoc.{0} @List.length_append.{0} @Tk.nm.injEq @Tk.cell.injEq)
