/-
  lex.plain: walked. Conditions: none.
-/
import Derived.Test.YtemdljoideegeaaGreatDoorPa8
import Derived.Lib.AppendStr
import Derived.Lib.Builder
import Derived.Lib.UnsafeStr
import Derived.Lib.ItoaMem
import Derived.WalkKit
import Derived.Shelf.Strings.Builder1
import Derived.Lib.ItoaNum
import Derived.Lib.Replace
import Derived.Lib.DecodeN
import Derived.Shelf.GgClosure.StringsIndexFunc
import Derived.Lib.Join
import Derived.Lib.IndexMore
import Derived.Test.YtemdljoideegeaaGreatDoorProg
import Derived.Test.YtemdljoideegeaaGreatDoorChecked
import Derived.LoopTactic
import Derived.Laws.RangeString
set_option linter.defProp false
set_option linter.unusedSectionVars false
set_option maxRecDepth 100000
set_option maxHeartbeats 64000000
namespace Go.Proofs.YtemdljoideegeaaGreatDoor
open Go Go.RowKit Go.Pe
def anM:(Tryz.prog.info? 93).map (·.size)=some 2:=by kernel_rfl
def liesBuilder:liesAt Tryz.prog Tryz.prog.depth 93 (2 / Tryz.prog.cellsOf 93) 0 93 1=true:=by kernel_rfl
def aEi (b:Nat) (w:World) (h0:w.cell? ⟨b,0,none⟩=some (.pointer (some ⟨b,0,none⟩))) :
  Calls Tryz.prog 124 #[.pointer (some ⟨b,0,none⟩)] w fun e w'=>e=.returned (.tuple #[])∧w'=w:=by
 obtain⟨j,hj,_⟩:=aP.1 anM
 go_enter Tryz.func124,Tryz.ntmps124
 go_wp2
 rw[Lib.run_neq_ptr_same w _ Tryz.underlying90 hj]
 go_wp2
 go_end0
 exact⟨rfl,rfl⟩
def axB (b:Nat) (w:World) (h0:w.cell? ⟨b,0,none⟩=some (.pointer none)) (hsh:w.shape? b=some (93,2)) (hfz:w.frozen? ⟨b,0,none⟩=false) :
  Calls Tryz.prog 124 #[.pointer (some ⟨b,0,none⟩)] w fun e w'=>e=.returned (.tuple #[])∧w'=w.setCell ⟨b,0,none⟩ (.pointer (some ⟨b,0,none⟩)):=by
 obtain⟨j,hj,hjs⟩:=aP.1 anM
 go_enter Tryz.func124,Tryz.ntmps124
 go_wp2
 rw[Lib.run_to_unsafe w ⟨b,0,none⟩ Tryz.underlying90 Tryz.underlying222 hj (by rw[hjs];decide) hsh (Nat.zero_lt_succ 1)]
 simp only[Result.andThen]
 rw[Oper.upon_value]
 go_wp2
 rw[run_callFunc_extern Tryz.func209 (by kernel_rfl) (by kernel_rfl) (by kernel_rfl) (e:=Extern.AbiNoEscape.same) (by kernel_rfl)]
 rw[Lib.run_noEscape]
 simp only[Result.andThen]
 rw[Oper.upon_value]
 go_wp2
 rw[Lib.run_from_unsafe w ⟨b,0,none⟩ Tryz.underlying222 Tryz.underlying90 hj hsh liesBuilder]
 simp only[Result.andThen]
 rw[Oper.upon_value]
 go_wp2
 go_end0
 exact⟨rfl,rfl⟩
structure BAt (b:Nat) (p v:Value) (bs:List Value) (w:World):Prop where
 blk:w.heap[b]?=some (.cells #[p,v] 93 (0,0))
 own:w.ownsRow 0 5 1 v bs.length bs
 ne:v.ownBlock≠some b
theorem BAt.lt {b:Nat} {p v:Value} {bs:List Value} {w:World} (h:BAt b p v bs w):b<w.heap.size:=(Array.getElem?_eq_some_iff.1 h.blk).1
structure BPost (b:Nat) (v:Value) (w w':World) (v':Value) (bs':List Value):Prop where
 at':BAt b (.pointer (some ⟨b,0,none⟩)) v' bs' w'
 size:w.heap.size≤w'.heap.size
 os:w'.os=w.os
 tape:w'.tape=w.tape
 output:w'.output=w.output
 row:(v'.ownBlock=v.ownBlock∧∀ k,k<w.heap.size→k≠b→some k≠v.ownBlock→w'.heap[k]?=w.heap[k]?)∨((∃ g,v'.ownBlock=some g∧w.heap.size≤g)∧∀ k,k<w.heap.size→k≠b→w'.heap[k]?=w.heap[k]?)
structure CPost (b:Nat) (v:Value) (w w':World) (bs:List Value):Prop where
 at':BAt b (.pointer (some ⟨b,0,none⟩)) v bs w'
 size:w'.heap.size=w.heap.size
 os:w'.os=w.os
 tape:w'.tape=w.tape
 output:w'.output=w.output
 rest:∀ k,k≠b→w'.heap[k]?=w.heap[k]?
def ad4 (w:World) (b o:Nat) (x:Value) (k:Nat) (h:k≠b):(w.setCell ⟨b,o,none⟩ x).heap[k]?=w.heap[k]?:=by
 simp only[World.setCell,jv]
 rw[aj (d5 h)]
def alT (w:World) (b o:Nat) (x:Value):(w.setCell ⟨b,o,none⟩ x).heap.size=w.heap.size:=by simp[World.setCell]
def aP4 (b:Nat) (p v:Value) (bs:List Value) (w:World) (hp:p=.pointer none∨p=.pointer (some ⟨b,0,none⟩)) (h:BAt b p v bs w) :
  Calls Tryz.prog 124 #[.pointer (some ⟨b,0,none⟩)] w fun e w'=>e=.returned (.tuple #[])∧CPost b v w w' bs:=by
 rcases hp with rfl|rfl
 .refine (axB b w (by rw[Lib.cell_of_heap h.blk];rfl) (by simp[World.shape?,h.blk]) (Lib.frozen_of_heap h.blk 0)).mono ?_
  rintro e w' ⟨rfl,rfl⟩
  refine⟨rfl,⟨?_,?_,h.ne⟩,alT w b 0 _,rfl,rfl,rfl,fun k hk=>ad4 w b 0 _ k hk⟩
  .simp[World.setCell,jv,h.blk]
  .exact h.own.kept (row:=some b) ⟨rfl,rfl,rfl,by simp[World.setCell],fun k _ hk=>ad4 w b 0 _ k (fun e=>hk (by simp[e]))⟩ (Or.inr h.ne)
 .refine (aEi b w (by rw[Lib.cell_of_heap h.blk];rfl)).mono ?_
  rintro e w' ⟨rfl,rfl⟩
  exact⟨rfl,h,rfl,rfl,rfl,rfl,fun _ _=>rfl⟩
def aEz {P:Program} (w:World) (t u ty e:TypeId) (i:TypeInfo) (ht:P.underlying t=some (.slice e)) (hu:P.underlying u=some .string) (hi:P.info? e=some i) (hz:i.zero=some (.int .u8 0))
  (hsize:i.size=1) (hby:i.bytes=1) (v:Value) (n:Nat) (xs:List Value) (hown:w.ownsRow 0 e 1 v n xs) (s:ByteArray) (hb:n+s.size≤4294967296) :
  ∃ v' w',(Builtin.append_ #[t,u] ty #[v,.string s]).run P w=.ok v' w'∧w'.ownsRow 0 e 1 v' (n+s.size) (xs++Lib.strCells s)∧((w.grownBy w' v.ownBlock∧v'.ownBlock=v.ownBlock)∨(w.grownBy w' none∧v'.ownBlock=some w.heap.size)):=by
 obtain⟨v',w',hr,h2,h3,h4⟩:=Lib.run_append_own_string (P:=P) w 0 t u ty e i ht hu hi hz hsize hby v n xs hown s (by unfold maxLen;omega) (by omega) (fj _)
 refine⟨v',w',hr,h2,?_⟩
 rcases hown.2 with ⟨rfl,rfl⟩|⟨g,cap,cur,rfl,hbg,hg,hnc,hcm,hcs,htake⟩
 .by_cases hm:s.size=0
  .exact .inl ⟨h3,by rw[h4.2 ⟨rfl,hm⟩]⟩
  .have hr2:=run_append_nil_string (P:=P) w t u ty e i (.int .u8 0) ht hu hi hz s (by omega) (by omega) (by rw[hby];omega)
   rw[hr] at hr2
   cases hr2
   exact .inr ⟨⟨rfl,rfl,rfl,by simp,fun k hk _=>Lib.alloc_old w.drew _ k hk⟩,rfl⟩
 .by_cases hroom:n+s.size≤cap
  .have hr2:=Lib.run_append_room_string (P:=P) w t u ty e i ht hu hi hsize g n cap cur hg s hroom (by omega)
   rw[hr] at hr2
   cases hr2
   exact .inl ⟨h3,rfl⟩
  .have hr2:=Lib.run_append_grow_string (P:=P) w t u ty e i (.int .u8 0) ht hu hi hz ⟨g,0,none⟩ n cap xs (by rw[hsize];simpa using hown.1) (hown.cells (g:=g) rfl) s (by omega) (by omega) (by rw[hby];exact growslice_fits (by omega) (by omega))
   rw[hr] at hr2
   cases hr2
   exact .inr ⟨⟨rfl,rfl,rfl,by simp,fun k hk _=>Lib.alloc_old w.drew _ k hk⟩,rfl⟩
def aIu:(Tryz.prog.info? 5).map (fun i=>(i.zero,i.size,i.bytes))=some (some (.int .u8 0),1,1):=by kernel_rfl
def infoByte:∃ i,Tryz.prog.info? 5=some i∧i.zero=some (.int .u8 0)∧i.size=1∧i.bytes=1:=by
 obtain⟨i,hi,he⟩:=aP.1 aIu
 simp only[bf] at he
 exact⟨i,hi,he⟩
def ar4 {P:Program} {w:World} {ops:Array Oper} {rest:List Oper} {o:Oper} {a:Act} {Q:Exit→Act→World→Prop} (hgd:o.guard=none) (sl x:Operand) (t u:TypeId)
  (ho:o.op=.call {callee:=.builtin .append,args:=#[sl,x],argTypes:=#[t,u]})
  (e:TypeId) (i:TypeInfo) (ht:P.underlying t=some (.slice e)) (hu:P.underlying u=some .string) (hi:P.info? e=some i) (hz:i.zero=some (.int .u8 0))
  (hsize:i.size=1) (hby:i.bytes=1)
  (v:Value) (n:Nat) (xs:List Value) (hs:a.eval sl=v) (hown:w.ownsRow 0 e 1 v n xs) (s:ByteArray) (hx:a.eval x=.string s) (hb:n+s.size≤4294967296)
  (h:∀ v' w',w'.ownsRow 0 e 1 v' (n+s.size) (xs++Lib.strCells s)→((w.grownBy w' v.ownBlock∧v'.ownBlock=v.ownBlock)∨(w.grownBy w' none∧v'.ownBlock=some w.heap.size))→wpList P ops Q rest (a.put o.dst v') w'):wpList P ops Q (o::rest) a w:=by
 refine wpList_plain hgd fun K hK=>?_
 obtain⟨v',w',hr,h2,h3⟩:=aEz (P:=P) w t u o.type e i ht hu hi hz hsize hby v n xs hown s hb
 unfold Oper.wp execOp
 simp only[ho,resolve,invoke,builtin,Sem.run_bind,Sem.run_pure,Result.andThen_ok,List.map_toArray,aV,bC,hs,hx,hr]
 exact hK _ _ (h v' w' h2 h3)
def ar5 {P:Program} {w:World} {ops:Array Oper} {rest:List Oper} {o:Oper} {a:Act} {Q:Exit→Act→World→Prop} (hgd:o.guard=none) (sl x:Operand) (t:TypeId)
  (ho:o.op=.call {callee:=.builtin .append,args:=#[sl,x],argTypes:=#[t,t]})
  (e:TypeId) (d:TD) (ht:P.underlying t=some (.slice e)) (hd:TT.of P e=some d) (hz:d.size=1) (hby:d.bytes≤32768)
  (v:Value) (n:Nat) (xs:List Value) (hs:a.eval sl=v) (hown:w.ownsRow 0 e 1 v n xs) (b off m c:Nat) (news:List Value) (hx:a.eval x=.slice (some ⟨b,off,none⟩) m c) (hl:news.length=m)
  (hnews:∀ i u,news[i]?=some u→w.cell? ⟨b,off+i,none⟩=some u) (h1:∀ u∈news,u.oneCell'=true) (hb:n+m≤LIM)
  (h:∀ v' w',w'.ownsRow 0 e 1 v' (n+m) (xs++news)→((w.grownBy w' v.ownBlock∧v'.ownBlock=v.ownBlock)∨(w.grownBy w' none∧v'.ownBlock=some w.heap.size))→wpList P ops Q rest (a.put o.dst v') w'):wpList P ops Q (o::rest) a w:=by
 refine wpList_plain hgd fun K hK=>?_
 obtain⟨v',w',hr,h2,h3⟩:=alw (P:=P) (w:=w) (t:=t) (ty:=o.type) (c:=c) ht hd (by omega) (by rw[hz];exact hown) (A:=some ⟨b,off,none⟩) (m:=m) (news:=news) (by rw[hz];omega) (fun _=>⟨b,off,rfl,hnews⟩) h1 hb hby (fj _)
 rw[hz] at h2
 unfold Oper.wp execOp
 simp only[ho,resolve,invoke,builtin,Sem.run_bind,Sem.run_pure,Result.andThen_ok,List.map_toArray,aV,bC,hs,hx,hr]
 exact hK _ _ (h v' w' h2 h3)
theorem CPost.put {b:Nat} {v v':Value} {bs bs':List Value} {w w1 w2:World} (h1:CPost b v w w1 bs) (hown:w2.ownsRow 0 5 1 v' bs'.length bs') (hg:(w1.grownBy w2 v.ownBlock∧v'.ownBlock=v.ownBlock)∨(w1.grownBy w2 none∧∃ g,v'.ownBlock=some g∧w1.heap.size≤g)) :
  BPost b v w (w2.setCell ⟨b,1,none⟩ v') v' bs'∧w2.heap[b]?=some (.cells #[.pointer (some ⟨b,0,none⟩),v] 93 (0,0)):=by
 have hb2:w2.heap[b]?=some (.cells #[.pointer (some ⟨b,0,none⟩),v] 93 (0,0)):=by
  rcases hg with ⟨hg,_⟩|⟨hg,_⟩
  .rw[hg.block b h1.at'.lt (fun e=>h1.at'.ne e.symm)]
   exact h1.at'.blk
  .rw[hg.block b h1.at'.lt (by simp)]
   exact h1.at'.blk
 have hne:v'.ownBlock≠some b:=by
  rcases hg with ⟨_,h⟩|⟨_,g,h,hl⟩
  .rw[h];exact h1.at'.ne
  .rw[h]
   intro e
   have:=h1.at'.lt
   simp only[ae] at e
   omega
 have hos:w2.os=w1.os∧w2.tape=w1.tape∧w2.output=w1.output∧w1.heap.size≤w2.heap.size:=by
  rcases hg with ⟨hg,_⟩|⟨hg,_⟩ <;> exact⟨hg.os,hg.tape,hg.output,hg.size⟩
 refine⟨⟨⟨?_,?_,hne⟩,?_,hos.1.trans h1.os,hos.2.1.trans h1.tape,hos.2.2.1.trans h1.output,?_⟩,hb2⟩
 .simp[World.setCell,jv,hb2]
 .exact hown.kept (row:=some b) ⟨rfl,rfl,rfl,by simp[World.setCell],fun k _ hk=>ad4 w2 b 1 _ k (fun e=>hk (by simp[e]))⟩ (Or.inr hne)
 .rw[alT];have:=h1.size;omega
 .rcases hg with ⟨hg,h⟩|⟨hg,g,h,hl⟩
  .refine .inl ⟨h,fun k hk hkb hkv=>?_⟩
   rw[ad4 w2 b 1 _ k hkb,hg.block k (by rw[h1.size];exact hk) hkv]
   exact h1.rest k hkb
  .refine .inr ⟨⟨g,h,by rw[← h1.size];exact hl⟩,fun k hk hkb=>?_⟩
   rw[ad4 w2 b 1 _ k hkb,hg.block k (by rw[h1.size];exact hk) (by simp)]
   exact h1.rest k hkb
def awz (b:Nat) (p v:Value) (bs:List Value) (s:ByteArray) (w:World) (hp:p=.pointer none∨p=.pointer (some ⟨b,0,none⟩)) (h:BAt b p v bs w) (hlen:bs.length+s.size≤4294967296) :
  Calls Tryz.prog 47 #[.pointer (some ⟨b,0,none⟩),.string s] w fun e w'=>e=.returned (.tuple #[.int .i64 s.size,.nilIface])∧∃ v',BPost b v w w' v' (bs++Lib.strCells s):=by
 obtain⟨i0,hi,hz0,hz1,hz2⟩:=infoByte
 go_enter Tryz.func47,Tryz.ntmps47
 go_wp2_with (go_at_call 124;refine (aP4 b p v bs _ hp h).mono ?_)
 rintro e w1 ⟨rfl,h1⟩
 have c0:w1.cell? ⟨b,0,none⟩=some (.pointer (some ⟨b,0,none⟩)):=by rw[Lib.cell_of_heap h1.at'.blk];rfl
 have c1:w1.cell? ⟨b,1,none⟩=some v:=by rw[Lib.cell_of_heap h1.at'.blk];rfl
 go_wp2_with (at_builtin;refine ar4 rfl _ _ 91 9 rfl 5 i0 Tryz.underlying91 Tryz.underlying9 hi hz0 hz1 hz2 _ _ _ rfl h1.at'.own s rfl hlen ?_)
 intro v' w2 hown' hgrow
 obtain⟨hpost,hb2⟩:=h1.put (v':=v') (bs':=bs++Lib.strCells s) (w2:=w2) (by simpa [Lib.strCells_length] using hown') (hgrow.elim .inl fun e=>.inr ⟨e.1,_,e.2,aM _⟩)
 have d0:w2.cell? ⟨b,0,none⟩=some (.pointer (some ⟨b,0,none⟩)):=by rw[Lib.cell_of_heap hb2];rfl
 have d1:w2.cell? ⟨b,1,none⟩=some v:=by rw[Lib.cell_of_heap hb2];rfl
 have f1:w2.frozen? ⟨b,1,none⟩=false:=Lib.frozen_of_heap hb2 1
 obtain⟨ao,n',cap,rfl⟩ : ∃ ao n' cap,v'=.slice ao n' cap:=by
  rcases hown'.2 with ⟨hv,_⟩|⟨g,cap,cur,hv,_⟩
  .exact⟨_,_,_,hv⟩
  .exact⟨_,_,_,hv⟩
 go_wp2
 go_ret2
 exact⟨rfl,_,hpost⟩
def aFh (b:Nat) (p v:Value) (bs:List Value) (c:Int) (w:World) (hp:p=.pointer none∨p=.pointer (some ⟨b,0,none⟩)) (h:BAt b p v bs w) (hlen:bs.length+1≤4294967296) :
  Calls Tryz.prog 46 #[.pointer (some ⟨b,0,none⟩),.int .u8 c] w fun e w'=>e=.returned .nilIface∧∃ v',BPost b v w w' v' (bs++[.int .u8 c]):=by
 obtain⟨i0,hi,hz0,hz1,hz2⟩:=infoByte
 go_enter Tryz.func46,Tryz.ntmps46
 go_wp2_with (go_at_call 124;refine (aP4 b p v bs _ hp h).mono ?_)
 rintro e w1 ⟨rfl,h1⟩
 have c0:w1.cell? ⟨b,0,none⟩=some (.pointer (some ⟨b,0,none⟩)):=by rw[Lib.cell_of_heap h1.at'.blk];rfl
 have c1:w1.cell? ⟨b,1,none⟩=some v:=by rw[Lib.cell_of_heap h1.at'.blk];rfl
 have hblt:=h1.at'.lt
 go_wp2_with (at_builtin;refine ar5 rfl _ _ 91 rfl 5 _ Tryz.underlying91 T5 rfl (by decide) _ _ _ rfl (h1.at'.own.alloc _) w1.heap.size 0 1 1 [.int .u8 c] rfl rfl ?c1 ?c2 ?c3 ?_)
 case c1 =>
  intro j u hj
  match j,hj with
  | 0,hj=>simp at hj;subst hj;simp
 case c2=>intro u hu;simp at hu;subst hu;rfl
 case c3=>unfold LIM;omega
 intro v' w2 hown' hgrow
 have hgrow1:(w1.grownBy w2 v.ownBlock∧v'.ownBlock=v.ownBlock)∨(w1.grownBy w2 none∧∃ g,v'.ownBlock=some g∧w1.heap.size≤g):=by
  rcases hgrow with ⟨hg,h⟩|⟨hg,h⟩
  .exact .inl ⟨⟨hg.os,hg.tape,hg.output,by have:=hg.size;simp at this;omega,fun k hk hne=>by rw[hg.block k (by simp;omega) hne,Lib.alloc_old w1 _ k hk]⟩,h⟩
  .exact .inr ⟨⟨hg.os,hg.tape,hg.output,by have:=hg.size;simp at this;omega,fun k hk hne=>by rw[hg.block k (by simp;omega) hne,Lib.alloc_old w1 _ k hk]⟩,_,h,by simp⟩
 obtain⟨hpost,hb2⟩:=h1.put (v':=v') (bs':=bs++[.int .u8 c]) (w2:=w2) (by simpa using hown') hgrow1
 have d0:w2.cell? ⟨b,0,none⟩=some (.pointer (some ⟨b,0,none⟩)):=by rw[Lib.cell_of_heap hb2];rfl
 have d1:w2.cell? ⟨b,1,none⟩=some v:=by rw[Lib.cell_of_heap hb2];rfl
 have f1:w2.frozen? ⟨b,1,none⟩=false:=Lib.frozen_of_heap hb2 1
 obtain⟨ao,n',cap,rfl⟩ : ∃ ao n' cap,v'=.slice ao n' cap:=by
  rcases hown'.2 with ⟨hv,_⟩|⟨g,cap,cur,hv,_⟩
  .exact⟨_,_,_,hv⟩
  .exact⟨_,_,_,hv⟩
 go_wp2
 go_ret
 exact⟨rfl,_,hpost⟩
structure SPost (v:Value) (w w':World):Prop where
 grown:∀ k,k<w.heap.size→some k≠v.ownBlock→w'.heap[k]?=w.heap[k]?
 size:w.heap.size≤w'.heap.size
 os:w'.os=w.os
 tape:w'.tape=w.tape
 output:w'.output=w.output
 cell:∀ c o,c<w.heap.size→w'.cell? ⟨c,o,none⟩=w.cell? ⟨c,o,none⟩
theorem SPost.drew (v:Value) (w:World):SPost v w w.drew:=⟨fun _ _ _=>rfl,aM _,rfl,rfl,rfl,fun _ _ _=>rfl⟩
def axC (w:World) (p:Addr) (n c o:Nat):(w.freeze p n).cell? ⟨c,o,none⟩=w.cell? ⟨c,o,none⟩:=by
 unfold World.freeze
 split
 .rfl
 .simp only[World.cell?,jv]
  by_cases e:p.block=c
  .rw[aE e]
   cases w.heap[c]? with
   | none=>rfl
   | some ob=>cases ob <;> rfl
  .rw[aj e]
theorem SPost.alloc (v:Value) (w:World) (o:Obj):SPost v w (w.drew.alloc o):=⟨fun k hk _=>Lib.alloc_old w.drew _ k hk,by simp,rfl,rfl,rfl,fun c o hc=>World.cell?_of_block (a:=⟨c,o,none⟩) (Lib.alloc_old w.drew _ c hc)⟩
theorem SPost.freeze {g n c m:Nat} (w:World):SPost (.slice (some ⟨g,0,none⟩) n c) w (w.drew.freeze ⟨g,0,none⟩ m):=by
 unfold World.freeze
 split
 .exact SPost.drew _ w
 .refine⟨fun k hk hne=>?_,by simp,rfl,rfl,rfl,fun c o _=>?_⟩
  .have:¬ g=k:=fun e=>hne (by simp[Value.ownBlock,e])
   simp only[jv]
   rw[aj this]
   rfl
  .have:=axC w.drew ⟨g,0,none⟩ m c o
   unfold World.freeze at this
   rename_i hm _
   rw[aj hm] at this
   exact this
def cellsByte:Tryz.prog.cellsOf 5=1:=by kernel_rfl
def awJ (b g cap:Nat) (p:Value) (cur:Array Value) (l:List UInt8) (w:World) (h0:l≠[]) (h:BAt b p (.slice (some ⟨g,0,none⟩) l.length cap) (Lib.byteCells l) w) (hg:w.heap[g]?=some (.cells cur 5 (0,0))) (hnc:l.length≤cap) (hcm:cap≤maxLen) (hcs:cur.size=cap*1) :
  Calls Tryz.prog 49 #[.pointer (some ⟨b,0,none⟩)] w fun e w'=>e=.returned (.string ⟨l.toArray⟩)∧SPost (.slice (some ⟨g,0,none⟩) l.length cap) w w':=by
 have hl0:l.length≠0:=by simpa using h0
 have hown:=h.own
 have c1:w.drew.cell? ⟨b,1,none⟩=some (.slice (some ⟨g,0,none⟩) l.length cap):=by
  have:w.drew.heap[b]?=some (.cells #[p,.slice (some ⟨g,0,none⟩) l.length cap] 93 (0,0)):=h.blk
  rw[Lib.cell_of_heap this];rfl
 have hSD:(Builtin.unsafeSliceData_ #[91] 159 #[.slice (some ⟨g,0,none⟩) l.length cap]).run Tryz.prog w.drew=.ok (.pointer (some ⟨g,0,none⟩)) w.drew :=
  Lib.run_unsafeSliceData_row _ _ _ _ _ _ (by omega)
 have hUS:(Builtin.unsafeString_ #[159,3] 9 #[.pointer (some ⟨g,0,none⟩),.int .i64 l.length]).run Tryz.prog w.drew=.ok (.string ⟨l.toArray⟩) (w.drew.freeze ⟨g,0,none⟩ l.length):=by
  refine Lib.run_unsafeString_row w.drew 159 3 9 5 Tryz.underlying159 cellsByte g cur.size (by have hg':w.drew.heap[g]?=some (.cells cur 5 (0,0)):=hg;simp[World.shape?,hg']) l h0 (by omega) (by unfold maxLen at hcm;omega) ?_
  intro j x hx
  exact hown.cells (g:=g) rfl j (.int .u8 x.toNat) (by simp[Lib.byteCells,hx])
 clear hown h
 have hmixed:=mixed
 go_enter Tryz.func49,Tryz.ntmps49
 go_wp2
 go_region_o
 all_goals (go_wp2;go_ret;exact⟨rfl,SPost.freeze w⟩)
def aCp (b:Nat) (p:Value) (w:World) (hbk:w.heap[b]?=some (.cells #[p,.slice none 0 0] 93 (0,0))) :
  Calls Tryz.prog 49 #[.pointer (some ⟨b,0,none⟩)] w fun e w'=>e=.returned (.string ⟨#[]⟩)∧SPost (.slice none 0 0) w w':=by
 have hUS:∀ (W:World) (q:Option Addr),(Builtin.unsafeString_ #[159,3] 9 #[.pointer q,.int .i64 0]).run Tryz.prog W=.ok (.string .empty) W:=fun W q=>Lib.run_unsafeString_none W _ _ _ q
 have c1:w.drew.cell? ⟨b,1,none⟩=some (.slice none 0 0):=by
  have:w.drew.heap[b]?=some (.cells #[p,.slice none 0 0] 93 (0,0)):=hbk
  rw[Lib.cell_of_heap this];rfl
 have hSD:(Builtin.unsafeSliceData_ #[91] 159 #[.slice none 0 0]).run Tryz.prog w.drew=.ok (.pointer none) w.drew:=rfl
 have hmixed:=mixed
 go_enter Tryz.func49,Tryz.ntmps49
 go_wp2
 go_region_o
 all_goals (go_wp2;go_ret;exact⟨rfl,SPost.drew _ w⟩)
def awK (b g cap:Nat) (p:Value) (w:World) (hc0:cap≠0) (hbk:w.heap[b]?=some (.cells #[p,.slice (some ⟨g,0,none⟩) 0 cap] 93 (0,0))) :
  Calls Tryz.prog 49 #[.pointer (some ⟨b,0,none⟩)] w fun e w'=>e=.returned (.string ⟨#[]⟩)∧SPost (.slice (some ⟨g,0,none⟩) 0 cap) w w':=by
 have hUS:∀ (W:World) (q:Option Addr),(Builtin.unsafeString_ #[159,3] 9 #[.pointer q,.int .i64 0]).run Tryz.prog W=.ok (.string .empty) W:=fun W q=>Lib.run_unsafeString_none W _ _ _ q
 have c1:w.drew.cell? ⟨b,1,none⟩=some (.slice (some ⟨g,0,none⟩) 0 cap):=by
  have:w.drew.heap[b]?=some (.cells #[p,.slice (some ⟨g,0,none⟩) 0 cap] 93 (0,0)):=hbk
  rw[Lib.cell_of_heap this];rfl
 have hSD:(Builtin.unsafeSliceData_ #[91] 159 #[.slice (some ⟨g,0,none⟩) 0 cap]).run Tryz.prog w.drew=.ok (.pointer (some ⟨g,0,none⟩)) w.drew :=
  Lib.run_unsafeSliceData_row _ _ _ _ _ _ hc0
 clear hc0
 have hmixed:=mixed
 go_enter Tryz.func49,Tryz.ntmps49
 go_wp2
 go_region_o
 all_goals (go_wp2;go_ret;exact⟨rfl,SPost.drew _ w⟩)
def asd (b g:Nat) (p:Value) (cur:Array Value) (w:World) (hbk:w.heap[b]?=some (.cells #[p,.slice (some ⟨g,0,none⟩) 0 0] 93 (0,0))) (hg:w.heap[g]?=some (.cells cur 5 (0,0))) :
  Calls Tryz.prog 49 #[.pointer (some ⟨b,0,none⟩)] w fun e w'=>e=.returned (.string ⟨#[]⟩)∧SPost (.slice (some ⟨g,0,none⟩) 0 0) w w':=by
 have hUS:∀ (W:World) (q:Option Addr),(Builtin.unsafeString_ #[159,3] 9 #[.pointer q,.int .i64 0]).run Tryz.prog W=.ok (.string .empty) W:=fun W q=>Lib.run_unsafeString_none W _ _ _ q
 have hlt:b<w.heap.size:=(Array.getElem?_eq_some_iff.1 hbk).1
 have c1:w.drew.cell? ⟨b,1,none⟩=some (.slice (some ⟨g,0,none⟩) 0 0):=by
  have:w.drew.heap[b]?=some (.cells #[p,.slice (some ⟨g,0,none⟩) 0 0] 93 (0,0)):=hbk
  rw[Lib.cell_of_heap this];rfl
 have hSD:(Builtin.unsafeSliceData_ #[91] 159 #[.slice (some ⟨g,0,none⟩) 0 0]).run Tryz.prog w.drew=.ok (.pointer (some ⟨w.drew.heap.size,0,none⟩)) (w.drew.alloc (.view ⟨g,0,none⟩ 5)) :=
  Lib.run_unsafeSliceData_zero w.drew _ _ 5 Tryz.underlying159 ⟨g,0,none⟩ 0 (5,cur.size) (by have hg':w.drew.heap[g]?=some (.cells cur 5 (0,0)):=hg;simp[World.shape?,hg'])
 have c2:(w.drew.alloc (.view ⟨g,0,none⟩ 5)).cell? ⟨b,1,none⟩=some (.slice (some ⟨g,0,none⟩) 0 0):=by
  have:(w.drew.alloc (.view ⟨g,0,none⟩ 5)).heap[b]?=_:=(Lib.alloc_old w.drew _ b hlt).trans hbk
  rw[Lib.cell_of_heap this];rfl
 have c3:(w.alloc (.view ⟨g,0,none⟩ 5)).drew.cell? ⟨b,1,none⟩=some (.slice (some ⟨g,0,none⟩) 0 0):=c2
 have c0:w.cell? ⟨b,1,none⟩=some (.slice (some ⟨g,0,none⟩) 0 0):=c1
 have hmixed:=mixed
 go_enter Tryz.func49,Tryz.ntmps49
 go_wp2
 go_region_o
 all_goals (go_wp2;go_ret;exact⟨rfl,SPost.alloc _ w _⟩)
def aKk (b:Nat) (p v:Value) (l:List UInt8) (w:World) (h:BAt b p v (Lib.byteCells l) w) :
  Calls Tryz.prog 49 #[.pointer (some ⟨b,0,none⟩)] w fun e w'=>e=.returned (.string ⟨l.toArray⟩)∧SPost v w w':=by
 have hown:=h.own
 rw[Lib.byteCells_length] at hown
 rcases hown.2 with ⟨rfl,hz⟩|⟨g,cap,cur,rfl,_,hg,hnc,hcm,hcs,_⟩
 .obtain rfl:=aJ hz
  exact aCp b p w h.blk
 .by_cases hl:l=[]
  .subst hl
   by_cases hc:cap=0
   .subst hc
    exact asd b g p cur w h.blk hg
   .exact awK b g cap p w hc h.blk
  .exact awJ b g cap p cur l w hl h hg hnc hcm hcs
end Go.Proofs.YtemdljoideegeaaGreatDoor
namespace Go.Tab
structure IsOrd {α:Type} (f:α→α→Int):Prop where
 sgn:∀ a b,f a b=-1∨f a b=0∨f a b=1
 zero:∀ a b,f a b=0↔a=b
 anti:∀ a b,f a b=- f b a
 tr:∀ a b c,f a b≤0→f b c≤0→f a c≤0
structure V where
 k:Int
 n:Int
 s:ByteArray
 deriving DecidableEq
def V.t (v:V):List UInt8:=v.s.data.toList
def akB {a b:ByteArray}:a.data.toList=b.data.toList↔a=b:=by
 constructor
 .intro h
  cases a with
  | mk x=>cases b with
   | mk y=>simp at h;rw[h]
 .rintro rfl;rfl
theorem akV:∀ (k u:Nat),u<10 ^ k→1≤k→Lib.nDigits u≤k
 | 0,u,_,h=>by omega
 | k+1,u,h,_=>by
  rw[Lib.nDigits]
  split
  .omega
  .rename_i h1
   have:1≤k:=by
    rcases fM k with e|e
    .subst e;simp at h;omega
    .exact e
   have:=akV k (u / 10) (by rw[Nat.pow_succ] at h;omega) this
   omega
def aiH (n:Int) (h1:-9223372036854775808≤n) (h2:n≤9223372036854775807):(Lib.itoa n).length≤20:=by
 unfold Lib.itoa
 split
 .rw[aB,Lib.decDigits_length]
  have:=akV 19 n.natAbs (by omega) (by omega)
  omega
 .rw[Lib.decDigits_length]
  have:=akV 19 n.toNat (by omega) (by omega)
  omega
def iL:List UInt8→List UInt8
 | []=>[]
 | b::r=>if b=39 then 39::39::iL r else b::iL r
theorem agq:∀ l:List UInt8,(iL l).length≤2*l.length
 | []=>aM _
 | b::l=>by
  have:=agq l
  unfold iL
  split <;> simp only[aB] <;> omega
theorem anL:∀ (l:List UInt8) (b:UInt8),iL (l++[b])=iL l++(if b=39 then [39,39] else [b])
 | [],b=>by unfold iL;split <;> simp_all [iL]
 | a::l,b=>by
  have:=anL l b
  simp only[bt,iL,this]
  split <;> rfl
theorem ae0:∀ (s:List UInt8) (k:Nat),s.count 39≤k→Lib.replaceK [39] [39,39] k s=iL s
 | [],0,_=>rfl
 | [],k+1,_=>by simp[Lib.replaceK,Lib.index,iL]
 | b::l,k,h=>by
  by_cases hb:b=39
  .subst hb
   rw[List.count_cons_self] at h
   obtain⟨k,rfl⟩ : ∃ q,k=q+1:=⟨k-1,by omega⟩
   have ih:=ae0 l k (by omega)
   have hi:Lib.index (39::l) [39]=0:=by simp[Lib.index]
   rw[Lib.replaceK_hit [39] [39,39] k (39::l) 0 (by simpa using hi)]
   simp only[ahB,bw,dN,bd,aaq,ac6,ih,iL,aA]
   rfl
  .rw[List.count_cons_of_ne (fun e=>hb e)] at h
   have e1:iL (b::l)=b::iL l:=by simp[iL,hb]
   rw[e1]
   cases k with
   | zero =>
    have ih:=ae0 l 0 h
    simp only[Lib.replaceK] at ih ⊢
    rw[← ih]
   | succ k =>
    have ih:=ae0 l (k+1) h
    rw[← ih]
    have hp:¬ ([39]:List UInt8).isPrefixOf (b::l)=true:=by simp;exact fun e=>hb e.symm
    have hi:Lib.index (b::l) [39]=if Lib.index l [39] == -1 then -1 else Lib.index l [39]+1:=by rw[Lib.index,aj hp]
    have hge:=Lib.index_ge l [39]
    by_cases hm:Lib.index l [39]=-1
    .simp[Lib.replaceK,hi,hm]
    .obtain⟨i,hi2⟩ : ∃ i:Nat,Lib.index l [39]=i:=⟨(Lib.index l [39]).toNat,by omega⟩
     have hi3:Lib.index (b::l) [39]=((i+1:Nat):Int):=by rw[hi,aj (by simpa using hm),hi2];rfl
     rw[Lib.replaceK_hit _ _ k _ _ hi2,Lib.replaceK_hit _ _ k _ _ hi3]
     simp only[abC,bt,dN,bd,aaq]
def an0 (s:List UInt8):Lib.replaceAll s [39] [39,39]=iL s:=by
 unfold Lib.replaceAll Lib.replace
 rw[aj (by decide)]
 refine ae0 s _ ?_
 unfold Lib.replaceNum
 rw[aE (.inl (by decide)),Lib.count_one]
 exact aM _
def okB (b:UInt8):Bool:=decide (32≤b.toNat)&&decide (b.toNat≤126)
def afu (s:ByteArray):Bool:=s.data.toList.all okB&&decide (s.size≤100)
def inB (n:Int):Bool:=decide (-1000000000000000≤n)&&decide (n≤1000000000000000)
def hU (v:V):Bool :=
 if v.k=0 then decide (v.n=0)&&decide (v.s=ByteArray.empty)
 else if v.k=1 then (decide (v.n=0)||decide (v.n=1))&&decide (v.s=ByteArray.empty)
 else if v.k=2 then inB v.n&&decide (v.s=ByteArray.empty)
 else if v.k=3 then decide (v.n=0)&&afu v.s
 else false
def agY (r:Nat):Bool:=decide (r<32)||decide (126<r)
def axx (n b0 b1 b2 b3:Nat) (h:128≤b0):126<(Lib.decodeN n b0 b1 b2 b3).1:=by
 unfold Lib.decodeN
 repeat' split
 all_goals omega
def avL (s:ByteArray) (i:Nat) (h:(s.get! i).toNat<128):Utf8.decode s i=((s.get! i).toNat,1):=by
 rw[Lib.decode_at,Lib.decodeN,aE h]
def aLz (s:ByteArray) (i:Nat) (h:i<s.size):s.data.toList[i]?=some (s.get! i):=by
 obtain⟨⟨l⟩⟩:=s
 have h:i<l.length:=h
 show l[i]?=some ((⟨l⟩ : Array UInt8)[i]!)
 rw[bK h,getElem!_pos (⟨l⟩ : Array UInt8) i h]
 rfl
theorem arO (s:ByteArray):∀ (f pos:Nat),s.size≤pos+f→(Lib.idxFuncFrom agY true s f pos<0↔(s.data.toList.drop pos).all okB=true)
 | 0,pos,h=>by
  have:s.data.toList.drop pos=[]:=List.drop_eq_nil_of_le (by simp only[fy];exact h)
  rw[this]
  simp[Lib.idxFuncFrom]
 | f+1,pos,h=>by
  unfold Lib.idxFuncFrom
  by_cases hp:pos<s.size
  .rw[aE hp]
   have hg:=aLz s pos hp
   obtain⟨hl,hg2⟩:=List.getElem?_eq_some_iff.1 hg
   rw[bM hl,hg2,acf]
   by_cases hb:(s.get! pos).toNat<128
   .rw[avL s pos hb]
    simp only
    by_cases ho:agY (s.get! pos).toNat=true
    .rw[aE ho]
     have:okB (s.get! pos)=false:=by
      simp only[agY,cA,ar] at ho
      simp only[okB,Bool.and_eq_false_iff,iM]
      omega
     rw[this]
     simp
    .rw[aj ho]
     have:okB (s.get! pos)=true:=by
      simp only[agY,cA,ar] at ho
      simp only[okB,ab,ar]
      omega
     rw[this,aX]
     exact arO s f (pos+1) (by omega)
   .have ho:agY (Utf8.decode s pos).1=true:=by
     rw[Lib.decode_at]
     have:=axx (s.size-pos) (s.get! pos).toNat (s.get! (pos+1)).toNat (s.get! (pos+2)).toNat (s.get! (pos+3)).toNat (by omega)
     simp only[agY,cA,ar]
     exact .inr this
    rw[aE ho]
    have:okB (s.get! pos)=false:=by
     simp only[okB,Bool.and_eq_false_iff,iM]
     omega
    rw[this]
    simp
  .rw[aj hp]
   have:s.data.toList.drop pos=[]:=List.drop_eq_nil_of_le (by simp only[fy];exact Nat.le_of_not_lt hp)
   rw[this]
   simp
def aAH (s:ByteArray):Lib.idxFunc agY true s<0↔s.data.toList.all okB=true:=by
 have:=arO s s.size 0 (by omega)
 simpa [Lib.idxFunc] using this
def aC6:ByteArray:=⟨#[110,117,108,108]⟩
def aCh:ByteArray:=⟨#[116,114,117,101]⟩
def avA:ByteArray:=⟨#[102,97,108,115,101]⟩
def aD (l:List UInt8):ByteArray:=⟨l.toArray⟩
def aL (l:List UInt8):({data:=l.toArray}:ByteArray)=aD l:=rfl
def atX {a b:List UInt8} (h:aD a=aD b):a=b:=by
 have:=congrArg (fun s:ByteArray=>s.data.toList) h
 simpa [aD] using this
def aCj (v:V):ByteArray:=if v.k=1 then (if v.n=0 then avA else aCh) else if v.k=2 then aD (Lib.itoa v.n) else if v.k=3 then aD (39::iL v.t++[39]) else aC6
def fst (s:ByteArray):Option UInt8:=s.data.toList.head?
end Go.Tab
namespace Go.Tab
open Go Go.Pe
structure Cl where
 tb:List UInt8
 nm:List UInt8
 ty:Int
 deriving DecidableEq
inductive Tm where
 | mk (op:Int) (v:V) (dep at':Int) (nm:List UInt8) (kids:List Tm) (sub:C) (ty:Int)
inductive Pn where
 | mk (op:Int) (tb ix:List UInt8) (cols:List Cl) (kids:List Pn) (terms lk rk:List Tm) (r:Nat→C) (est cost:Int)
def ahc (v:V):List UInt8:=(aCj v).data.toList
def aM9:List (Int×List UInt8):=[(5,[43]),(6,[45]),(7,[42]),(8,[47]),(9,[37]),(10,[124,124]),(11,[61]),(12,[60,62]),(13,[60]),(14,[60,61]),(15,[62]),(16,[62,61]),(17,[97,110,100]),(18,[111,114]),(20,[108,105,107,101])]
def apv:List (Int×List UInt8)→Int→Option (List UInt8)
 | [],_=>none
 | p::l,n=>if p.1=n then some p.2 else apv l n
def a1r:List (Int×List UInt8):=[(1,[115,99,97,110]),(2,[115,101,101,107]),(3,[114,111,119,115]),(4,[102,105,108,116,101,114]),(5,[112,114,111,106,101,99,116]),(6,[110,101,115,116]),(7,[104,97,115,104]),(8,[109,101,114,103,101]),(9,[108,101,102,116]),(10,[104,97,115,104,108,101,102,116]),(11,[103,114,111,117,112]),(12,[100,105,115,116,105,110,99,116]),(13,[117,110,105,111,110]),(14,[105,110,116,101,114]),(15,[101,120,99,101,112,116]),(16,[115,111,114,116]),(17,[108,105,109,105,116]),(18,[112,105,99,107])]
def Pn.op:Pn→Int | .mk op ..=>op
def Pn.cols:Pn→List Cl | .mk _ _ _ cols ..=>cols
def Pn.kids:Pn→List Pn | .mk _ _ _ _ kids ..=>kids
def ata (op:Int):List UInt8:=(apv a1r op).getD [112,108,97,110]
def I64 (n:Int):Prop:=-9223372036854775808≤n∧n≤9223372036854775807
def fl {α:Type} (f:α→List C) (l:List α):List C:=(l.map f).flatten
def slC {α:Type} (f:α→List C) (l:List α):C:=.sl (fl f l) l.length
def lsC {α:Type} (f:α→List C) (l:List α):List C:=[slC f l]
def acC (v:V):List C:=[ci v.k,ci v.n,aH v.s]
def abi (n:Int):List C:=[ci n]
def aan (b:Bool):List C:=[cb b]
def bA (s:List UInt8):List C:=[aH (aD s)]
def eN {α:Type} (_:α):Nat:=1
def cV (s:List UInt8):Nat:=s.length+1
def alF (v:V):Nat:=v.s.size+4
def lsW {α:Type} (w:α→Nat) (l:List α):Nat:=(l.map w).sum+1
def fK {α:Type} (_:α):Prop:=True
def V64 (v:V):Prop:=I64 v.k∧I64 v.n
def lsP {α:Type} (p:α→Prop) (l:List α):Prop:=∀ x∈l,p x
structure Od where
 nm:List UInt8
 pl:Int
 dn:Bool
def odC (x:Od):List C:=bA x.nm++(abi x.pl++(aan x.dn))
def odW (x:Od):Nat:=cV x.nm+eN x.pl+eN x.dn+1
def awq (x:Od):Prop:=fK x.nm∧I64 x.pl∧fK x.dn
mutual
inductive Xp where
 | mk (op:Int) (v:V) (tb:List UInt8) (nm:List UInt8) (di:Bool) (ks:List Xp) (sb:List Qy)
inductive Qy where
 | mk (op:Int) (al:Bool) (ks:List Qy) (di:Bool) (its:List Im) (fr:List Fm) (wh:List Xp) (gr:List Xp) (hv:List Xp) (od:List Od) (li:Int) (sk:Int)
inductive Im where
 | mk (st:Bool) (tb:List UInt8) (e:Xp) (az:List UInt8)
inductive Fm where
 | mk (kd:Int) (nm:List UInt8) (az:List UInt8) (sb:List Qy) (ks:List Fm) (on:List Xp)
end
def Xp.op:Xp→Int | .mk op _ _ _ _ _ _=>op
def Xp.v:Xp→V | .mk _ v _ _ _ _ _=>v
def Xp.tb:Xp→List UInt8 | .mk _ _ tb _ _ _ _=>tb
def Xp.nm:Xp→List UInt8 | .mk _ _ _ nm _ _ _=>nm
def Xp.di:Xp→Bool | .mk _ _ _ _ di _ _=>di
def Xp.ks:Xp→List Xp | .mk _ _ _ _ _ ks _=>ks
def Xp.sb:Xp→List Qy | .mk _ _ _ _ _ _ sb=>sb
def Qy.op:Qy→Int | .mk op _ _ _ _ _ _ _ _ _ _ _=>op
def Qy.al:Qy→Bool | .mk _ al _ _ _ _ _ _ _ _ _ _=>al
def Qy.ks:Qy→List Qy | .mk _ _ ks _ _ _ _ _ _ _ _ _=>ks
def Qy.di:Qy→Bool | .mk _ _ _ di _ _ _ _ _ _ _ _=>di
def Qy.its:Qy→List Im | .mk _ _ _ _ its _ _ _ _ _ _ _=>its
def Qy.fr:Qy→List Fm | .mk _ _ _ _ _ fr _ _ _ _ _ _=>fr
def Qy.wh:Qy→List Xp | .mk _ _ _ _ _ _ wh _ _ _ _ _=>wh
def Qy.gr:Qy→List Xp | .mk _ _ _ _ _ _ _ gr _ _ _ _=>gr
def Qy.hv:Qy→List Xp | .mk _ _ _ _ _ _ _ _ hv _ _ _=>hv
def Qy.od:Qy→List Od | .mk _ _ _ _ _ _ _ _ _ od _ _=>od
def Qy.li:Qy→Int | .mk _ _ _ _ _ _ _ _ _ _ li _=>li
def Qy.sk:Qy→Int | .mk _ _ _ _ _ _ _ _ _ _ _ sk=>sk
def Im.st:Im→Bool | .mk st _ _ _=>st
def Im.tb:Im→List UInt8 | .mk _ tb _ _=>tb
def Im.e:Im→Xp | .mk _ _ e _=>e
def Im.az:Im→List UInt8 | .mk _ _ _ az=>az
def Fm.kd:Fm→Int | .mk kd _ _ _ _ _=>kd
def Fm.nm:Fm→List UInt8 | .mk _ nm _ _ _ _=>nm
def Fm.az:Fm→List UInt8 | .mk _ _ az _ _ _=>az
def Fm.sb:Fm→List Qy | .mk _ _ _ sb _ _=>sb
def Fm.ks:Fm→List Fm | .mk _ _ _ _ ks _=>ks
def Fm.on:Fm→List Xp | .mk _ _ _ _ _ on=>on
mutual
def xpC:Xp→List C
 | .mk op v tb nm di ks sb=>abi op++(acC v++(bA tb++(bA nm++(aan di++([.sl (alD ks) ks.length]++([.sl (aqF sb) sb.length]))))))
def alD:List Xp→List C
 | []=>[]
 | x::r=>xpC x++alD r
def qyC:Qy→List C
 | .mk op al ks di its fr wh gr hv od li sk=>abi op++(aan al++([.sl (aqF ks) ks.length]++(aan di++([.sl (aDB its) its.length]++([.sl (avt fr) fr.length]++([.sl (alD wh) wh.length]++([.sl (alD gr) gr.length]++([.sl (alD hv) hv.length]++((lsC odC) od++(abi li++(abi sk)))))))))))
def aqF:List Qy→List C
 | []=>[]
 | x::r=>qyC x++aqF r
def imC:Im→List C
 | .mk st tb e az=>aan st++(bA tb++(xpC e++(bA az)))
def aDB:List Im→List C
 | []=>[]
 | x::r=>imC x++aDB r
def fmC:Fm→List C
 | .mk kd nm az sb ks on=>abi kd++(bA nm++(bA az++([.sl (aqF sb) sb.length]++([.sl (avt ks) ks.length]++([.sl (alD on) on.length])))))
def avt:List Fm→List C
 | []=>[]
 | x::r=>fmC x++avt r
end
mutual
def xpW:Xp→Nat
 | .mk op v tb nm di ks sb=>eN op+alF v+cV tb+cV nm+eN di+(alB ks+1)+(aqD sb+1)+1
def alB:List Xp→Nat
 | []=>0
 | x::r=>xpW x+alB r
def qyW:Qy→Nat
 | .mk op al ks di its fr wh gr hv od li sk=>eN op+eN al+(aqD ks+1)+eN di+(aDz its+1)+(avq fr+1)+(alB wh+1)+(alB gr+1)+(alB hv+1)+(lsW odW) od+eN li+eN sk+1
def aqD:List Qy→Nat
 | []=>0
 | x::r=>qyW x+aqD r
def imW:Im→Nat
 | .mk st tb e az=>eN st+cV tb+xpW e+cV az+1
def aDz:List Im→Nat
 | []=>0
 | x::r=>imW x+aDz r
def fmW:Fm→Nat
 | .mk kd nm az sb ks on=>eN kd+cV nm+cV az+(aqD sb+1)+(avq ks+1)+(alB on+1)+1
def avq:List Fm→Nat
 | []=>0
 | x::r=>fmW x+avq r
end
mutual
def fh:Xp→Prop
 | .mk op v tb nm di ks sb=>I64 op∧V64 v∧fK tb∧fK nm∧fK di∧aie ks∧alr sb
def aie:List Xp→Prop
 | []=>True
 | x::r=>fh x∧aie r
def io:Qy→Prop
 | .mk op al ks di its fr wh gr hv od li sk=>I64 op∧fK al∧alr ks∧fK di∧aqb its∧anx fr∧aie wh∧aie gr∧aie hv∧(lsP awq) od∧I64 li∧I64 sk
def alr:List Qy→Prop
 | []=>True
 | x::r=>io x∧alr r
def aeS:Im→Prop
 | .mk st tb e az=>fK st∧fK tb∧fh e∧fK az
def aqb:List Im→Prop
 | []=>True
 | x::r=>aeS x∧aqb r
def acX:Fm→Prop
 | .mk kd nm az sb ks on=>I64 kd∧fK nm∧fK az∧alr sb∧anx ks∧aie on
def anx:List Fm→Prop
 | []=>True
 | x::r=>acX x∧anx r
end
theorem ajD:∀ l:List Xp,alD l=fl xpC l
 | []=>rfl
 | x::r=>by rw[alD,ajD r];rfl
theorem ais:∀ l:List Xp,alB l=(l.map xpW).sum
 | []=>rfl
 | x::r=>by rw[alB,ais r];rfl
theorem ahJ:∀ l:List Xp,aie l↔lsP fh l
 | []=>by simp[aie,lsP]
 | x::r=>by simp[aie,lsP,ahJ r]
theorem ajK:∀ l:List Qy,aqF l=fl qyC l
 | []=>rfl
 | x::r=>by rw[aqF,ajK r];rfl
theorem aiz:∀ l:List Qy,aqD l=(l.map qyW).sum
 | []=>rfl
 | x::r=>by rw[aqD,aiz r];rfl
theorem ahK:∀ l:List Qy,alr l↔lsP io l
 | []=>by simp[alr,lsP]
 | x::r=>by simp[alr,lsP,ahK r]
theorem ajX:∀ l:List Im,aDB l=fl imC l
 | []=>rfl
 | x::r=>by rw[aDB,ajX r];rfl
theorem aiI:∀ l:List Im,aDz l=(l.map imW).sum
 | []=>rfl
 | x::r=>by rw[aDz,aiI r];rfl
theorem ahL:∀ l:List Im,aqb l↔lsP aeS l
 | []=>by simp[aqb,lsP]
 | x::r=>by simp[aqb,lsP,ahL r]
theorem ajZ:∀ l:List Fm,avt l=fl fmC l
 | []=>rfl
 | x::r=>by rw[avt,ajZ r];rfl
theorem aiJ:∀ l:List Fm,avq l=(l.map fmW).sum
 | []=>rfl
 | x::r=>by rw[avq,aiJ r];rfl
theorem ahM:∀ l:List Fm,anx l↔lsP acX l
 | []=>by simp[anx,lsP]
 | x::r=>by simp[anx,lsP,ahM r]
def aoE (x:Xp):xpC x=abi x.op++(acC x.v++(bA x.tb++(bA x.nm++(aan x.di++((lsC xpC) x.ks++((lsC qyC) x.sb)))))):=by
 cases x
 simp only[xpC,Xp.op,Xp.v,Xp.tb,Xp.nm,Xp.di,Xp.ks,Xp.sb,lsC,slC,ajD,ajK,ajX,ajZ]
def aaU (x:Xp):xpW x=eN x.op+alF x.v+cV x.tb+cV x.nm+eN x.di+(lsW xpW) x.ks+(lsW qyW) x.sb+1:=by
 cases x
 simp only[xpW,Xp.op,Xp.v,Xp.tb,Xp.nm,Xp.di,Xp.ks,Xp.sb,lsW,ais,aiz,aiI,aiJ]
def ac1 (x:Xp):fh x↔I64 x.op∧V64 x.v∧fK x.tb∧fK x.nm∧fK x.di∧(lsP fh) x.ks∧(lsP io) x.sb:=by
 cases x
 simp only[fh,Xp.op,Xp.v,Xp.tb,Xp.nm,Xp.di,Xp.ks,Xp.sb,ahJ,ahK,ahL,ahM]
def aFY (x:Qy):qyC x=abi x.op++(aan x.al++((lsC qyC) x.ks++(aan x.di++((lsC imC) x.its++((lsC fmC) x.fr++((lsC xpC) x.wh++((lsC xpC) x.gr++((lsC xpC) x.hv++((lsC odC) x.od++(abi x.li++(abi x.sk))))))))))):=by
 cases x
 simp only[qyC,Qy.op,Qy.al,Qy.ks,Qy.di,Qy.its,Qy.fr,Qy.wh,Qy.gr,Qy.hv,Qy.od,Qy.li,Qy.sk,lsC,slC,ajD,ajK,ajX,ajZ]
def iK (x:Qy):qyW x=eN x.op+eN x.al+(lsW qyW) x.ks+eN x.di+(lsW imW) x.its+(lsW fmW) x.fr+(lsW xpW) x.wh+(lsW xpW) x.gr+(lsW xpW) x.hv+(lsW odW) x.od+eN x.li+eN x.sk+1:=by
 cases x
 simp only[qyW,Qy.op,Qy.al,Qy.ks,Qy.di,Qy.its,Qy.fr,Qy.wh,Qy.gr,Qy.hv,Qy.od,Qy.li,Qy.sk,lsW,ais,aiz,aiI,aiJ]
def ag7 (x:Qy):io x↔I64 x.op∧fK x.al∧(lsP io) x.ks∧fK x.di∧(lsP aeS) x.its∧(lsP acX) x.fr∧(lsP fh) x.wh∧(lsP fh) x.gr∧(lsP fh) x.hv∧(lsP awq) x.od∧I64 x.li∧I64 x.sk:=by
 cases x
 simp only[io,Qy.op,Qy.al,Qy.ks,Qy.di,Qy.its,Qy.fr,Qy.wh,Qy.gr,Qy.hv,Qy.od,Qy.li,Qy.sk,ahJ,ahK,ahL,ahM]
def aIw (x:Im):imC x=aan x.st++(bA x.tb++(xpC x.e++(bA x.az))):=by
 cases x
 simp only[imC,Im.st,Im.tb,Im.e,Im.az,lsC,slC,ajD,ajK,ajX,ajZ]
def aci (x:Im):imW x=eN x.st+cV x.tb+xpW x.e+cV x.az+1:=by
 cases x
 simp only[imW,Im.st,Im.tb,Im.e,Im.az,lsW,ais,aiz,aiI,aiJ]
def ain (x:Im):aeS x↔fK x.st∧fK x.tb∧fh x.e∧fK x.az:=by
 cases x
 simp only[aeS,Im.st,Im.tb,Im.e,Im.az,ahJ,ahK,ahL,ahM]
def aIH (x:Fm):fmC x=abi x.kd++(bA x.nm++(bA x.az++((lsC qyC) x.sb++((lsC fmC) x.ks++((lsC xpC) x.on))))):=by
 cases x
 simp only[fmC,Fm.kd,Fm.nm,Fm.az,Fm.sb,Fm.ks,Fm.on,lsC,slC,ajD,ajK,ajX,ajZ]
def jg (x:Fm):fmW x=eN x.kd+cV x.nm+cV x.az+(lsW qyW) x.sb+(lsW fmW) x.ks+(lsW xpW) x.on+1:=by
 cases x
 simp only[fmW,Fm.kd,Fm.nm,Fm.az,Fm.sb,Fm.ks,Fm.on,lsW,ais,aiz,aiI,aiJ]
def aio (x:Fm):acX x↔I64 x.kd∧fK x.nm∧fK x.az∧(lsP io) x.sb∧(lsP acX) x.ks∧(lsP fh) x.on:=by
 cases x
 simp only[acX,Fm.kd,Fm.nm,Fm.az,Fm.sb,Fm.ks,Fm.on,ahJ,ahK,ahL,ahM]
structure Cd where
 nm:List UInt8
 ty:Int
 nn:Bool
def cdC (x:Cd):List C:=bA x.nm++(abi x.ty++(aan x.nn))
def cdW (x:Cd):Nat:=cV x.nm+eN x.ty+eN x.nn+1
def aMF (x:Cd):Prop:=fK x.nm∧I64 x.ty∧fK x.nn
structure Kd where
 pr:Bool
 ns:List (List UInt8)
def kdC (x:Kd):List C:=aan x.pr++((lsC bA) x.ns)
def kdW (x:Kd):Nat:=eN x.pr+(lsW cV) x.ns+1
def aMw (x:Kd):Prop:=fK x.pr∧(lsP fK) x.ns
structure Rd where
 ns:List (List UInt8)
 tb:List UInt8
 to:List (List UInt8)
def rdC (x:Rd):List C:=(lsC bA) x.ns++(bA x.tb++((lsC bA) x.to))
def rdW (x:Rd):Nat:=(lsW cV) x.ns+cV x.tb+(lsW cV) x.to+1
def aMo (x:Rd):Prop:=(lsP fK) x.ns∧fK x.tb∧(lsP fK) x.to
structure As where
 nm:List UInt8
 e:Xp
def asC (x:As):List C:=bA x.nm++(xpC x.e)
def asW (x:As):Nat:=cV x.nm+xpW x.e+1
def aFd (x:As):Prop:=fK x.nm∧fh x.e
structure Sm where
 kd:Int
 tb:List UInt8
 nm:List UInt8
 cs:List Cd
 ns:List (List UInt8)
 un:Bool
 kys:List Kd
 rfs:List Rd
 chs:List Xp
 rws:List (List Xp)
 sts:List As
 wh:List Xp
 q:List Qy
def smC (x:Sm):List C:=abi x.kd++(bA x.tb++(bA x.nm++((lsC cdC) x.cs++((lsC bA) x.ns++(aan x.un++((lsC kdC) x.kys++((lsC rdC) x.rfs++((lsC xpC) x.chs++((lsC (lsC xpC)) x.rws++((lsC asC) x.sts++((lsC xpC) x.wh++((lsC qyC) x.q))))))))))))
def smW (x:Sm):Nat:=eN x.kd+cV x.tb+cV x.nm+(lsW cdW) x.cs+(lsW cV) x.ns+eN x.un+(lsW kdW) x.kys+(lsW rdW) x.rfs+(lsW xpW) x.chs+(lsW (lsW xpW)) x.rws+(lsW asW) x.sts+(lsW xpW) x.wh+(lsW qyW) x.q+1
def aby (x:Sm):Prop:=I64 x.kd∧fK x.tb∧fK x.nm∧(lsP aMF) x.cs∧(lsP fK) x.ns∧fK x.un∧(lsP aMw) x.kys∧(lsP aMo) x.rfs∧(lsP fh) x.chs∧(lsP (lsP fh)) x.rws∧(lsP aFd) x.sts∧(lsP fh) x.wh∧(lsP io) x.q
structure Ky where
 pr:Bool
 cs:List Int
 ix:Int
structure Rf where
 cs:List Int
 tb:List UInt8
 to:List Int
structure Tb where
 nm:List UInt8
 id:Int
 cs:List Cd
 kys:List Ky
 rfs:List Rf
 chs:List Xp
structure Ix where
 nm:List UInt8
 id:Int
 tb:List UInt8
 cs:List Int
 un:Bool
structure Ct where
 tbs:List Tb
 ixs:List Ix
 nx:Int
def ajP (x:Od):odC x=[aH (aD x.nm),ci x.pl,cb x.dn]:=by
 unfold odC;rfl
def ayj (x:Od):(odC x).length=3:=by rw[ajP];rfl
def adz (x:Xp):xpC x=[ci x.op,ci x.v.k,ci x.v.n,aH x.v.s,aH (aD x.tb),aH (aD x.nm),cb x.di,slC xpC x.ks,slC qyC x.sb]:=by
 rw[aoE];rfl
def aqe (x:Xp):(xpC x).length=9:=by rw[adz];rfl
def ajL (x:Qy):qyC x=[ci x.op,cb x.al,slC qyC x.ks,cb x.di,slC imC x.its,slC fmC x.fr,slC xpC x.wh,slC xpC x.gr,slC xpC x.hv,slC odC x.od,ci x.li,ci x.sk]:=by
 rw[aFY];rfl
def ayd (x:Qy):(qyC x).length=12:=by rw[ajL];rfl
def amd (x:Im):imC x=[cb x.st,aH (aD x.tb),ci x.e.op,ci x.e.v.k,ci x.e.v.n,aH x.e.v.s,aH (aD x.e.tb),aH (aD x.e.nm),cb x.e.di,slC xpC x.e.ks,slC qyC x.e.sb,aH (aD x.az)]:=by
 rw[aIw,aoE];rfl
def aAG (x:Im):(imC x).length=12:=by rw[amd];rfl
def amf (x:Fm):fmC x=[ci x.kd,aH (aD x.nm),aH (aD x.az),slC qyC x.sb,slC fmC x.ks,slC xpC x.on]:=by
 rw[aIH];rfl
def aAL (x:Fm):(fmC x).length=6:=by rw[amf];rfl
def aj5 (x:Cd):cdC x=[aH (aD x.nm),ci x.ty,cb x.nn]:=by
 unfold cdC;rfl
def aAS (x:Cd):(cdC x).length=3:=by rw[aj5];rfl
def al9 (x:Kd):kdC x=[cb x.pr,slC bA x.ns]:=by
 unfold kdC;rfl
def aAF (x:Kd):(kdC x).length=2:=by rw[al9];rfl
def alY (x:Rd):rdC x=[slC bA x.ns,aH (aD x.tb),slC bA x.to]:=by
 unfold rdC;rfl
def ayc (x:Rd):(rdC x).length=3:=by rw[alY];rfl
def amx (x:As):asC x=[aH (aD x.nm),ci x.e.op,ci x.e.v.k,ci x.e.v.n,aH x.e.v.s,aH (aD x.e.tb),aH (aD x.e.nm),cb x.e.di,slC xpC x.e.ks,slC qyC x.e.sb]:=by
 unfold asC;rw[aoE];rfl
def aBF (x:As):(asC x).length=10:=by rw[amx];rfl
def iJ (x:Sm):smC x=[ci x.kd,aH (aD x.tb),aH (aD x.nm),slC cdC x.cs,slC bA x.ns,cb x.un,slC kdC x.kys,slC rdC x.rfs,slC xpC x.chs,slC (lsC xpC) x.rws,slC asC x.sts,slC xpC x.wh,slC qyC x.q]:=by
 unfold smC;rfl
def aQJ (x:Sm):(smC x).length=13:=by rw[iJ];rfl
def bQ {α:Type} {w:α→Nat} {l:List α} {x:α} (h:x∈l):w x<lsW w l:=by
 have:∀ l:List α,x∈l→w x≤(l.map w).sum:=fun l=>by
  induction l with
  | nil=>intro h;cases h
  | cons y r ih =>
   intro h
   rw[aV,bU]
   rcases cY.1 h with rfl|h
   .omega
   .have:=ih h
    omega
 have:=this l h
 unfold lsW
 omega
def aap:Int:=1000000000000000
def fN (c:UInt8):Bool:=(decide (97≤c.toNat)&&decide (c.toNat≤122))||decide (c=95)
def jh (c:UInt8):Bool:=decide (48≤c.toNat)&&decide (c.toNat≤57)
def bk:List UInt8→Bool
 | []=>false
 | c::r=>fN c&&r.all (fun c=>fN c||jh c)&&decide (r.length+1≤20)
def gg (s:List UInt8):Bool:=decide (s=[])||bk s
def afB:List UInt8:=[99,111,117,110,116]
def aa3 (s:List UInt8):Bool:=decide (s=afB)||decide (s=[115,117,109])||decide (s=[109,105,110])||decide (s=[109,97,120])
def jz:V:=⟨0,0,ByteArray.empty⟩
def jc:Xp:=.mk 0 jz [] [] false [] []
def ads (e:Xp):Bool:=decide (e.op=0)&&decide (e.v=jz)&&decide (e.tb=[])&&decide (e.nm=[])&&!e.di&&decide (e.ks.length=0)&&decide (e.sb.length=0)
def aly (e:Xp):ads e=true↔e=jc:=by
 simp only[ads,ab,ar,List.length_eq_zero_iff,cm]
 cases e
 simp only[jc,Xp.op,Xp.v,Xp.tb,Xp.nm,Xp.di,Xp.ks,Xp.sb,aaf,Xp.mk.injEq]
def fw (op:Int):Option (Nat×Nat×Nat) :=
 if op=1∨op=2 then some (0,0,0)
 else if op=26∨op=27 then some (0,0,1)
 else if op=3∨op=4∨op=19 then some (1,1,0)
 else if op=28 then some (1,1,1)
 else if op=22 then some (3,3,0)
 else if op=21 then some (2,65,0)
 else if op=23 then some (2,129,0)
 else if op=24 then some (0,64,0)
 else if op=25 then some (0,1,0)
 else if 5≤op∧op≤20 then some (2,2,0)
 else none
def fJ (op:Int) (v:V) (tb nm:List UInt8) (di:Bool) (n:Nat):Bool :=
 if op=1 then hU v&&(decide (v.k≠2)||decide (0≤v.n))&&decide (tb=[])&&decide (nm=[])&&!di
 else if op=2 then decide (v=jz)&&bk nm&&gg tb&&!di
 else if op=24 then decide (v=jz)&&decide (tb=[])&&bk nm&&!aa3 nm&&!di
 else if op=25 then decide (v=jz)&&decide (tb=[])&&aa3 nm&&(decide (n=1)||(decide (nm=afB)&&!di))
 else decide (v=jz)&&decide (tb=[])&&decide (nm=[])&&!di
def dD (n lo hi:Nat):Bool:=decide (lo≤n)&&decide (n≤hi)
def iy (o:Od):Bool:=if o.nm≠[] then bk o.nm&&decide (o.pl=0) else decide (1≤o.pl)&&decide (o.pl≤aap)
mutual
def gV:Fm→Nat
 | .mk kd _ _ _ ks _=>if kd=1∨kd=2 then 1 else ak4 ks
def ak4:List Fm→Nat
 | []=>0
 | x::r=>gV x+ak4 r
end
mutual
def gU:Fm→Nat
 | .mk kd _ _ _ ks _=>(if kd=1∨kd=2 then 1 else 0)+ak2 ks
def ak2:List Fm→Nat
 | []=>0
 | x::r=>gU x+ak2 r
end
mutual
def cW:Xp→Bool
 | .mk op v tb nm di ks sb=>match fw op with
  | none=>false
  | some (lo,hi,n)=>fJ op v tb nm di ks.length&&dD ks.length lo hi&&decide (sb.length=n)&&ai2 ks&&am1 sb
def ai2:List Xp→Bool
 | []=>true
 | x::r=>cW x&&ai2 r
def d7:Qy→Bool
 | .mk op al ks di its fr wh gr hv od li sk =>
  decide (-1≤li)&&decide (li≤aap)&&decide (0≤sk)&&decide (sk≤aap)&&dD od.length 0 64&&od.all iy &&
  (if op=1 then !al&&dD ks.length 0 0&&dD its.length 1 64&&atg its&&dD fr.length 0 1&&apb fr&&fr.all (fun f=>decide (gV f≤8))&&dD wh.length 0 1&&ai2 wh&&dD gr.length 0 64&&ai2 gr&&dD hv.length 0 1&&ai2 hv
   else if op=2∨op=3∨op=4 then dD ks.length 2 2&&am1 ks&&!di&&decide (its.length+fr.length+wh.length+gr.length+hv.length=0)
   else false)
def am1:List Qy→Bool
 | []=>true
 | x::r=>d7 x&&am1 r
def aaR:Im→Bool
 | .mk st tb e az=>if st then gg tb&&ads e&&decide (az=[]) else decide (tb=[])&&gg az&&cW e
def atg:List Im→Bool
 | []=>true
 | x::r=>aaR x&&atg r
def gL:Fm→Bool
 | .mk kd nm az sb ks on =>
  if kd=1 then bk nm&&gg az&&decide (sb.length+ks.length+on.length=0)
  else if kd=2 then decide (nm=[])&&bk az&&dD sb.length 1 1&&am1 sb&&decide (ks.length+on.length=0)
  else if kd=3∨kd=4∨kd=5 then decide (nm=[])&&decide (az=[])&&decide (sb.length=0)&&dD ks.length 2 2&&apb ks&&decide (on.length=if kd=3 then 0 else 1)&&ai2 on
  else false
def apb:List Fm→Bool
 | []=>true
 | x::r=>gL x&&apb r
end
theorem aht:∀ l:List Xp,ai2 l=l.all cW
 | []=>rfl
 | x::r=>by rw[ai2,aht r];rfl
theorem ahu:∀ l:List Qy,am1 l=l.all d7
 | []=>rfl
 | x::r=>by rw[am1,ahu r];rfl
theorem arD:∀ l:List Im,atg l=l.all aaR
 | []=>rfl
 | x::r=>by rw[atg,arD r];rfl
theorem al2:∀ l:List Fm,apb l=l.all gL
 | []=>rfl
 | x::r=>by rw[apb,al2 r];rfl
def dV (l:List Xp) (lo hi:Nat):Bool:=dD l.length lo hi&&l.all cW
def abu (c:Cd):Bool:=bk c.nm&&decide (1≤c.ty)&&decide (c.ty≤3)
def df (l:List (List UInt8)) (lo hi:Nat):Bool:=dD l.length lo hi&&l.all bk
def afX (k:Kd):Bool:=df k.ns 1 16
def acm (r:Rd):Bool:=df r.ns 1 16&&bk r.tb&&df r.to 1 16
def aca (a:As):Bool:=bk a.nm&&cW a.e
def d6 (s:Sm):Bool :=
 if s.kd=1 then bk s.tb&&(dD s.cs.length 1 16&&s.cs.all abu)&&(dD s.kys.length 0 64&&s.kys.all afX)&&(dD s.rfs.length 0 64&&s.rfs.all acm)&&dV s.chs 0 64
  && (decide (s.nm=[])&&decide (s.ns=[])&&!s.un&&decide (s.rws.length=0)&&decide (s.sts.length=0)&&decide (s.wh.length=0)&&decide (s.q.length=0))
 else if s.kd=2 then bk s.tb&&bk s.nm&&df s.ns 1 16
  && (decide (s.cs.length=0)&&decide (s.kys.length=0)&&decide (s.rfs.length=0)&&decide (s.chs.length=0)&&decide (s.rws.length=0)&&decide (s.sts.length=0)&&decide (s.wh.length=0)&&decide (s.q.length=0))
 else if s.kd=3 then ((bk s.tb&&decide (s.nm=[]))||(decide (s.tb=[])&&bk s.nm))
  && (decide (s.cs.length=0)&&decide (s.ns.length=0)&&!s.un&&decide (s.kys.length=0)&&decide (s.rfs.length=0)&&decide (s.chs.length=0)&&decide (s.rws.length=0)&&decide (s.sts.length=0)&&decide (s.wh.length=0)&&decide (s.q.length=0))
 else if s.kd=4 then bk s.tb&&df s.ns 0 16&&((decide (s.rws.length=0)&&dD s.q.length 1 1&&s.q.all d7)||(decide (s.q.length=0)&&dD s.rws.length 1 64&&s.rws.all (fun l=>dV l 1 16)))
  && (decide (s.nm=[])&&decide (s.cs.length=0)&&!s.un&&decide (s.kys.length=0)&&decide (s.rfs.length=0)&&decide (s.chs.length=0)&&decide (s.sts.length=0)&&decide (s.wh.length=0))
 else if s.kd=5 then bk s.tb&&(dD s.sts.length 1 16&&s.sts.all aca)&&dV s.wh 0 1
  && (decide (s.nm=[])&&decide (s.cs.length=0)&&decide (s.ns.length=0)&&!s.un&&decide (s.kys.length=0)&&decide (s.rfs.length=0)&&decide (s.chs.length=0)&&decide (s.rws.length=0)&&decide (s.q.length=0))
 else if s.kd=6 then bk s.tb&&dV s.wh 0 1
  && (decide (s.nm=[])&&decide (s.cs.length=0)&&decide (s.ns.length=0)&&!s.un&&decide (s.kys.length=0)&&decide (s.rfs.length=0)&&decide (s.chs.length=0)&&decide (s.rws.length=0)&&decide (s.sts.length=0)&&decide (s.q.length=0))
 else if s.kd=7∨s.kd=11 then (dD s.q.length 1 1&&s.q.all d7)
  && (decide (s.tb=[])&&decide (s.nm=[])&&decide (s.cs.length=0)&&decide (s.ns.length=0)&&!s.un&&decide (s.kys.length=0)&&decide (s.rfs.length=0)&&decide (s.chs.length=0)&&decide (s.rws.length=0)&&decide (s.sts.length=0)&&decide (s.wh.length=0))
 else if s.kd=8∨s.kd=9∨s.kd=10∨s.kd=12∨s.kd=13∨s.kd=14 then
  decide (s.tb=[])&&decide (s.nm=[])&&decide (s.cs.length=0)&&decide (s.ns.length=0)&&!s.un&&decide (s.kys.length=0)&&decide (s.rfs.length=0)&&decide (s.chs.length=0)&&decide (s.rws.length=0)&&decide (s.sts.length=0)&&decide (s.wh.length=0)&&decide (s.q.length=0)
 else false
def bx (a b:Nat×Nat):Nat×Nat:=(a.1+b.1,max a.2 b.2)
def upN (a:Nat×Nat):Nat×Nat:=(a.1+1,a.2+1)
def bl {α:Type} (f:α→Nat×Nat):List α→Nat×Nat
 | []=>(0,0)
 | x::r=>bx (f x) (bl f r)
mutual
def cG:Xp→Nat×Nat
 | .mk _ _ _ _ _ ks sb=>upN (bx (aiX ks) (amW sb))
def aiX:List Xp→Nat×Nat
 | []=>(0,0)
 | x::r=>bx (cG x) (aiX r)
def fR:Qy→Nat×Nat
 | .mk _ _ ks _ its fr wh gr hv _ _ _=>upN (bx (bx (bx (bx (bx (amW ks) (ate its)) (aoT fr)) (aiX wh)) (aiX gr)) (aiX hv))
def amW:List Qy→Nat×Nat
 | []=>(0,0)
 | x::r=>bx (fR x) (amW r)
def aaP:Im→Nat×Nat
 | .mk st _ e _=>if st then (0,0) else cG e
def ate:List Im→Nat×Nat
 | []=>(0,0)
 | x::r=>bx (aaP x) (ate r)
def je:Fm→Nat×Nat
 | .mk _ _ _ sb ks on=>upN (bx (bx (amW sb) (aoT ks)) (aiX on))
def aoT:List Fm→Nat×Nat
 | []=>(0,0)
 | x::r=>bx (je x) (aoT r)
end
theorem af4:∀ l:List Xp,aiX l=bl cG l
 | []=>rfl
 | x::r=>by rw[aiX,af4 r];rfl
theorem aiY:∀ l:List Qy,amW l=bl fR l
 | []=>rfl
 | x::r=>by rw[amW,aiY r];rfl
theorem arq:∀ l:List Im,ate l=bl aaP l
 | []=>rfl
 | x::r=>by rw[ate,arq r];rfl
theorem alM:∀ l:List Fm,aoT l=bl je l
 | []=>rfl
 | x::r=>by rw[aoT,alM r];rfl
def aaO (a b c:Nat×Nat):bx (bx a b) c=bx a (bx b c):=by simp[bx,eZ,Nat.max_assoc]
def iP (a:Nat×Nat):bx a (0,0)=a:=by simp[bx]
def ac2 (a:Nat×Nat):bx (0,0) a=a:=by simp[bx]
def ahQ (s:Sm):Nat×Nat:=bx (bx (bx (bx (bl cG s.chs) (bl (fun l=>bl cG l) s.rws)) (bl (fun a:As=>cG a.e) s.sts)) (bl cG s.wh)) (bl fR s.q)
def adb (n:Nat×Nat):Bool:=decide (n.1≤400)&&decide (n.2≤40)
def ab2 (e:Xp):Bool:=adb (cG e)&&cW e
def ab3 (q:Qy):Bool:=adb (fR q)&&d7 q
def abH (s:Sm):Bool:=adb (ahQ s)&&d6 s
abbrev To:=List UInt8
def am9:List UInt8→Bool
 | []=>false
 | c::r=>fN c&&r.all (fun c=>fN c||jh c)
def jd:List UInt8:=[32,97,108,108,32,97,110,97,108,121,122,101,32,97,110,100,32,97,115,32,97,115,99,32,98,101,103,105,110,32,98,101,116,119,101,101,110,32,98,111,111,108,32,98,121,32,99,97,115,101,32,99,104,101,99,107,32,99,104,101,99,107,112,111,105,110,116,32,99,111,109,109,105,116,32,99,114,101,97,116,101,32,99,114,111,115,115,32,100,101,108,101,116,101,32,100,101,115,99,32,100,105,115,116,105,110,99,116,32,100,114,111,112,32,101,108,115,101,32,101,110,100,32,101,120,99,101,112,116,32,101,120,105,115,116,115,32,101,120,112,108,97,105,110,32,102,97,108,115,101,32,102,111,114,101,105,103,110,32,102,114,111,109,32,103,114,111,117,112,32,104,97,118,105,110,103,32,105,110,32,105,110,100,101,120,32,105,110,110,101,114,32,105,110,115,101,114,116,32,105,110,116,32,105,110,116,101,114,115,101,99,116,32,105,110,116,111,32,105,115,32,106,111,105,110,32,107,101,121,32,108,101,102,116,32,108,105,107,101,32,108,105,109,105,116,32,110,111,116,32,110,117,108,108,32,111,102,102,115,101,116,32,111,110,32,111,114,32,111,114,100,101,114,32,112,114,105,109,97,114,121,32,114,101,102,101,114,101,110,99,101,115,32,114,111,108,108,98,97,99,107,32,115,101,108,101,99,116,32,115,101,116,32,116,97,98,108,101,32,116,101,120,116,32,116,104,101,110,32,116,114,117,101,32,117,110,105,111,110,32,117,110,105,113,117,101,32,117,112,100,97,116,101,32,118,97,99,117,117,109,32,118,97,108,117,101,115,32,119,104,101,110,32,119,104,101,114,101,32]
def agT (s:List UInt8):Bool:=Lib.contains jd (32::(s++[32]))
def bF (s:List UInt8):To:=if agT s then 34::(s++[34]) else s
def lpT:To:=[40]
def rpT:To:=[41]
def cmT:To:=[44]
def ab0:To:=[46]
def aaM:To:=[42]
def fG (op:Int):Int :=
 if op=18 then 1 else if op=17 then 2 else if op=4 then 3
 else if op=11∨op=12∨op=13∨op=14∨op=15∨op=16∨op=19∨op=20∨op=21∨op=22∨op=28 then 4
 else if op=10 then 5 else if op=5∨op=6 then 6 else if op=7∨op=8∨op=9 then 7 else if op=3 then 8 else 9
def bI (b:Bool) (l:List To):List To:=if b then lpT::(l++[rpT]) else l
def atT (n:Int) (p:Int×List To):List To:=bI (decide (fG p.1<n)) p.2
def aF (b:Bool) (l:List To):List To:=if b then l else []
def bc:Bool→List (List To)→List To
 | _,[]=>[]
 | true,a::r=>a++bc false r
 | false,a::r=>cmT::(a++bc false r)
def abK (n:Int) (ks:List (Int×List To)) (i:Nat):List To:=match ks[i]? with
 | some p=>atT n p
 | none=>[]
def ajb (ks:List (Int×List To)):List To:=bI true (bc true (ks.map (atT 1)))
def ajm (sb:List (Qy×List To)):List To:=match sb with
 | p::_=>bI true p.2
 | []=>[]
def aam:List (Int×List To)→List To
 | a::b::r=>[119,104,101,110]::(atT 1 a++([116,104,101,110]::(atT 1 b++aam r)))
 | [a]=>[101,108,115,101]::atT 1 a
 | []=>[]
def aeG (op:Int):To:=(apv aM9 op).getD []
def amm (tb nm:List UInt8):List To:=aF (decide (tb≠[])) [bF tb,ab0]++[bF nm]
def opT (op:Int) (v:V) (tb nm:List UInt8) (di:Bool) (ks:List (Int×List To)) (sb:List (Qy×List To)):List To :=
 if op=1 then [ahc v]
 else if op=2 then amm tb nm
 else if op=3 then [45]::abK 8 ks 0
 else if op=4 then [110,111,116]::abK 3 ks 0
 else if op=19 then abK 5 ks 0++[[105,115],[110,117,108,108]]
 else if op=20 then abK 5 ks 0++([108,105,107,101]::abK 5 ks 1)
 else if op=22 then abK 5 ks 0++([98,101,116,119,101,101,110]::(abK 5 ks 1++([97,110,100]::abK 5 ks 2)))
 else if op=21 then abK 5 ks 0++([105,110]::ajb (ks.drop 1))
 else if op=28 then abK 5 ks 0++([105,110]::ajm sb)
 else if op=26 then ajm sb
 else if op=27 then [101,120,105,115,116,115]::ajm sb
 else if op=23 then [99,97,115,101]::(aam ks++[[101,110,100]])
 else if op=24 then bF nm::ajb ks
 else if op=25 then bF nm::bI true (aF di [[100,105,115,116,105,110,99,116]]++(aF (decide (ks.length=0)) [aaM]++bc true (ks.map (atT 1))))
 else if fG op=4 then abK 5 ks 0++(aeG op::abK 5 ks 1)
 else abK (fG op) ks 0++(aeG op::abK (fG op+1) ks 1)
def asT (s:List UInt8):List To:=aF (decide (s≠[])) [[97,115],bF s]
def ael (st:Bool) (tb az:List UInt8) (e:Int×List To):List To :=
 if st then aF (decide (tb≠[])) [bF tb,ab0]++[aaM] else atT 1 e++asT az
def jA (w:To) (l:List (Int×List To)):List To:=(l.map fun p=>w::atT 1 p).flatten
def adV (kd:Int):List To:=if kd=3 then [[99,114,111,115,115],[106,111,105,110]] else if kd=4 then [[106,111,105,110]] else [[108,101,102,116],[106,111,105,110]]
def af1 (kd:Int) (nm az:List UInt8) (sb:List (Qy×List To)) (ks:List (Int×List To)) (on:List (Int×List To)):List To :=
 if kd=1 then bF nm::asT az
 else if kd=2 then ajm sb++asT az
 else match ks with
  | a::b::_=>a.2++(adV kd++(bI (decide (3≤b.1)) b.2++jA [111,110] on))
  | _=>[]
def cL (op:Int):Int:=if op=1 then 3 else if op=3 then 2 else 1
def aeF (q:Qy):Bool:=decide (q.od≠[])||decide (0≤q.li)||decide (0<q.sk)
def dZ (n:Int) (p:Qy×List To):List To:=bI (aeF p.1||decide (cL p.1.op<n)) p.2
def ahS (op:Int):To:=if op=2 then [117,110,105,111,110] else if op=3 then [105,110,116,101,114,115,101,99,116] else [101,120,99,101,112,116]
def odT (o:Od):List To:=(if o.nm≠[] then [bF o.nm] else [Lib.itoa o.pl])++aF o.dn [[100,101,115,99]]
def ajx (od:List Od) (li sk:Int):List To :=
 aF (decide (od≠[])) [[111,114,100,101,114],[98,121]]++(bc true (od.map odT)++(aF (decide (0≤li)) [[108,105,109,105,116],Lib.itoa li]++aF (decide (0<sk)) [[111,102,102,115,101,116],Lib.itoa sk]))
def akH (di:Bool) (its fr:List (List To)) (wh gr hv:List (Int×List To)):List To :=
 [115,101,108,101,99,116]::(aF di [[100,105,115,116,105,110,99,116]]++(bc true its++((fr.map fun l=>[102,114,111,109]::l).flatten++(jA [119,104,101,114,101] wh++(aF (decide (gr≠[])) [[103,114,111,117,112],[98,121]]++(bc true (gr.map (atT 1))++jA [104,97,118,105,110,103] hv))))))
def ahn (op:Int) (al:Bool) (ks:List (Qy×List To)):List To:=match ks with
 | a::b::_=>dZ (cL op) a++(ahS op::(aF al [[97,108,108]]++dZ (cL op+1) b))
 | _=>[]
mutual
def xpT:Xp→List To
 | .mk op v tb nm di ks sb=>opT op v tb nm di (alC ks) (aqE sb)
def alC:List Xp→List (Int×List To)
 | []=>[]
 | x::r=>(x.op,xpT x)::alC r
def qyT:Qy→List To
 | .mk op al ks di its fr wh gr hv od li sk=>(if op=1 then akH di (aDA its) ((avr fr).map Prod.snd) (alC wh) (alC gr) (alC hv) else ahn op al (aqE ks))++ajx od li sk
def aqE:List Qy→List (Qy×List To)
 | []=>[]
 | x::r=>(x,qyT x)::aqE r
def imT:Im→List To
 | .mk st tb e az=>ael st tb az (e.op,xpT e)
def aDA:List Im→List (List To)
 | []=>[]
 | x::r=>imT x::aDA r
def fmT:Fm→List To
 | .mk kd nm az sb ks on=>af1 kd nm az (aqE sb) (avr ks) (alC on)
def avr:List Fm→List (Int×List To)
 | []=>[]
 | x::r=>(x.kd,fmT x)::avr r
end
def xpP (x:Xp):Int×List To:=(x.op,xpT x)
def qyP (x:Qy):Qy×List To:=(x,qyT x)
def fmP (x:Fm):Int×List To:=(x.kd,fmT x)
theorem adO:∀ l:List Xp,alC l=l.map xpP
 | []=>rfl
 | x::r=>by rw[alC,adO r];rfl
theorem afV:∀ l:List Qy,aqE l=l.map qyP
 | []=>rfl
 | x::r=>by rw[aqE,afV r];rfl
theorem aoi:∀ l:List Im,aDA l=l.map imT
 | []=>rfl
 | x::r=>by rw[aDA,aoi r];rfl
theorem aiK:∀ l:List Fm,avr l=l.map fmP
 | []=>rfl
 | x::r=>by rw[avr,aiK r];rfl
def dY (n:Int) (x:Xp):List To:=atT n (xpP x)
def bv (x:Xp):List To:=dY 1 x
def dT (l:List (List UInt8)):List To:=bI true (bc true (l.map fun s=>[bF s]))
def aeV (k:Int):To:=if k=1 then [98,111,111,108] else if k=2 then [105,110,116] else [116,101,120,116]
def cdT (c:Cd):List To:=bF c.nm::(aeV c.ty::aF c.nn [[110,111,116],[110,117,108,108]])
def kdT (k:Kd):List To:=(if k.pr then [[112,114,105,109,97,114,121],[107,101,121]] else [[117,110,105,113,117,101]])++dT k.ns
def rdT (r:Rd):List To:=[102,111,114,101,105,103,110]::([107,101,121]::(dT r.ns++([114,101,102,101,114,101,110,99,101,115]::(bF r.tb::dT r.to))))
def chT (e:Xp):List To:=[99,104,101,99,107]::bI true (bv e)
def gK (l:List Xp):List To:=bI true (bc true (l.map bv))
def dC (w:To) (l:List Xp):List To:=(l.map fun x=>w::bv x).flatten
def abx (a:As):List To:=bF a.nm::([61]::bv a.e)
def ait (kd:Int):To:=if kd=8 then [98,101,103,105,110] else if kd=9 then [99,111,109,109,105,116] else if kd=10 then [114,111,108,108,98,97,99,107] else if kd=12 then [97,110,97,108,121,122,101] else if kd=13 then [118,97,99,117,117,109] else [99,104,101,99,107,112,111,105,110,116]
def smT (s:Sm):List To :=
 if s.kd=1 then [99,114,101,97,116,101]::([116,97,98,108,101]::(bF s.tb::bI true (bc true (s.cs.map cdT++(s.kys.map kdT++(s.rfs.map rdT++s.chs.map chT))))))
 else if s.kd=2 then [99,114,101,97,116,101]::(aF s.un [[117,110,105,113,117,101]]++([105,110,100,101,120]::(bF s.nm::([111,110]::(bF s.tb::dT s.ns)))))
 else if s.kd=3 then (if s.tb≠[] then [[100,114,111,112],[116,97,98,108,101],bF s.tb] else [[100,114,111,112],[105,110,100,101,120],bF s.nm])
 else if s.kd=4 then [105,110,115,101,114,116]::([105,110,116,111]::(bF s.tb::(aF (decide (s.ns≠[])) (dT s.ns)++(aF (decide (s.rws≠[])) [[118,97,108,117,101,115]]++(bc true (s.rws.map gK)++(s.q.map qyT).flatten)))))
 else if s.kd=5 then [117,112,100,97,116,101]::(bF s.tb::([115,101,116]::(bc true (s.sts.map abx)++dC [119,104,101,114,101] s.wh)))
 else if s.kd=6 then [100,101,108,101,116,101]::([102,114,111,109]::(bF s.tb::dC [119,104,101,114,101] s.wh))
 else if s.kd=7 then (s.q.map qyT).flatten
 else if s.kd=11 then [101,120,112,108,97,105,110]::(s.q.map qyT).flatten
 else [ait s.kd]
def abd (p:Option To) (s:To):Bool:=decide (p=none)||decide (p=some lpT)||decide (p=some ab0)||decide (s=rpT)||decide (s=cmT)||decide (s=ab0)
def gC:Option To→List To→List UInt8
 | _,[]=>[]
 | p,s::r=>whenB (!abd p s)++(s++gC (some s) r)
where whenB (b:Bool):List UInt8:=if b then [32] else []
def abc (l:List To):List UInt8×Int:=if (gC none l).length≤2000 then (gC none l,0) else ([],4)
def jC (e:Xp):List UInt8×Int:=if ab2 e then abc (xpT e) else ([],1)
def aaX (q:Qy):List UInt8×Int:=if ab3 q then abc (qyT q) else ([],1)
def abe (s:Sm):List UInt8×Int:=if abH s then abc (smT s) else ([],1)
def plN:Nat→List UInt8→Bool
 | _,[]=>true
 | k,c::r=>(fN c||(decide (k≠0)&&jh c))&&plN (k+1) r
def aKS (r:List UInt8):∀ k,plN (k+1) r=r.all (fun c=>fN c||jh c):=by
 induction r with
 | nil=>intro k;rfl
 | cons x r ih=>intro k;simp[plN,ih]
def aRq (l:List UInt8):am9 l=(decide (l≠[])&&plN 0 l):=by
 cases l with
 | nil=>rfl
 | cons c r=>simp[am9,plN,aKS]
def aUP {l:List UInt8} {k:Nat} (h:k<l.length):plN k (l.drop k)=((fN l[k]||(decide (k≠0)&&jh l[k]))&&plN (k+1) (l.drop (k+1))):=by rw[bM h,plN]
def c95 (c:UInt8):(c=95)=(c.toNat=95):=propext ⟨fun h=>by rw[h];rfl,fun h=>UInt8.toNat_inj.1 h⟩
end Go.Tab
namespace Go.Proofs.YtemdljoideegeaaGreatDoor
open Go Go.RowKit Go.Pe Go.Tab
set_option maxRecDepth 1000000 in
def aCI (s:ByteArray) (h128:∀ (p:Nat) (h:p<s.size),(s[p]'h).toNat<128) (w:World) :
  Calls Tryz.prog 207 #[.string s] w fun e w'=>e=.returned (.bool (am9 s.data.toList))∧Below w.heap.size w w':=by
 rw[aRq]
 have hsz:s.data.toList.length=s.size:=by simp
 go_enter Tryz.func207,Tryz.ntmps207
 go_wp2
 go_loopw [] (fun wr=>∃ pos:Nat,wr=w.iter s pos∧pos≤s.size∧plN 0 s.data.toList=plN pos (s.data.toList.drop pos)) (fun wr=>s.size-wr.iterPos w.heap.size)
 case atStart=>exact⟨0,rfl,fj _,rfl⟩
 case round =>
  obtain⟨pos,rfl,hle,HS⟩:=hrel
  have hB:Below w.heap.size w (w.iter s pos):=(Below.refl _ _).alloc (aM _) _
  by_cases hp:pos<s.size
  .have ha:=h128 pos hp
   have hnx:∀ ty,(Instr.next (.pointer (some ⟨w.heap.size,0,none⟩)) true ty).run Tryz.prog (w.iter s pos)=_:=fun ty=>run_next_ascii w s pos ty hp ha
   have hpl:pos<s.data.toList.length:=by omega
   rw[aUP hpl] at HS
   have hg:s.data.toList[pos]=s[pos]'hp:=by simp[ByteArray.getElem_eq_getElem_data]
   rw[hg] at HS
   generalize hc:(s[pos]'hp)=c at *
   have hne:s.data.toList≠[]:=by intro e;rw[e] at hpl;simp at hpl
   have hB2:Below w.heap.size w (w.iter s (pos+1)):=(Below.refl _ _).alloc (aM _) _
   have key:(fN c||(decide (pos≠0)&&jh c))=true↔(97≤(c.toNat:Int)∧(c.toNat:Int)≤122)∨(c.toNat:Int)=95∨(0<(pos:Int)∧48≤(c.toNat:Int)∧(c.toNat:Int)≤57):=by
    simp only[fN,jh,cA,ab,ar,c95]
    omega
   have yes:(97≤(c.toNat:Int)∧(c.toNat:Int)≤122)∨(c.toNat:Int)=95∨(0<(pos:Int)∧48≤(c.toNat:Int)∧(c.toNat:Int)≤57)→plN 0 s.data.toList=plN (pos+1) (s.data.toList.drop (pos+1)):=fun h=>by rw[HS,key.2 h,aX]
   have no:¬((97≤(c.toNat:Int)∧(c.toNat:Int)≤122)∨(c.toNat:Int)=95∨(0<(pos:Int)∧48≤(c.toNat:Int)∧(c.toNat:Int)≤57))→plN 0 s.data.toList=false:=fun h=>by
    cases hb:(fN c||(decide (pos≠0)&&jh c)) with
    | false=>rw[HS,hb,aZ]
    | true=>exact absurd (key.1 hb) h
   clear HS key hc
   go_wp2
   all_goals try simp only[fQ,beq_eq_false_iff_ne,ct] at *
   all_goals first
    | (refine⟨⟨pos+1,rfl,by omega,yes (by omega)⟩,?_⟩;simp;omega)
    | (have hn:=no (by omega);go_ret;exact⟨by simp[hn],hB2⟩)
  .have hnx:∀ ty,(Instr.next (.pointer (some ⟨w.heap.size,0,none⟩)) true ty).run Tryz.prog (w.iter s pos)=_:=fun ty=>run_next_end w s pos ty hp
   rw[fv (by omega),plN] at HS
   rw[HS]
   go_wp2
   go_ret
   refine⟨?_,hB⟩
   rw[HS,dQ]
   have e:(!s.toList.isEmpty)=decide (s.data.toList≠[]):=by rw[ByteArray.toList_eq];cases s.data.toList <;> rfl
   rw[← e]
   rfl
end Go.Proofs.YtemdljoideegeaaGreatDoor
