/- A part. Conditions: none. -/
import Derived.Test.YtghkmcffifpkeaaGreatPa5
import Derived.Shelf.Strings.Builder1
import Derived.Lib.Replace
import Derived.Lib.Join
import Derived.Test.YtghkmcffifpkeaaGreatChecked
import Derived.Lib.AppendIntMem
set_option linter.all false
set_option maxRecDepth 100000
set_option maxHeartbeats 64000000
namespace Go.Proofs.YtghkmcffifpkeaaGreat
open RowKit Pe
def ap3:(Tryz.prog.info? 245).map (·.size)=some 2:=by kernel_rfl
def aAW:liesAt Tryz.prog Tryz.prog.depth 245 (2 / Tryz.prog.cellsOf 245) 0 245 1=true:=by kernel_rfl
def aF5(b:Nat)(w:World)(h0:w.cell? ⟨b,0,none⟩=some (.pointer (some ⟨b,0,none⟩))) :
  Calls Tryz.prog 282 #[.pointer (some ⟨b,0,none⟩)] w λe w'=>e=.returned (.tuple #[])/\w'=w:=by
 obtain⟨j,hj,_⟩:=ar.1 ap3
 go_enter Tryz.func282,Tryz.ntmps282
 go_wp2
 rw[Lib.run_neq_ptr_same w _ Tryz.underlying243 hj]
 go_wp2
 go_end0
 exact⟨rfl,rfl⟩
def aBg(b:Nat)(w:World)(h0:w.cell? ⟨b,0,none⟩=some (.pointer none))(hsh:w.shape? b=some (245,2))(hfz:w.frozen? ⟨b,0,none⟩=false) :
  Calls Tryz.prog 282 #[.pointer (some ⟨b,0,none⟩)] w λe w'=>e=.returned (.tuple #[])/\w'=w.setCell ⟨b,0,none⟩ (.pointer (some ⟨b,0,none⟩)):=by
 obtain⟨j,hj,hjs⟩:=ar.1 ap3
 go_enter Tryz.func282,Tryz.ntmps282
 go_wp2
 rw[Lib.run_to_unsafe w ⟨b,0,none⟩ Tryz.underlying243 Tryz.underlying294 hj (by rw[hjs];decide) hsh (Nat.zero_lt_succ 1)]
 simp only[Result.andThen]
 rw[Oper.upon_value]
 go_wp2
 rw[run_callFunc_extern Tryz.func302 aS aS aS (e:=Extern.AbiNoEscape.same) aS]
 rw[Lib.run_noEscape]
 simp only[Result.andThen]
 rw[Oper.upon_value]
 go_wp2
 rw[Lib.run_from_unsafe w ⟨b,0,none⟩ Tryz.underlying294 Tryz.underlying243 hj hsh aAW]
 simp only[Result.andThen]
 rw[Oper.upon_value]
 go_wp2
 go_end0
 exact⟨rfl,rfl⟩
structure BAt (b:Nat) (p v:Value) (bs:List Value) (w:World):Prop where
 blk:w.heap[b]?=some (.cells #[p,v] 245 (0,0))
 own:w.ownsRow 0 5 1 v bs.length bs
 ne:v.ownBlock≠some b
theorem BAt.lt{b:Nat}{p v:Value}{bs:List Value}{w:World}(h:BAt b p v bs w):b<w.heap.size:=(Array.getElem?_eq_some_iff.1 h.blk).1
structure BPost (b:Nat) (v:Value) (w w':World) (v':Value) (bs':List Value):Prop where
 at':BAt b (.pointer (some ⟨b,0,none⟩)) v' bs' w'
 size:w.heap.size<=w'.heap.size
 os:w'.os=w.os
 tape:w'.tape=w.tape
 output:w'.output=w.output
 row:(v'.ownBlock=v.ownBlock/\∀ k,k<w.heap.size->k≠b->some k≠v.ownBlock->w'.heap[k]?=w.heap[k]?)\/((∃ g,v'.ownBlock=some g/\w.heap.size<=g)/\∀ k,k<w.heap.size->k≠b->w'.heap[k]?=w.heap[k]?)
structure CPost (b:Nat) (v:Value) (w w':World) (bs:List Value):Prop where
 at':BAt b (.pointer (some ⟨b,0,none⟩)) v bs w'
 size:w'.heap.size=w.heap.size
 os:w'.os=w.os
 tape:w'.tape=w.tape
 output:w'.output=w.output
 rest:∀ k,k≠b->w'.heap[k]?=w.heap[k]?
def afq(w:World)(b o:Nat)(x:Value)(k:Nat)(h:k≠b):(w.setCell ⟨b,o,none⟩ x).heap[k]?=w.heap[k]?:=by
 simp only[World.setCell,fD]
 rw[aj (bn h)]
def aoh(w:World)(b o:Nat)(x:Value):(w.setCell ⟨b,o,none⟩ x).heap.size=w.heap.size:=by simp[World.setCell]
def a8K(b:Nat)(p v:Value)(bs:List Value)(w:World)(hp:p=.pointer none\/p=.pointer (some ⟨b,0,none⟩))(h:BAt b p v bs w) :
  Calls Tryz.prog 282 #[.pointer (some ⟨b,0,none⟩)] w λe w'=>e=.returned (.tuple #[])/\CPost b v w w' bs:=by
 rcases hp with rfl|rfl
 .refine (aBg b w (by rw[Lib.cell_of_heap h.blk];rfl) (by simp[World.shape?,h.blk]) (Lib.frozen_of_heap h.blk 0)).mono ?_
  rintro e w' ⟨rfl,rfl⟩
  refine⟨rfl,⟨?_,?_,h.ne⟩,aoh w b 0 _,rfl,rfl,rfl,λk hk=>afq w b 0 _ k hk⟩
  .simp[World.setCell,fD,h.blk]
  .exact h.own.kept (row:=some b) ⟨rfl,rfl,rfl,by simp[World.setCell],λk _ hk=>afq w b 0 _ k (λe=>hk (by simp[e]))⟩ (Or.inr h.ne)
 .refine (aF5 b w (by rw[Lib.cell_of_heap h.blk];rfl)).mono ?_
  rintro e w' ⟨rfl,rfl⟩
  exact⟨rfl,h,rfl,rfl,rfl,rfl,λ_ _=>rfl⟩
def aJg:(Tryz.prog.info? 5).map (λi=>(i.zero,i.size,i.bytes))=some (some (.int .u8 0),1,1):=by kernel_rfl
def aNu:∃ i,Tryz.prog.info? 5=some i/\i.zero=some (.int .u8 0)/\i.size=1/\i.bytes=1:=by
 obtain⟨i,hi,he⟩:=ar.1 aJg
 simp only[aX] at he
 exact⟨i,hi,he⟩
def avA{P:Program}{w:World}{ops:Array Oper}{rest:List Oper}{o:Oper}{a:Act}{Q:Exit->Act->World->Prop}(hgd:o.guard=none)(sl x:Operand)(t:TypeId)
  (ho:o.op=.call {callee:=.builtin .append,args:=#[sl,x],argTypes:=#[t,t]})
  (e:TypeId) (d:TD) (ht:P.underlying t=some (.slice e)) (hd:TT.of P e=some d) (hz:d.size=1) (hby:d.bytes<=32768)
  (v:Value) (n:Nat) (xs:List Value) (hs:a.eval sl=v) (hown:w.ownsRow 0 e 1 v n xs) (b off m c:Nat) (news:List Value) (hx:a.eval x=.slice (some ⟨b,off,none⟩) m c) (hl:news.length=m)
  (hnews:∀ i u,news[i]?=some u->w.cell? ⟨b,off+i,none⟩=some u) (h1:∀ u∈news,u.oneCell'=true) (hb:n+m<=LIM)
  (h:∀ v' w',w'.ownsRow 0 e 1 v' (n+m) (xs++news)->((w.grownBy w' v.ownBlock/\v'.ownBlock=v.ownBlock)\/(w.grownBy w' none/\v'.ownBlock=some w.heap.size))->wpList P ops Q rest (a.put o.dst v') w'):wpList P ops Q (o::rest) a w:=by
 refine wpList_plain hgd λK hK=>?_
 obtain⟨v',w',hr,h2,h3⟩:=ajP (P:=P) (w:=w) (t:=t) (ty:=o.type) (c:=c) ht hd aC (by rw[hz];exact hown) (A:=some ⟨b,off,none⟩) (m:=m) (news:=news) (by rw[hz];omega) (λ_=>⟨b,off,rfl,hnews⟩) h1 hb hby (aO _)
 rw[hz] at h2
 unfold Oper.wp execOp
 simp only[ho,resolve,invoke,builtin,Sem.run_bind,Sem.run_pure,Result.andThen_ok,List.map_toArray,aU,bq,hs,hx,hr]
 exact hK _ _ (h v' w' h2 h3)
theorem CPost.put{b:Nat}{v v':Value}{bs bs':List Value}{w w1 w2:World}(h1:CPost b v w w1 bs)(hown:w2.ownsRow 0 5 1 v' bs'.length bs')(hg:(w1.grownBy w2 v.ownBlock/\v'.ownBlock=v.ownBlock)\/(w1.grownBy w2 none/\∃ g,v'.ownBlock=some g/\w1.heap.size<=g)) :
  BPost b v w (w2.setCell ⟨b,1,none⟩ v') v' bs'/\w2.heap[b]?=some (.cells #[.pointer (some ⟨b,0,none⟩),v] 245 (0,0)):=by
 have hb2:w2.heap[b]?=some (.cells #[.pointer (some ⟨b,0,none⟩),v] 245 (0,0)):=by
  rcases hg with ⟨hg,_⟩|⟨hg,_⟩
  .rw[hg.block b h1.at'.lt (λe=>h1.at'.ne e.symm)]
   exact h1.at'.blk
  .rw[hg.block b h1.at'.lt aT]
   exact h1.at'.blk
 have hne:v'.ownBlock≠some b:=by
  rcases hg with ⟨_,h⟩|⟨_,g,h,hl⟩
  .rw[h];exact h1.at'.ne
  .rw[h]
   intro e
   have:=h1.at'.lt
   simp only[ab] at e
   omega
 have hos:w2.os=w1.os/\w2.tape=w1.tape/\w2.output=w1.output/\w1.heap.size<=w2.heap.size:=by
  rcases hg with ⟨hg,_⟩|⟨hg,_⟩ <;> exact⟨hg.os,hg.tape,hg.output,hg.size⟩
 refine⟨⟨⟨?_,?_,hne⟩,?_,hos.1.trans h1.os,hos.2.1.trans h1.tape,hos.2.2.1.trans h1.output,?_⟩,hb2⟩
 .simp[World.setCell,fD,hb2]
 .exact hown.kept (row:=some b) ⟨rfl,rfl,rfl,by simp[World.setCell],λk _ hk=>afq w2 b 1 _ k (λe=>hk (by simp[e]))⟩ (Or.inr hne)
 .rw[aoh];have:=h1.size;omega
 .rcases hg with ⟨hg,h⟩|⟨hg,g,h,hl⟩
  .refine .inl ⟨h,λk hk hkb hkv=>?_⟩
   rw[afq w2 b 1 _ k hkb,hg.block k (by rw[h1.size];exact hk) hkv]
   exact h1.rest k hkb
  .refine .inr ⟨⟨g,h,by rw[← h1.size];exact hl⟩,λk hk hkb=>?_⟩
   rw[afq w2 b 1 _ k hkb,hg.block k (by rw[h1.size];exact hk) aT]
   exact h1.rest k hkb
def aHa(b:Nat)(p v:Value)(bs:List Value)(c:Int)(w:World)(hp:p=.pointer none\/p=.pointer (some ⟨b,0,none⟩))(h:BAt b p v bs w)(hlen:bs.length+1<=4294967296) :
  Calls Tryz.prog 241 #[.pointer (some ⟨b,0,none⟩),.int .u8 c] w λe w'=>e=.returned .nilIface/\∃ v',BPost b v w w' v' (bs++[.int .u8 c]):=by
 obtain⟨i0,hi,hz0,hz1,hz2⟩:=aNu
 go_enter Tryz.func241,Tryz.ntmps241
 go_wp2_with (go_at_call 282;refine (a8K b p v bs _ hp h).mono ?_)
 rintro e w1 ⟨rfl,h1⟩
 have c0:w1.cell? ⟨b,0,none⟩=some (.pointer (some ⟨b,0,none⟩)):=by rw[Lib.cell_of_heap h1.at'.blk];rfl
 have c1:w1.cell? ⟨b,1,none⟩=some v:=by rw[Lib.cell_of_heap h1.at'.blk];rfl
 have hblt:=h1.at'.lt
 go_wp2_with (at_builtin;refine avA rfl _ _ 64 rfl 5 _ Tryz.underlying64 T5 rfl aI _ _ _ rfl (h1.at'.own.alloc _) w1.heap.size 0 1 1 [.int .u8 c] rfl rfl ?c1 ?c2 ?c3 ?_)
 case c1 =>
  intro j u hj
  match j,hj with
  | 0,hj=>simp at hj;subst hj;simp
 case c2=>intro u hu;simp at hu;subst hu;rfl
 case c3=>unfold LIM;omega
 intro v' w2 hown' hgrow
 have hgrow1:(w1.grownBy w2 v.ownBlock/\v'.ownBlock=v.ownBlock)\/(w1.grownBy w2 none/\∃ g,v'.ownBlock=some g/\w1.heap.size<=g):=by
  rcases hgrow with ⟨hg,h⟩|⟨hg,h⟩
  .exact .inl ⟨⟨hg.os,hg.tape,hg.output,by have:=hg.size;simp at this;omega,λk hk hne=>by rw[hg.block k (by simp;omega) hne,Lib.alloc_old w1 _ k hk]⟩,h⟩
  .exact .inr ⟨⟨hg.os,hg.tape,hg.output,by have:=hg.size;simp at this;omega,λk hk hne=>by rw[hg.block k (by simp;omega) hne,Lib.alloc_old w1 _ k hk]⟩,_,h,by simp⟩
 obtain⟨hpost,hb2⟩:=h1.put (v':=v') (bs':=bs++[.int .u8 c]) (w2:=w2) (by simpa using hown') hgrow1
 have d0:w2.cell? ⟨b,0,none⟩=some (.pointer (some ⟨b,0,none⟩)):=by rw[Lib.cell_of_heap hb2];rfl
 have d1:w2.cell? ⟨b,1,none⟩=some v:=by rw[Lib.cell_of_heap hb2];rfl
 have f1:w2.frozen? ⟨b,1,none⟩=false:=Lib.frozen_of_heap hb2 1
 obtain⟨ao,n',cap,rfl⟩ : ∃ ao n' cap,v'=.slice ao n' cap:=by
  rcases hown'.2 with ⟨hv,_⟩|⟨g,cap,cur,hv,_⟩
  .exact⟨_,_,_,hv⟩
  .exact⟨_,_,_,hv⟩
 go_wp2
 go_ret
 exact⟨rfl,_,hpost⟩
structure SPost (v:Value) (w w':World):Prop where
 grown:∀ k,k<w.heap.size->some k≠v.ownBlock->w'.heap[k]?=w.heap[k]?
 size:w.heap.size<=w'.heap.size
 os:w'.os=w.os
 tape:w'.tape=w.tape
 output:w'.output=w.output
 cell:∀ c o,c<w.heap.size->w'.cell? ⟨c,o,none⟩=w.cell? ⟨c,o,none⟩
theorem SPost.drew(v:Value)(w:World):SPost v w w.drew:=⟨λ_ _ _=>rfl,ae _,rfl,rfl,rfl,λ_ _ _=>rfl⟩
def aBh(w:World)(p:Addr)(n c o:Nat):(w.freeze p n).cell? ⟨c,o,none⟩=w.cell? ⟨c,o,none⟩:=by
 unfold World.freeze
 split
 .rfl
 .simp only[World.cell?,fD]
  by_cases e:p.block=c
  .rw[am e]
   cases w.heap[c]? with
   | none=>rfl
   | some ob=>cases ob <;> rfl
  .rw[aj e]
theorem SPost.alloc(v:Value)(w:World)(o:Obj):SPost v w (w.drew.alloc o):=⟨λk hk _=>Lib.alloc_old w.drew _ k hk,by simp,rfl,rfl,rfl,λc o hc=>World.cell?_of_block (a:=⟨c,o,none⟩) (Lib.alloc_old w.drew _ c hc)⟩
theorem SPost.freeze{g n c m:Nat}(w:World):SPost (.slice (some ⟨g,0,none⟩) n c) w (w.drew.freeze ⟨g,0,none⟩ m):=by
 unfold World.freeze
 split
 .exact SPost.drew _ w
 .refine⟨λk hk hne=>?_,by simp,rfl,rfl,rfl,λc o _=>?_⟩
  .have:¬ g=k:=λe=>hne (by simp[Value.ownBlock,e])
   simp only[fD]
   rw[aj this]
   rfl
  .have:=aBh w.drew ⟨g,0,none⟩ m c o
   unfold World.freeze at this
   rename_i hm _
   rw[aj hm] at this
   exact this
def aJZ:Tryz.prog.cellsOf 5=1:=by kernel_rfl
def aAn(b g cap:Nat)(p:Value)(cur:Array Value)(l:List UInt8)(w:World)(h0:l≠[])(h:BAt b p (.slice (some ⟨g,0,none⟩) l.length cap) (Lib.byteCells l) w)(hg:w.heap[g]?=some (.cells cur 5 (0,0)))(hnc:l.length<=cap)(hcm:cap<=maxLen)(hcs:cur.size=cap*1) :
  Calls Tryz.prog 242 #[.pointer (some ⟨b,0,none⟩)] w λe w'=>e=.returned (.string ⟨l.toArray⟩)/\SPost (.slice (some ⟨g,0,none⟩) l.length cap) w w':=by
 have hl0:l.length≠0:=by simpa using h0
 have hown:=h.own
 have c1:w.drew.cell? ⟨b,1,none⟩=some (.slice (some ⟨g,0,none⟩) l.length cap):=by
  have:w.drew.heap[b]?=some (.cells #[p,.slice (some ⟨g,0,none⟩) l.length cap] 245 (0,0)):=h.blk
  rw[Lib.cell_of_heap this];rfl
 have hSD:(Builtin.unsafeSliceData_ #[64] 277 #[.slice (some ⟨g,0,none⟩) l.length cap]).run Tryz.prog w.drew=.ok (.pointer (some ⟨g,0,none⟩)) w.drew :=
  Lib.run_unsafeSliceData_row _ _ _ _ _ _ aC
 have hUS:(Builtin.unsafeString_ #[277,3] 9 #[.pointer (some ⟨g,0,none⟩),.int .i64 l.length]).run Tryz.prog w.drew=.ok (.string ⟨l.toArray⟩) (w.drew.freeze ⟨g,0,none⟩ l.length):=by
  refine Lib.run_unsafeString_row w.drew 277 3 9 5 Tryz.underlying277 aJZ g cur.size (by have hg':w.drew.heap[g]?=some (.cells cur 5 (0,0)):=hg;simp[World.shape?,hg']) l h0 aC (by unfold maxLen at hcm;omega) ?_
  intro j x hx
  exact hown.cells (g:=g) rfl j (.int .u8 x.toNat) (by simp[Lib.byteCells,hx])
 clear hown h
 have hmixed:=mixed
 go_enter Tryz.func242,Tryz.ntmps242
 go_wp2
 go_region_o
 all_goals (go_wp2;go_ret;exact⟨rfl,SPost.freeze w⟩)
def aD5(b:Nat)(p:Value)(w:World)(hbk:w.heap[b]?=some (.cells #[p,.slice none 0 0] 245 (0,0))) :
  Calls Tryz.prog 242 #[.pointer (some ⟨b,0,none⟩)] w λe w'=>e=.returned (.string ⟨#[]⟩)/\SPost (.slice none 0 0) w w':=by
 have hUS:∀ (W:World) (q:Option Addr),(Builtin.unsafeString_ #[277,3] 9 #[.pointer q,.int .i64 0]).run Tryz.prog W=.ok (.string .empty) W:=λW q=>Lib.run_unsafeString_none W _ _ _ q
 have c1:w.drew.cell? ⟨b,1,none⟩=some (.slice none 0 0):=by
  have:w.drew.heap[b]?=some (.cells #[p,.slice none 0 0] 245 (0,0)):=hbk
  rw[Lib.cell_of_heap this];rfl
 have hSD:(Builtin.unsafeSliceData_ #[64] 277 #[.slice none 0 0]).run Tryz.prog w.drew=.ok (.pointer none) w.drew:=rfl
 have hmixed:=mixed
 go_enter Tryz.func242,Tryz.ntmps242
 go_wp2
 go_region_o
 all_goals (go_wp2;go_ret;exact⟨rfl,SPost.drew _ w⟩)
def aAo(b g cap:Nat)(p:Value)(w:World)(hc0:cap≠0)(hbk:w.heap[b]?=some (.cells #[p,.slice (some ⟨g,0,none⟩) 0 cap] 245 (0,0))) :
  Calls Tryz.prog 242 #[.pointer (some ⟨b,0,none⟩)] w λe w'=>e=.returned (.string ⟨#[]⟩)/\SPost (.slice (some ⟨g,0,none⟩) 0 cap) w w':=by
 have hUS:∀ (W:World) (q:Option Addr),(Builtin.unsafeString_ #[277,3] 9 #[.pointer q,.int .i64 0]).run Tryz.prog W=.ok (.string .empty) W:=λW q=>Lib.run_unsafeString_none W _ _ _ q
 have c1:w.drew.cell? ⟨b,1,none⟩=some (.slice (some ⟨g,0,none⟩) 0 cap):=by
  have:w.drew.heap[b]?=some (.cells #[p,.slice (some ⟨g,0,none⟩) 0 cap] 245 (0,0)):=hbk
  rw[Lib.cell_of_heap this];rfl
 have hSD:(Builtin.unsafeSliceData_ #[64] 277 #[.slice (some ⟨g,0,none⟩) 0 cap]).run Tryz.prog w.drew=.ok (.pointer (some ⟨g,0,none⟩)) w.drew :=
  Lib.run_unsafeSliceData_row _ _ _ _ _ _ hc0
 clear hc0
 have hmixed:=mixed
 go_enter Tryz.func242,Tryz.ntmps242
 go_wp2
 go_region_o
 all_goals (go_wp2;go_ret;exact⟨rfl,SPost.drew _ w⟩)
def avH(b g:Nat)(p:Value)(cur:Array Value)(w:World)(hbk:w.heap[b]?=some (.cells #[p,.slice (some ⟨g,0,none⟩) 0 0] 245 (0,0)))(hg:w.heap[g]?=some (.cells cur 5 (0,0))) :
  Calls Tryz.prog 242 #[.pointer (some ⟨b,0,none⟩)] w λe w'=>e=.returned (.string ⟨#[]⟩)/\SPost (.slice (some ⟨g,0,none⟩) 0 0) w w':=by
 have hUS:∀ (W:World) (q:Option Addr),(Builtin.unsafeString_ #[277,3] 9 #[.pointer q,.int .i64 0]).run Tryz.prog W=.ok (.string .empty) W:=λW q=>Lib.run_unsafeString_none W _ _ _ q
 have hlt:b<w.heap.size:=(Array.getElem?_eq_some_iff.1 hbk).1
 have c1:w.drew.cell? ⟨b,1,none⟩=some (.slice (some ⟨g,0,none⟩) 0 0):=by
  have:w.drew.heap[b]?=some (.cells #[p,.slice (some ⟨g,0,none⟩) 0 0] 245 (0,0)):=hbk
  rw[Lib.cell_of_heap this];rfl
 have hSD:(Builtin.unsafeSliceData_ #[64] 277 #[.slice (some ⟨g,0,none⟩) 0 0]).run Tryz.prog w.drew=.ok (.pointer (some ⟨w.drew.heap.size,0,none⟩)) (w.drew.alloc (.view ⟨g,0,none⟩ 5)) :=
  Lib.run_unsafeSliceData_zero w.drew _ _ 5 Tryz.underlying277 ⟨g,0,none⟩ 0 (5,cur.size) (by have hg':w.drew.heap[g]?=some (.cells cur 5 (0,0)):=hg;simp[World.shape?,hg'])
 have c2:(w.drew.alloc (.view ⟨g,0,none⟩ 5)).cell? ⟨b,1,none⟩=some (.slice (some ⟨g,0,none⟩) 0 0):=by
  have:(w.drew.alloc (.view ⟨g,0,none⟩ 5)).heap[b]?=_:=(Lib.alloc_old w.drew _ b hlt).trans hbk
  rw[Lib.cell_of_heap this];rfl
 have c3:(w.alloc (.view ⟨g,0,none⟩ 5)).drew.cell? ⟨b,1,none⟩=some (.slice (some ⟨g,0,none⟩) 0 0):=c2
 have c0:w.cell? ⟨b,1,none⟩=some (.slice (some ⟨g,0,none⟩) 0 0):=c1
 have hmixed:=mixed
 go_enter Tryz.func242,Tryz.ntmps242
 go_wp2
 go_region_o
 all_goals (go_wp2;go_ret;exact⟨rfl,SPost.alloc _ w _⟩)
def aLc(b:Nat)(p v:Value)(l:List UInt8)(w:World)(h:BAt b p v (Lib.byteCells l) w) :
  Calls Tryz.prog 242 #[.pointer (some ⟨b,0,none⟩)] w λe w'=>e=.returned (.string ⟨l.toArray⟩)/\SPost v w w':=by
 have hown:=h.own
 rw[Lib.byteCells_length] at hown
 rcases hown.2 with ⟨rfl,hz⟩|⟨g,cap,cur,rfl,_,hg,hnc,hcm,hcs,_⟩
 .obtain rfl:=bK hz
  exact aD5 b p w h.blk
 .by_cases hl:l=[]
  .subst hl
   by_cases hc:cap=0
   .subst hc
    exact avH b g p cur w h.blk hg
   .exact aAo b g cap p w hc h.blk
  .exact aAn b g cap p cur l w hl h hg hnc hcm hcs
end Go.Proofs.YtghkmcffifpkeaaGreat
namespace Go.Tab
structure IsOrd {α:Type} (f:α->α->Int):Prop where
 sgn:∀ a b,f a b=-1\/f a b=0\/f a b=1
 zero:∀ a b,f a b=0↔a=b
 anti:∀ a b,f a b=- f b a
 tr:∀ a b c,f a b<=0->f b c<=0->f a c<=0
def aNr(a b:Int):Int:=if a<b then -1 else if b<a then 1 else 0
def aZu{α:Type}(f:α->α->Int):List α->List α->Int
 | [],[]=>0
 | [],_::_=>-1
 | _::_,[]=>1
 | a::r,b::q=>if f a b=0 then aZu f r q else f a b
def a90(a b:UInt8):Int:=aNr a.toNat b.toNat
def aPF:List UInt8->List UInt8->Int:=aZu a90
structure V where
 k:Int
 n:Int
 s:ByteArray
 deriving DecidableEq
def V.t(v:V):List UInt8:=v.s.data.toList
def amX{a b:ByteArray}:a.data.toList=b.data.toList↔a=b:=by
 constructor
 .intro h
  cases a with
  | mk x=>cases b with
   | mk y=>simp at h;rw[h]
 .rintro rfl;rfl
def aPS(a b:V):Int:=if a.k=b.k then (if a.n=b.n then aPF a.t b.t else aNr a.n b.n) else aNr a.k b.k
def okB(b:UInt8):Bool:=decide (32<=b.toNat)&&decide (b.toNat<=126)
def amj(s:ByteArray):Bool:=s.data.toList.all okB&&decide (s.size<=100)
def inB(n:Int):Bool:=decide (-1000000000000000<=n)&&decide (n<=1000000000000000)
def adh(v:V):Bool :=
 if v.k=0 then decide (v.n=0)&&decide (v.s=ByteArray.empty)
 else if v.k=1 then (decide (v.n=0)||decide (v.n=1))&&decide (v.s=ByteArray.empty)
 else if v.k=2 then inB v.n&&decide (v.s=ByteArray.empty)
 else if v.k=3 then decide (v.n=0)&&amj v.s
 else false
def aiQ(r:Nat):Bool:=decide (r<32)||decide (126<r)
def aA9(n b0 b1 b2 b3:Nat)(h:128<=b0):126<(Lib.decodeN n b0 b1 b2 b3).1:=by
 unfold Lib.decodeN
 repeat' split
 all_goals omega
def aze(s:ByteArray)(i:Nat)(h:(s.get! i).toNat<128):Utf8.decode s i=((s.get! i).toNat,1):=by
 rw[Lib.decode_at,Lib.decodeN,am h]
def aNK(s:ByteArray)(i:Nat)(h:i<s.size):s.data.toList[i]?=some (s.get! i):=by
 obtain⟨⟨l⟩⟩:=s
 have h:i<l.length:=h
 show l[i]?=some ((⟨l⟩ : Array UInt8)[i]!)
 rw[aM h,getElem!_pos (⟨l⟩ : Array UInt8) i h]
 rfl
theorem au9(s:ByteArray):∀ (f pos:Nat),s.size<=pos+f->(Lib.idxFuncFrom aiQ true s f pos<0↔(s.data.toList.drop pos).all okB=true)
 | 0,pos,h=>by
  have:s.data.toList.drop pos=[]:=abW (by simp only[eE];exact h)
  rw[this]
  simp[Lib.idxFuncFrom]
 | f+1,pos,h=>by
  unfold Lib.idxFuncFrom
  by_cases hp:pos<s.size
  .rw[am hp]
   have hg:=aNK s pos hp
   obtain⟨hl,hg2⟩:=List.getElem?_eq_some_iff.1 hg
   rw[ce hl,hg2,agV]
   by_cases hb:(s.get! pos).toNat<128
   .rw[aze s pos hb]
    simp only
    by_cases ho:aiQ (s.get! pos).toNat=true
    .rw[am ho]
     have:okB (s.get! pos)=false:=by
      simp only[aiQ,bN,bf] at ho
      simp only[okB,adv,abJ]
      omega
     rw[this]
     simp
    .rw[aj ho]
     have:okB (s.get! pos)=true:=by
      simp only[aiQ,bN,bf] at ho
      simp only[okB,ap,bf]
      omega
     rw[this,dz]
     exact au9 s f (pos+1) aC
   .have ho:aiQ (Utf8.decode s pos).1=true:=by
     rw[Lib.decode_at]
     have:=aA9 (s.size-pos) (s.get! pos).toNat (s.get! (pos+1)).toNat (s.get! (pos+2)).toNat (s.get! (pos+3)).toNat aC
     simp only[aiQ,bN,bf]
     exact .inr this
    rw[am ho]
    have:okB (s.get! pos)=false:=by
     simp only[okB,adv,abJ]
     omega
    rw[this]
    simp
  .rw[aj hp]
   have:s.data.toList.drop pos=[]:=abW (by simp only[eE];exact Nat.le_of_not_lt hp)
   rw[this]
   simp
def aCN(s:ByteArray):Lib.idxFunc aiQ true s<0↔s.data.toList.all okB=true:=by
 have:=au9 s s.size 0 aC
 simpa [Lib.idxFunc] using this
def aK(l:List UInt8):ByteArray:=⟨l.toArray⟩
def aNf(l:List UInt8):({data:=l.toArray}:ByteArray)=aK l:=rfl
def aLd{a b:List UInt8}(h:aK a=aK b):a=b:=by
 have:=congrArg (λs:ByteArray=>s.data.toList) h
 simpa [aK] using this
def fst(s:ByteArray):Option UInt8:=s.data.toList.head?
end Go.Tab
namespace Go.Tab
open Pe
structure Cl where
 tb:List UInt8
 nm:List UInt8
 ty:Int
 deriving DecidableEq
inductive Tm where
 | mk (op:Int) (v:V) (dep at':Int) (nm:List UInt8) (kids:List Tm) (sub:C) (ty:Int)
inductive Pn where
 | mk (op:Int) (tb ix:List UInt8) (cols:List Cl) (kids:List Pn) (terms lk rk:List Tm) (r:Nat->C) (est cost:Int)
def Pn.op:Pn->Int | .mk op ..=>op
def Pn.cols:Pn->List Cl | .mk _ _ _ cols ..=>cols
def Pn.kids:Pn->List Pn | .mk _ _ _ _ kids ..=>kids
def I64(n:Int):Prop:=-9223372036854775808<=n/\n<=9223372036854775807
def fl{α:Type}(f:α->List C)(l:List α):List C:=(l.map f).flatten
def slC{α:Type}(f:α->List C)(l:List α):C:=.sl (fl f l) l.length
def lsC{α:Type}(f:α->List C)(l:List α):List C:=[slC f l]
def aiA(v:V):List C:=[ci v.k,ci v.n,aJ v.s]
def abC(n:Int):List C:=[ci n]
def af2(b:Bool):List C:=[cb b]
def bI(s:List UInt8):List C:=[aJ (aK s)]
def fS{α:Type}(_:α):Nat:=1
def dQ(s:List UInt8):Nat:=s.length+1
def aDN(v:V):Nat:=v.s.size+4
def lsW{α:Type}(w:α->Nat)(l:List α):Nat:=(l.map w).sum+1
def fa{α:Type}(_:α):Prop:=True
def V64(v:V):Prop:=I64 v.k/\I64 v.n
def lsP{α:Type}(p:α->Prop)(l:List α):Prop:=∀ x∈l,p x
structure Od where
 nm:List UInt8
 pl:Int
 dn:Bool
def odC(x:Od):List C:=bI x.nm++(abC x.pl++(af2 x.dn))
def odW(x:Od):Nat:=dQ x.nm+fS x.pl+fS x.dn+1
def ak7(x:Od):Prop:=fa x.nm/\I64 x.pl/\fa x.dn
mutual
inductive Xp where
 | mk (op:Int) (v:V) (tb:List UInt8) (nm:List UInt8) (di:Bool) (ks:List Xp) (sb:List Qy)
inductive Qy where
 | mk (op:Int) (al:Bool) (ks:List Qy) (di:Bool) (its:List Im) (fr:List Fm) (wh:List Xp) (gr:List Xp) (hv:List Xp) (od:List Od) (li:Int) (sk:Int)
inductive Im where
 | mk (st:Bool) (tb:List UInt8) (e:Xp) (az:List UInt8)
inductive Fm where
 | mk (kd:Int) (nm:List UInt8) (az:List UInt8) (sb:List Qy) (ks:List Fm) (on:List Xp)
end
def Xp.op:Xp->Int | .mk op _ _ _ _ _ _=>op
def Xp.v:Xp->V | .mk _ v _ _ _ _ _=>v
def Xp.tb:Xp->List UInt8 | .mk _ _ tb _ _ _ _=>tb
def Xp.nm:Xp->List UInt8 | .mk _ _ _ nm _ _ _=>nm
def Xp.di:Xp->Bool | .mk _ _ _ _ di _ _=>di
def Xp.ks:Xp->List Xp | .mk _ _ _ _ _ ks _=>ks
def Xp.sb:Xp->List Qy | .mk _ _ _ _ _ _ sb=>sb
def Qy.op:Qy->Int | .mk op _ _ _ _ _ _ _ _ _ _ _=>op
def Qy.al:Qy->Bool | .mk _ al _ _ _ _ _ _ _ _ _ _=>al
def Qy.ks:Qy->List Qy | .mk _ _ ks _ _ _ _ _ _ _ _ _=>ks
def Qy.di:Qy->Bool | .mk _ _ _ di _ _ _ _ _ _ _ _=>di
def Qy.its:Qy->List Im | .mk _ _ _ _ its _ _ _ _ _ _ _=>its
def Qy.fr:Qy->List Fm | .mk _ _ _ _ _ fr _ _ _ _ _ _=>fr
def Qy.wh:Qy->List Xp | .mk _ _ _ _ _ _ wh _ _ _ _ _=>wh
def Qy.gr:Qy->List Xp | .mk _ _ _ _ _ _ _ gr _ _ _ _=>gr
def Qy.hv:Qy->List Xp | .mk _ _ _ _ _ _ _ _ hv _ _ _=>hv
def Qy.od:Qy->List Od | .mk _ _ _ _ _ _ _ _ _ od _ _=>od
def Qy.li:Qy->Int | .mk _ _ _ _ _ _ _ _ _ _ li _=>li
def Qy.sk:Qy->Int | .mk _ _ _ _ _ _ _ _ _ _ _ sk=>sk
def Im.st:Im->Bool | .mk st _ _ _=>st
def Im.tb:Im->List UInt8 | .mk _ tb _ _=>tb
def Im.e:Im->Xp | .mk _ _ e _=>e
def Im.az:Im->List UInt8 | .mk _ _ _ az=>az
def Fm.kd:Fm->Int | .mk kd _ _ _ _ _=>kd
def Fm.nm:Fm->List UInt8 | .mk _ nm _ _ _ _=>nm
def Fm.az:Fm->List UInt8 | .mk _ _ az _ _ _=>az
def Fm.sb:Fm->List Qy | .mk _ _ _ sb _ _=>sb
def Fm.ks:Fm->List Fm | .mk _ _ _ _ ks _=>ks
def Fm.on:Fm->List Xp | .mk _ _ _ _ _ on=>on
mutual
def xpC:Xp->List C
 | .mk op v tb nm di ks sb=>abC op++(aiA v++(bI tb++(bI nm++(af2 di++([.sl (an4 ks) ks.length]++([.sl (atE sb) sb.length]))))))
def an4:List Xp->List C
 | []=>[]
 | x::r=>xpC x++an4 r
def qyC:Qy->List C
 | .mk op al ks di its fr wh gr hv od li sk=>abC op++(af2 al++([.sl (atE ks) ks.length]++(af2 di++([.sl (aFg its) its.length]++([.sl (ayT fr) fr.length]++([.sl (an4 wh) wh.length]++([.sl (an4 gr) gr.length]++([.sl (an4 hv) hv.length]++((lsC odC) od++(abC li++(abC sk)))))))))))
def atE:List Qy->List C
 | []=>[]
 | x::r=>qyC x++atE r
def imC:Im->List C
 | .mk st tb e az=>af2 st++(bI tb++(xpC e++(bI az)))
def aFg:List Im->List C
 | []=>[]
 | x::r=>imC x++aFg r
def fmC:Fm->List C
 | .mk kd nm az sb ks on=>abC kd++(bI nm++(bI az++([.sl (atE sb) sb.length]++([.sl (ayT ks) ks.length]++([.sl (an4 on) on.length])))))
def ayT:List Fm->List C
 | []=>[]
 | x::r=>fmC x++ayT r
end
mutual
def xpW:Xp->Nat
 | .mk op v tb nm di ks sb=>fS op+aDN v+dQ tb+dQ nm+fS di+(cP ks+1)+(aaV sb+1)+1
def cP:List Xp->Nat
 | []=>0
 | x::r=>xpW x+cP r
def qyW:Qy->Nat
 | .mk op al ks di its fr wh gr hv od li sk=>fS op+fS al+(aaV ks+1)+fS di+(adQ its+1)+(ab4 fr+1)+(cP wh+1)+(cP gr+1)+(cP hv+1)+(lsW odW) od+fS li+fS sk+1
def aaV:List Qy->Nat
 | []=>0
 | x::r=>qyW x+aaV r
def imW:Im->Nat
 | .mk st tb e az=>fS st+dQ tb+xpW e+dQ az+1
def adQ:List Im->Nat
 | []=>0
 | x::r=>imW x+adQ r
def fmW:Fm->Nat
 | .mk kd nm az sb ks on=>fS kd+dQ nm+dQ az+(aaV sb+1)+(ab4 ks+1)+(cP on+1)+1
def ab4:List Fm->Nat
 | []=>0
 | x::r=>fmW x+ab4 r
end
mutual
def fe:Xp->Prop
 | .mk op v tb nm di ks sb=>I64 op/\V64 v/\fa tb/\fa nm/\fa di/\dv ks/\acm sb
def dv:List Xp->Prop
 | []=>True
 | x::r=>fe x/\dv r
def fG:Qy->Prop
 | .mk op al ks di its fr wh gr hv od li sk=>I64 op/\fa al/\acm ks/\fa di/\adC its/\ac9 fr/\dv wh/\dv gr/\dv hv/\(lsP ak7) od/\I64 li/\I64 sk
def acm:List Qy->Prop
 | []=>True
 | x::r=>fG x/\acm r
def ak9:Im->Prop
 | .mk st tb e az=>fa st/\fa tb/\fe e/\fa az
def adC:List Im->Prop
 | []=>True
 | x::r=>ak9 x/\adC r
def adg:Fm->Prop
 | .mk kd nm az sb ks on=>I64 kd/\fa nm/\fa az/\acm sb/\ac9 ks/\dv on
def ac9:List Fm->Prop
 | []=>True
 | x::r=>adg x/\ac9 r
end
theorem ao8:∀ l:List Xp,an4 l=fl xpC l
 | []=>rfl
 | x::r=>by rw[an4,ao8 r];rfl
theorem akC:∀ l:List Xp,cP l=(l.map xpW).sum
 | []=>rfl
 | x::r=>by rw[cP,akC r];rfl
theorem ajJ:∀ l:List Xp,dv l↔lsP fe l
 | []=>by simp[dv,lsP]
 | x::r=>by simp[dv,lsP,ajJ r]
theorem apj:∀ l:List Qy,atE l=fl qyC l
 | []=>rfl
 | x::r=>by rw[atE,apj r];rfl
theorem akI:∀ l:List Qy,aaV l=(l.map qyW).sum
 | []=>rfl
 | x::r=>by rw[aaV,akI r];rfl
theorem ajK:∀ l:List Qy,acm l↔lsP fG l
 | []=>by simp[acm,lsP]
 | x::r=>by simp[acm,lsP,ajK r]
theorem aCL:∀ l:List Im,aFg l=fl imC l
 | []=>rfl
 | x::r=>by rw[aFg,aCL r];rfl
theorem ayL:∀ l:List Im,adQ l=(l.map imW).sum
 | []=>rfl
 | x::r=>by rw[adQ,ayL r];rfl
theorem avx:∀ l:List Im,adC l↔lsP ak9 l
 | []=>by simp[adC,lsP]
 | x::r=>by simp[adC,lsP,avx r]
theorem at5:∀ l:List Fm,ayT l=fl fmC l
 | []=>rfl
 | x::r=>by rw[ayT,at5 r];rfl
theorem aqV:∀ l:List Fm,ab4 l=(l.map fmW).sum
 | []=>rfl
 | x::r=>by rw[ab4,aqV r];rfl
theorem ao2:∀ l:List Fm,ac9 l↔lsP adg l
 | []=>by simp[ac9,lsP]
 | x::r=>by simp[ac9,lsP,ao2 r]
def arh(x:Xp):xpC x=abC x.op++(aiA x.v++(bI x.tb++(bI x.nm++(af2 x.di++((lsC xpC) x.ks++((lsC qyC) x.sb)))))):=by
 cases x
 simp only[xpC,Xp.op,Xp.v,Xp.tb,Xp.nm,Xp.di,Xp.ks,Xp.sb,lsC,slC,ao8,apj]
def ajt(x:Xp):xpW x=fS x.op+aDN x.v+dQ x.tb+dQ x.nm+fS x.di+(lsW xpW) x.ks+(lsW qyW) x.sb+1:=by
 cases x
 simp only[xpW,Xp.op,Xp.v,Xp.tb,Xp.nm,Xp.di,Xp.ks,Xp.sb,lsW,akC,akI]
def aWz(x:Xp):fe x↔I64 x.op/\V64 x.v/\fa x.tb/\fa x.nm/\fa x.di/\(lsP fe) x.ks/\(lsP fG) x.sb:=by
 cases x
 simp only[fe,Xp.op,Xp.v,Xp.tb,Xp.nm,Xp.di,Xp.ks,Xp.sb,ajJ,ajK]
def aH0(x:Qy):qyC x=abC x.op++(af2 x.al++((lsC qyC) x.ks++(af2 x.di++((lsC imC) x.its++((lsC fmC) x.fr++((lsC xpC) x.wh++((lsC xpC) x.gr++((lsC xpC) x.hv++((lsC odC) x.od++(abC x.li++(abC x.sk))))))))))):=by
 cases x
 simp only[qyC,Qy.op,Qy.al,Qy.ks,Qy.di,Qy.its,Qy.fr,Qy.wh,Qy.gr,Qy.hv,Qy.od,Qy.li,Qy.sk,lsC,slC,ao8,apj,aCL,at5]
def ah9(x:Qy):qyW x=fS x.op+fS x.al+(lsW qyW) x.ks+fS x.di+(lsW imW) x.its+(lsW fmW) x.fr+(lsW xpW) x.wh+(lsW xpW) x.gr+(lsW xpW) x.hv+(lsW odW) x.od+fS x.li+fS x.sk+1:=by
 cases x
 simp only[qyW,Qy.op,Qy.al,Qy.ks,Qy.di,Qy.its,Qy.fr,Qy.wh,Qy.gr,Qy.hv,Qy.od,Qy.li,Qy.sk,lsW,akC,akI,ayL,aqV]
def aWF(x:Qy):fG x↔I64 x.op/\fa x.al/\(lsP fG) x.ks/\fa x.di/\(lsP ak9) x.its/\(lsP adg) x.fr/\(lsP fe) x.wh/\(lsP fe) x.gr/\(lsP fe) x.hv/\(lsP ak7) x.od/\I64 x.li/\I64 x.sk:=by
 cases x
 simp only[fG,Qy.op,Qy.al,Qy.ks,Qy.di,Qy.its,Qy.fr,Qy.wh,Qy.gr,Qy.hv,Qy.od,Qy.li,Qy.sk,ajJ,ajK,avx,ao2]
def aZO(x:Im):imC x=af2 x.st++(bI x.tb++(xpC x.e++(bI x.az))):=by
 cases x
 simp only[imC,Im.st,Im.tb,Im.e,Im.az]
def akU(x:Im):imW x=fS x.st+dQ x.tb+xpW x.e+dQ x.az+1:=by
 cases x
 simp only[imW,Im.st,Im.tb,Im.e,Im.az]
def aWM(x:Im):ak9 x↔fa x.st/\fa x.tb/\fe x.e/\fa x.az:=by
 cases x
 simp only[ak9,Im.st,Im.tb,Im.e,Im.az]
def aJt(x:Fm):fmC x=abC x.kd++(bI x.nm++(bI x.az++((lsC qyC) x.sb++((lsC fmC) x.ks++((lsC xpC) x.on))))):=by
 cases x
 simp only[fmC,Fm.kd,Fm.nm,Fm.az,Fm.sb,Fm.ks,Fm.on,lsC,slC,ao8,apj,at5]
def agn(x:Fm):fmW x=fS x.kd+dQ x.nm+dQ x.az+(lsW qyW) x.sb+(lsW fmW) x.ks+(lsW xpW) x.on+1:=by
 cases x
 simp only[fmW,Fm.kd,Fm.nm,Fm.az,Fm.sb,Fm.ks,Fm.on,lsW,akC,akI,aqV]
def aWN(x:Fm):adg x↔I64 x.kd/\fa x.nm/\fa x.az/\(lsP fG) x.sb/\(lsP adg) x.ks/\(lsP fe) x.on:=by
 cases x
 simp only[adg,Fm.kd,Fm.nm,Fm.az,Fm.sb,Fm.ks,Fm.on,ajJ,ajK,ao2]
structure Cd where
 nm:List UInt8
 ty:Int
 nn:Bool
def cdC(x:Cd):List C:=bI x.nm++(abC x.ty++(af2 x.nn))
def cdW(x:Cd):Nat:=dQ x.nm+fS x.ty+fS x.nn+1
def aG4(x:Cd):Prop:=fa x.nm/\I64 x.ty/\fa x.nn
structure Kd where
 pr:Bool
 ns:List (List UInt8)
def kdC(x:Kd):List C:=af2 x.pr++((lsC bI) x.ns)
def kdW(x:Kd):Nat:=fS x.pr+(lsW dQ) x.ns+1
def a3s(x:Kd):Prop:=fa x.pr/\(lsP fa) x.ns
structure Rd where
 ns:List (List UInt8)
 tb:List UInt8
 to:List (List UInt8)
def rdC(x:Rd):List C:=(lsC bI) x.ns++(bI x.tb++((lsC bI) x.to))
def rdW(x:Rd):Nat:=(lsW dQ) x.ns+dQ x.tb+(lsW dQ) x.to+1
def a3d(x:Rd):Prop:=(lsP fa) x.ns/\fa x.tb/\(lsP fa) x.to
structure As where
 nm:List UInt8
 e:Xp
def asC(x:As):List C:=bI x.nm++(xpC x.e)
def asW(x:As):Nat:=dQ x.nm+xpW x.e+1
def auq(x:As):Prop:=fa x.nm/\fe x.e
structure Sm where
 kd:Int
 tb:List UInt8
 nm:List UInt8
 cs:List Cd
 ns:List (List UInt8)
 un:Bool
 kys:List Kd
 rfs:List Rd
 chs:List Xp
 rws:List (List Xp)
 sts:List As
 wh:List Xp
 q:List Qy
def smC(x:Sm):List C:=abC x.kd++(bI x.tb++(bI x.nm++((lsC cdC) x.cs++((lsC bI) x.ns++(af2 x.un++((lsC kdC) x.kys++((lsC rdC) x.rfs++((lsC xpC) x.chs++((lsC (lsC xpC)) x.rws++((lsC asC) x.sts++((lsC xpC) x.wh++((lsC qyC) x.q))))))))))))
def smW(x:Sm):Nat:=fS x.kd+dQ x.tb+dQ x.nm+(lsW cdW) x.cs+(lsW dQ) x.ns+fS x.un+(lsW kdW) x.kys+(lsW rdW) x.rfs+(lsW xpW) x.chs+(lsW (lsW xpW)) x.rws+(lsW asW) x.sts+(lsW xpW) x.wh+(lsW qyW) x.q+1
def abi(x:Sm):Prop:=I64 x.kd/\fa x.tb/\fa x.nm/\(lsP aG4) x.cs/\(lsP fa) x.ns/\fa x.un/\(lsP a3s) x.kys/\(lsP a3d) x.rfs/\(lsP fe) x.chs/\(lsP (lsP fe)) x.rws/\(lsP auq) x.sts/\(lsP fe) x.wh/\(lsP fG) x.q
structure Tn where
 k:Int
 pl:Int
 sz:Int
 n:Int
 s:List UInt8
def tnC(x:Tn):List C:=abC x.k++(abC x.pl++(abC x.sz++(abC x.n++(bI x.s))))
structure Th where
 q:Bool
 w:Bool
 y:Qy
 e:Xp
 f:Fm
def thC(x:Th):List C:=af2 x.q++(af2 x.w++(qyC x.y++(xpC x.e++(fmC x.f))))
def akN(x:Od):odC x=[aJ (aK x.nm),ci x.pl,cb x.dn]:=by
 unfold odC;rfl
def aCs(x:Od):(odC x).length=3:=by rw[akN];rfl
def ff(x:Xp):xpC x=[ci x.op,ci x.v.k,ci x.v.n,aJ x.v.s,aJ (aK x.tb),aJ (aK x.nm),cb x.di,slC xpC x.ks,slC qyC x.sb]:=by
 rw[arh];rfl
def as6(x:Xp):(xpC x).length=9:=by rw[ff];rfl
def ad6(x:Qy):qyC x=[ci x.op,cb x.al,slC qyC x.ks,cb x.di,slC imC x.its,slC fmC x.fr,slC xpC x.wh,slC xpC x.gr,slC xpC x.hv,slC odC x.od,ci x.li,ci x.sk]:=by
 rw[aH0];rfl
def aCp(x:Qy):(qyC x).length=12:=by rw[ad6];rfl
def amB(x:Im):imC x=[cb x.st,aJ (aK x.tb),ci x.e.op,ci x.e.v.k,ci x.e.v.n,aJ x.e.v.s,aJ (aK x.e.tb),aJ (aK x.e.nm),cb x.e.di,slC xpC x.e.ks,slC qyC x.e.sb,aJ (aK x.az)]:=by
 rw[aZO,arh];rfl
def aCM(x:Im):(imC x).length=12:=by rw[amB];rfl
def aee(x:Fm):fmC x=[ci x.kd,aJ (aK x.nm),aJ (aK x.az),slC qyC x.sb,slC fmC x.ks,slC xpC x.on]:=by
 rw[aJt];rfl
def aCV(x:Fm):(fmC x).length=6:=by rw[aee];rfl
def amI(x:Cd):cdC x=[aJ (aK x.nm),ci x.ty,cb x.nn]:=by
 unfold cdC;rfl
def aC5(x:Cd):(cdC x).length=3:=by rw[amI];rfl
def amw(x:Kd):kdC x=[cb x.pr,slC bI x.ns]:=by
 unfold kdC;rfl
def aCE(x:Kd):(kdC x).length=2:=by rw[amw];rfl
def amh(x:Rd):rdC x=[slC bI x.ns,aJ (aK x.tb),slC bI x.to]:=by
 unfold rdC;rfl
def aCo(x:Rd):(rdC x).length=3:=by rw[amh];rfl
def amL(x:As):asC x=[aJ (aK x.nm),ci x.e.op,ci x.e.v.k,ci x.e.v.n,aJ x.e.v.s,aJ (aK x.e.tb),aJ (aK x.e.nm),cb x.e.di,slC xpC x.e.ks,slC qyC x.e.sb]:=by
 unfold asC;rw[arh];rfl
def aDk(x:As):(asC x).length=10:=by rw[amL];rfl
def aeB(x:Sm):smC x=[ci x.kd,aJ (aK x.tb),aJ (aK x.nm),slC cdC x.cs,slC bI x.ns,cb x.un,slC kdC x.kys,slC rdC x.rfs,slC xpC x.chs,slC (lsC xpC) x.rws,slC asC x.sts,slC xpC x.wh,slC qyC x.q]:=by
 unfold smC;rfl
def aCi(x:Sm):(smC x).length=13:=by rw[aeB];rfl
def bE(x:Tn):tnC x=[ci x.k,ci x.pl,ci x.sz,ci x.n,aJ (aK x.s)]:=by
 unfold tnC;rfl
def aB7(x:Tn):(tnC x).length=5:=by rw[bE];rfl
def al9(x:Th):thC x=[cb x.q,cb x.w,ci x.y.op,cb x.y.al,slC qyC x.y.ks,cb x.y.di,slC imC x.y.its,slC fmC x.y.fr,slC xpC x.y.wh,slC xpC x.y.gr,slC xpC x.y.hv,slC odC x.y.od,ci x.y.li,ci x.y.sk,ci x.e.op,ci x.e.v.k,ci x.e.v.n,aJ x.e.v.s,aJ (aK x.e.tb),aJ (aK x.e.nm),cb x.e.di,slC xpC x.e.ks,slC qyC x.e.sb,ci x.f.kd,aJ (aK x.f.nm),aJ (aK x.f.az),slC qyC x.f.sb,slC fmC x.f.ks,slC xpC x.f.on]:=by
 unfold thC;rw[aH0];rw[arh];rw[aJt];rfl
def aS1(x:Th):(thC x).length=29:=by rw[al9];rfl
def cX{α:Type}{w:α->Nat}{l:List α}{x:α}(h:x∈l):w x<lsW w l:=by
 have:∀ l:List α,x∈l->w x<=(l.map w).sum:=λl=>by
  induction l with
  | nil=>intro h;cases h
  | cons y r ih =>
   intro h
   rw[aU,dH]
   rcases bp.1 h with rfl|h
   .omega
   .have:=ih h
    omega
 have:=this l h
 unfold lsW
 omega
def ajB:Int:=1000000000000000
def eF(c:UInt8):Bool:=(decide (97<=c.toNat)&&decide (c.toNat<=122))||decide (c=95)
def bQ(c:UInt8):Bool:=decide (48<=c.toNat)&&decide (c.toNat<=57)
def dy:List UInt8->Bool
 | []=>false
 | c::r=>eF c&&r.all (λc=>eF c||bQ c)&&decide (r.length+1<=20)
def adM(s:List UInt8):Bool:=decide (s=[])||dy s
def amG:List UInt8:=[99,111,117,110,116]
def ajF(s:List UInt8):Bool:=decide (s=amG)||decide (s=[115,117,109])||decide (s=[109,105,110])||decide (s=[109,97,120])
def amO:V:=⟨0,0,ByteArray.empty⟩
def arb:Xp:=.mk 0 amO [] [] false [] []
def arc(e:Xp):Bool:=decide (e.op=0)&&decide (e.v=amO)&&decide (e.tb=[])&&decide (e.nm=[])&&!e.di&&decide (e.ks.length=0)&&decide (e.sb.length=0)
def aG7(e:Xp):arc e=true↔e=arb:=by
 simp only[arc,ap,bf,List.length_eq_zero_iff,cZ]
 cases e
 simp only[arb,Xp.op,Xp.v,Xp.tb,Xp.nm,Xp.di,Xp.ks,Xp.sb,ajU,Xp.mk.injEq]
def ajx(op:Int):Option (Nat×Nat×Nat) :=
 if op=1\/op=2 then some (0,0,0)
 else if op=26\/op=27 then some (0,0,1)
 else if op=3\/op=4\/op=19 then some (1,1,0)
 else if op=28 then some (1,1,1)
 else if op=22 then some (3,3,0)
 else if op=21 then some (2,65,0)
 else if op=23 then some (2,129,0)
 else if op=24 then some (0,64,0)
 else if op=25 then some (0,1,0)
 else if 5<=op/\op<=20 then some (2,2,0)
 else none
def ae5(op:Int)(v:V)(tb nm:List UInt8)(di:Bool)(n:Nat):Bool :=
 if op=1 then adh v&&(decide (v.k≠2)||decide (0<=v.n))&&decide (tb=[])&&decide (nm=[])&&!di
 else if op=2 then decide (v=amO)&&dy nm&&adM tb&&!di
 else if op=24 then decide (v=amO)&&decide (tb=[])&&dy nm&&!ajF nm&&!di
 else if op=25 then decide (v=amO)&&decide (tb=[])&&ajF nm&&(decide (n=1)||(decide (nm=amG)&&!di))
 else decide (v=amO)&&decide (tb=[])&&decide (nm=[])&&!di
def eS(n lo hi:Nat):Bool:=decide (lo<=n)&&decide (n<=hi)
def ajQ(o:Od):Bool:=if o.nm≠[] then dy o.nm&&decide (o.pl=0) else decide (1<=o.pl)&&decide (o.pl<=ajB)
mutual
def aaR:Fm->Nat
 | .mk kd _ _ _ ks _=>if kd=1\/kd=2 then 1 else anx ks
def anx:List Fm->Nat
 | []=>0
 | x::r=>aaR x+anx r
end
mutual
def eI:Xp->Bool
 | .mk op v tb nm di ks sb=>match ajx op with
  | none=>false
  | some (lo,hi,n)=>ae5 op v tb nm di ks.length&&eS ks.length lo hi&&decide (sb.length=n)&&alt ks&&apq sb
def alt:List Xp->Bool
 | []=>true
 | x::r=>eI x&&alt r
def acc:Qy->Bool
 | .mk op al ks di its fr wh gr hv od li sk =>
  decide (-1<=li)&&decide (li<=ajB)&&decide (0<=sk)&&decide (sk<=ajB)&&eS od.length 0 64&&od.all ajQ &&
  (if op=1 then !al&&eS ks.length 0 0&&eS its.length 1 64&&awz its&&eS fr.length 0 1&&arQ fr&&fr.all (λf=>decide (aaR f<=8))&&eS wh.length 0 1&&alt wh&&eS gr.length 0 64&&alt gr&&eS hv.length 0 1&&alt hv
   else if op=2\/op=3\/op=4 then eS ks.length 2 2&&apq ks&&!di&&decide (its.length+fr.length+wh.length+gr.length+hv.length=0)
   else false)
def apq:List Qy->Bool
 | []=>true
 | x::r=>acc x&&apq r
def aiP:Im->Bool
 | .mk st tb e az=>if st then adM tb&&arc e&&decide (az=[]) else decide (tb=[])&&adM az&&eI e
def awz:List Im->Bool
 | []=>true
 | x::r=>aiP x&&awz r
def afK:Fm->Bool
 | .mk kd nm az sb ks on =>
  if kd=1 then dy nm&&adM az&&decide (sb.length+ks.length+on.length=0)
  else if kd=2 then decide (nm=[])&&dy az&&eS sb.length 1 1&&apq sb&&decide (ks.length+on.length=0)
  else if kd=3\/kd=4\/kd=5 then decide (nm=[])&&decide (az=[])&&decide (sb.length=0)&&eS ks.length 2 2&&arQ ks&&decide (on.length=if kd=3 then 0 else 1)&&alt on
  else false
def arQ:List Fm->Bool
 | []=>true
 | x::r=>afK x&&arQ r
end
theorem als:∀ l:List Xp,alt l=l.all eI
 | []=>rfl
 | x::r=>by rw[alt,als r];rfl
theorem alu:∀ l:List Qy,apq l=l.all acc
 | []=>rfl
 | x::r=>by rw[apq,alu r];rfl
theorem auR:∀ l:List Im,awz l=l.all aiP
 | []=>rfl
 | x::r=>by rw[awz,auR r];rfl
theorem aow:∀ l:List Fm,arQ l=l.all afK
 | []=>rfl
 | x::r=>by rw[arQ,aow r];rfl
def abG(l:List Xp)(lo hi:Nat):Bool:=eS l.length lo hi&&l.all eI
def ajR(c:Cd):Bool:=dy c.nm&&decide (1<=c.ty)&&decide (c.ty<=3)
def abA(l:List (List UInt8))(lo hi:Nat):Bool:=eS l.length lo hi&&l.all dy
def ank(k:Kd):Bool:=abA k.ns 1 16
def akM(r:Rd):Bool:=abA r.ns 1 16&&dy r.tb&&abA r.to 1 16
def alU(a:As):Bool:=dy a.nm&&eI a.e
def dD(s:Sm):Bool :=
 if s.kd=1 then dy s.tb&&(eS s.cs.length 1 16&&s.cs.all ajR)&&(eS s.kys.length 0 64&&s.kys.all ank)&&(eS s.rfs.length 0 64&&s.rfs.all akM)&&abG s.chs 0 64
  && (decide (s.nm=[])&&decide (s.ns=[])&&!s.un&&decide (s.rws.length=0)&&decide (s.sts.length=0)&&decide (s.wh.length=0)&&decide (s.q.length=0))
 else if s.kd=2 then dy s.tb&&dy s.nm&&abA s.ns 1 16
  && (decide (s.cs.length=0)&&decide (s.kys.length=0)&&decide (s.rfs.length=0)&&decide (s.chs.length=0)&&decide (s.rws.length=0)&&decide (s.sts.length=0)&&decide (s.wh.length=0)&&decide (s.q.length=0))
 else if s.kd=3 then ((dy s.tb&&decide (s.nm=[]))||(decide (s.tb=[])&&dy s.nm))
  && (decide (s.cs.length=0)&&decide (s.ns.length=0)&&!s.un&&decide (s.kys.length=0)&&decide (s.rfs.length=0)&&decide (s.chs.length=0)&&decide (s.rws.length=0)&&decide (s.sts.length=0)&&decide (s.wh.length=0)&&decide (s.q.length=0))
 else if s.kd=4 then dy s.tb&&abA s.ns 0 16&&((decide (s.rws.length=0)&&eS s.q.length 1 1&&s.q.all acc)||(decide (s.q.length=0)&&eS s.rws.length 1 64&&s.rws.all (λl=>abG l 1 16)))
  && (decide (s.nm=[])&&decide (s.cs.length=0)&&!s.un&&decide (s.kys.length=0)&&decide (s.rfs.length=0)&&decide (s.chs.length=0)&&decide (s.sts.length=0)&&decide (s.wh.length=0))
 else if s.kd=5 then dy s.tb&&(eS s.sts.length 1 16&&s.sts.all alU)&&abG s.wh 0 1
  && (decide (s.nm=[])&&decide (s.cs.length=0)&&decide (s.ns.length=0)&&!s.un&&decide (s.kys.length=0)&&decide (s.rfs.length=0)&&decide (s.chs.length=0)&&decide (s.rws.length=0)&&decide (s.q.length=0))
 else if s.kd=6 then dy s.tb&&abG s.wh 0 1
  && (decide (s.nm=[])&&decide (s.cs.length=0)&&decide (s.ns.length=0)&&!s.un&&decide (s.kys.length=0)&&decide (s.rfs.length=0)&&decide (s.chs.length=0)&&decide (s.rws.length=0)&&decide (s.sts.length=0)&&decide (s.q.length=0))
 else if s.kd=7\/s.kd=11 then (eS s.q.length 1 1&&s.q.all acc)
  && (decide (s.tb=[])&&decide (s.nm=[])&&decide (s.cs.length=0)&&decide (s.ns.length=0)&&!s.un&&decide (s.kys.length=0)&&decide (s.rfs.length=0)&&decide (s.chs.length=0)&&decide (s.rws.length=0)&&decide (s.sts.length=0)&&decide (s.wh.length=0))
 else if s.kd=8\/s.kd=9\/s.kd=10\/s.kd=12\/s.kd=13\/s.kd=14 then
  decide (s.tb=[])&&decide (s.nm=[])&&decide (s.cs.length=0)&&decide (s.ns.length=0)&&!s.un&&decide (s.kys.length=0)&&decide (s.rfs.length=0)&&decide (s.chs.length=0)&&decide (s.rws.length=0)&&decide (s.sts.length=0)&&decide (s.wh.length=0)&&decide (s.q.length=0)
 else false
def cI(a b:Nat×Nat):Nat×Nat:=(a.1+b.1,max a.2 b.2)
def upN(a:Nat×Nat):Nat×Nat:=(a.1+1,a.2+1)
def cR{α:Type}(f:α->Nat×Nat):List α->Nat×Nat
 | []=>(0,0)
 | x::r=>cI (f x) (cR f r)
mutual
def eO:Xp->Nat×Nat
 | .mk _ _ _ _ _ ks sb=>upN (cI (alo ks) (apg sb))
def alo:List Xp->Nat×Nat
 | []=>(0,0)
 | x::r=>cI (eO x) (alo r)
def ab9:Qy->Nat×Nat
 | .mk _ _ ks _ its fr wh gr hv _ _ _=>upN (cI (cI (cI (cI (cI (apg ks) (awr its)) (arx fr)) (alo wh)) (alo gr)) (alo hv))
def apg:List Qy->Nat×Nat
 | []=>(0,0)
 | x::r=>cI (ab9 x) (apg r)
def agQ:Im->Nat×Nat
 | .mk st _ e _=>if st then (0,0) else eO e
def awr:List Im->Nat×Nat
 | []=>(0,0)
 | x::r=>cI (agQ x) (awr r)
def aem:Fm->Nat×Nat
 | .mk _ _ _ sb ks on=>upN (cI (cI (apg sb) (arx ks)) (alo on))
def arx:List Fm->Nat×Nat
 | []=>(0,0)
 | x::r=>cI (aem x) (arx r)
end
theorem ahG:∀ l:List Xp,alo l=cR eO l
 | []=>rfl
 | x::r=>by rw[alo,ahG r];rfl
theorem alp:∀ l:List Qy,apg l=cR ab9 l
 | []=>rfl
 | x::r=>by rw[apg,alp r];rfl
theorem aux:∀ l:List Im,awr l=cR agQ l
 | []=>rfl
 | x::r=>by rw[awr,aux r];rfl
theorem aoa:∀ l:List Fm,arx l=cR aem l
 | []=>rfl
 | x::r=>by rw[arx,aoa r];rfl
def aGQ(a b c:Nat×Nat):cI (cI a b) c=cI a (cI b c):=by simp[cI,bA,Nat.max_assoc]
def aKz(a:Nat×Nat):cI a (0,0)=a:=by simp[cI]
def aG6(a:Nat×Nat):cI (0,0) a=a:=by simp[cI]
def atl(s:Sm):Nat×Nat:=cI (cI (cI (cI (cR eO s.chs) (cR (λl=>cR eO l) s.rws)) (cR (λa:As=>eO a.e) s.sts)) (cR eO s.wh)) (cR ab9 s.q)
def ajj(n:Nat×Nat):Bool:=decide (n.1<=400)&&decide (n.2<=40)
def ame(e:Xp):Bool:=ajj (eO e)&&eI e
def amf(q:Qy):Bool:=ajj (ab9 q)&&acc q
def agA(s:Sm):Bool:=ajj (atl s)&&dD s
def ar3:List UInt8->Bool
 | []=>false
 | c::r=>eF c&&r.all (λc=>eF c||bQ c)
def aW5:List UInt8:=[32,97,108,108,32,97,110,97,108,121,122,101,32,97,110,100,32,97,115,32,97,115,99,32,98,101,103,105,110,32,98,101,116,119,101,101,110,32,98,111,111,108,32,98,121,32,99,97,115,101,32,99,104,101,99,107,32,99,104,101,99,107,112,111,105,110,116,32,99,111,109,109,105,116,32,99,114,101,97,116,101,32,99,114,111,115,115,32,100,101,108,101,116,101,32,100,101,115,99,32,100,105,115,116,105,110,99,116,32,100,114,111,112,32,101,108,115,101,32,101,110,100,32,101,120,99,101,112,116,32,101,120,105,115,116,115,32,101,120,112,108,97,105,110,32,102,97,108,115,101,32,102,111,114,101,105,103,110,32,102,114,111,109,32,103,114,111,117,112,32,104,97,118,105,110,103,32,105,110,32,105,110,100,101,120,32,105,110,110,101,114,32,105,110,115,101,114,116,32,105,110,116,32,105,110,116,101,114,115,101,99,116,32,105,110,116,111,32,105,115,32,106,111,105,110,32,107,101,121,32,108,101,102,116,32,108,105,107,101,32,108,105,109,105,116,32,110,111,116,32,110,117,108,108,32,111,102,102,115,101,116,32,111,110,32,111,114,32,111,114,100,101,114,32,112,114,105,109,97,114,121,32,114,101,102,101,114,101,110,99,101,115,32,114,111,108,108,98,97,99,107,32,115,101,108,101,99,116,32,115,101,116,32,116,97,98,108,101,32,116,101,120,116,32,116,104,101,110,32,116,114,117,101,32,117,110,105,111,110,32,117,110,105,113,117,101,32,117,112,100,97,116,101,32,118,97,99,117,117,109,32,118,97,108,117,101,115,32,119,104,101,110,32,119,104,101,114,101,32]
def aqp(s:List UInt8):Bool:=Lib.contains aW5 (32::(s++[32]))
def plN:Nat->List UInt8->Bool
 | _,[]=>true
 | k,c::r=>(eF c||(decide (k≠0)&&bQ c))&&plN (k+1) r
def aLC(r:List UInt8):∀ k,plN (k+1) r=r.all (λc=>eF c||bQ c):=by
 induction r with
 | nil=>intro k;rfl
 | cons x r ih=>intro k;simp[plN,ih]
def aUq(l:List UInt8):ar3 l=(decide (l≠[])&&plN 0 l):=by
 cases l with
 | nil=>rfl
 | cons c r=>simp[ar3,plN,aLC]
def aIb{l:List UInt8}{k:Nat}(h:k<l.length):plN k (l.drop k)=((eF l[k]||(decide (k≠0)&&bQ l[k]))&&plN (k+1) (l.drop (k+1))):=by rw[ce h,plN]
def c95(c:UInt8):(c=95)=(c.toNat=95):=propext ⟨λh=>by rw[h];rfl,λh=>UInt8.toNat_inj.1 h⟩
end Go.Tab
namespace Go.Proofs.YtghkmcffifpkeaaGreat
open RowKit Pe Tab
set_option maxRecDepth 1000000 in
def aEr(s:ByteArray)(w:World) :
  Calls Tryz.prog 244 #[.string s] w λe w'=>e=.returned (.bool (ar3 s.data.toList))/\Below w.heap.size w w':=by
 rw[aUq]
 have hsz:s.data.toList.length=s.size:=by simp
 go_enter Tryz.func244,Tryz.ntmps244
 go_wp2
 go_loopw [] (λwr=>∃ pos:Nat,wr=w.iter s pos/\pos<=s.size/\plN 0 s.data.toList=plN pos (s.data.toList.drop pos)) (λwr=>s.size-wr.iterPos w.heap.size)
 case atStart=>exact⟨0,rfl,aO _,rfl⟩
 case round =>
  obtain⟨pos,rfl,hle,HS⟩:=hrel
  have hB:Below w.heap.size w (w.iter s pos):=(Below.refl _ _).alloc (ae _) _
  by_cases hp:pos<s.size
  .rcases aD (s[pos]'hp).toNat 128 with ha|ha
   rotate_left
   .have hd:=decode_high s pos hp ha
    have hd2:=decode_le s pos
    have hnx:∀ ty,(Instr.next (.pointer (some ⟨w.heap.size,0,none⟩)) true ty).run Tryz.prog (w.iter s pos)=_:=λty=>run_next_any w s pos ty hp
    have hpl:pos<s.data.toList.length:=by omega
    rw[aIb hpl] at HS
    have hg:s.data.toList[pos]=s[pos]'hp:=by simp[aaa]
    rw[hg] at HS
    have hne:s.data.toList≠[]:=by intro e;rw[e] at hpl;simp at hpl
    have hn:plN 0 s.data.toList=false:=by
     rw[HS]
     have:(eF (s[pos]'hp)||(decide (pos≠0)&&bQ (s[pos]'hp)))=false:=by
      simp only[eF,bQ,Bool.or_eq_false_iff,adv,abJ,c95]
      omega
     rw[this,dL]
    generalize (Utf8.decode s pos)=dc at *
    obtain⟨rn,nb⟩:=dc
    dsimp only at hd hd2 hnx
    have hB2:Below w.heap.size w (w.iter s (pos+nb)):=(Below.refl _ _).alloc (ae _) _
    clear HS hg
    go_wp2
    all_goals try simp only[dw,beq_eq_false_iff_ne,aae] at *
    all_goals first
     | (exfalso;omega)
     | (go_ret;exact⟨by simp[hn],hB2⟩)
   have hnx:∀ ty,(Instr.next (.pointer (some ⟨w.heap.size,0,none⟩)) true ty).run Tryz.prog (w.iter s pos)=_:=λty=>run_next_ascii w s pos ty hp ha
   have hpl:pos<s.data.toList.length:=by omega
   rw[aIb hpl] at HS
   have hg:s.data.toList[pos]=s[pos]'hp:=by simp[aaa]
   rw[hg] at HS
   generalize hc:(s[pos]'hp)=c at *
   have hne:s.data.toList≠[]:=by intro e;rw[e] at hpl;simp at hpl
   have hB2:Below w.heap.size w (w.iter s (pos+1)):=(Below.refl _ _).alloc (ae _) _
   have key:(eF c||(decide (pos≠0)&&bQ c))=true↔(97<=(c.toNat:Int)/\(c.toNat:Int)<=122)\/(c.toNat:Int)=95\/(0<(pos:Int)/\48<=(c.toNat:Int)/\(c.toNat:Int)<=57):=by
    simp only[eF,bQ,bN,ap,bf,c95]
    omega
   have yes:(97<=(c.toNat:Int)/\(c.toNat:Int)<=122)\/(c.toNat:Int)=95\/(0<(pos:Int)/\48<=(c.toNat:Int)/\(c.toNat:Int)<=57)->plN 0 s.data.toList=plN (pos+1) (s.data.toList.drop (pos+1)):=λh=>by rw[HS,key.2 h,dz]
   have no:¬((97<=(c.toNat:Int)/\(c.toNat:Int)<=122)\/(c.toNat:Int)=95\/(0<(pos:Int)/\48<=(c.toNat:Int)/\(c.toNat:Int)<=57))->plN 0 s.data.toList=false:=λh=>by
    cases hb:(eF c||(decide (pos≠0)&&bQ c)) with
    | false=>rw[HS,hb,dL]
    | true=>exact absurd (key.1 hb) h
   clear HS key hc
   go_wp2
   all_goals try simp only[dw,beq_eq_false_iff_ne,aae] at *
   all_goals first
    | (refine⟨⟨pos+1,rfl,by omega,yes aC⟩,?_⟩;simp;omega)
    | (have hn:=no aC;go_ret;exact⟨by simp[hn],hB2⟩)
  .have hnx:∀ ty,(Instr.next (.pointer (some ⟨w.heap.size,0,none⟩)) true ty).run Tryz.prog (w.iter s pos)=_:=λty=>run_next_end w s pos ty hp
   rw[dB aC,plN] at HS
   rw[HS]
   go_wp2
   go_ret
   refine⟨?_,hB⟩
   rw[HS,aaw]
   have e:(!s.toList.isEmpty)=decide (s.data.toList≠[]):=by rw[ByteArray.toList_eq];cases s.data.toList <;> rfl
   rw[← e]
   rfl
end Go.Proofs.YtghkmcffifpkeaaGreat
namespace Go.Pe
section
variable (s:S) (d j:Nat) (x:X) (t:Tk)
theorem Z6w:(s.put (some d) x).fr j=if j=d then x else s.fr j:=rfl
theorem Z6y(d:Option Nat):(s.put d x).objs=s.objs:=by cases d <;> rfl
theorem Z6v(d:Option Nat):(s.put d x).clk=s.clk:=by cases d <;> rfl
theorem Z6x:s.put none x=s:=rfl
theorem Z31:(s.drop (some t)).fr j=(s.fr j).drop t:=rfl
theorem Z32:(s.drop (some t)).objs=s.objs.map (Ob.drop t):=rfl
theorem Z30:(s.drop (some t)).clk=s.clk:=rfl
theorem Z3i(n:Nat):s.ev (.tmp n)=s.fr n:=rfl
theorem Z3g(v:Value):s.ev (.const v)=abv v:=rfl
theorem Z3h(f:Nat):s.ev (.func f)=.of (.fn f []):=rfl
end
def Z63(k:IntKind)(n:Int):abv (.int k n)=.of (.lit (.int k n)):=rfl
def Z62(b:Bool):abv (.bool b)=.of (.lit (.bool b)):=rfl
def Z67(b:ByteArray):abv (.string b)=.of (.lit (.string b)):=rfl
def Z65:abv (.slice none 0 0)=.nil:=rfl
def Z66:abv (.pointer none)=.of (.lit (.pointer none)):=rfl
def Z64:abv (.map none)=.of (.lit (.map none)):=rfl
def apD:List X->Nat->X
 | [],_=>.of .undef
 | c::_,0=>c
 | _::cs,j+1=>apD cs j
theorem Z42(obs:List Ob):∀ (xs:List X) (j:Nat),(adz xs obs).fr j=apD xs j
 | [],j=>rfl
 | c::cs,0=>rfl
 | c::cs,j+1=>by have:=Z42 obs cs j;simpa [adz,apD] using this
def Z43(xs:List X)(obs:List Ob):(adz xs obs).objs=obs:=rfl
def Z41(xs:List X)(obs:List Ob):(adz xs obs).clk=1:=rfl
def Z40(x:X)(xs:List X):apD (x::xs) 0=x:=rfl
def Z3z(x:X)(xs:List X)(j:Nat):apD (x::xs) (j+1)=apD xs j:=rfl
def Z8q(P:Program)(pr:Pr)(b:Code)(Q:Ex->S->Prop)(s:S):ape P pr b Q .normal s↔WC P pr b s Q:=bg
def Z8p(P:Program)(pr:Pr)(b:Code)(Q:Ex->S->Prop)(i:Nat)(s:S):ape P pr b Q (.exit i) s↔Q (.exit i) s:=bg
def Z8s(P:Program)(pr:Pr)(b:Code)(Q:Ex->S->Prop)(s:S):ape P pr b Q .ret s↔Q .ret s:=bg
def Z8r(P:Program)(pr:Pr)(b:Code)(Q:Ex->S->Prop)(x:X)(s:S):ape P pr b Q (.pan x) s↔Q (.pan x) s:=bg
def Z24(i:Nat)(Q:Ex->S->Prop)(x:X)(s:S):ak3 i Q (.pan x) s↔Q (.pan x) s:=bg
def Z23(i:Nat)(Q:Ex->S->Prop)(s:S):ak3 i Q .normal s↔Q .normal s:=bg
def Z22(i j:Nat)(Q:Ex->S->Prop)(s:S):ak3 i Q (.exit j) s↔if j=i then Q .normal s else Q (.exit j) s:=bg
def Z25(i:Nat)(Q:Ex->S->Prop)(s:S):ak3 i Q .ret s↔Q .ret s:=bg
def S.tk(s:S):S:={s with clk:=s.clk+1}
def Z8u(s:S)(j:Nat):s.tk.fr j=s.fr j:=rfl
def Z8v(s:S):s.tk.objs=s.objs:=rfl
def Z8t(s:S):s.tk.clk=s.clk+1:=rfl
def Z7g(Q:Ex->S->Prop)(s:S):afI Q none s↔Q .normal s.tk:=bg
def Z7h(Q:Ex->S->Prop)(x:X)(s:S):afI Q (some x) s↔Q (.pan x) s.tk:=bg
def Z5j(F:S->Prop)(Q:Option X->S->Prop)(s:S):apw F Q none s↔F s:=bg
def Z5k(F:S->Prop)(Q:Option X->S->Prop)(x:X)(s:S):apw F Q (some x) s↔Q (some x) s:=bg
def Z2t(b:Bool)(p q:Prop):awR (some b) p q↔if b=true then p else q:=bg
def Z3s(ops:Array Oper)(s:S)(d:Option Nat)(op:Op)(ty:Nat)(pos:String)(af:Array Edge):dM ops s ⟨d,op,ty,pos,af,none⟩=some true:=rfl
def asl(want:Bool):X->Option Bool
 | .of (.lit (.bool b))=>some (b == want)
 | .of .undef=>some false
 | _=>none
def aJo(s:S)(want:Bool):Option Nat->Option Bool
 | some d=>asl want (s.fr d)
 | none=>some false
def Z3t(ops:Array Oper)(s:S)(d:Option Nat)(op:Op)(ty:Nat)(pos:String)(af:Array Edge)(j:Nat)(want:Bool) :
  dM ops s ⟨d,op,ty,pos,af,some (j,want)⟩=aJo s want ((ops[j]?).bind (·.dst)):=by
 simp only[dM]
 cases (ops[j]?).bind (·.dst) with
 | none=>rfl
 | some d=>rfl
def Z3r(s:S)(want:Bool)(d:Nat):aJo s want (some d)=asl want (s.fr d):=rfl
def Z3u(want b:Bool):asl want (.of (.lit (.bool b)))=some (b == want):=rfl
def Z3v(want:Bool):asl want (.of .undef)=some false:=rfl
def Z6g(s:S)(d:Option Nat)(af:Array Edge)(K:S->Prop)(x:X):abd s d af K (out x)↔K (s.put d x):=bg
def Z6i(s:S)(d:Option Nat)(af:Array Edge)(K:S->Prop)(x:X)(t:Tk):abd s d af K (some (x,some t))↔aau s.clk af.toList (some t)=true/\K ((s.drop (some t)).put d x):=bg
def Z6f(s:S)(d:Option Nat)(af:Array Edge)(K:S->Prop)(x:X):abd s d af K (some (x,none))↔K (s.put d x):=bg
def Z3w(b:Bool)(p q:Prop):ajE (some b) p q↔if b=true then p else q:=by cases b <;> simp[ajE]
def Zw(P:Program)(pr:Pr)(id:Nat)(l:List Oper)(s:S)(Q:Ex->S->Prop):WC P pr (.region id l.toArray false) s Q↔WO P pr false l.toArray 0 l s (afI Q):=aGT id l.toArray s Q
def Zx(P:Program)(pr:Pr)(id:Nat)(l:List Oper)(s:S)(Q:Ex->S->Prop):WC P pr (.region id l.toArray true) s Q↔if plB pr.mt l=true then plQ (aww P pr l.toArray s (afI Q)) (ajA pr.obj l.toArray) else if tlB l=true then WOT P pr l.toArray 0 l s (afI Q) else tlQ (acL pr.obj l) (λn=>WD P pr l.toArray n 0 false l s (afI Q)) (if abj l=true then WOB P pr l.toArray 0 l s (afI Q) else if aiU pr.obj l=true then WS P pr l.toArray l s (afI Q) else WO P pr true l.toArray 0 l s (afI Q)):=aGS id l.toArray s Q
def aPz(A:Nat->Prop)(B:Prop):tlQ 0 A B↔B:=bg
def aXj{n n':Nat}(A:Nat->Prop)(B:Prop)(h:Unit->n=n'):tlQ n A B=tlQ n' A B:=by rw[h ()]
def aK9{b b':Bool}(A B:Prop)(h:Unit->b=b'):aPG b A B=aPG b' A B:=by rw[h ()]
attribute [congr] aXj aK9
def aSY(obj:Nat->Bool)(a b c:Oper)(l:List Oper):acL obj (a::b::c::l)=acL obj (b::c::l):=rfl
def aXi(obj:Nat->Bool)(d:Option Nat)(o:Op)(ty:Nat)(po:String)(af:Array Edge)(g:Option (Nat×Bool))(d':Option Nat)(o':Op)(ty':Nat)(po':String)(af':Array Edge)(g':Option (Nat×Bool)):acL obj [⟨d,o,ty,po,af,g⟩,⟨d',o',ty',po',af',g'⟩]=if (ac0 obj o'&&g'.isNone)=true then 1 else if (ac0 obj o&&g.isNone&&(opK o' == 2&&g'.isNone))=true then 2 else 0:=rfl
def aUe(obj:Nat->Bool)(g:Nat)(a:Array Operand)(t:Array Nat):ac0 obj (.call {callee:=.value (.func g),args:=a,argTypes:=t})=obj g:=rfl
def a5M(obj:Nat->Bool)(g:Builtin)(a:Array Operand)(t:Array Nat):ac0 obj (.call {callee:=.builtin g,args:=a,argTypes:=t})=false:=rfl
def aIw(obj:Nat->Bool):∀ x0,ac0 obj (.assign x0)=false:=λ_=>rfl
def aUc(obj:Nat->Bool):∀ x0 x1 x2,ac0 obj (.pick x0 x1 x2)=false:=λ_ _ _=>rfl
def aMs(obj:Nat->Bool):∀ x0 x1 x2 x3 x4,ac0 obj (.binOp x0 x1 x2 x3 x4)=false:=λ_ _ _ _ _=>rfl
def aUb(obj:Nat->Bool):∀ x0 x1 x2,ac0 obj (.unOp x0 x1 x2)=false:=λ_ _ _=>rfl
def aUd(obj:Nat->Bool):∀ x0 x1,ac0 obj (.load x0 x1)=false:=λ_ _=>rfl
def ayc(obj:Nat->Bool):∀ x0 x1 x2,ac0 obj (.fieldAddr x0 x1 x2)=false:=λ_ _ _=>rfl
def aMr(obj:Nat->Bool):∀ x0 x1,ac0 obj (.build x0 x1)=false:=λ_ _=>rfl
def avN(obj:Nat->Bool):∀ x0 x1 x2,ac0 obj (.buildSlice x0 x1 x2)=false:=λ_ _ _=>rfl
def aMt(obj:Nat->Bool):∀ x0,ac0 obj (.alloc x0)=false:=λ_=>rfl
def aMq(obj:Nat->Bool):∀ x0 x1 x2,ac0 obj (.store x0 x1 x2)=false:=λ_ _ _=>rfl
def Z4q(obj:Nat->Bool)(d:Option Nat)(o:Op)(ty:Nat)(po:String)(af:Array Edge)(g:Option (Nat×Bool))(r:List Oper):aiU obj (⟨d,o,ty,po,af,g⟩::r)=(aeL obj o&&g.isNone):=rfl
def Z7y(a b:Oper)(l:List Oper):abj (a::b::l)=abj (b::l):=rfl
def Z7z(d:Option Nat)(o:Op)(ty:Nat)(po:String)(af:Array Edge)(g:Option (Nat×Bool)):abj [⟨d,o,ty,po,af,g⟩]=(cU o&&g.isNone):=rfl
def Z8i(t:Nat)(a x:Operand):cU (.store t a x)=true:=rfl
def Z84(c:Call):cU (.call c)=false:=rfl
def Z4v(obj:Nat->Bool)(g:Nat)(tys:Array Nat):aeL obj (.call {callee:=.value (.func g),args:=#[],argTypes:=tys})=obj g:=rfl
def Z56(obj:Nat->Bool):∀ x0,aeL obj (.move x0)=false:=λ_=>rfl
def Z80:∀ x0,cU (.assign x0)=false:=λ_=>rfl
def Z8g:∀ x0 x1 x2,cU (.pick x0 x1 x2)=false:=λ_ _ _=>rfl
def Z81:∀ x0 x1 x2 x3 x4,cU (.binOp x0 x1 x2 x3 x4)=false:=λ_ _ _ _ _=>rfl
def Z8j:∀ x0 x1 x2,cU (.unOp x0 x1 x2)=false:=λ_ _ _=>rfl
def Z8b:∀ x0 x1,cU (.load x0 x1)=false:=λ_ _=>rfl
def Z53(obj:Nat->Bool):∀ x0 x1,aeL obj (.load x0 x1)=false:=λ_ _=>rfl
def Z88:∀ x0 x1 x2,cU (.fieldAddr x0 x1 x2)=false:=λ_ _ _=>rfl
def Z50(obj:Nat->Bool):∀ x0 x1 x2,aeL obj (.fieldAddr x0 x1 x2)=false:=λ_ _ _=>rfl
def Z82:∀ x0 x1,cU (.build x0 x1)=false:=λ_ _=>rfl
def Z83:∀ x0 x1 x2,cU (.buildSlice x0 x1 x2)=false:=λ_ _ _=>rfl
def aT5:∀ x0,opK (.move x0)=0:=λ_=>rfl
def aIm:∀ x0,opK (.assign x0)=2:=λ_=>rfl
def aT4:∀ x0 x1 x2,opK (.pick x0 x1 x2)=0:=λ_ _ _=>rfl
def aMl:∀ x0,opK (.alloc x0)=3:=λ_=>rfl
def aT6:∀ x0 x1,opK (.load x0 x1)=4:=λ_ _=>rfl
def aMk:∀ x0 x1 x2 x3 x4,opK (.binOp x0 x1 x2 x3 x4)=0:=λ_ _ _ _ _=>rfl
def aT2:∀ x0 x1 x2,opK (.unOp x0 x1 x2)=0:=λ_ _ _=>rfl
def ax7:∀ x0 x1 x2,opK (.fieldAddr x0 x1 x2)=0:=λ_ _ _=>rfl
def ax6:∀ x0 x1 x2,opK (.indexAddr x0 x1 x2)=0:=λ_ _ _=>rfl
def aIl:∀ x0 x1 x2 x3,opK (.lookup x0 x1 x2 x3)=0:=λ_ _ _ _=>rfl
def aED:∀ x0 x1,opK (.extract x0 x1)=0:=λ_ _=>rfl
def aT7:∀ x0,opK (.call x0)=0:=λ_=>rfl
def aMj:∀ x0 x1 x2,opK (.store x0 x1 x2)=1:=λ_ _ _=>rfl
def aXl(l:List Oper):tlB l=tlM l (alj l):=rfl
def aK3(l:List Oper):tlM l none=false:=rfl
def aK2(l:List Oper)(d:Nat):tlM l (some d)=!amt d l:=rfl
def aK4(a b c:Oper)(l:List Oper):alj (a::b::c::l)=alj (b::c::l):=rfl
def aSZ(d:Option Nat)(o:Op)(ty:Nat)(po:String)(af:Array Edge)(g:Option (Nat×Bool))(d':Option Nat)(o':Op)(ty':Nat)(po':String)(af':Array Edge)(g':Option (Nat×Bool)):alj [⟨d,o,ty,po,af,g⟩,⟨d',o',ty',po',af',g'⟩]=if (cU o&&g.isNone&&(g'.isNone&&(cU o'||opK o' == 2)))=true then aOT o else none:=rfl
def a2K(t d:Nat)(x:Operand):aOT (.store t (.tmp d) x)=some d:=rfl
def aM6(d:Nat):amt d []=false:=rfl
def aIP(j:Nat)(d:Option Nat)(o:Op)(ty:Nat)(po:String)(af:Array Edge)(g:Option (Nat×Bool))(l:List Oper):amt j (⟨d,o,ty,po,af,g⟩::l)=((opK o == 3&&eqD d j)||amt j l):=rfl
def aOb(a d:Nat):eqD (some a) d=(a == d):=rfl
def aOc(d:Nat):eqD none d=false:=rfl
def aUM{b b':Bool}(p:Prop)(h:Unit->b=b'):aZY b p=aZY b' p:=by rw[h ()]
def aXk(l:List Oper){x x':Option Nat}(h:Unit->x=x'):tlM l x=tlM l x':=by rw[h ()]
def aJn{g g':Option Bool}(p q:Prop)(h:Unit->g=g'):ajE g p q=ajE g' p q:=by rw[h ()]
def aOp{g g':Option Bool}(p q:Prop)(h:Unit->g=g'):awR g p q=awR g' p q:=by rw[h ()]
def aTY(s:S)(d:Option Nat)(af:Array Edge)(K:S->Prop){v v':Out}(h:Unit->v=v'):abd s d af K v=abd s d af K v':=by rw[h ()]
def aT0(Q:S->Prop){v v':Option S}(h:Unit->v=v'):acb Q v=acb Q v':=by rw[h ()]
def aPa(P:Program)(pr:Pr)(f:Nat){xs xs':List X}{obs obs':List Ob}(K:An->Prop)(h:Unit->xs=xs')(h':Unit->obs=obs'):abl P pr f xs obs K=abl P pr f xs' obs' K:=by rw[h (),h' ()]
def aOA(P:Program)(pr:Pr)(dr:Bool)(s:S)(k:Nat)(d:Option Nat)(Q:Option X->S->Prop)(f:Nat){us us':List X}(caps:List C){cs cs':Option (List C)}{b b':Bool}(h1:Unit->us=us')(h2:Unit->cs=cs')(h3:Unit->b=b') :
  akp P pr dr s k d Q f us caps cs b=akp P pr dr s k d Q f us' caps cs' b':=by rw[h1 (),h2 (),h3 ()]
def aOy(P:Program)(pr:Pr)(dr:Bool)(s:S)(k:Nat)(d:Option Nat)(Q:Option X->S->Prop){us us':List X}{cs cs':Option (List C)}{x x':X}(h1:Unit->us=us')(h2:Unit->cs=cs')(h3:Unit->x=x') :
  aiy P pr dr s k d Q us cs x=aiy P pr dr s k d Q us' cs' x':=by rw[h1 (),h2 (),h3 ()]
def aIa(P:Program)(pr:Pr)(s:S)(k:Nat)(d:Option Nat)(Q:Option X->S->Prop)(f:Nat)(caps:List C){cs cs':Option (List C)}(h:Unit->cs=cs'):ami P pr s k d Q f caps cs=ami P pr s k d Q f caps cs':=by rw[h ()]
def aMp(P:Program)(pr:Pr)(s:S)(k:Nat)(d:Option Nat)(Q:Option X->S->Prop)(f:Nat){us us':List X}{refs refs':List Nat}{ts ts':List Tk}(h1:Unit->us=us')(h2:Unit->refs=refs')(h3:Unit->ts=ts') :
  aie P pr s k d Q f us refs ts=aie P pr s k d Q f us' refs' ts':=by rw[h1 (),h2 (),h3 ()]
def aMo(P:Program)(pr:Pr)(s:S)(k:Nat)(d:Option Nat)(refs:List Nat)(ts:List Tk)(Q:Option X->S->Prop)(f:Nat)(us:List X){obs obs':Option (List Ob)}(h1:Unit->obs=obs') :
  arS P pr s k d refs ts Q f us obs=arS P pr s k d refs ts Q f us obs':=by rw[h1 ()]
def aTV(Q:Option X->S->Prop)(s:S){c c':Option C}(h:Unit->c=c'):atG Q s c=atG Q s c':=by rw[h ()]
attribute [congr] aJn aOp aTY aT0 aPa aOA aOy aIa aMp aMo aTV
section
variable (P:Program) (T:TT) (t:Nat) (u:Option TypeDesc) (k:IntKind) (a b:Int)
theorem Z1r:fE P T t u .lss (.of (.lit (.int k a))) (.of (.lit (.int k b)))=out (aL (decide (a<b))):=by simp[fE,fN,acl,afw,bJ,out]
theorem Z1q:fE P T t u .leq (.of (.lit (.int k a))) (.of (.lit (.int k b)))=out (aL (decide (a<=b))):=by simp[fE,fN,acl,afw,bJ,out]
theorem Z1p:fE P T t u .gtr (.of (.lit (.int k a))) (.of (.lit (.int k b)))=out (aL (decide (b<a))):=by simp[fE,fN,acl,afw,bJ,out]
theorem Z1o:fE P T t u .geq (.of (.lit (.int k a))) (.of (.lit (.int k b)))=out (aL (decide (b<=a))):=by simp[fE,fN,acl,afw,bJ,out]
theorem Z1n:fE P T t u .eql (.of (.lit (.int k a))) (.of (.lit (.int k b)))=out (aL (decide (a=b))):=by simp[fE,fN,acl,afw,bJ,out]
theorem Z1t:fE P T t u .neq (.of (.lit (.int k a))) (.of (.lit (.int k b)))=out (aL (!decide (a=b))):=by simp[fE,fN,acl,afw,bJ,out]
theorem Z1k:fE P T t u .add (.of (.lit (.int k a))) (.of (.lit (.int k b)))=out (.of (.lit (.int k (k.wrap (a+b))))):=by simp[fE,fN,acl,afw,bJ,out]
theorem Z1x:fE P T t u .sub (.of (.lit (.int k a))) (.of (.lit (.int k b)))=out (.of (.lit (.int k (k.wrap (a-b))))):=by simp[fE,fN,acl,afw,bJ,out]
theorem Z1s:fE P T t u .mul (.of (.lit (.int k a))) (.of (.lit (.int k b)))=out (.of (.lit (.int k (k.wrap (a*b))))):=by simp[fE,fN,acl,afw,bJ,out]
theorem Z1v(x y:ByteArray):fE P T t u .eql (.of (.lit (.string x))) (.of (.lit (.string y)))=out (aL (decide (x=y))):=by simp[fE,fN,acl,aoU,bJ,out]
theorem Z1w(x y:ByteArray):fE P T t u .neq (.of (.lit (.string x))) (.of (.lit (.string y)))=out (aL (!decide (x=y))):=by simp[fE,fN,acl,aoU,bJ,out]
theorem Z1u(x y:ByteArray):fE P T t u .add (.of (.lit (.string x))) (.of (.lit (.string y)))=if x.size+y.size<=aj1 then out (af4 (x++y)) else none:=by
 simp only[fE,fN,acl,aoU]
 split <;> rfl
theorem Z1l(x y:Bool):fE P T t (some .bool) .eql (.of (.lit (.bool x))) (.of (.lit (.bool y)))=out (aL (x == y)):=by simp[fE,fN,acl,apN,amA,bJ,out]
theorem Z1m(x y:Bool):fE P T t (some .bool) .neq (.of (.lit (.bool x))) (.of (.lit (.bool y)))=out (aL (!(x == y))):=by simp[fE,fN,acl,apN,amA,bJ,out]
theorem Z9n(b:Bool):unX .not (.of (.lit (.bool b)))=out (aL (!b)):=rfl
end
def Z4h(b:Bool):adF (.of (.lit (.bool b)))=some b:=rfl
def Z4i(n:Int):aaM (.of (.lit (.int .i64 n)))=some n:=rfl
def aZn(m n:Int):aqF (.of (.lit (.int .i64 m))) (.of (.lit (.int .i64 n)))=out (aQ (if m<n then n else m)):=rfl
def Z4p(m n:Int):aqE (.of (.lit (.int .i64 m))) (.of (.lit (.int .i64 n)))=out (aQ (if n<m then n else m)):=rfl
def Z4j(v:Value):fN (.of (.lit v))=some v:=rfl
def Z6q(s:S)(x y:Operand)(b:Bool):aEt s x y (some b)=out (if b=true then s.ev x else s.ev y):=rfl
def Z4f(s:ByteArray):aah (some .string) (.of (.lit (.string s)))=out (aQ s.size):=rfl
def Z4d(e:Nat)(t:Tk)(e' z:Nat)(cs:List C)(n:Nat):aah (some (.slice e)) (.own t e' z cs n)=out (aQ n):=rfl
def Z4c(e:Nat):aah (some (.slice e)) .nil=out (aQ 0):=rfl
def Z6e(s:S)(d:Option Nat)(af:Array Edge)(K:S->Prop)(c:Prop)[Decidable c](v:Out):abd s d af K (if c then v else none)↔c/\abd s d af K v:=by
 split
 .simp[*]
 .simp[*,abd]
def Z1b(t:Tk)(e z:Nat)(cs:List C)(n:Nat):aaY (.own t e z cs n)=some (cs,n):=rfl
def Z72(c:C):X.rd (.of c)=some c:=rfl
def Z73(t:Tk)(e z:Nat)(cs:List C)(n:Nat):X.rd (.own t e z cs n)=some (.sl cs n):=rfl
def Z71:X.rd .nil=some (.sl [] 0):=rfl
def Z70(f:Operand->X):abF f []=some []:=rfl
def awQ(c:Option C)(cs:Option (List C)):Option (List C):=match c,cs with
 | some c,some cs=>some (c::cs)
 | _,_=>none
def Z6z(f:Operand->X)(x:Operand)(r:List Operand):abF f (x::r)=awQ (f x).rd (abF f r):=by
 simp only[abF,awQ]
 cases (f x).rd <;> cases abF f r <;> rfl
def Z2u(c:C)(cs:List C):awQ (some c) (some cs)=some (c::cs):=rfl
def Z26(P:Program)(pr:Pr)(dr:Bool)(s:S)(k:Nat)(d:Option Nat)(Q:Option X->S->Prop)(f:Nat)(us:List X)(caps:List C)(cs:Option (List C)):akp P pr dr s k d Q f us caps cs false↔ami P pr s k d Q f caps cs:=bg
def Z27(P:Program)(pr:Pr)(dr:Bool)(s:S)(k:Nat)(d:Option Nat)(Q:Option X->S->Prop)(f:Nat)(us:List X)(caps:List C)(cs:Option (List C)):akp P pr dr s k d Q f us caps cs true↔dr=false/\aie P pr s k d Q f us (dW s.objs 999 (X.refsL us) []) (ahe (pr.tk f) us):=bg
def Z29(P:Program)(pr:Pr)(dr:Bool)(s:S)(k:Nat)(d:Option Nat)(Q:Option X->S->Prop)(args:List X)(cs:Option (List C))(f:Nat)(caps:List C):aiy P pr dr s k d Q args cs (.of (.fn f caps))↔akp P pr dr s k d Q f (args++caps.map .of) caps cs (pr.obj f):=bg
def Z28(P:Program)(pr:Pr)(dr:Bool)(s:S)(k:Nat)(d:Option Nat)(Q:Option X->S->Prop)(args:List X)(cs:Option (List C))(f:Nat)(caps:List X):aiy P pr dr s k d Q args cs (.clo f caps)↔pr.obj (aiw f)=true/\dr=false/\aie P pr s k d Q (aiw f) (akZ f caps args) (dW s.objs 999 (X.refsL (akZ f caps args)) []) (ahe (pr.tk (aiw f)) (akZ f caps args)):=bg
def aUg(r o:Nat):aZi (.ptr r o)=out (.ptr r o):=rfl
def aVM(f:Nat):aiw f=f / 2:=rfl
def aVN(f:Nat)(caps args:List X):akZ f caps args=if f % 2=0 then args++caps else caps++args:=rfl
def aOx(r o:Nat):ahC (.ptr r o)=some (.ptr r o):=rfl
def azl:Option X->Option (List X)->Option (List X)
 | some y,some r=>some (y::r)
 | _,_=>none
def aJ1:acT []=some []:=rfl
def aGm(x:X)(l:List X):acT (x::l)=azl (ahC x) (acT l):=by
 simp only[acT,azl]
 cases ahC x <;> cases acT l <;> rfl
def aBd(y:X)(r:List X):azl (some y) (some r)=some (y::r):=rfl
def aJU(f:Nat)(xs:List X):anM f (some xs)=out (.clo f xs):=rfl
def aX7(r o:Nat):X.rd (.ptr r o)=none:=rfl
def aF2(cs:Option (List C)):awQ none cs=none:=rfl
def Z6s(P:Program)(pr:Pr)(s:S)(k:Nat)(d:Option Nat)(Q:Option X->S->Prop)(f:Nat)(caps cs:List C):ami P pr s k d Q f caps (some cs)↔ew P f=true/\abl P pr f ((cs++caps).map .of) [] (axZ s k d Q):=bg
def aqJ{α:Type}(v:α)(K:α->Prop):Prop:=K v
def aUs{α:Type}{v v':α}(K:α->Prop)(h:Unit->v=v'):aqJ v K=aqJ v' K:=by rw[h ()]
attribute [congr] aUs
def Z4g{α:Type}(v:α)(K:α->Prop):aqJ v K↔K v:=bg
def Z6r(s:S)(k:Nat)(d:Option Nat)(Q:Option X->S->Prop)(rs:List X):axZ s k d Q ⟨false,rs,[]⟩↔aqJ (afJ (aig s.clk k rs)) λx=>Q none (s.put d x):=bg
def Z5w(P:Program)(pr:Pr)(s:S)(k:Nat)(d:Option Nat)(Q:Option X->S->Prop)(f:Nat)(us:List X)(refs:List Nat)(ts:List Tk):aie P pr s k d Q f us refs ts↔arS P pr s k d refs ts Q f us (akJ (agF s.objs refs) (aaB (pos refs) (fM refs ts) (afv ts s.objs) refs)):=bg
def Z5x(P:Program)(pr:Pr)(s:S)(k:Nat)(d:Option Nat)(refs:List Nat)(ts:List Tk)(Q:Option X->S->Prop)(f:Nat)(us:List X)(obs:List Ob):arS P pr s k d refs ts Q f us (some obs)↔ew P f=true/\abl P pr f (X.trs (pos refs) (fM refs ts) us) obs (alJ s k d refs ts Q):=bg
def S.bfr(s:S)(refs:List Nat)(ts:List Tk):S:={s with fr:=λj=>(s.fr j).tr some (cz refs ts)}
def S.withO(s:S)(objs:List Ob):S:={s with objs:=objs}
def aGB(refs:List Nat)(ts:List Tk)(clk k:Nat)(objs obs:List Ob):List Ob:=aay (λi=>some (ct refs objs.length i)) (cN refs objs.length clk k) (objs.map (Ob.tr some (cz refs ts))) refs obs++(obs.drop refs.length).map (Ob.tr (λi=>some (ct refs objs.length i)) (cN refs objs.length clk k))
def Z1e(refs:List Nat)(ts:List Tk)(clk k:Nat)(objs obs:List Ob):aGB refs ts clk k objs obs=aay (λi=>some (ct refs objs.length i)) (cN refs objs.length clk k) (objs.map (Ob.tr some (cz refs ts))) refs obs++(obs.drop refs.length).map (Ob.tr (λi=>some (ct refs objs.length i)) (cN refs objs.length clk k)):=rfl
def Z1f(s:S)(k:Nat)(d:Option Nat)(refs:List Nat)(ts:List Tk)(Q:Option X->S->Prop)(rs:List X)(obs:List Ob)(h:refs.length<=obs.length) :
  alJ s k d refs ts Q ⟨false,rs,obs⟩↔aqJ (aGB refs ts s.clk k s.objs obs) λo=>aqJ (afJ (X.trs (λi=>some (ct refs s.objs.length i)) (cN refs s.objs.length s.clk k) rs)) λx=>Q none (((s.bfr refs ts).withO o).put d x):=by
 unfold alJ af3
 rw[am h]
 rfl
def Z1g(s:S)(k:Nat)(d:Option Nat)(refs:List Nat)(ts:List Tk)(Q:Option X->S->Prop)(x:X)(obs:List Ob)(h:refs.length<=obs.length) :
  alJ s k d refs ts Q ⟨true,[x],obs⟩↔aqJ (aGB refs ts s.clk k s.objs obs) λo=>Q (some (x.tr (λi=>some (ct refs s.objs.length i)) (cN refs s.objs.length s.clk k))) ((s.bfr refs ts).withO o):=by
 unfold alJ af3
 rw[am h]
 rfl
def Z1i(s:S)(refs:List Nat)(ts:List Tk)(j:Nat):(s.bfr refs ts).fr j=(s.fr j).tr some (cz refs ts):=rfl
def Z1h(s:S)(refs:List Nat)(ts:List Tk):(s.bfr refs ts).clk=s.clk:=rfl
section
variable (σ:Nat->Option Nat) (ρ:Tk->Option Tk)
theorem Z9g(c:C):(X.of c).tr σ ρ=.of c:=rfl
theorem Z9f:X.nil.tr σ ρ=.nil:=rfl
theorem Z9c(xs:List X):(X.agg xs).tr σ ρ=.agg (X.trs σ ρ xs):=rfl
theorem Z9d(f:Nat)(xs:List X):(X.clo f xs).tr σ ρ=.clo f (X.trs σ ρ xs):=rfl
def trP(off:Nat):Option Nat->X
 | some r=>.ptr r off
 | none=>.of .any
def trM:Option Nat->X
 | some r=>.mp r
 | none=>.of .any
def trO(e z:Nat)(cs:List C)(n:Nat):Option Tk->X
 | some t=>.own t e z cs n
 | none=>.of (.sl cs n)
theorem Z9i(r off:Nat):(X.ptr r off).tr σ ρ=trP off (σ r):=by simp only[X.tr,trP];cases σ r <;> rfl
theorem Z9e(r:Nat):(X.mp r).tr σ ρ=trM (σ r):=by simp only[X.tr,trM];cases σ r <;> rfl
theorem Z9h(t:Tk)(e z:Nat)(cs:List C)(n:Nat):(X.own t e z cs n).tr σ ρ=trO e z cs n (ρ t):=by simp only[X.tr,trO];cases ρ t <;> rfl
theorem Z9l:X.trs σ ρ []=[]:=rfl
theorem Z9k(x:X)(xs:List X):X.trs σ ρ (x::xs)=x.tr σ ρ::X.trs σ ρ xs:=rfl
theorem Z61(ty:Nat)(xs:List X):(Ob.var ty xs).tr σ ρ=.var ty (X.trs σ ρ xs):=rfl
theorem Z60(es:List (Value×C)):(Ob.map es).tr σ ρ=.map es:=rfl
end
def Z9b(off r:Nat):trP off (some r)=.ptr r off:=rfl
def Z98(r:Nat):trM (some r)=.mp r:=rfl
def Z9a(e z:Nat)(cs:List C)(n:Nat)(t:Tk):trO e z cs n (some t)=.own t e z cs n:=rfl
def Z99(e z:Nat)(cs:List C)(n:Nat):trO e z cs n none=.of (.sl cs n):=rfl
def Z5i(c k:Nat):aig c k []=[]:=rfl
def Z5h(c k:Nat)(x:X)(xs:List X):aig c k (x::xs)=x.tr (λ_=>none) (adL c k)::aig c k xs:=rfl
def Z6u{α:Type}[DecidableEq α](a:α):pos [] a=none:=rfl
def Z6t{α:Type}[DecidableEq α](b:α)(l:List α)(a:α):pos (b::l) a=if b=a then some 0 else (pos l a).map (·+1):=rfl
def aX2(refs:List Nat):Tk->Option Tk
 | .cell r off=>(pos refs r).map λr'=>.cell r' off
 | .nm ..=>none
def aEi(refs:List Nat)(t:Tk):Option Nat->Option Tk
 | some i=>some (.nm 0 0 i)
 | none=>aX2 refs t
def Z7n(refs:List Nat)(ts:List Tk)(t:Tk):fM refs ts t=aEi refs t (pos ts t):=by
 unfold fM aEi aX2
 cases pos ts t <;> rfl
def Z7o(refs:List Nat)(r off:Nat):aEi refs (.cell r off) none=(pos refs r).map λr'=>.cell r' off:=rfl
def Z7p(refs:List Nat)(a b c:Nat):aEi refs (.nm a b c) none=none:=rfl
def Z44(refs:List Nat)(ts:List Tk)(r off:Nat):cz refs ts (.cell r off)=if Tk.cell r off∈ts then none else if r∈refs then none else some (.cell r off):=rfl
def Z45(refs:List Nat)(ts:List Tk)(a b c:Nat):cz refs ts (.nm a b c)=if Tk.nm a b c∈ts then none else some (.nm a b c):=rfl
def Z7w(r:Nat)(refs:List Nat)(L:Nat):ct (r::refs) L 0=r:=rfl
def Z7u(L i:Nat):ct [] L i=L+i:=rfl
def Z7v(r:Nat)(refs:List Nat)(L i:Nat):ct (r::refs) L (i+1)=ct refs L i:=by
 simp only[ct,eY,aN]
 cases refs[i]? with
 | some r=>rfl
 | none=>simp only;congr 1;omega
def Z7l(refs:List Nat)(L c k r off:Nat):cN refs L c k (.cell r off)=some (.cell (ct refs L r) off):=rfl
def Z2z(objs:List Ob):afv [] objs=objs:=rfl
def azm:Option Ob->Option (List Ob)->Option (List Ob)
 | some a,some b=>some (a::b)
 | _,_=>none
def Z6p(σ:Nat->Option Nat)(ρ:Tk->Option Tk)(objs:List Ob):aaB σ ρ objs []=some []:=rfl
def Z6o(σ:Nat->Option Nat)(ρ:Tk->Option Tk)(objs:List Ob)(r:Nat)(l:List Nat):aaB σ ρ objs (r::l)=azm ((objs[r]?).map (Ob.tr σ ρ)) (aaB σ ρ objs l):=by
 simp only[aaB,azm]
 cases objs[r]? <;> cases aaB σ ρ objs l <;> rfl
def Z2v(a:Ob)(b:List Ob):azm (some a) (some b)=some (a::b):=rfl
def Z7t(σ:Nat->Option Nat)(ρ:Tk->Option Tk)(objs obs:List Ob):aay σ ρ objs [] obs=objs:=by cases obs <;> rfl
def Z7s(σ:Nat->Option Nat)(ρ:Tk->Option Tk)(objs:List Ob)(r:Nat)(l:List Nat)(ob:Ob)(q:List Ob):aay σ ρ objs (r::l) (ob::q)=aay σ ρ (objs.set r (ob.tr σ ρ)) l q:=rfl
def Z75(objs:List Ob)(n:Nat)(seen:List Nat):dW objs n [] seen=seen:=by cases n <;> rfl
def Z74(objs:List Ob)(n r:Nat)(todo seen:List Nat):dW objs (n+1) (r::todo) seen=if r∈seen then dW objs n todo seen else dW objs n (((objs[r]?).map Ob.refs).getD []++todo) (seen++[r]):=rfl
def Z7c(c:C):(X.of c).refs=[]:=rfl
def Z7b:X.nil.refs=[]:=rfl
def Z7d(t:Tk)(e z:Nat)(cs:List C)(n:Nat):(X.own t e z cs n).refs=[]:=rfl
def Z7e(r o:Nat):(X.ptr r o).refs=[r]:=rfl
def Z7a(r:Nat):(X.mp r).refs=[r]:=rfl
def Z79(f:Nat)(xs:List X):(X.clo f xs).refs=X.refsL xs:=rfl
def Z78(xs:List X):(X.agg xs).refs=X.refsL xs:=rfl
def Z77:X.refsL []=[]:=rfl
def Z76(x:X)(xs:List X):X.refsL (x::xs)=x.refs++X.refsL xs:=rfl
def Z5z(ty:Nat)(xs:List X):(Ob.var ty xs).refs=X.refsL xs:=rfl
def Z5y(es:List (Value×C)):(Ob.map es).refs=[]:=rfl
def Z94(c:C):(X.of c).toks=[]:=rfl
def Z92(r:Nat):(X.mp r).toks=[]:=rfl
def Z8z:X.toksL []=[]:=rfl
def Z8y(x:X)(xs:List X):X.toksL (x::xs)=x.toks++X.toksL xs:=rfl
def Z8w(us:List X):ahe false us=[]:=rfl
def Z5v{α:Type}[DecidableEq α](seen:List α):nub [] seen=seen:=rfl
def Z6d(Q:S->Prop)(s:S):acb Q (some s)↔Q s:=bg
def Z15(s:S)(d:Option Nat)(ty:Nat)(xs:List X):asV s d ty (some xs)=some (amM s d ty xs):=rfl
def Z5p:acy []=true:=rfl
def Z5q(c:C)(xs:List X):acy (.of c::xs)=acy xs:=rfl
def Z5o(xs:List X):acy (.nil::xs)=acy xs:=rfl
def Z5r(t:Tk)(e z:Nat)(cs:List C)(n:Nat)(xs:List X):acy (.own t e z cs n::xs)=false:=rfl
def Z9p(s:S)(objs:List Ob)(j:Nat):(s.withO objs).fr j=s.fr j:=rfl
def Z9q(s:S)(objs:List Ob):(s.withO objs).objs=objs:=rfl
def Z9o(s:S)(objs:List Ob):(s.withO objs).clk=s.clk:=rfl
def Z8n(ρ:Tk->Option Tk)(s:S)(j:Nat):(s.tr ρ).fr j=(s.fr j).tr some ρ:=rfl
def Z8o(ρ:Tk->Option Tk)(s:S):(s.tr ρ).objs=s.objs.map (Ob.tr some ρ):=rfl
def Z8m(ρ:Tk->Option Tk)(s:S):(s.tr ρ).clk=s.clk:=rfl
def aqL(r off:Nat)(xs:List X)(s:S):Bool->S
 | true=>s
 | false=>s.tr (aaL r off xs.length (dU r off xs))
def Z16(s:S)(d:Option Nat)(ty:Nat)(xs:List X):amM s d ty xs=(aqL s.objs.length 0 xs (s.withO (s.objs++[Ob.var ty xs])) (acy xs)).put d (.ptr s.objs.length 0):=by
 unfold amM aqK aqL S.withO
 cases acy xs <;> simp[acy]
def arB(s:S)(d:Option Nat)(n r off:Nat)(xs:List X):Option Ob->Option S
 | some (.var ty ys)=>if xs.length=n/\off+xs.length<=ys.length then some ((aqL r off xs (s.withO (s.objs.set r (Ob.var ty (ys.take off++xs++ys.drop (off+xs.length))))) (acy xs&&acy ((ys.drop off).take xs.length))).put d (.of .undef)) else none
 | _=>none
def Z8k(s:S)(d:Option Nat)(td:TD)(r off:Nat)(xs:List X):aoc s d (some td) (.ptr r off) (some xs)=arB s d td.size r off xs (s.objs[r]?):=by
 simp only[aoc,af9,arB]
 cases s.objs[r]? with
 | none=>rfl
 | some ob =>
  cases ob with
  | map es=>rfl
  | row ty cs=>rfl
  | var ty ys =>
   simp only
   split
   .simp only[ab]
    unfold aqK aqL S.withO
    cases acy xs <;> cases acy ((ys.drop off).take xs.length) <;> rfl
   .rfl
def Z47(r off:Nat)(xs:List X)(s:S):aqL r off xs s true=s:=rfl
def Z46(r off:Nat)(xs:List X)(s:S):aqL r off xs s false=s.tr (aaL r off xs.length (dU r off xs)):=rfl
def awH(r off n:Nat)(t:Tk):Option Tk->Option Tk
 | some t'=>some t'
 | none=>match t with
  | .cell r' o'=>if r'=r/\off<=o'/\o'<off+n then none else some t
  | .nm ..=>some t
def Z5f(r off n:Nat)(mv:List (Tk×Tk))(t:Tk):aaL r off n mv t=awH r off n t (acU mv t):=by
 unfold aaL awH
 cases acU mv t <;> rfl
def Z5e(r off n:Nat)(t t':Tk):awH r off n t (some t')=some t':=rfl
def Z5c(r off n r' o':Nat):awH r off n (.cell r' o') none=if r'=r/\off<=o'/\o'<off+n then none else some (.cell r' o'):=rfl
def Z1d(t:Tk):acU [] t=none:=rfl
def Z1c(a b:Tk)(l:List (Tk×Tk))(t:Tk):acU ((a,b)::l) t=if a=t then some b else acU l t:=rfl
def Z2d(r off:Nat):dU r off []=[]:=rfl
def Z2f(r off:Nat)(t:Tk)(e z:Nat)(cs:List C)(n:Nat)(xs:List X):dU r off (.own t e z cs n::xs)=(t,.cell r off)::dU r (off+1) xs:=rfl
def Z2e(r off:Nat)(c:C)(xs:List X):dU r off (.of c::xs)=dU r (off+1) xs:=rfl
def Z2c(r off:Nat)(xs:List X):dU r off (.nil::xs)=dU r (off+1) xs:=rfl
def aZl{b b':Bool}(p q:Prop)(h:Unit->b=b'):mtQ b p q=mtQ b' p q:=by rw[h ()]
def aMA(p q:Prop):mtQ true p q↔p:=bg
def aIJ(p q:Prop):mtQ false p q↔q:=bg
def stQ(dr mt:Bool)(s:S)(j t:Nat)(af:Array Edge)(Q:S->Prop)(td:Option TD)(xs:Option (List X))(cs:Option (List C))(ax:X):Prop:=acb Q (stO dr mt s j t af td xs cs ax)
def aXJ(dr:Bool){mt mt':Bool}(s:S)(j t:Nat)(af:Array Edge)(Q:S->Prop){td td':Option TD}{xs xs':Option (List X)}{cs cs':Option (List C)}{ax ax':X}(h1:Unit->mt=mt')(h2:Unit->td=td')(h3:Unit->xs=xs')(h4:Unit->cs=cs')(h5:Unit->ax=ax') :
  stQ dr mt s j t af Q td xs cs ax=stQ dr mt' s j t af Q td' xs' cs' ax':=by rw[h1 (),h2 (),h3 (),h4 (),h5 ()]
def bai(P:Program)(pr:Pr)(dr:Bool)(k:Nat)(ty:Nat)(po:String)(af:Array Edge)(s:S)(Q:Option X->S->Prop)(t j:Nat)(x:Operand):SO P pr dr k ⟨none,.store t (.tmp j) x,ty,po,af,none⟩ s Q↔stQ dr (pr.mt po (some j)) s j t af (Q none) (TT.of P t) (cE (s.ev x)) (eA (s.ev x)) (s.fr j):=Zr dr k ty po af s Q t j x
def atn(s:S)(td:TD)(r off:Nat)(xs:List X)(Q:S->Prop)(o:Option Ob):Prop:=acb Q (arB s none td.size r off xs o)
def aS6(s:S)(td:TD)(r off:Nat)(xs:List X)(Q:S->Prop){o o':Option Ob}(h:Unit->o=o'):atn s td r off xs Q o=atn s td r off xs Q o':=by rw[h ()]
def aCn(s:S)(j t:Nat)(af:Array Edge)(Q:S->Prop)(td:TD)(cs:List C)(tk:Tk)(ty z:Nat):acb Q (axR s j t tk ty z af (some td) (some cs))↔(ty=t/\z=td.size/\cs.length=z/\aau s.clk af.toList (some tk)=true)/\Q ((s.drop (some tk)).put (some j) (.of (.ref cs))):=by
 unfold axR
 simp only
 split
 .rename_i h;simp only[acb];exact⟨λq=>⟨h,q⟩,λq=>q.2⟩
 .rename_i h;simp only[acb];exact⟨λq=>q.elim,λq=>h q.1⟩
def aTh(mt:Bool)(s:S)(j t:Nat)(af:Array Edge)(Q:S->Prop)(td:TD)(xs:Option (List X))(cs:List C)(tk:Tk)(ty z:Nat):stQ true mt s j t af Q (some td) xs (some cs) (.nw (some tk) ty z)↔(ty=t/\z=td.size/\cs.length=z/\aau s.clk af.toList (some tk)=true)/\Q ((s.drop (some tk)).put (some j) (.of (.ref cs))):=aCn s j t af Q td cs tk ty z
def aLg(s:S)(j t:Nat)(af:Array Edge)(Q:S->Prop)(td:TD)(xs:Option (List X))(cs:List C)(tk:Tk)(ty z:Nat):stQ false false s j t af Q (some td) xs (some cs) (.nw (some tk) ty z)↔(ty=t/\z=td.size/\cs.length=z/\aau s.clk af.toList (some tk)=true)/\Q ((s.drop (some tk)).put (some j) (.of (.ref cs))):=aCn s j t af Q td cs tk ty z
def aLh(s:S)(j t:Nat)(af:Array Edge)(Q:S->Prop)(td:TD)(xs:List X)(cs:Option (List C))(tk:Tk)(ty z:Nat):stQ false true s j t af Q (some td) (some xs) cs (.nw (some tk) ty z)↔(ty=t/\z=td.size/\xs.length=z/\aau s.clk af.toList (some tk)=true)/\Q (((s.drop (some tk)).withO ((s.drop (some tk)).objs++[Ob.var t (X.drops tk xs)])).put (some j) (.ptr (s.drop (some tk)).objs.length 0)):=by
 show acb Q (awI s j t tk ty z af (some td) (some xs))↔_
 unfold awI
 simp only
 split
 .rename_i h;simp only[acb];exact⟨λq=>⟨h,q⟩,λq=>q.2⟩
 .rename_i h;simp only[acb];exact⟨λq=>q.elim,λq=>h q.1⟩
def aTi(mt:Bool)(s:S)(j t:Nat)(af:Array Edge)(Q:S->Prop)(td:TD)(xs:List X)(cs:Option (List C))(r off:Nat):stQ false mt s j t af Q (some td) (some xs) cs (.ptr r off)↔atn s td r off xs Q (s.objs[r]?):=by
 unfold atn
 rw[← Z8k]
 exact bg
def aS7(s:S)(td:TD)(r off:Nat)(xs:List X)(Q:S->Prop)(ty:Nat)(ys:List X):atn s td r off xs Q (some (.var ty ys))↔(xs.length=td.size/\off+xs.length<=ys.length)/\Q ((aqL r off xs (s.withO (s.objs.set r (Ob.var ty (ys.take off++xs++ys.drop (off+xs.length))))) (acy xs&&acy ((ys.drop off).take xs.length))).put none (.of .undef)):=by
 unfold atn
 simp only[arB]
 split
 .rename_i h;simp only[acb];exact⟨λq=>⟨h,q⟩,λq=>q.2⟩
 .rename_i h;simp only[acb];exact⟨λq=>q.elim,λq=>h q.1⟩
def azH(s:S)(d:Option Nat)(Q:S->Prop)(td:Option TD)(cs:Option (List C)):Prop:=acb Q (aGv s d td cs)
def aWu(s:S)(d:Option Nat)(Q:S->Prop){td td':Option TD}{cs cs':Option (List C)}(h:Unit->td=td')(h':Unit->cs=cs'):azH s d Q td cs=azH s d Q td' cs':=by rw[h (),h' ()]
def baj(P:Program)(pr:Pr)(k:Nat)(d:Option Nat)(ty:Nat)(po:String)(af:Array Edge)(g:Option (Nat×Bool))(s:S)(Q:Option X->S->Prop)(t:Nat)(x:Operand):SO P pr false k ⟨d,.box t x,ty,po,af,g⟩ s Q↔mtQ (pr.mt po d) (acb (Q none) (asV s d t (aGw (TT.of P t) (cE (s.ev x))))) (azH s d (Q none) (TT.of P t) (eA (s.ev x))):=Z4 k d ty po af g s Q t x
def aWv(s:S)(d:Option Nat)(Q:S->Prop)(td:TD)(cs:List C):azH s d Q (some td) (some cs)↔(cs.length=td.size/\0<td.size)/\Q (s.put d (.of (.ref cs))):=by
 unfold azH aGv
 simp only
 split
 .rename_i h;simp only[acb];exact⟨λq=>⟨h,q⟩,λq=>q.2⟩
 .rename_i h;simp only[acb];exact⟨λq=>q.elim,λq=>h q.1⟩
def aZf(tk:Tk)(t:Nat)(td:TD):nwX tk t (some td)=if 0<td.size then out (.nw (some tk) t td.size) else none:=rfl
def aLq(cs:List C):eA (.of (.agg cs))=some cs:=by
 show ((some (cs.map X.of)).bind X.rds)=some cs
 rw[dh]
 induction cs with
 | nil=>rfl
 | cons c r ih=>rw[aU,X.rds,ih,X.rd]
def aTv(v:Value):eA (.of (.lit v))=some [.lit v]:=rfl
def aX6(f:Nat)(cs:List C):eA (.of (.fn f cs))=some [.fn f cs]:=rfl
def aTu:eA .nil=some [.sl [] 0]:=rfl
def aTt(t:Tk)(e z:Nat)(cs:List C)(n:Nat):eA (.own t e z cs n)=some [.sl cs n]:=rfl
def aTw(xs:List X):eA (.agg xs)=X.rds xs:=rfl
def aTr:X.rds []=some []:=rfl
def aF0(x:Option C)(l:Option (List C)):Option (List C):=match x,l with
 | some c,some cs=>some (c::cs)
 | _,_=>none
def aLp(x:X)(r:List X):X.rds (x::r)=aF0 x.rd (X.rds r):=by
 unfold aF0
 rw[X.rds]
 cases x.rd <;> cases X.rds r <;> rfl
def aFZ(c:C)(cs:List C):aF0 (some c) (some cs)=some (c::cs):=rfl
def aX8(xs:List X):X.rd (.agg xs)=(X.rds xs).map .agg:=by rw[X.rd]
def aOf(t:Tk)(o:Option Tk)(ty z:Nat):(X.nw o ty z).drop t=.nw (agK t o) ty z:=by rw[X.drop]
def aFS(t t':Tk):agK t (some t')=if t'=t then none else some t':=rfl
def aJF(t:Tk):X.drops t []=[]:=by rw[X.drops]
def aFN(t:Tk)(x:X)(r:List X):X.drops t (x::r)=x.drop t::X.drops t r:=by rw[X.drops]
def axG:∀ t,cU (.alloc t)=false:=λ_=>rfl
def avO:List.map afT []=[]:=rfl
def atQ(x:X)(r:List X):List.map afT (x::r)=afT x::List.map afT r:=rfl
attribute [congr] aZl aXJ aS6 aWu aUM aXk
def aFY(x:Option X)(l:Option (List X)):Option (List X):=match x,l with
 | some x,some l=>some (x::l)
 | _,_=>none
def Z7j(T:TT)(s:S):acw T s []=some []:=rfl
def Z7k(T:TT)(s:S)(t:Nat)(r:List ResultVar):acw T s (.tmp t::r)=(acw T s r).map (s.fr t::·):=rfl
def Z7i(T:TT)(s:S)(a t:Nat)(r:List ResultVar):acw T s (.cell a t::r)=aFY ((abI T s.objs t (s.fr a)).map (·.1)) (acw T s r):=by
 simp only[acw,aFY]
 cases abI T s.objs t (s.fr a) with
 | none=>rfl
 | some p=>cases acw T s r <;> rfl
def Z2x(x:X)(l:List X):aFY (some x) (some l)=some (x::l):=rfl
def ar5(refs:List Nat)(rs:List X):List Tk:=(nub (X.toksL rs) []).filter λt=>match t with
  | .nm ..=>true
  | .cell r _=>!decide (r∈refs)
def ayA(refs:List Nat)(ts:List Tk)(pan:Bool)(rs:List X)(objs:List Ob):Option An:=(aaB (pos refs) (fM refs ts) objs refs).map λobs=>⟨pan,X.trs (pos refs) (fM refs ts) rs,obs⟩
def aI2(refs:List Nat)(pan:Bool)(rs:List X)(objs:List Ob):Option An:=ayA refs (ar5 refs rs) pan rs objs
def Z4b(m:Nat)(pan:Bool)(rs:List X)(objs:List Ob):aeb m pan rs objs=aI2 (dW objs 999 (X.refsL rs++((objs.take m).map Ob.refs).flatten) (List.range m)) pan rs objs:=rfl
def Z48(refs:List Nat)(pan:Bool)(rs:List X)(objs:List Ob):aI2 refs pan rs objs=ayA refs (ar5 refs rs) pan rs objs:=rfl
def Z49(refs:List Nat)(ts:List Tk)(pan:Bool)(rs:List X)(objs:List Ob):ayA refs ts pan rs objs=(aaB (pos refs) (fM refs ts) objs refs).map λobs=>⟨pan,X.trs (pos refs) (fM refs ts) rs,obs⟩:=rfl
def akj(refs:List Nat):List Tk->List Tk
 | []=>[]
 | .nm a b c::l=>.nm a b c::akj refs l
 | .cell r o::l=>if r∈refs then akj refs l else .cell r o::akj refs l
def Z4a(refs:List Nat)(rs:List X):ar5 refs rs=akj refs (nub (X.toksL rs) []):=by
 unfold ar5
 generalize nub (X.toksL rs) []=l
 induction l with
 | nil=>rfl
 | cons t l ih =>
  cases t with
  | nm a b c=>rw[List.filter_cons_of_pos (by rfl),ih];rfl
  | cell r o =>
   simp only[akj]
   split
   .rename_i h;rw[List.filter_cons_of_neg (by simp[h]),ih]
   .rename_i h;rw[List.filter_cons_of_pos (by simp[h]),ih]
def Z3o(refs:List Nat):akj refs []=[]:=rfl
theorem Z3q:∀ l:List Tk,akj [] l=l
 | []=>rfl
 | .nm a b c::l=>by simp[akj,Z3q l]
 | .cell r o::l=>by simp[akj,Z3q l]
def Z1z(i:Nat):Region.binds .any ⟨i,.data⟩=true:=rfl
def Z1y(i:Nat):Region.binds .any ⟨i,.chain⟩=true:=rfl
def Z21(i:Nat):Region.binds .any ⟨i,.phase⟩=true:=rfl
def Z6b(x:X):afJ [x]=x:=rfl
def Z6a:afJ []=.tup []:=rfl
def Z6c(x y:X)(r:List X):afJ (x::y::r)=.tup (x::y::r):=rfl
def Z3j(xs:List X)(i:Nat):anG i (.tup xs)=bJ (xs[i]?):=rfl
def Z3d(P:Program)(b:Bool)(f m:Nat)(an:An)(s:S):endQ P b f m an .normal s↔((acw (TT.of P) s (ac3 P f)).bind λrs=>aeb m false (agN b rs) s.objs)=some an:=bg
def Z3f(P:Program)(b:Bool)(f m:Nat)(an:An)(s:S):endQ P b f m an .ret s↔((acw (TT.of P) s (ac3 P f)).bind λrs=>aeb m false (agN b rs) s.objs)=some an:=bg
def Z3e(P:Program)(b:Bool)(f m:Nat)(an:An)(x:X)(s:S):endQ P b f m an (.pan x) s↔aeb m true [x] s.objs=some an:=bg
def Z5t(p:Prop)[Decidable p]:((!decide p)=true)=¬ p:=by simp
def at8(s:ByteArray)(k:Nat):Nat:=(s.data.toList.getD k 0).toNat
def aJh{T:TT}{t:Nat}(hT:(T t).map (·.und)=some .string)(s:ByteArray)(n:Int):agm T t (.of (.lit (.string s))) (.of (.lit (.int .i64 n)))=if 0<=n/\n.toNat<s.size then out (.of (.lit (.int .u8 (at8 s n.toNat)))) else none:=by
 have hs:agk ((T t).map (·.und))=true:=by rw[hT];rfl
 simp only[agm,aaM]
 by_cases h:0<=n/\n.toNat<s.size
 .rw[ajf ⟨hs,h.1,h.2⟩,am h]
  congr 5
  unfold at8
  have:s.data.toList.getD n.toNat 0=s[n.toNat]:=by
   rw[aY]
   have hl:n.toNat<s.data.toList.length:=by simpa using h.2
   rw[aM hl]
   rfl
  rw[this]
 .rw[aj h,dif_neg (λg=>h g.2)]
def adP{T:TT}{t e:Nat}{d:TD}(h:elemOf T t=some (e,d))(cs:List C)(n:Nat)(i:Int)(x:X)(hx:aaY x=some (cs,n)):bP T t x (.of (.lit (.int .i64 i)))=if 0<=i/\i<(n:Int)/\cs.length=n*d.size/\0<d.size then out (.of (.ref (cs.drop (i.toNat*d.size)))) else none:=by
 unfold elemOf at h
 split at h
 .rename_i e' _ _ _ _ _ hT
  simp only[ar,aX] at h
  obtain⟨d',hd,rfl,rfl⟩:=h
  simp only[bP,aaM,hT,hd,hx]
 .cases h
def d9(n:Int)(h1:-9223372036854775808<=n)(h2:n<=9223372036854775807):IntKind.i64.wrap n=n:=IntWalk.i64_in n ⟨h1,h2⟩
def aBb{T:TT}{a b:Nat}{d:TD}{k:IntKind}(ha:T a=some d)(hb:(T b).map (·.und)=some (.int k))(k':IntKind)(n:Int):adU T a b (.of (.lit (.int k' n)))=out (.of (.lit (.int k (k.wrap n)))):=by
 simp only[adU,adf,ha,hb]
def a7k(T:TT)(t off:Nat):List C->Option X
 | []=>none
 | c::cs=>(bm T t ((c::cs).drop off)).map .of
def ant(T:TT)(t off:Nat):Option Ob->Option X
 | some (.var _ xs)=>bC T t (xs.drop off)
 | some (.row _ cs)=>a7k T t off cs
 | _=>none
def Z4l(T:TT)(objs:List Ob)(t r off:Nat):abI T objs t (.ptr r off)=bJ (ant T t off (objs[r]?)):=by
 simp only[abI,ant]
 cases objs[r]? with
 | none=>rfl
 | some ob =>
  cases ob with
  | row ty cs=>cases cs <;> rfl
  | _=>rfl
def Z4k(T:TT)(t off ty:Nat)(xs:List X):ant T t off (some (.var ty xs))=bC T t (xs.drop off):=rfl
def Z6j(x:X):bJ (some x)=out x:=rfl
def Z4m(T:TT)(objs:List Ob)(t:Nat)(cs:List C):abI T objs t (.of (.ref cs))=bJ ((bm T t cs).map .of):=rfl
def aVL{T:TT}{a b e:Nat}(ha:agk ((T a).map (·.und))=true)(hb:(T b).map (·.und)=some (.slice e))(he:alB (T e)=true)(s:ByteArray):adU T a b (.of (.lit (.string s)))=out (.of (.sl (aeP s) s.size)):=by
 simp only[adU,hb,awP,ha,he,agW,au]
def Z39(t:Tk)(c:C):(X.of c).drop t=.of c:=rfl
def Z38(t:Tk):X.nil.drop t=.nil:=rfl
def Z3b(t:Tk)(r o:Nat):(X.ptr r o).drop t=.ptr r o:=rfl
def Z3a(t t':Tk)(e z:Nat)(cs:List C)(n:Nat):(X.own t' e z cs n).drop t=if t'=t then .of (.sl cs n) else .own t' e z cs n:=rfl
def Z34(t:Tk)(ty:Nat)(xs:List X):(Ob.var ty xs).drop t=.var ty (xs.map (X.drop t)):=by simp[Ob.drop,ack]
def Z33(t:Tk)(es:List (Value×C)):(Ob.map es).drop t=.map es:=rfl
def Old(clk:Nat)(t:Tk):Prop:=(t.older clk λ_=>False)/\t.isRow=false
def Z68(clk c ix i:Nat):Old clk (.nm c ix i)↔c<clk:=by simp[Old,Tk.older,Tk.isRow]
def aMi(clk r o:Nat):Old clk (.cell r o)↔(o == 1099511627776)=false:=by simp[Old,Tk.older,Tk.isRow]
def Z69{clk:Nat}{t:Tk}(h:Old clk t)(af:List Edge):aau clk af (some t)=true:=by
 cases t with
 | nm c ix i=>rw[Z68] at h;simp[aau,h]
 | cell r o=>rw[aMi] at h;simp[aau,h]
def Z7r(clk ix i:Nat)(af:List Edge):aau clk af (some (.nm clk ix i))=af.any λe=>Region.binds .any e&&e.on == ix:=by simp[aau]
def Z2s(s:S)(n:Nat):s.clk+n+1=s.clk+(n+1):=rfl
def Z6n(f:Operand->X):aad f []=some []:=rfl
def aF1(i:Nat)(l:Option (List X))(q:Option (List (Nat×List X))):Option (List (Nat×List X)):=match l,q with
 | some l,some q=>some ((i,l)::q)
 | _,_=>none
def Z6m(f:Operand->X)(i:Nat)(x:Operand)(r:List (Nat×Operand)):aad f ((i,x)::r)=aF1 i (cE (f x)) (aad f r):=by
 simp only[aad,aF1]
 cases cE (f x) <;> cases aad f r <;> rfl
def Z2w(i:Nat)(l:List X)(q:List (Nat×List X)):aF1 i (some l) (some q)=some ((i,l)::q):=rfl
theorem amV:∀ l:List UInt8,afy (l.map λb=>C.lit (.int .u8 b.toNat))=some l
 | []=>rfl
 | b::l=>by
  rw[aU,afy,amV l]
  simp
def avU{T:TT}{a b e:Nat}{sz by_:Nat}{ag:Bool}{ze:List Value}{fi:List (Nat×Nat)}(ha:T a=some ⟨.slice e,sz,by_,ag,ze,fi⟩)(hb:(T b).map (·.und)=some .string)(h8:alB (T e)=true)(tk:Tk)(z n:Nat)(l:List UInt8)(hn:l.length=n) :
  adU T a b (.own tk e z (l.map λb=>C.lit (.int .u8 b.toNat)) n)=out (af4 ⟨l.toArray⟩):=by
 simp only[adU,adf,ajm,ha,hb,aaY,h8,bR,hn,bM,au,amV,aG,bJ]
 rfl
def Z17{α:Type}{A:List α}{n:Nat}(h:A.length=n)(x:α):(A++[x])[n]?=some x:=by subst h;simp
def Z18{α:Type}{A:List α}{n:Nat}(h:A.length=n)(x y:α):(A++[x]).set n y=A++[y]:=by subst h;simp
def Z2m(v:Value):cE (.of (.lit v))=some [.of (.lit v)]:=rfl
def Z2o:cE .nil=some [.nil]:=rfl
def Z2p(t:Tk)(e z:Nat)(cs:List C)(n:Nat):cE (.own t e z cs n)=some [.own t e z cs n]:=rfl
def Z2h(xs:List X):cE (.agg xs)=some xs:=rfl
def Z2i(cs:List C):cE (.of (.agg cs))=some (cs.map .of):=rfl
def aFs(place:Nat->Option (Nat×Nat))(cells xs:List X)(r:List (Nat×List X)):Option (Nat×Nat)->Option (List X)
 | some (off,size)=>if xs.length=size/\off+size<=cells.length then aax place (cells.take off++xs++cells.drop (off+size)) r else none
 | none=>none
def Z3m(place:Nat->Option (Nat×Nat))(cells:List X):aax place cells []=some cells:=rfl
def Z3l(place:Nat->Option (Nat×Nat))(cells xs:List X)(i:Nat)(r:List (Nat×List X)):aax place cells ((i,xs)::r)=aFs place cells xs r (place i):=by
 simp only[aax,aFs]
 cases place i <;> rfl
def Z3k(place:Nat->Option (Nat×Nat))(cells xs:List X)(r:List (Nat×List X))(off size:Nat)(h:xs.length=size/\off+size<=cells.length):aFs place cells xs r (some (off,size))=aax place (cells.take off++xs++cells.drop (off+size)) r:=am h
def aBy(rs:List X):agN false rs=rs.map afT:=rfl
def aLa(c:C):afT (.of c)=.of c:=rfl
def aHw:afT .nil=.of (.sl [] 0):=rfl
def aHv(t:Tk)(e z:Nat)(cs:List C)(n:Nat):afT (.own t e z cs n)=.of (.sl cs n):=rfl
def aHx(xs:List X):afT (.agg xs)=arA (.agg xs) ((X.rds xs).map .agg):=by unfold afT;rw[X.rd]
def aD4(x:X)(c:C):arA x (some c)=.of c:=rfl
def aLb(r:Nat):afT (.mp r)=.mp r:=rfl
def zD:=ai (gh (gh @Zz @Zt @Zu @Zy @Z10 @Zv @Zw @Zx @Z12) (gh @Z11 @Z13 @Z14 @Zm @Z2 @Zp @Z3 @Zs @Zg) (gh @Zc @Zb @Ze @Zd @Zq @Z9 @Za @Zn @Zi) (gh @Z5 @Z6 @Zf @Z1 @Zl @a3c @Z7 @Z8 @Z0) (gh @Zh @Zk @Zj @Zo @Z6w @Z6y @Z6v @Z6x @Z8u) (gh @Z8v @Z8t @Z31 @Z32 @Z30 @Z1i @Z1h @Z9p @Z9q) (gh @Z9o @Z8n @Z8o @Z8m @Z3i @Z3g @Z3h @Z42 @Z43) (gh @Z41 @Z8q @Z8p @Z8s @Z8r @Z23 @Z22 @Z25 @Z24) (gh @Z7g @Z7h @Z5j @Z5k @Z3s @Z3t @Z70 @Z6z @Z1f)) (fU (fZ @Z1g @Z7k @Z7i @Z3d @Z3f @Z3e @aKG @bai) (fZ @baj @aWv @aTh @aLg @aLh @aTi @aS7 @aMA) (fX @aIJ @aXl @aK4 @aSZ @aM6 @aIP))
def zU:=fU (gh (gh @Z2m @Z2o @Z2p @Z2h @Z2i @Z3m @Z3l @Z3k @Z17) (gh @Z18 @Z39 @Z38 @Z3b @Z3a @Z34 @Z33 @Z2s @Z68) (gh @Z69 @Z7r @Z6n @Z6m @Z2w @Z4q @Z7y @Z7z @Z8i) (gh @Z84 @Z4v @Z56 @Z80 @Z8g @Z81 @Z8j @Z8b @Z53) (gh @Z88 @Z50 @Z82 @Z83 @Z4g @Z1e @Z63 @Z62 @Z67) (gh @Z65 @Z66 @Z64 @Z40 @Z3z @Z2t @Z3w @Z3r @Z3u) (gh @Z3v @Z6g @Z6f @Z6e @Z6i @Z1r @Z1q @Z1p @Z1o) (gh @Z1n @Z1t @Z1k @Z1x @Z1s @Z1v @Z1w @Z1l @Z1m) (gh @Z9n @Z4h @Z4i @Z4p @aZn @Z4j @Z6q @Z4f @Z4d)) (gh (gh @Z4c @Z1b @Z72 @Z73 @Z71 @Z2u @Z26 @Z27 @Z29) (gh @Z28 @Z6s @Z6r @Z5w @Z5x @Z9g @Z9f @Z9c @Z9d) (gh @Z9i @Z9e @Z9h @Z9l @Z9k @Z61 @Z60 @Z9b @Z98) (gh @Z9a @Z99 @Z5i @Z5h @Z6u @Z6t @Z7n @Z7o @Z7p) (gh @Z44 @Z45 @Z7w @Z7u @Z7v @Z7l @Z2z @Z6p @Z6o) (gh @Z2v @Z7t @Z7s @Z75 @Z74 @Z7c @Z7b @Z7d @Z7e) (gh @Z7a @Z79 @Z78 @Z77 @Z76 @Z5z @Z5y @Z94 @Z92) (gh @Z8z @Z8y @Z8w @Z5v @Z6d @Z15 @Z5p @Z5q @Z5o) (gh @Z5r @Z16 @Z8k @Z47 @Z46 @Z5f @Z5e @Z5c @Z1d)) (fZ (gh @Z1c @Z2d @Z2f @Z2e @Z2c @Z7j @Z2x @Z4b @Z48) (gh @Z49 @Z4a @Z3q @Z3o @Z1z @Z1y @Z21 @Z6b @Z6a) (gh @Z6c @Z3j @Z4m @Z4l @Z4k @Z6j @Z5t @aZf @aLq) (gh @aTv @aX6 @aTu @aTt @aTw @aTr @aLp @aFZ @aX8) (gh @aOf @aFS @aJF @aFN @axG @aBy @avO @atQ @aLa) (gh @aHw @aHv @aHx @aD4 @aLb @aT5 @aIm @aT4 @aMl) (gh @axG @aT6 @aMk @aT2 @ax7 @ax6 @aIl @aED @aT7) (fX @aMj @aK3 @aK2 @a2K @aOb @aOc))
def zD2:=ai @aKE @aPz
def zU2:=fU (gh @aPz @aSY @aXi @aUe @a5M @aIw @aUc @aMs @aUb) (gh @aUd @ayc @aMr @avN @aMt @aMq @aVM @aVN @aOx) (fY @aJ1 @aGm @aBd @aJU @aX7 @aF2 @aUg)
end Go.Pe
namespace Go.Proofs.YtghkmcffifpkeaaGreat
open Pe Tab
def byC(l:List UInt8):List C:=l.map λb=>.lit (.int .u8 b.toNat)
def aqi:List C->Option (List UInt8)
 | []=>some []
 | .lit (.int .u8 n)::r=>if n=(UInt8.ofNat n.toNat).toNat then (aqi r).map (UInt8.ofNat n.toNat::·) else none
 | _=>none
theorem axj:∀ l:List UInt8,aqi (byC l)=some l
 | []=>rfl
 | b::l=>by
  have h:=axj l
  simp only[byC,aU,aqi] at h ⊢
  rw[h]
  simp
theorem aBV:∀ (cs:List C) (l:List UInt8),aqi cs=some l->cs=byC l
 | [],l,h=>by simp only[aqi,ab] at h;subst h;rfl
 | c::cs,l,h=>by
  unfold aqi at h
  split at h
  .rename_i e;cases e
  .rename_i n r e
   cases e
   split at h
   .rename_i hn
    simp only[ar] at h
    obtain⟨l',h',rfl⟩:=h
    rw[aBV _ l' h']
    simp only[byC,aU]
    rw[← hn]
   .cases h
  .cases h
def asL(l:List UInt8):(byC l).length=l.length:=by simp[byC]
def asM(l q:List UInt8):byC (l++q)=byC l++byC q:=by simp[byC]
def str(l:List UInt8):ByteArray:=⟨l.toArray⟩
def bld(l:List UInt8):List X:=[.ptr 0 0,.own (.cell 0 1) 5 1 (byC l) l.length]
def alI:List Ob->Option (List UInt8)
 | [.var 245 [.of (.lit (.pointer none)),.nil]]=>some []
 | [.var 245 [.ptr 0 0,.own (.cell 0 1) 5 1 cs _]]=>aqi cs
 | _=>none
def ixP(xs:List X)(obs:List Ob):Option An:=match xs,obs with
 | [.of (.lit (.string s)),.of (.fn f [])],[]=>if f=202 then some ⟨false,[aQ (Lib.idxFunc aiQ true s)],[]⟩ else none
 | _,_=>none
def asG(xs:List X)(obs:List Ob):Option An:=match xs,obs with
 | [.of (.lit (.string s)),.of (.lit (.string sub))],[]=>if s.size<4294967281 then some ⟨false,[aL (Lib.contains s.data.toList sub.data.toList)],[]⟩ else none
 | _,_=>none
def wbP(xs:List X)(obs:List Ob):Option An:=match xs with
 | [.ptr 0 0,.of (.lit (.int .u8 n))]=>(alI obs).bind λl=>if l.length+1<=LIM/\0<=n/\n<256 then some ⟨false,[.of (.lit .nilIface)],[.var 245 (bld (l++[UInt8.ofNat n.toNat]))]⟩ else none
 | _=>none
def bsP(xs:List X)(obs:List Ob):Option An:=match xs with
 | [.ptr 0 0]=>(alI obs).map λl=>⟨false,[af4 (str l)],[.var 245 [.of .any,.of .any]]⟩
 | _=>none
def lxP(xs:List X)(obs:List Ob):Option An:=match xs,obs with
 | [.of (.lit (.string s))],[]=>some ⟨false,[aL (ar3 s.data.toList)],[]⟩
 | _,_=>none
def hpP(xs:List X)(obs:List Ob):Option An:=match xs,obs with
 | [.of (.lit (.string s)),.of (.lit (.string p))],[]=>some ⟨false,[aL (Lib.hasPrefix s.data.toList p.data.toList)],[]⟩
 | _,_=>none
def ibP(xs:List X)(obs:List Ob):Option An:=match xs,obs with
 | [.of (.lit (.string s)),.of (.lit (.int .u8 n))],[]=>some ⟨false,[aQ (Lib.indexByte s.data.toList n.toNat.toUInt8)],[]⟩
 | _,_=>none
def prims:Orc:=λf xs obs =>
 if f=201 then ixP xs obs
 else if f=283 then asG xs obs
 else if f=238 then hpP xs obs
 else if f=239 then ibP xs obs
 else if f=241 then wbP xs obs
 else if f=242 then bsP xs obs
 else if f=244 then lxP xs obs
 else none
def pr:Pr:=⟨prims,ade,tkF,afY,mtF⟩
abbrev cKp(f:Nat)(xs:List X)(obs:List Ob)(K:An->Prop):Prop:=abl Tryz.prog pr f xs obs K
def acD:pr.obj=ade:=rfl
def aYc(f:Nat):pr.obj f=ade f:=rfl
def a5u(f:Nat):pr.tk f=tkF f:=rfl
def aCr(f:Nat):pr.keep f=afY f:=rfl
def a5v(p:String)(d:Option Nat):pr.mt p d=mtF p d:=rfl
abbrev G1(f:Nat)(xs:List X)(x:X):Prop:=aH Tryz.prog pr f xs [] ⟨false,[x],[]⟩
abbrev GN(f:Nat)(xs:List X)(rs:List X):Prop:=aH Tryz.prog pr f xs [] ⟨false,rs,[]⟩
def a40{P:Program}{f:Nat}{fn:Func}(h:FnI P f fn):ac3 P f=fn.results.toList:=by unfold ac3;rw[h.2]
def ahR{f:Nat}{fn:Func}{xs:List X}{obs:List Ob}{an:An}{kp:Bool}(hp:prims f xs obs=none)(hi:FnI Tryz.prog f fn)(hk:afY f=kp)(hl:Nat.ble xs.length fn.ntmps=true)
  (h:WC Tryz.prog pr (fn.body.getD .skip) (adz xs obs) (endQ Tryz.prog kp f obs.length an)):aH Tryz.prog pr f xs obs an :=
 aH.of_body hp hi.1 (by unfold apP;rw[hi.2];exact adr hl) (by unfold amK;rw[hi.2,aCr,hk];exact h)
def kf{f:Nat}{fn:Func}(h:FnI Tryz.prog f fn)(k:afY f=false:=by exact rfl):afY f=false/\ac3 Tryz.prog f=fn.results.toList:=⟨k,a40 h⟩
def bB{f:Nat}{fn:Func}{xs:List X}{obs:List Ob}{an:An}(hi:FnI Tryz.prog f fn)(h:WC Tryz.prog pr (fn.body.getD .skip) (adz xs obs) (endQ Tryz.prog false f obs.length an))(hp:prims f xs obs=none:=by exact rfl)(hk:afY f=false:=by exact rfl)(hl:Nat.ble xs.length fn.ntmps=true:=by exact rfl):aH Tryz.prog pr f xs obs an:=ahR hp hi hk hl h
def a2q:=cF 10
def a2p:=cF 11
def aGf:=cF 13
def a2o:=cF 14
def a2n:=cF 16
def aOu:=cF 17
def a2m:=cF 19
def a2l:=cF 20
def a2k:=cF 22
def a2j:=cF 23
def aOt:=cF 24
def azv:=cF 25
def bd3:=cF 26
def bd2:=cF 27
def bd1:=cF 28
def bd0:=cF 29
def bdZ:=cF 30
def ak2:=cT 31
def aF7:=cF 36
def aF6:=cF 37
def bdY:=cF 38
def aq1:=cT 39
def bdX:=cF 42
def a2i:=cF 43
def bdW:=cF 44
def bdV:=cF 45
def a2h:=cT 46
def a2g:=cF 49
def bdU:=cF 50
def bdT:=cF 51
def aoR:=cF 56
def aOs:=cF 57
def anN:=cF 58
def azu:=cF 59
def azt:=cF 60
def bdS:=cF 61
def bdR:=cF 62
def bdQ:=cF 63
def ak1:=cT 65
def azs:=cT 66
def bdP:=cT 74
def azr:=cT 75
def al0:=cT 76
def a2f:=cT 77
def ab5:=cT 78
def aeN:=cT 79
def bdO:=cT 80
def a2e:=cT 81
def bdN:=cT 91
def ak0:=cT 92
def bdM:=cT 93
def bdL:=cT 94
def a2d:=cT 95
def asH:=cF 105
def ajn:=cF 106
def awW:=cF 107
def aGh:=cF 108
def a9Y:=cT 109
def apJ:=cF 110
def awV:=cF 111
def a9X:=cF 112
def akn:=cF 113
def aGg:=cF 114
def a9W:=cF 115
def alH:=cF 116
def a9V:=cF 117
def aSH:=cF 119
def a9U:=cF 121
def a9T:=cF 123
def aSG:=cF 125
def aSF:=cF 127
def a9S:=cF 128
def a9R:=cF 130
def a9Q:=cF 132
def a9P:=cF 134
def a9O:=cF 136
def aGe:=cF 138
def a9N:=cF 139
def a9M:=cF 141
def a9L:=cF 143
def a9K:=cF 144
def aSE:=cF 145
def a9J:=cF 146
def aGd:=cF 147
def a9I:=cF 148
def a9H:=cF 149
def a9G:=cF 150
def a9F:=cF 151
def aSD:=cT 152
def a9E:=cT 172
def anO:=cT 173
def apI:=cT 174
def aSC:=cT 182
def a9D:=cT 183
def aGc:=cT 184
def awU:=cT 185
def a9C:=cF 197
def a9B:=cF 199
def a9A:=cF 201
def a9z:=cF 203
def a9y:=cF 204
def a9x:=cF 205
def awT:=cF 206
def awS:=cF 207
def a9w:=cF 209
def a9v:=cF 211
def a9u:=cF 213
def aSB:=cF 215
def aSA:=cF 216
def a9t:=cF 217
def a9s:=cF 219
def a9r:=cF 221
def a9q:=cF 223
def a9p:=cF 224
def a9o:=cF 226
def aGb:=cF 229
def a9n:=cF 231
def a9m:=cF 233
def a9l:=cF 234
def a9k:=cF 235
def a9j:=cF 236
def a9i:=cF 237
def a9h:=cF 238
def aSz:=cF 239
def aSy:=cF 240
def a9g:=cT 241
def a9f:=cT 242
def a9e:=cF 243
def a9d:=cF 244
def aSx:=cF 245
def a9c:=cT 246
def a9b:=cT 257
def a9a:=cF 261
def a89:=cF 262
def a88:=cF 264
def a87:=cF 265
def a86:=cF 266
def aSw:=cF 268
def a85:=cF 270
def a84:=cF 271
def a83:=cF 272
def a82:=cF 273
def a81:=cF 274
def a80:=cF 275
def a8Z:=cF 276
def a8Y:=cF 278
def a8X:=cF 279
def a8W:=cF 283
def aSv:=cT 284
def a8V:=cF 285
def a8U:=cT 286
def a8T:=cT 296
def aSu:=cT 297
def a8S:=cF 300
def aGa:=cT 305
def aF9:=cF 306
def aF8:=cT 311
def a8R:=cT 312
def aSt:=cT 317
def a8Q:=cT 319
def aSs:=cT 325
def aSr:=cT 326
def a8P:=cT 330
def a8O:=cT 332
def a8N:=cT 333
def a8M:=cT 334
def a8L:=cT 335
end Go.Proofs.YtghkmcffifpkeaaGreat
namespace Go.Proofs.YtghkmcffifpkeaaGreat
open Pe Tab RowKit
theorem axP(m:Mem):∀ (l:List UInt8) (vs:List Value),bv m (byC l) vs->vs=Lib.byteCells l
 | [],vs,h=>by simpa [byC,bv,Lib.byteCells] using h
 | b::l,vs,h=>by
  simp only[byC,aU,bv,Rep] at h
  obtain⟨v,r,rfl,⟨rfl,_⟩,h2⟩:=h
  rw[axP m l r h2]
  rfl
theorem azC(m:Mem):∀ l:List UInt8,bv m (byC l) (Lib.byteCells l)
 | []=>rfl
 | b::l=>⟨_,_,rfl,⟨rfl,rfl⟩,azC m l⟩
def aKd(l:List UInt8)(u:Value)(h:u∈Lib.byteCells l):u.oneCell'=true:=by
 simp only[Lib.byteCells,List.mem_map] at h
 obtain⟨b,_,rfl⟩:=h
 rfl
def awt{ty:Nat}{xs:List X}{n:Nat}(h:fQ [.var ty xs] n 0):False:=by
 obtain⟨_,_,h,_⟩:=h;cases h
def aua{k:Know}{ob:Ob}(hd:∀ r b,k.μ r=some b->r<[ob].length){r c:Nat}(h:k.μ r=some c):r=0:=by
 have:=hd r c h;simpa using this
def aKl{G:GP}{k:Know}{ow:Own}{w:World}{xs0:List X}{l:List UInt8}(hp:Hp ⟨G,k.m,abM k ow⟩ k ow w w [.var 245 xs0])(hl:alI [.var 245 xs0]=some l) :
  ∃ b p v,k.μ 0=some b/\(p=.pointer none\/p=.pointer (some ⟨b,0,none⟩))/\BAt b p v (Lib.byteCells l) w/\(v.ownBlock=none\/ow (.cell 0 1)=some (v,5,1,l.length)):=by
 obtain⟨b,hb,_,_,hbm,vs,hh,_,hvs⟩:=hp.obj 0 _ rfl
 unfold alI at hl
 split at hl
 .rename_i e
  simp only[fO,Ob.var.injEq,cV,aaC] at e
  subst e
  simp only[ab] at hl
  subst hl
  simp only[aR,aF,Rep] at hvs
  obtain⟨v1,r1,rfl,⟨rfl,_⟩,v2,r2,rfl,rfl,rfl⟩:=hvs
  exact⟨b,_,_,hb,.inl rfl,⟨hh,World.ownsRow_nil w 0 _ 1,by simp[Value.ownBlock]⟩,.inl rfl⟩
 .rename_i cs n e
  simp only[fO,Ob.var.injEq,cV,aaC] at e
  subst e
  obtain rfl:=aBV cs l hl
  simp only[aR,aF] at hvs
  obtain⟨v1,r1,rfl,⟨b',hb',rfl⟩,v2,r2,rfl,⟨ho,hcl,hrep⟩,rfl⟩:=hvs
  obtain rfl:=ay (hb.symm.trans hb')
  obtain rfl:n=l.length:=by rw[asL] at hcl;omega
  obtain⟨⟨xs,hown⟩,htok⟩:=hp.tok _ _ _ _ _ ho
  have hxs:xs=Lib.byteCells l:=by
   simp only[Rep] at hrep
   obtain⟨a,cp,us,rfl,_,hul,hum⟩:=hrep
   rw[← axP _ _ _ hul]
   have e1:us.length=xs.length:=by rw[hul.length,hown.1,hcl]
   apply ab1
   intro i
   by_cases hi:i<us.length
   .have hne:us≠[]:=by rintro rfl;simp at hi
    obtain⟨b1,o,rfl,hc⟩:=hum hne
    rcases hown.2 with ⟨h0,_⟩|⟨g,cap2,cur,hv,_⟩
    .cases h0
    .simp only[Value.slice.injEq,ab,Addr.mk.injEq] at hv
     obtain⟨⟨rfl,rfl,_⟩,_,rfl⟩:=hv
     have hu:us[i]?=some us[i]:=by simp[hi]
     have hc1:=(hp.mem _ _ _ (hc i _ hu)).1
     have hx2:xs[i]?=some (xs[i]'(by omega)):=by simp[show i<xs.length by omega]
     have hc2:=hown.cells (g:=b1) rfl i _ hx2
     rw[Addr.add_lit] at hc2
     rw[hu,hx2,ay (hc2.symm.trans hc1)]
   .rw[aZ aC,aZ aC]
  subst hxs
  refine⟨b,_,_,hb,.inr rfl,⟨hh,by rw[Lib.byteCells_length];exact hown,λe=>awt ((htok b e).2.2 0 hb).1⟩,.inr ho⟩
 .cases hl
def owB(ow:Own)(v:Value)(n:Nat):Own:=λt=>if t=.cell 0 1 then some (v,5,1,n) else ow t
def aKm{G:GP}{k:Know}{ow:Own}{w w':World}{xs0:List X}{l l':List UInt8}{b:Nat}{v v':Value}{p:Value}(hp:Hp ⟨G,k.m,abM k ow⟩ k ow w w [.var 245 xs0])(hb:k.μ 0=some b)
  (hB:BAt b p v (Lib.byteCells l) w) (hv:v.ownBlock=none\/ow (.cell 0 1)=some (v,5,1,l.length)) (h:BPost b v w w' v' (Lib.byteCells (l++l'))) :
  ∃ k',Hp ⟨G,k.m,abM k ow⟩ k' (owB ow v' (l++l').length) w w' [.var 245 (bld (l++l'))]/\k.m.le k'.m/\k'.μ=k.μ:=by
 have hbl:=Lib.byteCells_length (l++l')
 obtain⟨_,hb',_,hblt,hbm',_⟩:=hp.obj 0 _ rfl
 obtain rfl:=ay (hb.symm.trans hb')
 have hbm:=hbm' rfl
 let m':Mem:=λc o=>if some c=v'.ownBlock/\o<(l++l').length then (Lib.byteCells (l++l'))[o]? else k.m c o
 have hdom:∀ r c,k.μ r=some c->r=0/\c=b:=λr c hr=>by
  have:=hp.dom r c hr
  simp only[dX,Nat.lt_one_iff] at this
  subst this
  exact⟨rfl,ay (hr.symm.trans hb)⟩
 have hold:∀ g,v.ownBlock=some g->abM k ow g/\(∀ o,l.length<=o->k.m g o=none)/\∀ t u e z n,t≠.cell 0 1->ow t=some (u,e,z,n)->u.ownBlock≠some g:=λg hg=>by
  rcases hv with h0|h0
  .rw[h0] at hg;cases hg
  .obtain⟨_,ht⟩:=hp.tok _ _ _ _ _ h0
   exact⟨.inr ⟨_,_,_,_,_,h0,hg⟩,by simpa using (ht g hg).2.1,λt u e z n hne h1=>hp.tokne _ _ _ _ _ _ _ _ _ _ h0 h1 (bn hne) g hg⟩
 have hnew:∀ g,v'.ownBlock=some g->v.ownBlock=some g\/w.heap.size<=g:=λg hg=>by
  rcases h.row with ⟨h1,_⟩|⟨⟨g',h1,h2⟩,_⟩
  .exact .inl (h1▸hg)
  .rw[h1] at hg;exact .inr (ay hg▸h2)
 have hsame:∀ c,c<w.heap.size->c≠b->(some c≠v.ownBlock\/some c≠v'.ownBlock)->w'.heap[c]?=w.heap[c]?:=λc hc hcb hcv=>by
  rcases h.row with ⟨h1,h2⟩|⟨_,h2⟩
  .exact h2 c hc hcb (by rw[h1] at hcv;exact hcv.elim id id)
  .exact h2 c hc hcb
 have hrow:∀ c o u,v'.ownBlock=some c->(Lib.byteCells (l++l'))[o]?=some u->w'.cell? ⟨c,o,none⟩=some u:=λc o u hc hu=>by
  have:=h.at'.own.cells (g:=c) hc o u hu
  rwa [Addr.add_lit,cf] at this
 have hle:k.m.le m':=λc o u hu=>by
  simp only[m']
  split
  .rename_i hc
   rcases hnew c hc.1.symm with h1|h1
   .have ho:o<l.length:=by
     rcases aD o l.length with h2|h2
     .exact h2
     .rw[(hold c h1).2.1 o h2] at hu;cases hu
    have hx:(Lib.byteCells l)[o]?=some ((Lib.byteCells l)[o]'(by rw[Lib.byteCells_length];exact ho)):=by simp[Lib.byteCells_length,ho]
    have h2:=hB.own.cells (g:=c) h1 o _ hx
    rw[Addr.add_lit,cf] at h2
    have h3:=(hp.mem c o u hu).1
    have e:=ay (h2.symm.trans h3)
    simp only[Lib.byteCells,cm]
    rw[ba (by simpa using ho)]
    rw[← e]
    exact hx
   .have:=ag3 hp.mem hu
    omega
  .exact hu
 refine⟨⟨m',k.μ⟩,?_,hle,rfl⟩
 exact {
  good:=hp.good
  below:=⟨h.os,h.tape,h.output,h.size,λc hc hm=>hsame c hc (λe=>hm (.inl ⟨0,by rw[e];exact hb⟩)) (.inl λe=>hm (hold c e.symm).1)⟩
  mem:=λc o u hu=>by
   simp only[m'] at hu
   split at hu
   .rename_i hc
    exact⟨hrow c o u hc.1.symm hu,aKd _ u (bT hu)⟩
   .rename_i hc
    obtain⟨h1,h2⟩:=hp.mem c o u hu
    have hlt:=ag3 hp.mem hu
    refine⟨(World.cell?_of_block (a:=⟨c,o,none⟩) (hsame c hlt ?_ ?_)).trans h1,h2⟩
    .rintro rfl;rw[hbm o] at hu;cases hu
    .by_cases e:some c=v'.ownBlock
     .left
      intro e2
      have:¬ o<(l++l').length:=λh3=>hc ⟨e,h3⟩
      rw[(hold c e2.symm).2.1 o (by simp at this;omega)] at hu
      cases hu
     .exact .inr e
  obj:=λr ob hr=>by
   match r,hr with
   | 0,hr =>
    simp only[dq,ab] at hr
    subst hr
    refine⟨b,hb,.inr (.inl ⟨0,hb⟩),h.at'.lt,λ_ o=>?_,[.pointer (some ⟨b,0,none⟩),v'],h.at'.blk,?_,?_⟩
    .simp only[m']
     rw[aj λe=>h.at'.ne e.1.symm]
     exact hbm o
    .intro u hu
     simp only[bp,cB,eV] at hu
     rcases hu with rfl|rfl
     .rfl
     .rcases h.at'.own.2 with ⟨rfl,_⟩|⟨g,cap,cur,rfl,_⟩ <;> rfl
    .refine⟨_,_,rfl,⟨b,hb,rfl⟩,_,_,rfl,⟨?_,?_,?_⟩,rfl⟩
     .simp[owB]
     .rw[asL];omega
     .have hown:=h.at'.own
      rw[hbl] at hown
      rcases hown.2 with ⟨e1,e2⟩|⟨g,cap,cur,e1,_,_,hnc,_⟩
      .have:l++l'=[]:=bK e2
       rw[this,e1]
       exact⟨none,0,[],rfl,ae _,rfl,λh=>absurd rfl h⟩
      .refine⟨_,cap,Lib.byteCells (l++l'),e1,hnc,azC _ _,λ_=>⟨g,0,rfl,λi u hu=>?_⟩⟩
       simp only[m',cf]
       rw[am ⟨by rw[e1];rfl,by rw[← hbl];exact (List.getElem?_eq_some_iff.1 hu).1⟩]
       exact hu
  dom:=hp.dom
  inj:=λr r' c h1 h2 _ _=>(aua hp.dom h1).trans (aua hp.dom h2).symm
  tok:=λt u e z n ht=>by
   simp only[owB] at ht
   split at ht
   .simp only[bF] at ht
    obtain⟨rfl,rfl,rfl,rfl⟩:=ht
    refine⟨⟨_,by have:=h.at'.own;rw[hbl] at this;exact this⟩,λg hg=>⟨?_,λo ho=>?_,λr hr=>?_⟩⟩
    .rcases hnew g hg with h1|h1
     .exact .inr (hold g h1).1
     .exact .inl h1
    .simp only[m']
     rw[aj λe=>by have:=e.2;omega]
     rcases hnew g hg with h1|h1
     .exact (hold g h1).2.1 o (by simp at ho;omega)
     .cases hm:k.m g o with
      | none=>rfl
      | some u=>have:=ag3 hp.mem hm;omega
    .obtain⟨_,rfl⟩:=hdom r g hr
     exact (h.at'.ne hg).elim
   .rename_i hne
    obtain⟨⟨xs,h1⟩,h2⟩:=hp.tok t u e z n ht
    refine⟨⟨xs,acX (λg hg hlt=>hsame g hlt (λe=>awt ((h2 g hg).2.2 0 (by rw[e];exact hb)).1) (.inl λe=>(hold g e.symm).2.2 t u _ _ _ hne ht hg)) h1⟩,λg hg=>⟨(h2 g hg).1,λo ho=>?_,λr hr=>by
     obtain rfl:=aua hp.dom hr
     exact (awt ((h2 g hg).2.2 0 hr).1).elim⟩⟩
    simp only[m']
    rw[aj]
    .exact (h2 g hg).2.1 o ho
    .rintro⟨e,_⟩
     rcases hnew g e.symm with h3|h3
     .exact (hold g h3).2.2 t u _ _ _ hne ht hg
     .have:=(hp.tlt ht hg).2;omega
  tokne:=λt t' u e z n u' e' z' n' ht ht' hne g hg hg'=>by
   have key:∀ t u e z n,t≠.cell 0 1->ow t=some (u,e,z,n)->u.ownBlock=some g->v'.ownBlock=some g->False:=λt u e z n h0 h1 h2 h3=>by
    rcases hnew g h3 with h4|h4
    .exact (hold g h4).2.2 t u _ _ _ h0 h1 h2
    .have:=(hp.tlt h1 h2).2;omega
   simp only[owB] at ht ht'
   split at ht
   .rename_i e1
    simp only[bF] at ht
    obtain⟨rfl,rfl,rfl,rfl⟩:=ht
    split at ht'
    .rename_i e2
     exact hne (e1.trans e2.symm)
    .rename_i e2
     exact key t' u' _ _ _ e2 ht' hg' hg
   .rename_i e1
    split at ht'
    .simp only[bF] at ht'
     obtain⟨rfl,rfl,rfl,rfl⟩:=ht'
     exact key t u _ _ _ e1 ht hg hg'
    .exact hp.tokne t t' _ _ _ _ _ _ _ _ ht ht' hne g hg hg'
  m0:=λc o u hu hc hm=>by
   simp only[m'] at hu
   split at hu
   .rename_i e
    rcases hnew c e.1.symm with h3|h3
    .exact absurd (hold c h3).1 hm
    .omega
   .exact hu}
def GT:GP where
 holds w:=∃ m,w.cell? ⟨0,0,none⟩=some (.int .i64 m)
 blk b:=b=0
 keep w w' h hk:=by
  obtain⟨m,hm⟩:=h
  exact⟨m,(World.cell?_of_block (a:=⟨0,0,none⟩) (hk 0 rfl)).trans hm⟩
def aDi{obs:List Ob}{l:List UInt8}(h:alI obs=some l):∃ xs0,obs=[.var 245 xs0]:=by
 unfold alI at h
 split at h
 .exact⟨_,rfl⟩
 .exact⟨_,rfl⟩
 .cases h
def aTX{ow:Own}(hold:∀ t p,ow t=some p->t.older 1 λ_=>False)(v:Value)(n:Nat):∀ t p,owB ow v n t=some p->t.older 1 λ_=>False:=λt p ht=>by
 simp only[owB] at ht
 split at ht
 .rename_i e;subst e;trivial
 .exact hold t p ht
def aYj{ow:Own}{m:Nat}(hm:0<m)(hcl:∀ r off p,ow (.cell r off)=some p->r<m)(v:Value)(n:Nat):∀ r off p,owB ow v n (.cell r off)=some p->r<m:=λr off p ht=>by
 simp only[owB] at ht
 split at ht
 .rename_i e;cases e;exact hm
 .exact hcl r off p ht
def aKN(xs:List X)(obs:List Ob)(an:An)(h:wbP xs obs=some an):aa2 Tryz.prog GT 241 xs obs an:=by
 unfold wbP at h
 split at h
 .rename_i n
  simp only[bD] at h
  obtain⟨l,hl,h⟩:=h
  split at h
  .rename_i hlen
   simp only[ab] at h
   subst h
   obtain⟨hlen,hn0,hn1⟩:=hlen
   obtain⟨xs0,rfl⟩:=aDi hl
   intro fn hf k ow w vs hp hold hcl hvs
   obtain⟨b,p,v,hb,hpp,hB,hv⟩:=aKl hp hl
   simp only[aR,aF,Rep] at hvs
   obtain⟨v1,r1,rfl,⟨b',hb',rfl⟩,v2,r2,rfl,⟨rfl,_⟩,rfl⟩:=hvs
   obtain rfl:=ay (hb.symm.trans hb')
   refine (aHa b p v (Lib.byteCells l) n w hpp hB (by rw[Lib.byteCells_length];exact hlen)).mono ?_
   rintro e w' ⟨rfl,v',hpost⟩
   have hpost':BPost b v w w' v' (Lib.byteCells (l++[UInt8.ofNat n.toNat])):=by
    have:Lib.byteCells (l++[UInt8.ofNat n.toNat])=Lib.byteCells l++[.int .u8 n]:=by
     have:((UInt8.ofNat n.toNat).toNat:Int)=n:=by simp;omega
     simp only[Lib.byteCells,cm,aU,bq,this]
    rw[this];exact hpost
   obtain⟨k',g1,g2,g3⟩:=aKm hp hb hB hv hpost'
   exact⟨k',_,[.nilIface],rfl,g1,g2,ae _,λr _=>by rw[g3],aTX hold _ _,aYj Nat.zero_lt_one hcl _ _,_,_,rfl,⟨rfl,rfl⟩,rfl⟩
  .cases h
 .cases h
def aOE(xs:List X)(obs:List Ob)(an:An)(h:bsP xs obs=some an):aa2 Tryz.prog GT 242 xs obs an:=by
 unfold bsP at h
 split at h
 .simp only[ar] at h
  obtain⟨l,hl,rfl⟩:=h
  obtain⟨xs0,rfl⟩:=aDi hl
  intro fn hf k ow w vs hp hold hcl hvs
  obtain⟨b,p,v,hb,hpp,hB,hv⟩:=aKl hp hl
  simp only[aR,aF] at hvs
  obtain⟨v1,r1,rfl,⟨b',hb',rfl⟩,rfl⟩:=hvs
  obtain rfl:=ay (hb.symm.trans hb')
  refine (aLc b p v l w hB).mono ?_
  rintro e w' ⟨rfl,hpost⟩
  obtain⟨_,hb',_,hblt,hbm,_⟩:=hp.obj 0 _ rfl
  obtain rfl:=ay (hb.symm.trans hb')
  have hgiven:∀ g,v.ownBlock=some g->abM k ow g:=λg hg=>by
   rcases hv with h0|h0
   .rw[h0] at hg;cases hg
   .exact .inr ⟨_,_,_,_,_,h0,hg⟩
  refine⟨k,ow.del (.cell 0 1),[_],rfl,?_,Mem.le_refl _,ae _,λ_ _=>rfl,λt p ht=>?_,λr off p ht=>?_,_,_,rfl,⟨rfl,rfl⟩,rfl⟩
  .exact {
    good:=hp.good
    below:=⟨hpost.os,hpost.tape,hpost.output,hpost.size,λc hc hm=>hpost.grown c hc λe=>hm (hgiven c e.symm)⟩
    mem:=λc o u hu=>⟨(hpost.cell c o (ag3 hp.mem hu)).trans (hp.mem c o u hu).1,(hp.mem c o u hu).2⟩
    obj:=λr ob hr=>by
     match r,hr with
     | 0,hr =>
      simp only[dq,ab] at hr
      subst hr
      refine⟨b,hb,.inr (.inl ⟨0,hb⟩),cG hblt hpost.size,hbm,[p,v],?_,?_,?_⟩
      .rw[hpost.grown b hblt λe=>hB.ne e.symm]
       exact hB.blk
      .intro u hu
       simp only[bp,cB,eV] at hu
       rcases hu with rfl|rfl
       .rcases hpp with rfl|rfl <;> rfl
       .rcases hB.own.2 with ⟨rfl,_⟩|⟨g,cap,cur,rfl,_⟩ <;> rfl
      .exact⟨_,_,rfl,trivial,_,_,rfl,trivial,rfl⟩
    dom:=hp.dom
    inj:=λr r' c h1 h2 _ _=>(aua hp.dom h1).trans (aua hp.dom h2).symm
    tok:=λt u e z n ht=>by
     simp only[Own.del] at ht
     split at ht
     .cases ht
     .rename_i hne
      obtain⟨⟨xs,h1⟩,h2⟩:=hp.tok t u e z n ht
      refine⟨⟨xs,acX (λg hg hlt=>hpost.grown g hlt λe=>?_) h1⟩,λg hg=>⟨(h2 g hg).1,(h2 g hg).2.1,λr hr=>by
       obtain rfl:=aua hp.dom hr
       exact (awt ((h2 g hg).2.2 0 hr).1).elim⟩⟩
      rcases hv with h0|h0
      .rw[h0] at e;cases e
      .exact hp.tokne _ _ _ _ _ _ _ _ _ _ h0 ht (bn hne) g e.symm hg
    tokne:=λt t' u e z n u' e' z' n' ht ht'=>by
     simp only[Own.del] at ht ht'
     split at ht
     .cases ht
     .split at ht'
      .cases ht'
      .exact hp.tokne t t' _ _ _ _ _ _ _ _ ht ht'
    m0:=hp.m0}
  .simp only[Own.del] at ht
   split at ht
   .cases ht
   .exact hold t p ht
  .simp only[Own.del] at ht
   split at ht
   .cases ht
   .exact hcl r off p ht
 .cases h
def aFW(xs:List X)(obs:List Ob)(an:An)(h:asG xs obs=some an):aa2 Tryz.prog GT 283 xs obs an:=by
 unfold asG at h
 split at h
 .rename_i s a
  split at h
  .rename_i hc
   simp only[ab] at h
   subst h
   intro fn hf k ow w vs hp hold hcl hvs
   simp only[aR,aF,Rep] at hvs
   obtain⟨v,r,rfl,⟨rfl,_⟩,v2,r2,rfl,⟨rfl,_⟩,rfl⟩:=hvs
   obtain⟨m,hm⟩:=hp.table
   refine (Tryz.strings_Contains s a m w hc hm).mono ?_
   rintro e w' ⟨rfl,rfl⟩
   exact⟨k,ow,[_],rfl,hp,Mem.le_refl _,ae _,λ_ _=>rfl,hold,hcl,_,_,rfl,⟨rfl,rfl⟩,rfl⟩
  .cases h
 .cases h
def aMm(r:Nat)(w:World):Calls Tryz.prog 202 #[.int .i32 (r:Int)] w λe w'=>e=.returned (.bool (aiQ r))/\Below w.heap.size w w':=by
 unfold aiQ
 by_cases h1:(r:Int)<32
 .have h2:r<32:=by omega
  go_enter Tryz.func202,Tryz.ntmps202
  go_wp2
  go_ret
  exact⟨by simp[h2],.refl _ _⟩
 .have h2:¬ r<32:=by omega
  by_cases h3:(126:Int)<r
  .have h4:126<r:=by omega
   go_enter Tryz.func202,Tryz.ntmps202
   go_wp2
   go_ret
   exact⟨by simp[],.refl _ _⟩
  .have h4:¬ 126<r:=by omega
   go_enter Tryz.func202,Tryz.ntmps202
   go_wp2
   go_ret
   exact⟨by simp[],.refl _ _⟩
def aNp(xs:List X)(obs:List Ob)(an:An)(h:ixP xs obs=some an):aa2 Tryz.prog GT 201 xs obs an:=by
 unfold ixP at h
 split at h
 .rename_i s f
  split at h
  .rename_i hf
   subst hf
   simp only[ab] at h
   subst h
   intro fn hf k ow w vs hp hold hcl hvs
   simp only[aR,aF,Rep,bv] at hvs
   obtain⟨v,r,rfl,⟨rfl,_⟩,v2,r2,rfl,⟨us,rfl,rfl⟩,rfl⟩:=hvs
   refine (Tryz.strings_IndexFunc_grows 202 #[] (enters_of Tryz.func202 aS rfl) aiQ s w λW x _ _=>aMm x W).mono ?_
   rintro e w' ⟨rfl,hB⟩
   exact⟨k,ow,[_],rfl,hp.grow hB,Mem.le_refl _,ae _,λ_ _=>rfl,hold,hcl,_,_,rfl,⟨rfl,rfl⟩,rfl⟩
  .cases h
 .cases h
def aNF(xs:List X)(obs:List Ob)(an:An)(h:hpP xs obs=some an):aa2 Tryz.prog GT 238 xs obs an:=by
 unfold hpP at h
 split at h
 .rename_i s a
  simp only[ab] at h
  subst h
  intro fn hf k ow w vs hp hold hcl hvs
  simp only[aR,aF,Rep] at hvs
  obtain⟨v,r,rfl,⟨rfl,_⟩,v2,r2,rfl,⟨rfl,_⟩,rfl⟩:=hvs
  refine (Tryz.strings_HasPrefix s a w).mono ?_
  rintro e w' ⟨rfl,rfl⟩
  exact⟨k,ow,[_],rfl,hp,Mem.le_refl _,ae _,λ_ _=>rfl,hold,hcl,_,_,rfl,⟨rfl,rfl⟩,rfl⟩
 .cases h
def aNz(xs:List X)(obs:List Ob)(an:An)(h:ibP xs obs=some an):aa2 Tryz.prog GT 239 xs obs an:=by
 unfold ibP at h
 split at h
 .rename_i s n
  simp only[ab] at h
  subst h
  intro fn hf k ow w vs hp hold hcl hvs
  simp only[aR,aF,Rep] at hvs
  obtain⟨v,r,rfl,⟨rfl,_⟩,v2,r2,rfl,⟨rfl,_⟩,rfl⟩:=hvs
  refine (Tryz.strings_IndexByte s n w).mono ?_
  rintro e w' ⟨rfl,rfl⟩
  exact⟨k,ow,[_],rfl,hp,Mem.le_refl _,ae _,λ_ _=>rfl,hold,hcl,_,_,rfl,⟨rfl,rfl⟩,rfl⟩
 .cases h
def aM8(xs:List X)(obs:List Ob)(an:An)(h:lxP xs obs=some an):aa2 Tryz.prog GT 244 xs obs an:=by
 unfold lxP at h
 split at h
 .rename_i s
  simp only[ab] at h
  subst h
  intro fn hf k ow w vs hp hold hcl hvs
  simp only[aR,aF,Rep] at hvs
  obtain⟨v,r,rfl,⟨rfl,_⟩,rfl⟩:=hvs
  refine (aEr s w).mono ?_
  rintro e w' ⟨rfl,hB⟩
  exact⟨k,ow,[_],rfl,hp.grow hB,Mem.le_refl _,ae _,λ_ _=>rfl,hold,hcl,_,_,rfl,⟨rfl,rfl⟩,rfl⟩
 .cases h
def axY:PrSound Tryz.prog GT pr where
 prim f xs obs an h:=by
  replace h:prims f xs obs=some an:=h
  unfold prims at h
  split at h
  .rename_i e;subst e;exact aNp xs obs an h
  split at h
  .rename_i e;subst e;exact aFW xs obs an h
  split at h
  .rename_i e;subst e;exact aNF xs obs an h
  split at h
  .rename_i e;subst e;exact aNz xs obs an h
  split at h
  .rename_i e;subst e;exact aKN xs obs an h
  split at h
  .rename_i e;subst e;exact aOE xs obs an h
  split at h
  .rename_i e;subst e;exact aM8 xs obs an h
  cases h
end Go.Proofs.YtghkmcffifpkeaaGreat
namespace Go.Pe
open RowKit
section
variable {P:Program} {G:GP} {pr:Pr} {M0:Base} {k:Know} {ow:Own} {w0 w:World} {N:Nat} {s:S} {tmps:Array Value} {ds:List Deferred} {Q:Exit->Act->World->Prop}
theorem aw5(hm:P.follows .mixedOrders=true)(hpr:PrSound P G pr){c:Code}(hok:aaP pr.mt N c=true){Φ:Ex->S->Prop}(h:WC P pr c s Φ)(hG:M0.G=G)(hs:Sim M0 k ow (λ_=>False) w0 w N s tmps)
  (hQ:∀ e s' x tmps' w' k' ow',Φ e s'->k.le k'->Sim M0 k' ow' (λ_=>False) w0 w' N s' tmps'->e.is k' ow' x->Q x ⟨tmps',ds⟩ w'):c.wp P Q ⟨tmps,ds⟩ w:=by
 obtain⟨n,e,s',h1,h2⟩:=h
 exact (akm hm hpr n M0 w0 N c s e s' hG h1 hok k ow w tmps ds Q hs λx tmps' w' k' ow' g1 g2 g3=>hQ e s' x tmps' w' k' ow' h2 g1 g2 g3).wp
theorem amT(hm:P.follows .mixedOrders=true)(hpr:PrSound P G pr){a X:Code}(hok:aaP pr.mt N a=true){Φ:Ex->S->Prop}(h:WC P pr a s Φ)(hG:M0.G=G)(hs:Sim M0 k ow (λ_=>False) w0 w N s tmps)
  (hN:∀ s' tmps' w' k' ow',Φ .normal s'->k.le k'->Sim M0 k' ow' (λ_=>False) w0 w' N s' tmps'->X.wp P Q ⟨tmps',ds⟩ w')
  (hX:∀ e s' x tmps' w' k' ow',e≠.normal->Φ e s'->k.le k'->Sim M0 k' ow' (λ_=>False) w0 w' N s' tmps'->e.is k' ow' x->Q x ⟨tmps',ds⟩ w'):(Code.seq a X).wp P Q ⟨tmps,ds⟩ w:=by
 refine wp_seq (aw5 hm hpr hok h hG hs λe s' x tmps' w' k' ow' g1 g2 g3 g4=>?_)
 cases e with
 | normal=>simp only[Ex.is] at g4;subst g4;exact hN s' tmps' w' k' ow' g1 g2 g3
 | exit i =>
  have h:=hX (.exit i) s' x tmps' w' k' ow' aT g1 g2 g3 g4
  simp only[Ex.is] at g4;subst g4;exact h
 | ret =>
  have h:=hX .ret s' x tmps' w' k' ow' aT g1 g2 g3 g4
  simp only[Ex.is] at g4;subst g4;exact h
 | pan y =>
  have h:=hX (.pan y) s' x tmps' w' k' ow' aT g1 g2 g3 g4
  simp only[Ex.is] at g4;obtain⟨v,rfl,_⟩:=g4;exact h
theorem Sim.reslot{done:Nat->Prop}(h:Sim M0 k ow done w0 w N s tmps)(s2:S)(ho:s2.objs=s.objs)(hc:s2.clk=s.clk){tmps2:Array Value}{N2:Nat}(hz:tmps2.size=N2)(hf:∀ j,aF k ow (s2.fr j) (tmps2.getD j undef)):Sim M0 k ow done w0 w N2 s2 tmps2 :=
 {(show Hp M0 k ow w0 w s2.objs from ho▸h.toHp) with size:=hz,fr:=hf,fresh:=λt p q=>by rw[hc];exact h.fresh t p q,cells:=λr o p q=>by rw[ho];exact h.cells r o p q}
theorem aiJ(v:Value):aF k ow (.of .any) v:=by simp[aF,Rep]
theorem aqH{objs:List Ob}{r:Nat}{a b:Ob}(ha:objs[r]?=some a)(hl:a.live=b.live){q:Nat}:Liv (objs.set r b) q↔Liv objs q:=by
 have hr:r<objs.length:=(List.getElem?_eq_some_iff.1 ha).1
 unfold Liv
 by_cases e:r=q
 .subst e
  rw[da hr,ha]
  simp[hl]
 .rw[eu e]
theorem aEh{objs:List Ob}{r:Nat}{ty ty':Nat}{xs ys:List X}(ha:objs[r]?=some (.var ty xs)){n q:Nat}:fQ (objs.set r (.var ty' ys)) n q↔fQ objs n q:=by
 have hr:r<objs.length:=(List.getElem?_eq_some_iff.1 ha).1
 unfold fQ
 by_cases e:r=q
 .subst e
  rw[da hr,ha]
  simp
 .rw[eu e]
theorem Sim.nilOwn{done:Nat->Prop}(h:Sim M0 k ow done w0 w N s tmps){r ty:Nat}{A B:List X}(hr:s.objs[r]?=some (.var ty (A++.nil::B)))(e z:Nat)(ht:ow (.cell r A.length)=none) :
  ∃ ow',Sim M0 k ow' done w0 w N {s with objs:=s.objs.set r (.var ty (A++.own (.cell r A.length) e z [] 0::B))} tmps/\∀ t,t≠.cell r A.length->ow' t=ow t:=by
 have hrl:r<s.objs.length:=(List.getElem?_eq_some_iff.1 hr).1
 let ow':Own:=λt=>if t=.cell r A.length then some (.slice none 0 0,e,z,0) else ow t
 have hself:ow' (.cell r A.length)=some (.slice none 0 0,e,z,0):=by simp[ow']
 have hoth:∀ t,t≠.cell r A.length->ow' t=ow t:=λt q=>by simp[ow',q]
 have hsub:ow.sub ow':=λt p q=>by
  have:t≠.cell r A.length:=by rintro rfl;rw[ht] at q;cases q
  rw[hoth t this];exact q
 have hk:=Know.le_refl k
 refine⟨ow',{good:=h.good,below:=h.below,mem:=h.mem,obj:=?_,dom:=?_,inj:=?_,tok:=?_,tokne:=?_,m0:=h.m0,size:=h.size,fr:=λj=>aF.mono hk hsub _ _ (h.fr j),fresh:=?_,cells:=?_},hoth⟩
 .intro q ob hq
  by_cases e1:r=q
  .subst e1
   simp only[da hrl,ab] at hq
   subst hq
   obtain⟨b,h1,h2,h3,h4,vs,h5,h6,h7⟩:=h.obj r _ hr
   refine⟨b,h1,h2,h3,λ_=>h4 rfl,vs,h5,h6,?_⟩
   have h7:=aR.mono hk hsub _ _ h7
   clear h5 h6 hr
   have key:∀ (A':List X) (vs':List Value),aR k ow' (A'++.nil::B) vs'->aR k ow' (A'++.own (.cell r A.length) e z [] 0::B) vs':=by
    intro A'
    induction A' with
    | nil =>
     intro vs' hh
     simp only[cj,aR,aF] at hh ⊢
     obtain⟨v,l,rfl,rfl,h8⟩:=hh
     exact⟨_,_,rfl,⟨hself,by simp,by simp only[Rep,bv];exact⟨none,0,[],rfl,ae _,rfl,λq=>absurd rfl q⟩⟩,h8⟩
    | cons x A' ih =>
     intro vs' hh
     simp only[cD,aR] at hh ⊢
     obtain⟨v,l,rfl,h8,h9⟩:=hh
     exact⟨v,l,rfl,h8,ih _ h9⟩
   exact key A vs h7
  .rw[eu e1] at hq
   obtain⟨b,h1,h2,h3,h4,h5⟩:=h.obj q ob hq
   exact⟨b,h1,h2,h3,h4,h5.mono hk hsub⟩
 .intro q b hq
  simp only[List.length_set]
  exact h.dom q b hq
 .intro q q' b h1 h2 h3 h4
  exact h.inj q q' b h1 h2 ((aqH hr (by rfl)).1 h3) ((aqH hr (by rfl)).1 h4)
 .intro t v e' z' n hq
  by_cases e1:t=.cell r A.length
  .subst e1
   rw[hself] at hq
   simp only[bF] at hq
   obtain⟨rfl,rfl,rfl,rfl⟩:=hq
   exact⟨⟨[],World.ownsRow_nil w 0 e z⟩,λg hg=>by simp[Value.ownBlock] at hg⟩
  .rw[hoth t e1] at hq
   obtain⟨h1,h2⟩:=h.tok t v e' z' n hq
   exact⟨h1,λg hg=>⟨(h2 g hg).1,(h2 g hg).2.1,λq hq2=>⟨(aEh hr).2 ((h2 g hg).2.2 q hq2).1,λhl=>((h2 g hg).2.2 q hq2).2 ((aqH hr (by rfl)).1 hl)⟩⟩⟩
 .intro t t' v e1 z1 n1 v' e2 z2 n2 h1 h2 hne g hg
  by_cases q:t=.cell r A.length
  .subst q
   rw[hself] at h1
   simp only[bF] at h1
   obtain⟨rfl,_⟩:=h1
   simp[Value.ownBlock] at hg
  by_cases q':t'=.cell r A.length
  .subst q'
   rw[hself] at h2
   simp only[bF] at h2
   obtain⟨rfl,_⟩:=h2
   simp[Value.ownBlock]
  rw[hoth _ q] at h1
  rw[hoth _ q'] at h2
  exact h.tokne t t' v e1 z1 n1 v' e2 z2 n2 h1 h2 hne g hg
 .intro t p hq
  by_cases q:t=.cell r A.length
  .subst q;trivial
  .rw[hoth _ q] at hq;exact h.fresh t p hq
 .intro q off p hq
  simp only[List.length_set]
  by_cases e1:(Tk.cell q off)=.cell r A.length
  .cases e1;exact hrl
  .rw[hoth _ e1] at hq;exact h.cells q off p hq
theorem ayH{xs:List X}{obs:List Ob}{vs:List Value}(hhp:Hp M0 k ow w0 w obs)(hold:∀ t p,ow t=some p->t.older 1 λ_=>False)(hcl:∀ r off p,ow (.cell r off)=some p->r<obs.length)(hvs:aR k ow xs vs)(hvl:vs.length<=N) :
  Sim M0 k ow (λ_=>False) w0 w N (adz xs obs) (vs.toArray++Array.replicate (N-vs.toArray.size) undef):={hhp with
 size:=by simp;omega
 fresh:=hold
 cells:=hcl
 fr:=λj=>by
  simp only[adz]
  have hg:(vs.toArray++Array.replicate (N-vs.toArray.size) undef).getD j undef=vs.getD j undef:=by
   rw[bi,aY]
   rcases aD j vs.length with g|g
   .rw[Array.getElem?_append_left (by simpa using g)]
    simp
   .rw[Array.getElem?_append_right (by simpa using g)]
    rw[aZ g]
    simp only[dG,Array.getElem?_replicate]
    split <;> rfl
  rw[hg]
  cases hc:xs[j]? with
  | none =>
   have:vs[j]?=none:=by
    rw[List.getElem?_eq_none_iff] at hc ⊢
    rw[hvs.length];exact hc
   rw[aY,aY,this,hc]
   simp[aF,Rep]
  | some c =>
   obtain⟨v,hv,hr⟩:=hvs.get j c hc
   rw[aY,aY,hv,hc]
   exact hr}
def ac1(x:X)(objs:List Ob)(clk:Nat):S:=⟨λj=>match j with
 | 0=>.ptr 0 0
 | 1=>.ptr 1 0
 | 2=>.ptr 2 0
 | 3=>x
 | _=>.of .any,objs,clk⟩
def agT(objs:List Ob)(clk:Nat):S:=⟨λj=>match j with
 | 6=>.ptr 0 0
 | 7=>.ptr 1 0
 | 8=>.ptr 2 0
 | _=>.of .any,objs,clk⟩
def aaX(P:Program)(b:Bool)(fn:Func)(s:S):Option An:=(acw (TT.of P) s fn.results.toList).bind λrs=>aeb 0 false (agN b rs) s.objs
def anT(s s1:S):Prop:=∀ (M0:Base) (k:Know) (ow:Own) (w0 w:World) (N:Nat) (tmps:Array Value),Sim M0 k ow (λ_=>False) w0 w N s tmps->∃ ow',Sim M0 k ow' (λ_=>False) w0 w N s1 tmps
end
theorem anT.of{s4:S}{objs:List Ob}(fr5:Nat->X)(ho:s4.objs=objs)(hfr:∀ j,fr5 j=.of .any\/(fr5 j=s4.fr j/\∀ t,(fr5 j).drop t=fr5 j))(hd:∀ t:Tk,objs.map (Ob.drop t)=objs){r ty:Nat}{A:List X}
  (hr:objs[r]?=some (.var ty (A++[.nil,.nil,.nil]))) (e1 z1 e2 z2 e3 z3:Nat) (h0:∀ o,(A.length=o\/A.length+1=o\/A.length+2=o)->(o == 1099511627776)=false) :
  anT s4 ⟨fr5,objs.set r (.var ty (A++[.own (.cell r A.length) e1 z1 [] 0,.own (.cell r (A.length+1)) e2 z2 [] 0,.own (.cell r (A.length+2)) e3 z3 [] 0])),s4.clk⟩:=by
 intro M0 k ow w0 w N tmps hs
 have h1:Sim M0 k ow (λ_=>False) w0 w N ⟨fr5,objs,s4.clk⟩ tmps:=hs.reslot ⟨fr5,objs,s4.clk⟩ ho.symm rfl hs.size λj=>by
  rcases hfr j with q|q
  .show aF k ow (fr5 j) _;rw[q];exact aiJ _
  .show aF k ow (fr5 j) _;rw[q.1];exact hs.fr j
 have del:∀ (t:Tk) (ow:Own),t.isRow=false->Sim M0 k ow (λ_=>False) w0 w N ⟨fr5,objs,s4.clk⟩ tmps->Sim M0 k (ow.del t) (λ_=>False) w0 w N ⟨fr5,objs,s4.clk⟩ tmps:=by
  intro t ow ht h
  have g:=h.del t ht
  refine g.reslot ⟨fr5,objs,s4.clk⟩ (by show objs=objs.map (Ob.drop t);exact (hd t).symm) rfl g.size λj=>?_
  have q:aF k (ow.del t) ((fr5 j).drop t) (tmps.getD j undef):=g.fr j
  rcases hfr j with e|e
  .show aF k _ (fr5 j) _;rw[e];exact aiJ _
  .rw[e.2 t] at q;exact q
 have g:=del (.cell r (A.length+2)) _ (by exact h0 _ (.inr (.inr rfl))) (del (.cell r (A.length+1)) _ (by exact h0 _ (.inr (.inl rfl))) (del (.cell r A.length) _ (by exact h0 _ (.inl rfl)) h1))
 have hrl:r<objs.length:=(List.getElem?_eq_some_iff.1 hr).1
 obtain⟨ow1,k1,f1⟩:=g.nilOwn (A:=A) (B:=[.nil,.nil]) (by exact hr) e1 z1 (by simp[Own.del])
 obtain⟨ow2,k2,f2⟩:=k1.nilOwn (r:=r) (ty:=ty) (A:=A++[.own (.cell r A.length) e1 z1 [] 0]) (B:=[.nil]) (by simp[da hrl]) e2 z2 (by
  have q:(Tk.cell r (A++[X.own (.cell r A.length) e1 z1 [] 0]).length)≠.cell r A.length:=by simp
  rw[f1 _ q];simp[Own.del])
 obtain⟨ow3,k3,f3⟩:=k2.nilOwn (r:=r) (ty:=ty) (A:=A++[.own (.cell r A.length) e1 z1 [] 0,.own (.cell r (A.length+1)) e2 z2 [] 0]) (B:=[]) (by simp[hrl]) e3 z3 (by
  have q:(Tk.cell r (A++[X.own (.cell r A.length) e1 z1 [] 0,X.own (.cell r (A.length+1)) e2 z2 [] 0]).length)≠.cell r A.length:=by simp
  have q2:(Tk.cell r (A++[X.own (.cell r A.length) e1 z1 [] 0,X.own (.cell r (A.length+1)) e2 z2 [] 0]).length)≠.cell r (A++[X.own (.cell r A.length) e1 z1 [] 0]).length:=by simp
  rw[f2 _ q2,f1 _ q];simp[Own.del])
 refine⟨ow3,?_⟩
 have e:∀ (x y z:Ob),((objs.set r x).set r y).set r z=objs.set r z:=λx y z=>by simp
 simp only[e,aeX,fj,aw0] at k3
 exact k3
def amF(o:Oper):List Nat:=(o.after.toList.filter λe=>Region.binds .any e).map (·.on)
def dZ(E:List (List Nat))(l:List Bool):List Nat:=(List.range E.length).filter λi=>!(l.getD i true)&&(E.getD i []).all λd=>l.getD d false
def aEB(ops:List Oper)(i:Nat)(K:Oper->Prop):Prop:=match ops[i]? with
 | some o=>K o
 | none=>False
def WF(P:Program)(pr:Pr)(ops:List Oper)(E:List (List Nat))(Q:S->Prop):Nat->List Bool->S->Prop
 | 0,_,s=>Q s
 | n+1,l,s=>∀ i∈dZ E l,aEB ops i λo=>o.guard=none/\SO P pr false i o s λe s'=>e=none/\WF P pr ops E Q n (l.set i true) s'
section
variable {P:Program} {G:GP} {pr:Pr} {M0:Base} {w0:World} {N:Nat} {ds:List Deferred}
theorem aM5{E:List (List Nat)}{l:List Bool}{i:Nat}(h1:i<E.length)(h2:l.getD i true=false)(h3:∀ d∈E.getD i [],l.getD d false=true):i∈dZ E l:=by
 unfold dZ
 rw[List.mem_filter,List.mem_range]
 refine⟨h1,?_⟩
 rw[h2,dK,dz,List.all_eq_true]
 exact h3
theorem af7(l:List Bool)(i:Nat)(b:Bool):l.toArray.getD i b=l.getD i b:=by
 rw[bi,aY,adt]
theorem aJM{l:List Bool}{i:Nat}(h:l.getD i true=false):(l.set i true).count false+1=l.count false:=by
 induction l generalizing i with
 | nil=>simp at h
 | cons b r ih =>
  cases i with
  | zero=>simp only[List.getD_cons_zero] at h;subst h;simp
  | succ i =>
   simp only[List.getD_cons_succ] at h
   have:=ih h
   simp only[ag4,List.count_cons]
   omega
theorem aMw{l:List Bool}(h:l.count false=0)(i:Nat):l.getD i true=true:=by
 rw[List.count_eq_zero] at h
 rw[aY]
 cases e:l[i]? with
 | none=>rfl
 | some b =>
  cases b with
  | true=>rfl
  | false=>exact absurd (bT e) h
theorem azW(hm:P.follows .mixedOrders=true)(hpr:PrSound P G pr)(hG:M0.G=G){ops:Array Oper}(hdst:∀ (j:Nat) (o:Oper),ops[j]?=some o->acj N o=true){E:List (List Nat)}(hE:ops.toList.map amF=E)(hlt:∀ i d,d∈E.getD i []->d<i)
  {Q:Exit->Act->World->Prop} {Qs:S->Prop} {k0:Know} (hQ:∀ s' tmps' w' k' ow' done',k0.le k'->Qs s'->Sim M0 k' ow' done' w0 w' N s' tmps'->Q .normal ⟨tmps',ds⟩ w') :
  ∀ (n:Nat) (l:List Bool) (s:S) (w:World) (tmps:Array Value) (k:Know) (ow:Own),l.count false=n->l.length=ops.size->k0.le k->Sim M0 k ow (λj=>l.getD j true=true) w0 w N s tmps->WF P pr ops.toList E Qs n l s->wpAny P .any ops Q n l.toArray ⟨tmps,ds⟩ w
 | 0,l,s,w,tmps,k,ow,hn,hz,hk,hs,h=>by
  have:Region.ready .any ops l.toArray=[]:=List.eq_nil_iff_forall_not_mem.2 λi hi=>by
   have:=(mem_ready.1 hi).1
   rw[af7,aMw hn] at this
   cases this
  exact⟨this,hQ s tmps w k ow _ hk h hs⟩
 | n+1,l,s,w,tmps,k,ow,hn,hz,hk,hs,h=>by
  have hEl:E.length=ops.size:=by rw[← hE];simp
  have hEi:∀ i o,ops[i]?=some o->E.getD i []=amF o:=λi o ho=>by
   rw[← hE,aY,bo,adx,ho];rfl
  refine⟨λh0=>?_,λi hi=>?_⟩
  .-- the first that is not done is ready
   exfalso
   have:∃ i,l.getD i true=false:=by
    by_cases q:∃ i,l.getD i true=false
    .exact q
    .exfalso
     have:false∈l:=by
      rcases aan (l.count false) with z|z
      .omega
      .exact List.count_pos_iff.1 z
     obtain⟨i,hi⟩:=List.mem_iff_getElem?.1 this
     exact q ⟨i,by rw[aY,hi];rfl⟩
   obtain⟨i,hi⟩:=this
   have key:∀ n i,i<=n->l.getD i true=false->∃ j,l.getD j true=false/\∀ d,d<j->l.getD d true=true:=by
    intro n
    induction n with
    | zero=>intro i hi h;exact⟨i,h,λd hd=>by omega⟩
    | succ n ih =>
     intro i hi h
     by_cases q:∃ d,d<i/\l.getD d true=false
     .obtain⟨d,h1,h2⟩:=q
      exact ih d aC h2
     .exact⟨i,h,λd hd=>by
       cases e:l.getD d true with
       | true=>rfl
       | false=>exact absurd ⟨d,hd,e⟩ q⟩
   obtain⟨j,hj,hd⟩:=key i i (ae _) hi
   have hjl:j<l.length:=by
    rcases aD j l.length with g|g
    .exact g
    .rw[aY,aZ g] at hj;cases hj
   have hjo:j<ops.size:=by omega
   have:j∈Region.ready .any ops l.toArray:=by
    refine mem_ready.2 ⟨by rw[af7];exact hj,ops[j],Array.getElem?_eq_getElem hjo,λe he hb=>?_⟩
    have h1:e.on∈E.getD j []:=by
     rw[hEi j _ (Array.getElem?_eq_getElem hjo)]
     unfold amF
     exact List.mem_map.2 ⟨e,List.mem_filter.2 ⟨by simpa using he,hb⟩,rfl⟩
    have h2:=hlt j _ h1
    have h3:=hd _ h2
    rw[af7]
    have:e.on<l.length:=by omega
    rw[aY,aM this] at h3 ⊢
    exact h3
   rw[h0] at this
   cases this
  .obtain⟨hun,o,ho,hdep⟩:=mem_ready.1 hi
   rw[af7] at hun
   have hil:i<E.length:=by rw[hEl];exact (Array.getElem?_eq_some_iff.1 ho).1
   have hmem:i∈dZ E l:=aM5 hil hun λd hd=>by
    rw[hEi i o ho] at hd
    unfold amF at hd
    obtain⟨e,h1,rfl⟩:=List.mem_map.1 hd
    obtain⟨h1,h2⟩:=List.mem_filter.1 h1
    have:=hdep e (by simpa using h1) h2
    rw[af7] at this
    exact this
   have h2:=h i hmem
   unfold aEB at h2
   rw[adx,ho] at h2
   obtain⟨hg,m,e,s',hst,rfl,H⟩:=h2
   have horc:EnSound P M0.G (enN P pr m):=by rw[hG];exact anK hpr (akm hm hpr m)
   have hstG:bx P (TT.of P) (enN P pr m) false ops s i o=some (none,s'):=by
    unfold bx dM
    rw[hg]
    exact hst
   have hun':¬ (l.getD i true=true):=by rw[hun];simp
   refine aaG hs horc hun' ho (hdst i o ho) hstG (λ_ tmps' w' k' ow' g1 g2=>?_) (λx hx=>by cases hx)
   have hset:(l.toArray.setIfInBounds i true)=(l.set i true).toArray:=by simp
   rw[hset]
   have hc:=aJM hun
   refine azW hm hpr hG hdst hE hlt hQ n (l.set i true) s' w' tmps' k' ow' aC (by simpa using hz) (Know.le_trans hk g1) (g2.more λj hj=>?_) H
   rcases hj with hj|rfl
   .by_cases hij:i=j
    .subst hij;exact absurd hj hun'
    .rw[aY,eu hij,← aY];exact hj
   .rcases aD j l.length with g|g
    .rw[aY,da g];rfl
    .rw[aY,aZ (by simpa using g)];rfl
end
def bk(P:Program)(G:GP)(N:Nat)(c:Code)(s:S)(Φ:Ex->S->Prop):Prop :=
 ∀ (M0:Base) (k:Know) (ow:Own) (w0 w:World) (tmps:Array Value) (ds:List Deferred) (Q:Exit->Act->World->Prop),M0.G=G->Sim M0 k ow (λ_=>False) w0 w N s tmps ->
  (∀ e s' x tmps' w' k' ow',Φ e s'->k.le k'->Sim M0 k' ow' (λ_=>False) w0 w' N s' tmps'->e.is k' ow' x->Q x ⟨tmps',ds⟩ w')->c.wp P Q ⟨tmps,ds⟩ w
section
variable {P:Program} {G:GP} {pr:Pr} {N:Nat} {s:S} {Φ:Ex->S->Prop}
theorem bk.of(hm:P.follows .mixedOrders=true)(hpr:PrSound P G pr){c:Code}(hok:aaP pr.mt N c=true)(h:WC P pr c s Φ):bk P G N c s Φ :=
 λ_ _ _ _ _ _ _ _ hG hs hQ=>aw5 hm hpr hok h hG hs hQ
def aQm(P:Program)(G:GP)(N:Nat)(b:Code)(Φ:Ex->S->Prop):Ex->S->Prop
 | .normal,s=>bk P G N b s Φ
 | e,s=>Φ e s
theorem bk.seq{a b:Code}(h:bk P G N a s (aQm P G N b Φ)):bk P G N (.seq a b) s Φ:=by
 intro M0 k ow w0 w tmps ds Q hG hs hQ
 refine wp_seq (h M0 k ow w0 w tmps ds _ hG hs λe s' x tmps' w' k' ow' g1 g2 g3 g4=>?_)
 cases e with
 | normal =>
  simp only[Ex.is] at g4;subst g4
  exact g1 M0 k' ow' w0 w' tmps' ds Q hG g3 λe s'' x tmps'' w'' k'' ow'' q1 q2 q3 q4=>hQ e s'' x tmps'' w'' k'' ow'' q1 (Know.le_trans g2 q2) q3 q4
 | exit i =>
  have h:=hQ (.exit i) s' x tmps' w' k' ow' g1 g2 g3 g4
  simp only[Ex.is] at g4;subst g4;exact h
 | ret =>
  have h:=hQ .ret s' x tmps' w' k' ow' g1 g2 g3 g4
  simp only[Ex.is] at g4;subst g4;exact h
 | pan y =>
  have h:=hQ (.pan y) s' x tmps' w' k' ow' g1 g2 g3 g4
  simp only[Ex.is] at g4;obtain⟨v,rfl,_⟩:=g4;exact h
theorem bk.cond{c:Operand}{a b:Code}{t:Bool}(hc:adF (s.ev c)=some t)(h:bk P G N (if t then a else b) s Φ):bk P G N (.cond c a b) s Φ:=by
 intro M0 k ow w0 w tmps ds Q hG hs hQ
 cases t with
 | true=>exact wp_cond_true (akP hc (Sim.ev (ds:=ds) hs c)) (h M0 k ow w0 w tmps ds Q hG hs hQ)
 | false=>exact wp_cond_false (akP hc (Sim.ev (ds:=ds) hs c)) (h M0 k ow w0 w tmps ds Q hG hs hQ)
theorem bk.any(hm:P.follows .mixedOrders=true)(hpr:PrSound P G pr){id:Nat}{ops:Array Oper}(hdst:ops.all (acj N)=true){E:List (List Nat)}(hE:ops.toList.map amF=E)(hlt:((List.range E.length).all λi=>(E.getD i []).all λd=>decide (d<i))=true)
  (h:WF P pr ops.toList E (λs'=>Φ .normal {s' with clk:=s'.clk+1}) ops.size (List.replicate ops.size false) s):bk P G N (.region id ops true) s Φ:=by
 intro M0 k ow w0 w tmps ds Q hG hs hQ
 have hb:Below w.heap.size w {w with drawn:=w.drawn+1}:=⟨rfl,rfl,rfl,ae _,λ_ _=>rfl⟩
 have hd':∀ (j:Nat) (o:Oper),ops[j]?=some o->acj N o=true:=λj o ho=>by
  rw[Array.all_eq_true_iff_forall_mem] at hdst
  exact hdst o (Array.mem_of_getElem? ho)
 have hlt':∀ i d,d∈E.getD i []->d<i:=λi d hd=>by
  rcases aD i E.length with g|g
  .have:=List.all_eq_true.1 hlt i (List.mem_range.2 g)
   exact abn (List.all_eq_true.1 this d hd)
  .rw[aY,aZ g] at hd;cases hd
 refine wp_region_any hm ?_
 have h2:=(hs.grow hb).more (done':=λj=>(List.replicate ops.size false).getD j true=true) (λ_ h=>h.elim)
 have:=azW (Q:=Q) (ds:=ds) hm hpr hG hd' hE hlt' (k0:=k) (λs' tmps' w' k' ow' done' g1 g2 g3=>hQ .normal _ .normal tmps' w' k' ow' g2 g1 g3.tick rfl) ops.size (List.replicate ops.size false) s _ tmps k ow aT aT (Know.le_refl k) h2 h
 simpa using this
end
section
variable (P:Program) (pr:Pr) (ops:List Oper) (E:List (List Nat)) (Q:S->Prop) (n:Nat) (l:List Bool) (s:S)
def WFk(e:Option X)(s':S):Prop:=e=none/\WF P pr ops E Q n l s'
def WFo(i:Nat):Option Oper->Prop
 | some o=>o.guard=none/\SO P pr false i o s (WFk P pr ops E Q n (l.set i true))
 | none=>False
def WFs:List Nat->Prop
 | []=>True
 | i::r=>WFo P pr ops E Q n l s i ops[i]?/\WFs r
theorem ahS:WFs P pr ops E Q n l s []↔True:=bg
theorem afn(i:Nat)(r:List Nat):WFs P pr ops E Q n l s (i::r)↔WFo P pr ops E Q n l s i ops[i]?/\WFs P pr ops E Q n l s r:=bg
theorem agu(i:Nat)(d:Option Nat)(op:Op)(ty:Nat)(po:String)(af:Array Edge):WFo P pr ops E Q n l s i (some ⟨d,op,ty,po,af,none⟩)↔SO P pr false i ⟨d,op,ty,po,af,none⟩ s (WFk P pr ops E Q n (l.set i true)):=by simp[WFo]
theorem agv(s':S):WFk P pr ops E Q n l none s'↔WF P pr ops E Q n l s':=by simp[WFk]
theorem ahT:WF P pr ops E Q 0 l s↔Q s:=bg
theorem aWB(L:List Nat):WFs P pr ops E Q n l s L↔∀ i∈L,aEB ops i λo=>o.guard=none/\SO P pr false i o s λe s'=>e=none/\WF P pr ops E Q n (l.set i true) s':=by
 induction L with
 | nil=>simp[WFs]
 | cons i r ih =>
  rw[afn,ih,List.forall_mem_cons]
  refine and_congr ?_ bg
  unfold aEB
  cases ops[i]? with
  | none=>exact bg
  | some o=>exact bg
theorem ahU:WF P pr ops E Q (n+1) l s↔WFs P pr ops E Q n l s (dZ E l):=(aWB P pr ops E Q n l s _).symm
end
def adW(P:Program)(G:GP)(pr:Pr)(f:Nat)(fn:Func)(N Ng:Nat)(B D:Code)(an:An)(s5:S):Prop :=
 bk P G N B s5 λe s6=>(e=.ret/\aaX P (pr.keep f) fn s6=some an)\/(∃ t c,e=.pan (.of (.ifc t c))/\s6.fr 6=.ptr 0 0/\s6.fr 7=.ptr 1 0/\s6.fr 8=.ptr 2 0 /\
  bk P G Ng D (ac1 (.of (.ifc t c)) s6.objs s6.clk) λe s7=>e=.normal/\aaX P (pr.keep f) fn (agT s7.objs s7.clk)=some an)
def al5(P:Program)(pr:Pr)(f:Nat)(fn:Func)(an:An)(K:S->Prop)(e:Ex)(s2:S):Prop:=(e=.ret/\aaX P (pr.keep f) fn s2=some an)\/(e=.normal/\K s2)
def a3x(K:S->Prop)(e:Ex)(s4:S):Prop:=e=.normal/\s4.fr 6=.ptr 0 0/\s4.fr 7=.ptr 1 0/\s4.fr 8=.ptr 2 0/\∃ s5,s5.fr 6=.ptr 0 0/\s5.fr 7=.ptr 1 0/\s5.fr 8=.ptr 2 0/\s5.fr 30=.of .any/\anT s4 s5/\K s5
def ab3{P:Program}{G:GP}{pr:Pr}(hm:P.follows .mixedOrders=true)(hpr:PrSound P G pr){f g N Ng:Nat}{fn fg:Func}(hf:P.funcs[f]?=some fn)(hN:fn.ntmps=N){r0 r1 r2 r4 r5 B D:Code}
  (hb:fn.body=some (.seq r0 (.seq r1 (.seq r2 (.seq r4 (.seq r5 B)))))) (hg0:fg.results=#[])
  (ok0:aaP pr.mt N r0=true) (ok1:aaP pr.mt N r1=true) (ok2:aaP pr.mt N r2=true) (ok4:aaP pr.mt N r4=true)
  (h5:∀ (tmps:Array Value) (w:World) (X:Act->World->Prop) (Q:Exit->Act->World->Prop),tmps.size=N->(∀ cap,cap=#[tmps.getD 6 undef,tmps.getD 7 undef,tmps.getD 8 undef]->X ⟨tmps.setIfInBounds 30 (.func (.func g) #[] cap),[⟨.fn (.func g) cap,#[]⟩]⟩ w)->r5.wp P (Exit.then X Q) ⟨tmps,[]⟩ w)
  (hinv:∀ cap w,(invoke (.fn (.func g) cap) #[]).run P w=.ok (.enter g cap) w)
  (hidle:∀ p6 p7 p8 w,CallsD P g #[p6,p7,p8] .returning w λe u' w'=>e=.returned (.tuple #[])/\u'=.returning/\w'=w)
  (hcat:∀ t u p6 p7 p8 w R,(∀ (c₀:Frame) (cs:List Frame) (T:Array Value),T.size=Ng->T.getD 0 undef=p6->T.getD 1 undef=p7->T.getD 2 undef=p8->T.getD 3 undef=.iface t u ->
    D.wp P (λe a w'=>bodyPostS P fg c₀ cs R e a ({c₀ with mode:=.panicking [{v:=.iface t u,recovered:=true}]}::cs) w') ⟨T,[]⟩ w)->CallsD P g #[p6,p7,p8] (.panicking [{v:=.iface t u,recovered:=false}]) w R)
  {xs:List X} (har:xs.length<=N) {an:An}
  (hA:WC P pr r0 (adz xs []) λe s0=>e=.normal/\WC P pr r1 s0 λe s1=>e=.normal/\WC P pr r2 s1 (al5 P pr f fn an λs2=>WC P pr r4 s2 (a3x (adW P G pr f fn N Ng B D an)))) :
  aa2 P G f xs [] an:=by
 unfold al5 a3x adW at hA
 intro fn' hf' k ow w vs hhp hold hcl hvs
 obtain rfl:fn=fn':=ay (hf.symm.trans hf')
 let M0:Base:=⟨G,k.m,abM k ow⟩
 have hvl:vs.length<=N:=by rw[hvs.length];exact har
 have hsim:=ayH (M0:=M0) (N:=N) hhp hold hcl hvs hvl
 have fin:∀ (s:S) (tmps':Array Value) (w':World) (k':Know) (ow':Own) (N':Nat),aaX P (pr.keep f) fn s=some an->k.le k'->Sim M0 k' ow' (λ_=>False) w w' N' s tmps' ->
   ∃ v,(results fn tmps').run P w'=.ok v w'/\∃ k' ow' us,ahb an.pan us (.returned v)/\Hp M0 k' ow' w w' an.obs/\k.m.le k'.m/\([]:List Ob).length<=an.obs.length/\(∀ r,r<([]:List Ob).length->k'.μ r=k.μ r) /\
    (∀ t p,ow' t=some p->t.older 1 λ_=>False)/\(∀ r off p,ow' (.cell r off)=some p->r<an.obs.length)/\aR k' ow' an.rs us:=by
  intro s tmps' w' k' ow' N' hl hle hs
  unfold aaX at hl
  simp only[bD] at hl
  obtain⟨rs,hrs,hl⟩:=hl
  obtain⟨us,h1,h2⟩:=ag1 (P:=P) hs fn.results.toList rs hrs
  obtain⟨k2,ow2,g1,g2,g3,g4,g5,g6,g7,g8⟩:=ajh hs.toHp hl (aoV (pr.keep f) h2)
  exact⟨_,alP h1,k2,ow2,us,by rw[g1];rfl,g2,by rw[g3];exact hle.1,aO _,λr hr=>absurd hr (adR _),g6,g7,g8⟩
 have rep6:∀ {k:Know} {ow:Own} {r:Nat} {v:Value},aF k ow (.ptr r 0) v->aF k ow (.ptr r 0) v:=λh=>h
 refine calls_of_wp_defers hf hb ?_
 rw[hN]
 refine amT hm hpr ok0 hA rfl hsim ?_ (λe s' x tmps' w' k' ow' hne h=>absurd h.1 hne)
 rintro s0 t0 w1 k1 ow1 ⟨_,h1⟩ l1 hs1
 refine amT hm hpr ok1 h1 rfl hs1 ?_ (λe s' x tmps' w' k' ow' hne h=>absurd h.1 hne)
 rintro s1 t1 w2 k2 ow2 ⟨_,h2⟩ l2 hs2
 have l2:=Know.le_trans l1 l2
 refine amT hm hpr ok2 h2 rfl hs2 ?_ ?_
 rotate_left
 .intro e s' x tmps' w' k' ow' hne h g2 g3 g4
  rcases h with ⟨rfl,h⟩|h
  .simp only[Ex.is] at g4
   subst g4
   obtain⟨v,g5,g6⟩:=fin s' tmps' w' k' ow' N h (Know.le_trans l2 g2) g3
   exact⟨v,g5,g6⟩
  .exact absurd h.1 hne
 rintro s2 t2 w3 k3 ow3 h3 l3 hs3
 rcases h3 with h3|⟨_,h3⟩
 .cases h3.1
 have l3:=Know.le_trans l2 l3
 refine amT hm hpr ok4 h3 rfl hs3 ?_ (λe s' x tmps' w' k' ow' hne h=>absurd h.1 hne)
 rintro s4 t4 w4 k4 ow4 ⟨_,e6,e7,e8,s5,q6,q7,q8,q30,turn,hB⟩ l4 hs4
 have l4:=Know.le_trans l3 l4
 obtain⟨ow5,hs5⟩:=turn _ _ _ _ _ _ _ hs4
 refine wp_seq (h5 t4 w4 _ _ hs4.size λcap hcap=>?_)
 have c6:=hs5.fr 6;rw[q6] at c6
 have c7:=hs5.fr 7;rw[q7] at c7
 have c8:=hs5.fr 8;rw[q8] at c8
 have hs5':Sim M0 k4 ow5 (λ_=>False) w w4 N s5 (t4.setIfInBounds 30 (.func (.func g) #[] cap)):=hs5.reslot s5 rfl rfl (by rw[aaD];exact hs5.size) λj=>by
  by_cases hj:j=30
  .subst hj;rw[q30];exact aiJ _
  .have:(t4.setIfInBounds 30 (.func (.func g) #[] cap)).getD j undef=t4.getD j undef:=by
    rw[bi,bi,be (λh=>hj h.symm)]
   rw[this];exact hs5.fr j
 refine hB _ _ _ _ _ _ _ _ rfl hs5' λe s6 x t6 w6 k6 ow6 hΦ l6 hs6 hx=>?_
 have l6':=Know.le_trans l4 l6
 rcases hΦ with ⟨rfl,h⟩|⟨t,c,rfl,p6,p7,p8,hD⟩
 .simp only[Ex.is] at hx
  subst hx
  show Leaves P fn t6 _ _ .returning w6
  subst hcap
  refine leaves_cons aT (hinv _ _) ((hidle _ _ _ _).mono ?_)
  rintro e u' w' ⟨rfl,rfl,rfl⟩
  obtain⟨v,g5,g6⟩:=fin s6 t6 _ k6 ow6 N h l6' hs6
  exact⟨v,g5,g6⟩
 .simp only[Ex.is,aF,Rep] at hx
  obtain⟨v,rfl,u,rfl,hu⟩:=hx
  show Leaves P fn t6 _ _ (.panicking _) w6
  subst hcap
  refine leaves_cons aT (hinv _ _) (hcat _ _ _ _ _ _ _ λc₀ cs T hT a0 a1 a2 a3=>?_)
  have hsD:Sim M0 k6 ow6 (λ_=>False) w w6 Ng (ac1 (.of (.ifc t c)) s6.objs s6.clk) T:=hs6.reslot (ac1 (.of (.ifc t c)) s6.objs s6.clk) rfl rfl hT λj=>by
   match j with
   | 0=>rw[a0];simpa only [ac1,aF] using (show ∃ b,k6.μ 0=some b/\t4.getD 6 undef=.pointer (some ⟨b,0,none⟩) by
     simp only[aF] at c6;obtain⟨b,hb1,hb2⟩:=c6;exact⟨b,l6.2 _ _ hb1,hb2⟩)
   | 1=>rw[a1];simpa only [ac1,aF] using (show ∃ b,k6.μ 1=some b/\t4.getD 7 undef=.pointer (some ⟨b,0,none⟩) by
     simp only[aF] at c7;obtain⟨b,hb1,hb2⟩:=c7;exact⟨b,l6.2 _ _ hb1,hb2⟩)
   | 2=>rw[a2];simpa only [ac1,aF] using (show ∃ b,k6.μ 2=some b/\t4.getD 8 undef=.pointer (some ⟨b,0,none⟩) by
     simp only[aF] at c8;obtain⟨b,hb1,hb2⟩:=c8;exact⟨b,l6.2 _ _ hb1,hb2⟩)
   | 3=>rw[a3];simp only[ac1,aF,Rep];exact⟨u,rfl,hu⟩
   | j+4=>exact aiJ _
  refine hD _ _ _ _ _ _ _ _ rfl hsD λe s7 x t7 w7 k7 ow7 hΦ l7 hs7 hx=>?_
  obtain⟨rfl,h⟩:=hΦ
  simp only[Ex.is] at hx
  subst hx
  refine⟨rfl,_,rfl,.tuple #[],by simp[results,hg0],?_⟩
  have d6:=hs6.fr 6;rw[p6] at d6;simp only[aF] at d6
  have d7:=hs6.fr 7;rw[p7] at d7;simp only[aF] at d7
  have d8:=hs6.fr 8;rw[p8] at d8;simp only[aF] at d8
  have hsR:Sim M0 k7 ow7 (λ_=>False) w w7 N (agT s7.objs s7.clk) t6:=hs7.reslot (agT s7.objs s7.clk) rfl rfl hs6.size λj=>by
   by_cases h6:j=6
   .subst h6;obtain⟨b,hb1,hb2⟩:=d6;simp only[agT,aF];exact⟨b,l7.2 _ _ hb1,hb2⟩
   by_cases h7:j=7
   .subst h7;obtain⟨b,hb1,hb2⟩:=d7;simp only[agT,aF];exact⟨b,l7.2 _ _ hb1,hb2⟩
   by_cases h8:j=8
   .subst h8;obtain⟨b,hb1,hb2⟩:=d8;simp only[agT,aF];exact⟨b,l7.2 _ _ hb1,hb2⟩
   have:(agT s7.objs s7.clk).fr j=.of .any:=by
    unfold agT
    simp only
   rw[this]
   exact aiJ (t6.getD j undef)
  obtain⟨v,g5,g6⟩:=fin _ t6 _ k7 ow7 N h (Know.le_trans l6' l7) hsR
  exact⟨v,g5,g6⟩
end Go.Pe
namespace Go.Pe
open Tab
def aEz{α:Type}(o:Option α)(A:α->Prop)(B:Prop):Prop:=match o with
 | some a=>A a
 | none=>B
def auQ{α:Type}(a:α)(A:α->Prop)(B:Prop):aEz (some a) A B↔A a:=bg
def aT1{α:Type}{o o':Option α}(A:α->Prop)(B:Prop)(h:Unit->o=o'):aEz o A B=aEz o' A B:=by rw[h ()]
attribute [congr] aT1
def ifP(p:Prop)(A B:Prop):Prop:=(p/\A)\/(¬p/\B)
def at0{p A B:Prop}(h:p):ifP p A B↔A:=by simp[ifP,h]
def ayN(A B:Prop):ifP True A B↔A:=by simp[ifP]
def aZR{p p':Prop}(A B:Prop)(h:Unit->p=p'):ifP p A B=ifP p' A B:=by rw[h ()]
attribute [congr] aZR
def ajq(P:Program)(pr:Pr)(f:Nat)(xs:List X)(K:An->Prop):Prop:=abl P pr f xs [] K
def ana{P:Program}{pr:Pr}{f:Nat}{xs:List X}{p:Prop}{an:An}(h:p->aH P pr f xs [] an)(K:An->Prop):abl P pr f xs [] K↔ifP p (K an) (ajq P pr f xs K):=by
 by_cases hp:p
 .rw[at0 hp];exact aH.k (h hp) K
 .simp only[ifP,hp,fH,abp,cV,aij];exact bg
def a4Z{α:Type}(f:α->List C)(l:List α):C.sl (fl f l) l.length=slC f l:=rfl
def aso{α:Type}(f:α->List C):fl f []=[]:=rfl
def ayV{α:Type}(f:α->List C)(a b:List α):fl f (a++b)=fl f a++fl f b:=by simp[fl]
def akW{α:Type}(f:α->List C)(a:α):fl f [a]=f a:=by simp[fl]
def akz{α:Type}(f:α->List C)(a:α)(l:List α):fl f (a::l)=f a++fl f l:=by simp[fl]
theorem ayU{α:Type}{f:α->List C}{z:Nat}(hf:∀ x,(f x).length=z):∀ l:List α,(fl f l).length=l.length*z
 | []=>by simp[fl]
 | a::l=>by rw[akz,bc,hf,ayU hf l,aN,Nat.succ_mul,eJ]
theorem aCW{α:Type}{f:α->List C}{z:Nat}(hf:∀ x,(f x).length=z):∀ (l:List α) (k:Nat),(fl f l).drop (k*z)=fl f (l.drop k)
 | l,0=>by simp
 | [],k+1=>by simp[fl]
 | a::l,k+1=>by
  rw[akz,agO,← aCW hf l k,Nat.succ_mul,eJ,← agf,aaI (by rw[hf];exact ae _),(show (f a).drop z=[] from dB (by rw[hf];exact ae _)),cj]
def aaF{α:Type}(l:List α)(i:Int):Option α:=if 0<=i then l[i.toNat]? else none
def akV{α:Type}(l:List α)(k:Nat):aaF l (k:Int)=l[k]?:=by simp[aaF]
def dN{α:Type}{l:List α}{k:Nat}(h:k<l.length):aaF l (k:Int)=some l[k]:=by rw[akV,aM h]
def aen{α:Type}(o:Option α)(g:α->X):Out:=match o with
 | some a=>out (g a)
 | none=>none
def aIi{α:Type}(s:S)(d:Option Nat)(af:Array Edge)(K:S->Prop)(o:Option α)(g:α->X):abd s d af K (aen o g)↔aEz o (λa=>K (s.put d (g a))) False:=by
 cases o <;> exact bg
def adk{T:TT}{t e:Nat}{d:TD}(h:elemOf T t=some (e,d)){α:Type}{f:α->List C}(hf:∀ x,(f x).length=d.size)(hz:0<d.size)(l:List α)(i:Int) :
  bP T t (.of (slC f l)) (.of (.lit (.int .i64 i)))=aen (aaF l i) λx=>.of (.ref (f x++fl f (l.drop (i.toNat+1)))):=by
 rw[adP h (fl f l) l.length i _ rfl]
 unfold aaF
 by_cases h0:0<=i
 .obtain⟨k,rfl⟩:=abK h0
  rw[am (acP k)]
  simp only[fR]
  by_cases h1:k<l.length
  .rw[am ⟨acP k,by omega,ayU hf l,hz⟩,aM h1,aCW hf,ce h1,akz]
   rfl
  .rw[aj (λh=>h1 aC),aZ aC]
   rfl
 .rw[aj (λh=>h0 h.1),aj h0]
  rfl
def ac6{u:Option TypeDesc}{α:Type}(f:α->List C)(l:List α)(h:aio u=true):aah u (.of (slC f l))=out (aQ l.length):=by
 simp only[aah,slC,aaY,h,au]
def aTs{α:Type}(f:α->List C)(l:List α):eA (.of (slC f l))=some [slC f l]:=rfl
def aJX{α:Type}(f:α->List C)(l:List α):cE (.of (slC f l))=some [.of (slC f l)]:=rfl
def aek{T:TT}{t e:Nat}{d:TD}(h:elemOf T t=some (e,d))(hz:0<d.size)(hb:d.bytes<=32768)(tk tk':Tk)(cs0:List C)(n:Nat)(y:X)(cs:List C)(m:Nat)(hy:aaY y=some (cs,m)) :
  dV T tk t t (.own tk' e d.size cs0 n) y=if cs.length=m*d.size/\n+m<=LIM then some (.own tk e d.size (cs0++cs) (n+m),some tk') else none:=by
 simp only[dV,ajI,h,hy,au]
 by_cases h1:cs.length=m*d.size
 .by_cases h2:n+m<=LIM
  .simp only[h1,h2,hz,hb,bM,au]
  .simp only[h1,h2,hz,bM,au,fH,cS,av]
 .simp only[h1,fH,av]
def afG{T:TT}{t e:Nat}{d:TD}(h:elemOf T t=some (e,d))(hz:0<d.size)(hb:d.bytes<=32768)(tk:Tk)(y:X)(cs:List C)(m:Nat)(hy:aaY y=some (cs,m)) :
  dV T tk t t .nil y=if cs.length=m*d.size/\m<=LIM then some (.own tk e d.size cs m,none) else none:=by
 simp only[dV,ajI,h,hy,au]
 by_cases h1:cs.length=m*d.size
 .by_cases h2:m<=LIM
  .simp only[h1,h2,hz,hb,bM,au]
  .rw[am ⟨h1,hz⟩,aj (λh=>h2 h.1),aj (λh=>h2 h.2)]
 .simp only[h1,fH,av]
def adl{T:TT}{t e:Nat}{d:TD}(h:elemOf T t=some (e,d))(hz:0<d.size)(hd:d.size<=1000)(hl:d.zero.length=d.size)(tk:Tk)(xs:List X) :
  cy tk 1 (elemOf T t) (some [(0,xs)])=if xs.length=d.size then bJ ((X.rds xs).map λcs=>.own tk e d.size cs 1) else none:=by
 have h1:(fw d).length=d.size:=by simp[fw,hl]
 simp only[cy,h,acf,List.replicate_one,List.flatten_singleton,hz,hl,bM,aaC]
 rw[am aC]
 simp only[aax,abY,cf,h1]
 by_cases hx:xs.length=d.size
 .rw[am ⟨hx,ae _⟩,am hx]
  simp only[List.take_zero,cj]
  rw[dB aC,df]
  cases X.rds xs <;> rfl
 .rw[aj (λh=>hx h.1),aj hx]
def ad5(l:List UInt8):(aK l).size=l.length:=by simp[aK,ByteArray.size]
def aZD{T:TT}{t:Nat}(hT:(T t).map (·.und)=some .string)(s:List UInt8)(i:Int):agm T t (.of (.lit (.string (aK s)))) (.of (.lit (.int .i64 i)))=aen (aaF s i) λc=>.of (.lit (.int .u8 (c.toNat:Nat))):=by
 rw[aJh hT,ad5]
 unfold aaF
 by_cases h0:0<=i
 .obtain⟨k,rfl⟩:=abK h0
  simp only[fR,acP,cV,au]
  by_cases h1:k<s.length
  .rw[am h1,aM h1]
   simp only[aen,at8]
   congr 5
   show ((aK s).data.toList.getD k 0).toNat=_
   simp[aK,aY,aM h1]
  .rw[aj h1,aZ aC]
   rfl
 .rw[aj (λh=>h0 h.1),aj h0]
  rfl
def zE:=ai @auQ @ayN
def zB:=fZ (gh @abY @List.length_map.{0,0} @fH @cS @afa @ae @aE @eN @aaw) (gh @dz @dL @eK @bj @Option.isNone_none.{0} @Option.isNone_some.{0} @List.any_cons.{0} @List.any_nil.{0} @cW) (gh @Int.cast_ofNat_Int @List.drop_succ_cons.{0} @List.take_succ_cons.{0} @List.singleton_append.{0} @cf @List.set_cons_zero.{0} @List.set_cons_succ.{0} @List.drop_nil.{0} @List.take_nil.{0}) (gh @Option.map_some.{0,0} @Option.map_none.{0,0} @Option.getD_some.{0} @Option.getD_none.{0} @Option.bind_some.{0,0} @List.cons_append.{0} @List.nil_append.{0} @List.append_nil.{0} @List.map_cons.{0,0}) (gh @List.map_nil.{0,0} @List.range_zero @List.take_zero.{0} @List.flatten_nil.{0} @List.filter_nil.{0} @List.length_nil.{0} @List.length_cons.{0} @List.drop_zero.{0} @List.not_mem_nil.{0}) (gh @List.mem_cons.{0} @acQ @ah @List.getElem?_toArray.{0} @List.toList_toArray.{0} @List.getElem?_cons_zero.{0} @List.getElem?_cons_succ.{0} @bf @beq_self_eq_true.{0}) (gh @beq_true @beq_false @aaH @aam @db @dK @cV @aaC @eV) (fY @aij @ap @abp @List.append_assoc.{0} @List.length_append.{0} @Tk.nm.injEq @Tk.cell.injEq)
