/- A part. Conditions: none. -/
import Derived.Test.YtghkmcffifpkeaaGreatPa8
import Derived.Lib.ItoaMem
import Derived.Shelf.Strings.Builder1
import Derived.Lib.Replace
import Derived.Lib.Join
import Derived.Test.YtghkmcffifpkeaaGreatChecked
set_option linter.all false
set_option maxRecDepth 100000
set_option maxHeartbeats 64000000
namespace Go.Proofs.YtghkmcffifpkeaaGreat
open RowKit Pe
def ao4:(Tryz.prog.info? 245).map (·.size)=some 2:=by kernel_rfl
def azc:liesAt Tryz.prog Tryz.prog.depth 245 (2 / Tryz.prog.cellsOf 245) 0 245 1=true:=by kernel_rfl
def aDf(b:Nat)(w:World)(h0:w.cell? ⟨b,0,none⟩=some (.pointer (some ⟨b,0,none⟩))) :
  Calls Tryz.prog 282 #[.pointer (some ⟨b,0,none⟩)] w λe w'=>e=.returned (.tuple #[])/\w'=w:=by
 obtain⟨j,hj,_⟩:=ay.1 ao4
 go_enter Tryz.func282,Tryz.ntmps282
 go_wp2
 rw[Lib.run_neq_ptr_same w _ Tryz.underlying243 hj]
 go_wp2
 go_end0
 exact⟨rfl,rfl⟩
def azs(b:Nat)(w:World)(h0:w.cell? ⟨b,0,none⟩=some (.pointer none))(hsh:w.shape? b=some (245,2))(hfz:w.frozen? ⟨b,0,none⟩=false) :
  Calls Tryz.prog 282 #[.pointer (some ⟨b,0,none⟩)] w λe w'=>e=.returned (.tuple #[])/\w'=w.setCell ⟨b,0,none⟩ (.pointer (some ⟨b,0,none⟩)):=by
 obtain⟨j,hj,hjs⟩:=ay.1 ao4
 go_enter Tryz.func282,Tryz.ntmps282
 go_wp2
 rw[Lib.run_to_unsafe w ⟨b,0,none⟩ Tryz.underlying243 Tryz.underlying294 hj (by rw[hjs];decide) hsh (Nat.zero_lt_succ 1)]
 simp only[Result.andThen]
 rw[Oper.upon_value]
 go_wp2
 rw[run_callFunc_extern Tryz.func302 aS aS aS (e:=Extern.AbiNoEscape.same) aS]
 rw[Lib.run_noEscape]
 simp only[Result.andThen]
 rw[Oper.upon_value]
 go_wp2
 rw[Lib.run_from_unsafe w ⟨b,0,none⟩ Tryz.underlying294 Tryz.underlying243 hj hsh azc]
 simp only[Result.andThen]
 rw[Oper.upon_value]
 go_wp2
 go_end0
 exact⟨rfl,rfl⟩
structure BAt (b:Nat) (p v:Value) (bs:List Value) (w:World):Prop where
 blk:w.heap[b]?=some (.cells #[p,v] 245 (0,0))
 own:w.ownsRow 0 5 1 v bs.length bs
 ne:v.ownBlock≠some b
theorem BAt.lt{b:Nat}{p v:Value}{bs:List Value}{w:World}(h:BAt b p v bs w):b<w.heap.size:=(Array.getElem?_eq_some_iff.1 h.blk).1
structure BPost (b:Nat) (v:Value) (w w':World) (v':Value) (bs':List Value):Prop where
 at':BAt b (.pointer (some ⟨b,0,none⟩)) v' bs' w'
 size:w.heap.size<=w'.heap.size
 os:w'.os=w.os
 tape:w'.tape=w.tape
 output:w'.output=w.output
 row:(v'.ownBlock=v.ownBlock/\∀ k,k<w.heap.size->k≠b->some k≠v.ownBlock->w'.heap[k]?=w.heap[k]?)\/((∃ g,v'.ownBlock=some g/\w.heap.size<=g)/\∀ k,k<w.heap.size->k≠b->w'.heap[k]?=w.heap[k]?)
structure CPost (b:Nat) (v:Value) (w w':World) (bs:List Value):Prop where
 at':BAt b (.pointer (some ⟨b,0,none⟩)) v bs w'
 size:w'.heap.size=w.heap.size
 os:w'.os=w.os
 tape:w'.tape=w.tape
 output:w'.output=w.output
 rest:∀ k,k≠b->w'.heap[k]?=w.heap[k]?
def ae0(w:World)(b o:Nat)(x:Value)(k:Nat)(h:k≠b):(w.setCell ⟨b,o,none⟩ x).heap[k]?=w.heap[k]?:=by
 simp only[World.setCell,aab]
 rw[aA (bC h)]
def am1(w:World)(b o:Nat)(x:Value):(w.setCell ⟨b,o,none⟩ x).heap.size=w.heap.size:=by simp[World.setCell]
def aX0(b:Nat)(p v:Value)(bs:List Value)(w:World)(hp:p=.pointer none\/p=.pointer (some ⟨b,0,none⟩))(h:BAt b p v bs w) :
  Calls Tryz.prog 282 #[.pointer (some ⟨b,0,none⟩)] w λe w'=>e=.returned (.tuple #[])/\CPost b v w w' bs:=by
 rcases hp with rfl|rfl
 .refine (azs b w (by rw[Lib.cell_of_heap h.blk];rfl) (by simp[World.shape?,h.blk]) (Lib.frozen_of_heap h.blk 0)).mono ?_
  rintro e w' ⟨rfl,rfl⟩
  refine⟨rfl,⟨?_,?_,h.ne⟩,am1 w b 0 _,rfl,rfl,rfl,λk hk=>ae0 w b 0 _ k hk⟩
  .simp[World.setCell,aab,h.blk]
  .exact h.own.kept (row:=some b) ⟨rfl,rfl,rfl,by simp[World.setCell],λk _ hk=>ae0 w b 0 _ k (λe=>hk (by simp[e]))⟩ (Or.inr h.ne)
 .refine (aDf b w (by rw[Lib.cell_of_heap h.blk];rfl)).mono ?_
  rintro e w' ⟨rfl,rfl⟩
  exact⟨rfl,h,rfl,rfl,rfl,rfl,λ_ _=>rfl⟩
def aFy:(Tryz.prog.info? 5).map (λi=>(i.zero,i.size,i.bytes))=some (some (.int .u8 0),1,1):=by kernel_rfl
def aIZ:∃ i,Tryz.prog.info? 5=some i/\i.zero=some (.int .u8 0)/\i.size=1/\i.bytes=1:=by
 obtain⟨i,hi,he⟩:=ay.1 aFy
 simp only[bh] at he
 exact⟨i,hi,he⟩
def atQ{P:Program}{w:World}{ops:Array Oper}{rest:List Oper}{o:Oper}{a:Act}{Q:Exit->Act->World->Prop}(hgd:o.guard=none)(sl x:Operand)(t:TypeId)
  (ho:o.op=.call {callee:=.builtin .append,args:=#[sl,x],argTypes:=#[t,t]})
  (e:TypeId) (d:TD) (ht:P.underlying t=some (.slice e)) (hd:TT.of P e=some d) (hz:d.size=1) (hby:d.bytes<=32768)
  (v:Value) (n:Nat) (xs:List Value) (hs:a.eval sl=v) (hown:w.ownsRow 0 e 1 v n xs) (b off m c:Nat) (news:List Value) (hx:a.eval x=.slice (some ⟨b,off,none⟩) m c) (hl:news.length=m)
  (hnews:∀ i u,news[i]?=some u->w.cell? ⟨b,off+i,none⟩=some u) (h1:∀ u∈news,u.oneCell'=true) (hb:n+m<=LIM)
  (h:∀ v' w',w'.ownsRow 0 e 1 v' (n+m) (xs++news)->((w.grownBy w' v.ownBlock/\v'.ownBlock=v.ownBlock)\/(w.grownBy w' none/\v'.ownBlock=some w.heap.size))->wpList P ops Q rest (a.put o.dst v') w'):wpList P ops Q (o::rest) a w:=by
 refine wpList_plain hgd λK hK=>?_
 obtain⟨v',w',hr,h2,h3⟩:=aiR (P:=P) (w:=w) (t:=t) (ty:=o.type) (c:=c) ht hd aC (by rw[hz];exact hown) (A:=some ⟨b,off,none⟩) (m:=m) (news:=news) (by rw[hz];omega) (λ_=>⟨b,off,rfl,hnews⟩) h1 hb hby (bn _)
 rw[hz] at h2
 unfold Oper.wp execOp
 simp only[ho,resolve,invoke,builtin,Sem.run_bind,Sem.run_pure,Result.andThen_ok,List.map_toArray,bd,cI,hs,hx,hr]
 exact hK _ _ (h v' w' h2 h3)
theorem CPost.put{b:Nat}{v v':Value}{bs bs':List Value}{w w1 w2:World}(h1:CPost b v w w1 bs)(hown:w2.ownsRow 0 5 1 v' bs'.length bs')(hg:(w1.grownBy w2 v.ownBlock/\v'.ownBlock=v.ownBlock)\/(w1.grownBy w2 none/\∃ g,v'.ownBlock=some g/\w1.heap.size<=g)) :
  BPost b v w (w2.setCell ⟨b,1,none⟩ v') v' bs'/\w2.heap[b]?=some (.cells #[.pointer (some ⟨b,0,none⟩),v] 245 (0,0)):=by
 have hb2:w2.heap[b]?=some (.cells #[.pointer (some ⟨b,0,none⟩),v] 245 (0,0)):=by
  rcases hg with ⟨hg,_⟩|⟨hg,_⟩
  .rw[hg.block b h1.at'.lt (λe=>h1.at'.ne e.symm)]
   exact h1.at'.blk
  .rw[hg.block b h1.at'.lt aT]
   exact h1.at'.blk
 have hne:v'.ownBlock≠some b:=by
  rcases hg with ⟨_,h⟩|⟨_,g,h,hl⟩
  .rw[h];exact h1.at'.ne
  .rw[h]
   intro e
   have:=h1.at'.lt
   simp only[ae] at e
   omega
 have hos:w2.os=w1.os/\w2.tape=w1.tape/\w2.output=w1.output/\w1.heap.size<=w2.heap.size:=by
  rcases hg with ⟨hg,_⟩|⟨hg,_⟩ <;> exact⟨hg.os,hg.tape,hg.output,hg.size⟩
 refine⟨⟨⟨?_,?_,hne⟩,?_,hos.1.trans h1.os,hos.2.1.trans h1.tape,hos.2.2.1.trans h1.output,?_⟩,hb2⟩
 .simp[World.setCell,aab,hb2]
 .exact hown.kept (row:=some b) ⟨rfl,rfl,rfl,by simp[World.setCell],λk _ hk=>ae0 w2 b 1 _ k (λe=>hk (by simp[e]))⟩ (Or.inr hne)
 .rw[am1];have:=h1.size;omega
 .rcases hg with ⟨hg,h⟩|⟨hg,g,h,hl⟩
  .refine .inl ⟨h,λk hk hkb hkv=>?_⟩
   rw[ae0 w2 b 1 _ k hkb,hg.block k (by rw[h1.size];exact hk) hkv]
   exact h1.rest k hkb
  .refine .inr ⟨⟨g,h,by rw[← h1.size];exact hl⟩,λk hk hkb=>?_⟩
   rw[ae0 w2 b 1 _ k hkb,hg.block k (by rw[h1.size];exact hk) aT]
   exact h1.rest k hkb
def aDY(b:Nat)(p v:Value)(bs:List Value)(c:Int)(w:World)(hp:p=.pointer none\/p=.pointer (some ⟨b,0,none⟩))(h:BAt b p v bs w)(hlen:bs.length+1<=4294967296) :
  Calls Tryz.prog 241 #[.pointer (some ⟨b,0,none⟩),.int .u8 c] w λe w'=>e=.returned .nilIface/\∃ v',BPost b v w w' v' (bs++[.int .u8 c]):=by
 obtain⟨i0,hi,hz0,hz1,hz2⟩:=aIZ
 go_enter Tryz.func241,Tryz.ntmps241
 go_wp2_with (go_at_call 282;refine (aX0 b p v bs _ hp h).mono ?_)
 rintro e w1 ⟨rfl,h1⟩
 have c0:w1.cell? ⟨b,0,none⟩=some (.pointer (some ⟨b,0,none⟩)):=by rw[Lib.cell_of_heap h1.at'.blk];rfl
 have c1:w1.cell? ⟨b,1,none⟩=some v:=by rw[Lib.cell_of_heap h1.at'.blk];rfl
 have hblt:=h1.at'.lt
 go_wp2_with (at_builtin;refine atQ rfl _ _ 64 rfl 5 _ Tryz.underlying64 T5 rfl aI _ _ _ rfl (h1.at'.own.alloc _) w1.heap.size 0 1 1 [.int .u8 c] rfl rfl ?c1 ?c2 ?c3 ?_)
 case c1 =>
  intro j u hj
  match j,hj with
  | 0,hj=>simp at hj;subst hj;simp
 case c2=>intro u hu;simp at hu;subst hu;rfl
 case c3=>unfold LIM;omega
 intro v' w2 hown' hgrow
 have hgrow1:(w1.grownBy w2 v.ownBlock/\v'.ownBlock=v.ownBlock)\/(w1.grownBy w2 none/\∃ g,v'.ownBlock=some g/\w1.heap.size<=g):=by
  rcases hgrow with ⟨hg,h⟩|⟨hg,h⟩
  .exact .inl ⟨⟨hg.os,hg.tape,hg.output,by have:=hg.size;simp at this;omega,λk hk hne=>by rw[hg.block k (by simp;omega) hne,Lib.alloc_old w1 _ k hk]⟩,h⟩
  .exact .inr ⟨⟨hg.os,hg.tape,hg.output,by have:=hg.size;simp at this;omega,λk hk hne=>by rw[hg.block k (by simp;omega) hne,Lib.alloc_old w1 _ k hk]⟩,_,h,by simp⟩
 obtain⟨hpost,hb2⟩:=h1.put (v':=v') (bs':=bs++[.int .u8 c]) (w2:=w2) (by simpa using hown') hgrow1
 have d0:w2.cell? ⟨b,0,none⟩=some (.pointer (some ⟨b,0,none⟩)):=by rw[Lib.cell_of_heap hb2];rfl
 have d1:w2.cell? ⟨b,1,none⟩=some v:=by rw[Lib.cell_of_heap hb2];rfl
 have f1:w2.frozen? ⟨b,1,none⟩=false:=Lib.frozen_of_heap hb2 1
 obtain⟨ao,n',cap,rfl⟩ : ∃ ao n' cap,v'=.slice ao n' cap:=by
  rcases hown'.2 with ⟨hv,_⟩|⟨g,cap,cur,hv,_⟩
  .exact⟨_,_,_,hv⟩
  .exact⟨_,_,_,hv⟩
 go_wp2
 go_ret
 exact⟨rfl,_,hpost⟩
structure SPost (v:Value) (w w':World):Prop where
 grown:∀ k,k<w.heap.size->some k≠v.ownBlock->w'.heap[k]?=w.heap[k]?
 size:w.heap.size<=w'.heap.size
 os:w'.os=w.os
 tape:w'.tape=w.tape
 output:w'.output=w.output
 cell:∀ c o,c<w.heap.size->w'.cell? ⟨c,o,none⟩=w.cell? ⟨c,o,none⟩
theorem SPost.drew(v:Value)(w:World):SPost v w w.drew:=⟨λ_ _ _=>rfl,am _,rfl,rfl,rfl,λ_ _ _=>rfl⟩
def azt(w:World)(p:Addr)(n c o:Nat):(w.freeze p n).cell? ⟨c,o,none⟩=w.cell? ⟨c,o,none⟩:=by
 unfold World.freeze
 split
 .rfl
 .simp only[World.cell?,aab]
  by_cases e:p.block=c
  .rw[aE e]
   cases w.heap[c]? with
   | none=>rfl
   | some ob=>cases ob <;> rfl
  .rw[aA e]
theorem SPost.alloc(v:Value)(w:World)(o:Obj):SPost v w (w.drew.alloc o):=⟨λk hk _=>Lib.alloc_old w.drew _ k hk,by simp,rfl,rfl,rfl,λc o hc=>World.cell?_of_block (a:=⟨c,o,none⟩) (Lib.alloc_old w.drew _ c hc)⟩
theorem SPost.freeze{g n c m:Nat}(w:World):SPost (.slice (some ⟨g,0,none⟩) n c) w (w.drew.freeze ⟨g,0,none⟩ m):=by
 unfold World.freeze
 split
 .exact SPost.drew _ w
 .refine⟨λk hk hne=>?_,by simp,rfl,rfl,rfl,λc o _=>?_⟩
  .have:¬ g=k:=λe=>hne (by simp[Value.ownBlock,e])
   simp only[aab]
   rw[aA this]
   rfl
  .have:=azt w.drew ⟨g,0,none⟩ m c o
   unfold World.freeze at this
   rename_i hm _
   rw[aA hm] at this
   exact this
def aF7:Tryz.prog.cellsOf 5=1:=by kernel_rfl
def ays(b g cap:Nat)(p:Value)(cur:Array Value)(l:List UInt8)(w:World)(h0:l≠[])(h:BAt b p (.slice (some ⟨g,0,none⟩) l.length cap) (Lib.byteCells l) w)(hg:w.heap[g]?=some (.cells cur 5 (0,0)))(hnc:l.length<=cap)(hcm:cap<=maxLen)(hcs:cur.size=cap*1) :
  Calls Tryz.prog 242 #[.pointer (some ⟨b,0,none⟩)] w λe w'=>e=.returned (.string ⟨l.toArray⟩)/\SPost (.slice (some ⟨g,0,none⟩) l.length cap) w w':=by
 have hl0:l.length≠0:=by simpa using h0
 have hown:=h.own
 have c1:w.drew.cell? ⟨b,1,none⟩=some (.slice (some ⟨g,0,none⟩) l.length cap):=by
  have:w.drew.heap[b]?=some (.cells #[p,.slice (some ⟨g,0,none⟩) l.length cap] 245 (0,0)):=h.blk
  rw[Lib.cell_of_heap this];rfl
 have hSD:(Builtin.unsafeSliceData_ #[64] 277 #[.slice (some ⟨g,0,none⟩) l.length cap]).run Tryz.prog w.drew=.ok (.pointer (some ⟨g,0,none⟩)) w.drew :=
  Lib.run_unsafeSliceData_row _ _ _ _ _ _ aC
 have hUS:(Builtin.unsafeString_ #[277,3] 9 #[.pointer (some ⟨g,0,none⟩),.int .i64 l.length]).run Tryz.prog w.drew=.ok (.string ⟨l.toArray⟩) (w.drew.freeze ⟨g,0,none⟩ l.length):=by
  refine Lib.run_unsafeString_row w.drew 277 3 9 5 Tryz.underlying277 aF7 g cur.size (by have hg':w.drew.heap[g]?=some (.cells cur 5 (0,0)):=hg;simp[World.shape?,hg']) l h0 aC (by unfold maxLen at hcm;omega) ?_
  intro j x hx
  exact hown.cells (g:=g) rfl j (.int .u8 x.toNat) (by simp[Lib.byteCells,hx])
 clear hown h
 have hmixed:=mixed
 go_enter Tryz.func242,Tryz.ntmps242
 go_wp2
 go_region_o
 all_goals (go_wp2;go_ret;exact⟨rfl,SPost.freeze w⟩)
def aBg(b:Nat)(p:Value)(w:World)(hbk:w.heap[b]?=some (.cells #[p,.slice none 0 0] 245 (0,0))) :
  Calls Tryz.prog 242 #[.pointer (some ⟨b,0,none⟩)] w λe w'=>e=.returned (.string ⟨#[]⟩)/\SPost (.slice none 0 0) w w':=by
 have hUS:∀ (W:World) (q:Option Addr),(Builtin.unsafeString_ #[277,3] 9 #[.pointer q,.int .i64 0]).run Tryz.prog W=.ok (.string .empty) W:=λW q=>Lib.run_unsafeString_none W _ _ _ q
 have c1:w.drew.cell? ⟨b,1,none⟩=some (.slice none 0 0):=by
  have:w.drew.heap[b]?=some (.cells #[p,.slice none 0 0] 245 (0,0)):=hbk
  rw[Lib.cell_of_heap this];rfl
 have hSD:(Builtin.unsafeSliceData_ #[64] 277 #[.slice none 0 0]).run Tryz.prog w.drew=.ok (.pointer none) w.drew:=rfl
 have hmixed:=mixed
 go_enter Tryz.func242,Tryz.ntmps242
 go_wp2
 go_region_o
 all_goals (go_wp2;go_ret;exact⟨rfl,SPost.drew _ w⟩)
def ayt(b g cap:Nat)(p:Value)(w:World)(hc0:cap≠0)(hbk:w.heap[b]?=some (.cells #[p,.slice (some ⟨g,0,none⟩) 0 cap] 245 (0,0))) :
  Calls Tryz.prog 242 #[.pointer (some ⟨b,0,none⟩)] w λe w'=>e=.returned (.string ⟨#[]⟩)/\SPost (.slice (some ⟨g,0,none⟩) 0 cap) w w':=by
 have hUS:∀ (W:World) (q:Option Addr),(Builtin.unsafeString_ #[277,3] 9 #[.pointer q,.int .i64 0]).run Tryz.prog W=.ok (.string .empty) W:=λW q=>Lib.run_unsafeString_none W _ _ _ q
 have c1:w.drew.cell? ⟨b,1,none⟩=some (.slice (some ⟨g,0,none⟩) 0 cap):=by
  have:w.drew.heap[b]?=some (.cells #[p,.slice (some ⟨g,0,none⟩) 0 cap] 245 (0,0)):=hbk
  rw[Lib.cell_of_heap this];rfl
 have hSD:(Builtin.unsafeSliceData_ #[64] 277 #[.slice (some ⟨g,0,none⟩) 0 cap]).run Tryz.prog w.drew=.ok (.pointer (some ⟨g,0,none⟩)) w.drew :=
  Lib.run_unsafeSliceData_row _ _ _ _ _ _ hc0
 clear hc0
 have hmixed:=mixed
 go_enter Tryz.func242,Tryz.ntmps242
 go_wp2
 go_region_o
 all_goals (go_wp2;go_ret;exact⟨rfl,SPost.drew _ w⟩)
def atX(b g:Nat)(p:Value)(cur:Array Value)(w:World)(hbk:w.heap[b]?=some (.cells #[p,.slice (some ⟨g,0,none⟩) 0 0] 245 (0,0)))(hg:w.heap[g]?=some (.cells cur 5 (0,0))) :
  Calls Tryz.prog 242 #[.pointer (some ⟨b,0,none⟩)] w λe w'=>e=.returned (.string ⟨#[]⟩)/\SPost (.slice (some ⟨g,0,none⟩) 0 0) w w':=by
 have hUS:∀ (W:World) (q:Option Addr),(Builtin.unsafeString_ #[277,3] 9 #[.pointer q,.int .i64 0]).run Tryz.prog W=.ok (.string .empty) W:=λW q=>Lib.run_unsafeString_none W _ _ _ q
 have hlt:b<w.heap.size:=(Array.getElem?_eq_some_iff.1 hbk).1
 have c1:w.drew.cell? ⟨b,1,none⟩=some (.slice (some ⟨g,0,none⟩) 0 0):=by
  have:w.drew.heap[b]?=some (.cells #[p,.slice (some ⟨g,0,none⟩) 0 0] 245 (0,0)):=hbk
  rw[Lib.cell_of_heap this];rfl
 have hSD:(Builtin.unsafeSliceData_ #[64] 277 #[.slice (some ⟨g,0,none⟩) 0 0]).run Tryz.prog w.drew=.ok (.pointer (some ⟨w.drew.heap.size,0,none⟩)) (w.drew.alloc (.view ⟨g,0,none⟩ 5)) :=
  Lib.run_unsafeSliceData_zero w.drew _ _ 5 Tryz.underlying277 ⟨g,0,none⟩ 0 (5,cur.size) (by have hg':w.drew.heap[g]?=some (.cells cur 5 (0,0)):=hg;simp[World.shape?,hg'])
 have c2:(w.drew.alloc (.view ⟨g,0,none⟩ 5)).cell? ⟨b,1,none⟩=some (.slice (some ⟨g,0,none⟩) 0 0):=by
  have:(w.drew.alloc (.view ⟨g,0,none⟩ 5)).heap[b]?=_:=(Lib.alloc_old w.drew _ b hlt).trans hbk
  rw[Lib.cell_of_heap this];rfl
 have c3:(w.alloc (.view ⟨g,0,none⟩ 5)).drew.cell? ⟨b,1,none⟩=some (.slice (some ⟨g,0,none⟩) 0 0):=c2
 have c0:w.cell? ⟨b,1,none⟩=some (.slice (some ⟨g,0,none⟩) 0 0):=c1
 have hmixed:=mixed
 go_enter Tryz.func242,Tryz.ntmps242
 go_wp2
 go_region_o
 all_goals (go_wp2;go_ret;exact⟨rfl,SPost.alloc _ w _⟩)
def aG4(b:Nat)(p v:Value)(l:List UInt8)(w:World)(h:BAt b p v (Lib.byteCells l) w) :
  Calls Tryz.prog 242 #[.pointer (some ⟨b,0,none⟩)] w λe w'=>e=.returned (.string ⟨l.toArray⟩)/\SPost v w w':=by
 have hown:=h.own
 rw[Lib.byteCells_length] at hown
 rcases hown.2 with ⟨rfl,hz⟩|⟨g,cap,cur,rfl,_,hg,hnc,hcm,hcs,_⟩
 .obtain rfl:=cr hz
  exact aBg b p w h.blk
 .by_cases hl:l=[]
  .subst hl
   by_cases hc:cap=0
   .subst hc
    exact atX b g p cur w h.blk hg
   .exact ayt b g cap p w hc h.blk
  .exact ays b g cap p cur l w hl h hg hnc hcm hcs
end Go.Proofs.YtghkmcffifpkeaaGreat
namespace Go.Tab
structure IsOrd {α:Type} (f:α->α->Int):Prop where
 sgn:∀ a b,f a b=-1\/f a b=0\/f a b=1
 zero:∀ a b,f a b=0↔a=b
 anti:∀ a b,f a b=- f b a
 tr:∀ a b c,f a b<=0->f b c<=0->f a c<=0
def aIY(a b:Int):Int:=if a<b then -1 else if b<a then 1 else 0
def aRp{α:Type}(f:α->α->Int):List α->List α->Int
 | [],[]=>0
 | [],_::_=>-1
 | _::_,[]=>1
 | a::r,b::q=>if f a b=0 then aRp f r q else f a b
def aX2(a b:UInt8):Int:=aIY a.toNat b.toNat
def aUB:List UInt8->List UInt8->Int:=aRp aX2
structure V where
 k:Int
 n:Int
 s:ByteArray
 deriving DecidableEq
def V.t(v:V):List UInt8:=v.s.data.toList
def alM{a b:ByteArray}:a.data.toList=b.data.toList↔a=b:=by
 constructor
 .intro h
  cases a with
  | mk x=>cases b with
   | mk y=>simp at h;rw[h]
 .rintro rfl;rfl
def aLj(a b:V):Int:=if a.k=b.k then (if a.n=b.n then aUB a.t b.t else aIY a.n b.n) else aIY a.k b.k
def okB(b:UInt8):Bool:=decide (32<=b.toNat)&&decide (b.toNat<=126)
def agp(s:ByteArray):Bool:=s.data.toList.all okB&&decide (s.size<=100)
def inB(n:Int):Bool:=decide (-1000000000000000<=n)&&decide (n<=1000000000000000)
def gM(v:V):Bool :=
 if v.k=0 then decide (v.n=0)&&decide (v.s=ByteArray.empty)
 else if v.k=1 then (decide (v.n=0)||decide (v.n=1))&&decide (v.s=ByteArray.empty)
 else if v.k=2 then inB v.n&&decide (v.s=ByteArray.empty)
 else if v.k=3 then decide (v.n=0)&&agp v.s
 else false
def aia(r:Nat):Bool:=decide (r<32)||decide (126<r)
def azo(n b0 b1 b2 b3:Nat)(h:128<=b0):126<(Lib.decodeN n b0 b1 b2 b3).1:=by
 unfold Lib.decodeN
 repeat' split
 all_goals omega
def axA(s:ByteArray)(i:Nat)(h:(s.get! i).toNat<128):Utf8.decode s i=((s.get! i).toNat,1):=by
 rw[Lib.decode_at,Lib.decodeN,aE h]
def aI9(s:ByteArray)(i:Nat)(h:i<s.size):s.data.toList[i]?=some (s.get! i):=by
 obtain⟨⟨l⟩⟩:=s
 have h:i<l.length:=h
 show l[i]?=some ((⟨l⟩ : Array UInt8)[i]!)
 rw[aO h,getElem!_pos (⟨l⟩ : Array UInt8) i h]
 rfl
theorem atu(s:ByteArray):∀ (f pos:Nat),s.size<=pos+f->(Lib.idxFuncFrom aia true s f pos<0↔(s.data.toList.drop pos).all okB=true)
 | 0,pos,h=>by
  have:s.data.toList.drop pos=[]:=acS (by simp only[eL];exact h)
  rw[this]
  simp[Lib.idxFuncFrom]
 | f+1,pos,h=>by
  unfold Lib.idxFuncFrom
  by_cases hp:pos<s.size
  .rw[aE hp]
   have hg:=aI9 s pos hp
   obtain⟨hl,hg2⟩:=List.getElem?_eq_some_iff.1 hg
   rw[bI hl,hg2,agi]
   by_cases hb:(s.get! pos).toNat<128
   .rw[axA s pos hb]
    simp only
    by_cases ho:aia (s.get! pos).toNat=true
    .rw[aE ho]
     have:okB (s.get! pos)=false:=by
      simp only[aia,bD,aR] at ho
      simp only[okB,ac6,gz]
      omega
     rw[this]
     simp
    .rw[aA ho]
     have:okB (s.get! pos)=true:=by
      simp only[aia,bD,aR] at ho
      simp only[okB,ar,aR]
      omega
     rw[this,bR]
     exact atu s f (pos+1) aC
   .have ho:aia (Utf8.decode s pos).1=true:=by
     rw[Lib.decode_at]
     have:=azo (s.size-pos) (s.get! pos).toNat (s.get! (pos+1)).toNat (s.get! (pos+2)).toNat (s.get! (pos+3)).toNat aC
     simp only[aia,bD,aR]
     exact .inr this
    rw[aE ho]
    have:okB (s.get! pos)=false:=by
     simp only[okB,ac6,gz]
     omega
    rw[this]
    simp
  .rw[aA hp]
   have:s.data.toList.drop pos=[]:=acS (by simp only[eL];exact Nat.le_of_not_lt hp)
   rw[this]
   simp
def aAr(s:ByteArray):Lib.idxFunc aia true s<0↔s.data.toList.all okB=true:=by
 have:=atu s s.size 0 aC
 simpa [Lib.idxFunc] using this
def aM(l:List UInt8):ByteArray:=⟨l.toArray⟩
def awR(l:List UInt8):({data:=l.toArray}:ByteArray)=aM l:=rfl
def apm{a b:List UInt8}(h:aM a=aM b):a=b:=by
 have:=congrArg (λs:ByteArray=>s.data.toList) h
 simpa [aM] using this
def fst(s:ByteArray):Option UInt8:=s.data.toList.head?
end Go.Tab
namespace Go.Tab
open Pe
structure Cl where
 tb:List UInt8
 nm:List UInt8
 ty:Int
 deriving DecidableEq
inductive Tm where
 | mk (op:Int) (v:V) (dep at':Int) (nm:List UInt8) (kids:List Tm) (sub:C) (ty:Int)
inductive Pn where
 | mk (op:Int) (tb ix:List UInt8) (cols:List Cl) (kids:List Pn) (terms lk rk:List Tm) (r:Nat->C) (est cost:Int)
def Pn.op:Pn->Int | .mk op ..=>op
def Pn.cols:Pn->List Cl | .mk _ _ _ cols ..=>cols
def Pn.kids:Pn->List Pn | .mk _ _ _ _ kids ..=>kids
def I64(n:Int):Prop:=-9223372036854775808<=n/\n<=9223372036854775807
def fl{α:Type}(f:α->List C)(l:List α):List C:=(l.map f).flatten
def slC{α:Type}(f:α->List C)(l:List α):C:=.sl (fl f l) l.length
def lsC{α:Type}(f:α->List C)(l:List α):List C:=[slC f l]
def aeG(v:V):List C:=[ci v.k,ci v.n,aJ v.s]
def aaB(n:Int):List C:=[ci n]
def aft(b:Bool):List C:=[cb b]
def cM(s:List UInt8):List C:=[aJ (aM s)]
def aci{α:Type}(_:α):Nat:=1
def afg(s:List UInt8):Nat:=s.length+1
def avo(v:V):Nat:=v.s.size+4
def lsW{α:Type}(w:α->Nat)(l:List α):Nat:=(l.map w).sum+1
def aaM{α:Type}(_:α):Prop:=True
def V64(v:V):Prop:=I64 v.k/\I64 v.n
def lsP{α:Type}(p:α->Prop)(l:List α):Prop:=∀ x∈l,p x
structure Od where
 nm:List UInt8
 pl:Int
 dn:Bool
def odC(x:Od):List C:=cM x.nm++(aaB x.pl++(aft x.dn))
def odW(x:Od):Nat:=afg x.nm+aci x.pl+aci x.dn+1
def aj9(x:Od):Prop:=aaM x.nm/\I64 x.pl/\aaM x.dn
mutual
inductive Xp where
 | mk (op:Int) (v:V) (tb:List UInt8) (nm:List UInt8) (di:Bool) (ks:List Xp) (sb:List Qy)
inductive Qy where
 | mk (op:Int) (al:Bool) (ks:List Qy) (di:Bool) (its:List Im) (fr:List Fm) (wh:List Xp) (gr:List Xp) (hv:List Xp) (od:List Od) (li:Int) (sk:Int)
inductive Im where
 | mk (st:Bool) (tb:List UInt8) (e:Xp) (az:List UInt8)
inductive Fm where
 | mk (kd:Int) (nm:List UInt8) (az:List UInt8) (sb:List Qy) (ks:List Fm) (on:List Xp)
end
def Xp.op:Xp->Int | .mk op _ _ _ _ _ _=>op
def Xp.v:Xp->V | .mk _ v _ _ _ _ _=>v
def Xp.tb:Xp->List UInt8 | .mk _ _ tb _ _ _ _=>tb
def Xp.nm:Xp->List UInt8 | .mk _ _ _ nm _ _ _=>nm
def Xp.di:Xp->Bool | .mk _ _ _ _ di _ _=>di
def Xp.ks:Xp->List Xp | .mk _ _ _ _ _ ks _=>ks
def Xp.sb:Xp->List Qy | .mk _ _ _ _ _ _ sb=>sb
def Qy.op:Qy->Int | .mk op _ _ _ _ _ _ _ _ _ _ _=>op
def Qy.al:Qy->Bool | .mk _ al _ _ _ _ _ _ _ _ _ _=>al
def Qy.ks:Qy->List Qy | .mk _ _ ks _ _ _ _ _ _ _ _ _=>ks
def Qy.di:Qy->Bool | .mk _ _ _ di _ _ _ _ _ _ _ _=>di
def Qy.its:Qy->List Im | .mk _ _ _ _ its _ _ _ _ _ _ _=>its
def Qy.fr:Qy->List Fm | .mk _ _ _ _ _ fr _ _ _ _ _ _=>fr
def Qy.wh:Qy->List Xp | .mk _ _ _ _ _ _ wh _ _ _ _ _=>wh
def Qy.gr:Qy->List Xp | .mk _ _ _ _ _ _ _ gr _ _ _ _=>gr
def Qy.hv:Qy->List Xp | .mk _ _ _ _ _ _ _ _ hv _ _ _=>hv
def Qy.od:Qy->List Od | .mk _ _ _ _ _ _ _ _ _ od _ _=>od
def Qy.li:Qy->Int | .mk _ _ _ _ _ _ _ _ _ _ li _=>li
def Qy.sk:Qy->Int | .mk _ _ _ _ _ _ _ _ _ _ _ sk=>sk
def Im.st:Im->Bool | .mk st _ _ _=>st
def Im.tb:Im->List UInt8 | .mk _ tb _ _=>tb
def Im.e:Im->Xp | .mk _ _ e _=>e
def Im.az:Im->List UInt8 | .mk _ _ _ az=>az
def Fm.kd:Fm->Int | .mk kd _ _ _ _ _=>kd
def Fm.nm:Fm->List UInt8 | .mk _ nm _ _ _ _=>nm
def Fm.az:Fm->List UInt8 | .mk _ _ az _ _ _=>az
def Fm.sb:Fm->List Qy | .mk _ _ _ sb _ _=>sb
def Fm.ks:Fm->List Fm | .mk _ _ _ _ ks _=>ks
def Fm.on:Fm->List Xp | .mk _ _ _ _ _ on=>on
mutual
def xpC:Xp->List C
 | .mk op v tb nm di ks sb=>aaB op++(aeG v++(cM tb++(cM nm++(aft di++([.sl (amR ks) ks.length]++([.sl (ar4 sb) sb.length]))))))
def amR:List Xp->List C
 | []=>[]
 | x::r=>xpC x++amR r
def qyC:Qy->List C
 | .mk op al ks di its fr wh gr hv od li sk=>aaB op++(aft al++([.sl (ar4 ks) ks.length]++(aft di++([.sl (aCf its) its.length]++([.sl (axe fr) fr.length]++([.sl (amR wh) wh.length]++([.sl (amR gr) gr.length]++([.sl (amR hv) hv.length]++((lsC odC) od++(aaB li++(aaB sk)))))))))))
def ar4:List Qy->List C
 | []=>[]
 | x::r=>qyC x++ar4 r
def imC:Im->List C
 | .mk st tb e az=>aft st++(cM tb++(xpC e++(cM az)))
def aCf:List Im->List C
 | []=>[]
 | x::r=>imC x++aCf r
def fmC:Fm->List C
 | .mk kd nm az sb ks on=>aaB kd++(cM nm++(cM az++([.sl (ar4 sb) sb.length]++([.sl (axe ks) ks.length]++([.sl (amR on) on.length])))))
def axe:List Fm->List C
 | []=>[]
 | x::r=>fmC x++axe r
end
mutual
def xpW:Xp->Nat
 | .mk op v tb nm di ks sb=>aci op+avo v+afg tb+afg nm+aci di+(dM ks+1)+(abV sb+1)+1
def dM:List Xp->Nat
 | []=>0
 | x::r=>xpW x+dM r
def qyW:Qy->Nat
 | .mk op al ks di its fr wh gr hv od li sk=>aci op+aci al+(abV ks+1)+aci di+(ady its+1)+(abO fr+1)+(dM wh+1)+(dM gr+1)+(dM hv+1)+(lsW odW) od+aci li+aci sk+1
def abV:List Qy->Nat
 | []=>0
 | x::r=>qyW x+abV r
def imW:Im->Nat
 | .mk st tb e az=>aci st+afg tb+xpW e+afg az+1
def ady:List Im->Nat
 | []=>0
 | x::r=>imW x+ady r
def fmW:Fm->Nat
 | .mk kd nm az sb ks on=>aci kd+afg nm+afg az+(abV sb+1)+(abO ks+1)+(dM on+1)+1
def abO:List Fm->Nat
 | []=>0
 | x::r=>fmW x+abO r
end
mutual
def gX:Xp->Prop
 | .mk op v tb nm di ks sb=>I64 op/\V64 v/\aaM tb/\aaM nm/\aaM di/\eK ks/\acy sb
def eK:List Xp->Prop
 | []=>True
 | x::r=>gX x/\eK r
def gY:Qy->Prop
 | .mk op al ks di its fr wh gr hv od li sk=>I64 op/\aaM al/\acy ks/\aaM di/\ade its/\acP fr/\eK wh/\eK gr/\eK hv/\(lsP aj9) od/\I64 li/\I64 sk
def acy:List Qy->Prop
 | []=>True
 | x::r=>gY x/\acy r
def aka:Im->Prop
 | .mk st tb e az=>aaM st/\aaM tb/\gX e/\aaM az
def ade:List Im->Prop
 | []=>True
 | x::r=>aka x/\ade r
def acV:Fm->Prop
 | .mk kd nm az sb ks on=>I64 kd/\aaM nm/\aaM az/\acy sb/\acP ks/\eK on
def acP:List Fm->Prop
 | []=>True
 | x::r=>acV x/\acP r
end
theorem an8:∀ l:List Xp,amR l=fl xpC l
 | []=>rfl
 | x::r=>by rw[amR,an8 r];rfl
theorem alG:∀ l:List Xp,dM l=(l.map xpW).sum
 | []=>rfl
 | x::r=>by rw[dM,alG r];rfl
theorem akN:∀ l:List Xp,eK l↔lsP gX l
 | []=>by simp[eK,lsP]
 | x::r=>by simp[eK,lsP,akN r]
theorem aol:∀ l:List Qy,ar4 l=fl qyC l
 | []=>rfl
 | x::r=>by rw[ar4,aol r];rfl
theorem al1:∀ l:List Qy,abV l=(l.map qyW).sum
 | []=>rfl
 | x::r=>by rw[abV,al1 r];rfl
theorem akO:∀ l:List Qy,acy l↔lsP gY l
 | []=>by simp[acy,lsP]
 | x::r=>by simp[acy,lsP,akO r]
theorem aAp:∀ l:List Im,aCf l=fl imC l
 | []=>rfl
 | x::r=>by rw[aCf,aAp r];rfl
theorem aw5:∀ l:List Im,ady l=(l.map imW).sum
 | []=>rfl
 | x::r=>by rw[ady,aw5 r];rfl
theorem atO:∀ l:List Im,ade l↔lsP aka l
 | []=>by simp[ade,lsP]
 | x::r=>by simp[ade,lsP,atO r]
theorem asr:∀ l:List Fm,axe l=fl fmC l
 | []=>rfl
 | x::r=>by rw[axe,asr r];rfl
theorem apS:∀ l:List Fm,abO l=(l.map fmW).sum
 | []=>rfl
 | x::r=>by rw[abO,apS r];rfl
theorem anS:∀ l:List Fm,acP l↔lsP acV l
 | []=>by simp[acP,lsP]
 | x::r=>by simp[acP,lsP,anS r]
def aqh(x:Xp):xpC x=aaB x.op++(aeG x.v++(cM x.tb++(cM x.nm++(aft x.di++((lsC xpC) x.ks++((lsC qyC) x.sb)))))):=by
 cases x
 simp only[xpC,Xp.op,Xp.v,Xp.tb,Xp.nm,Xp.di,Xp.ks,Xp.sb,lsC,slC,an8,aol]
def aen(x:Xp):xpW x=aci x.op+avo x.v+afg x.tb+afg x.nm+aci x.di+(lsW xpW) x.ks+(lsW qyW) x.sb+1:=by
 cases x
 simp only[xpW,Xp.op,Xp.v,Xp.tb,Xp.nm,Xp.di,Xp.ks,Xp.sb,lsW,alG,al1]
def aPx(x:Xp):gX x↔I64 x.op/\V64 x.v/\aaM x.tb/\aaM x.nm/\aaM x.di/\(lsP gX) x.ks/\(lsP gY) x.sb:=by
 cases x
 simp only[gX,Xp.op,Xp.v,Xp.tb,Xp.nm,Xp.di,Xp.ks,Xp.sb,akN,akO]
def aEC(x:Qy):qyC x=aaB x.op++(aft x.al++((lsC qyC) x.ks++(aft x.di++((lsC imC) x.its++((lsC fmC) x.fr++((lsC xpC) x.wh++((lsC xpC) x.gr++((lsC xpC) x.hv++((lsC odC) x.od++(aaB x.li++(aaB x.sk))))))))))):=by
 cases x
 simp only[qyC,Qy.op,Qy.al,Qy.ks,Qy.di,Qy.its,Qy.fr,Qy.wh,Qy.gr,Qy.hv,Qy.od,Qy.li,Qy.sk,lsC,slC,an8,aol,aAp,asr]
def acd(x:Qy):qyW x=aci x.op+aci x.al+(lsW qyW) x.ks+aci x.di+(lsW imW) x.its+(lsW fmW) x.fr+(lsW xpW) x.wh+(lsW xpW) x.gr+(lsW xpW) x.hv+(lsW odW) x.od+aci x.li+aci x.sk+1:=by
 cases x
 simp only[qyW,Qy.op,Qy.al,Qy.ks,Qy.di,Qy.its,Qy.fr,Qy.wh,Qy.gr,Qy.hv,Qy.od,Qy.li,Qy.sk,lsW,alG,al1,aw5,apS]
def aPz(x:Qy):gY x↔I64 x.op/\aaM x.al/\(lsP gY) x.ks/\aaM x.di/\(lsP aka) x.its/\(lsP acV) x.fr/\(lsP gX) x.wh/\(lsP gX) x.gr/\(lsP gX) x.hv/\(lsP aj9) x.od/\I64 x.li/\I64 x.sk:=by
 cases x
 simp only[gY,Qy.op,Qy.al,Qy.ks,Qy.di,Qy.its,Qy.fr,Qy.wh,Qy.gr,Qy.hv,Qy.od,Qy.li,Qy.sk,akN,akO,atO,anS]
def aRz(x:Im):imC x=aft x.st++(cM x.tb++(xpC x.e++(cM x.az))):=by
 cases x
 simp only[imC,Im.st,Im.tb,Im.e,Im.az]
def ahB(x:Im):imW x=aci x.st+afg x.tb+xpW x.e+afg x.az+1:=by
 cases x
 simp only[imW,Im.st,Im.tb,Im.e,Im.az]
def aPG(x:Im):aka x↔aaM x.st/\aaM x.tb/\gX x.e/\aaM x.az:=by
 cases x
 simp only[aka,Im.st,Im.tb,Im.e,Im.az]
def aFK(x:Fm):fmC x=aaB x.kd++(cM x.nm++(cM x.az++((lsC qyC) x.sb++((lsC fmC) x.ks++((lsC xpC) x.on))))):=by
 cases x
 simp only[fmC,Fm.kd,Fm.nm,Fm.az,Fm.sb,Fm.ks,Fm.on,lsC,slC,an8,aol,asr]
def ace(x:Fm):fmW x=aci x.kd+afg x.nm+afg x.az+(lsW qyW) x.sb+(lsW fmW) x.ks+(lsW xpW) x.on+1:=by
 cases x
 simp only[fmW,Fm.kd,Fm.nm,Fm.az,Fm.sb,Fm.ks,Fm.on,lsW,alG,al1,apS]
def aPH(x:Fm):acV x↔I64 x.kd/\aaM x.nm/\aaM x.az/\(lsP gY) x.sb/\(lsP acV) x.ks/\(lsP gX) x.on:=by
 cases x
 simp only[acV,Fm.kd,Fm.nm,Fm.az,Fm.sb,Fm.ks,Fm.on,akN,akO,anS]
structure Cd where
 nm:List UInt8
 ty:Int
 nn:Bool
def cdC(x:Cd):List C:=cM x.nm++(aaB x.ty++(aft x.nn))
structure Kd where
 pr:Bool
 ns:List (List UInt8)
def kdC(x:Kd):List C:=aft x.pr++((lsC cM) x.ns)
structure Rd where
 ns:List (List UInt8)
 tb:List UInt8
 to:List (List UInt8)
def rdC(x:Rd):List C:=(lsC cM) x.ns++(cM x.tb++((lsC cM) x.to))
structure As where
 nm:List UInt8
 e:Xp
def asC(x:As):List C:=cM x.nm++(xpC x.e)
structure Sm where
 kd:Int
 tb:List UInt8
 nm:List UInt8
 cs:List Cd
 ns:List (List UInt8)
 un:Bool
 kys:List Kd
 rfs:List Rd
 chs:List Xp
 rws:List (List Xp)
 sts:List As
 wh:List Xp
 q:List Qy
def smC(x:Sm):List C:=aaB x.kd++(cM x.tb++(cM x.nm++((lsC cdC) x.cs++((lsC cM) x.ns++(aft x.un++((lsC kdC) x.kys++((lsC rdC) x.rfs++((lsC xpC) x.chs++((lsC (lsC xpC)) x.rws++((lsC asC) x.sts++((lsC xpC) x.wh++((lsC qyC) x.q))))))))))))
structure Tn where
 k:Int
 pl:Int
 sz:Int
 n:Int
 s:List UInt8
def tnC(x:Tn):List C:=aaB x.k++(aaB x.pl++(aaB x.sz++(aaB x.n++(cM x.s))))
structure Th where
 q:Bool
 w:Bool
 y:Qy
 e:Xp
 f:Fm
def thC(x:Th):List C:=aft x.q++(aft x.w++(qyC x.y++(xpC x.e++(fmC x.f))))
def ane(x:Od):odC x=[aJ (aM x.nm),ci x.pl,cb x.dn]:=by
 unfold odC;rfl
def aAh(x:Od):(odC x).length=3:=by rw[ane];rfl
def ch(x:Xp):xpC x=[ci x.op,ci x.v.k,ci x.v.n,aJ x.v.s,aJ (aM x.tb),aJ (aM x.nm),cb x.di,slC xpC x.ks,slC qyC x.sb]:=by
 rw[aqh];rfl
def azR(x:Xp):(xpC x).length=9:=by rw[ch];rfl
def ep(x:Qy):qyC x=[ci x.op,cb x.al,slC qyC x.ks,cb x.di,slC imC x.its,slC fmC x.fr,slC xpC x.wh,slC xpC x.gr,slC xpC x.hv,slC odC x.od,ci x.li,ci x.sk]:=by
 rw[aEC];rfl
def aAa(x:Qy):(qyC x).length=12:=by rw[ep];rfl
def aeu(x:Im):imC x=[cb x.st,aJ (aM x.tb),ci x.e.op,ci x.e.v.k,ci x.e.v.n,aJ x.e.v.s,aJ (aM x.e.tb),aJ (aM x.e.nm),cb x.e.di,slC xpC x.e.ks,slC qyC x.e.sb,aJ (aM x.az)]:=by
 rw[aRz,aqh];rfl
def aAq(x:Im):(imC x).length=12:=by rw[aeu];rfl
def aba(x:Fm):fmC x=[ci x.kd,aJ (aM x.nm),aJ (aM x.az),slC qyC x.sb,slC fmC x.ks,slC xpC x.on]:=by
 rw[aFK];rfl
def aAt(x:Fm):(fmC x).length=6:=by rw[aba];rfl
def aS7(x:Cd):cdC x=[aJ (aM x.nm),ci x.ty,cb x.nn]:=by
 unfold cdC;rfl
def aRs(x:Kd):kdC x=[cb x.pr,slC cM x.ns]:=by
 unfold kdC;rfl
def aQy(x:Rd):rdC x=[slC cM x.ns,aJ (aM x.tb),slC cM x.to]:=by
 unfold rdC;rfl
def aTn(x:As):asC x=[aJ (aM x.nm),ci x.e.op,ci x.e.v.k,ci x.e.v.n,aJ x.e.v.s,aJ (aM x.e.tb),aJ (aM x.e.nm),cb x.e.di,slC xpC x.e.ks,slC qyC x.e.sb]:=by
 unfold asC;rw[aqh];rfl
def aQq(x:Sm):smC x=[ci x.kd,aJ (aM x.tb),aJ (aM x.nm),slC cdC x.cs,slC cM x.ns,cb x.un,slC kdC x.kys,slC rdC x.rfs,slC xpC x.chs,slC (lsC xpC) x.rws,slC asC x.sts,slC xpC x.wh,slC qyC x.q]:=by
 unfold smC;rfl
def be(x:Tn):tnC x=[ci x.k,ci x.pl,ci x.sz,ci x.n,aJ (aM x.s)]:=by
 unfold tnC;rfl
def az1(x:Tn):(tnC x).length=5:=by rw[be];rfl
def aeZ(x:Th):thC x=[cb x.q,cb x.w,ci x.y.op,cb x.y.al,slC qyC x.y.ks,cb x.y.di,slC imC x.y.its,slC fmC x.y.fr,slC xpC x.y.wh,slC xpC x.y.gr,slC xpC x.y.hv,slC odC x.y.od,ci x.y.li,ci x.y.sk,ci x.e.op,ci x.e.v.k,ci x.e.v.n,aJ x.e.v.s,aJ (aM x.e.tb),aJ (aM x.e.nm),cb x.e.di,slC xpC x.e.ks,slC qyC x.e.sb,ci x.f.kd,aJ (aM x.f.nm),aJ (aM x.f.az),slC qyC x.f.sb,slC fmC x.f.ks,slC xpC x.f.on]:=by
 unfold thC;rw[aEC];rw[aqh];rw[aFK];rfl
def ajr(x:Th):(thC x).length=29:=by rw[aeZ];rfl
def dK{α:Type}{w:α->Nat}{l:List α}{x:α}(h:x∈l):w x<lsW w l:=by
 have:∀ l:List α,x∈l->w x<=(l.map w).sum:=λl=>by
  induction l with
  | nil=>intro h;cases h
  | cons y r ih =>
   intro h
   rw[bd,dw]
   rcases bQ.1 h with rfl|h
   .omega
   .have:=ih h
    omega
 have:=this l h
 unfold lsW
 omega
def ae1:Int:=1000000000000000
def cG(c:UInt8):Bool:=(decide (97<=c.toNat)&&decide (c.toNat<=122))||decide (c=95)
def bz(c:UInt8):Bool:=decide (48<=c.toNat)&&decide (c.toNat<=57)
def gP:List UInt8->Bool
 | []=>false
 | c::r=>cG c&&r.all (λc=>cG c||bz c)&&decide (r.length+1<=20)
def aaP(s:List UInt8):Bool:=decide (s=[])||gP s
def agA:List UInt8:=[99,111,117,110,116]
def acY(s:List UInt8):Bool:=decide (s=agA)||decide (s=[115,117,109])||decide (s=[109,105,110])||decide (s=[109,97,120])
def aco:V:=⟨0,0,ByteArray.empty⟩
def acz:Xp:=.mk 0 aco [] [] false [] []
def aed(e:Xp):Bool:=decide (e.op=0)&&decide (e.v=aco)&&decide (e.tb=[])&&decide (e.nm=[])&&!e.di&&decide (e.ks.length=0)&&decide (e.sb.length=0)
def amL(e:Xp):aed e=true↔e=acz:=by
 simp only[aed,ar,aR,List.length_eq_zero_iff,df]
 cases e
 simp only[acz,Xp.op,Xp.v,Xp.tb,Xp.nm,Xp.di,Xp.ks,Xp.sb,and_assoc,Xp.mk.injEq]
def adr(op:Int):Option (Nat×Nat×Nat) :=
 if op=1\/op=2 then some (0,0,0)
 else if op=26\/op=27 then some (0,0,1)
 else if op=3\/op=4\/op=19 then some (1,1,0)
 else if op=28 then some (1,1,1)
 else if op=22 then some (3,3,0)
 else if op=21 then some (2,65,0)
 else if op=23 then some (2,129,0)
 else if op=24 then some (0,64,0)
 else if op=25 then some (0,1,0)
 else if 5<=op/\op<=20 then some (2,2,0)
 else none
def fN(op:Int)(v:V)(tb nm:List UInt8)(di:Bool)(n:Nat):Bool :=
 if op=1 then gM v&&(decide (v.k≠2)||decide (0<=v.n))&&decide (tb=[])&&decide (nm=[])&&!di
 else if op=2 then decide (v=aco)&&gP nm&&aaP tb&&!di
 else if op=24 then decide (v=aco)&&decide (tb=[])&&gP nm&&!acY nm&&!di
 else if op=25 then decide (v=aco)&&decide (tb=[])&&acY nm&&(decide (n=1)||(decide (nm=agA)&&!di))
 else decide (v=aco)&&decide (tb=[])&&decide (nm=[])&&!di
def abT(n lo hi:Nat):Bool:=decide (lo<=n)&&decide (n<=hi)
def aa4(o:Od):Bool:=if o.nm≠[] then gP o.nm&&decide (o.pl=0) else decide (1<=o.pl)&&decide (o.pl<=ae1)
mutual
def gC:Fm->Nat
 | .mk kd _ _ _ ks _=>if kd=1\/kd=2 then 1 else amc ks
def amc:List Fm->Nat
 | []=>0
 | x::r=>gC x+amc r
end
mutual
def gB:Fm->Nat
 | .mk kd _ _ _ ks _=>(if kd=1\/kd=2 then 1 else 0)+ama ks
def ama:List Fm->Nat
 | []=>0
 | x::r=>gB x+ama r
end
mutual
def eY:Xp->Bool
 | .mk op v tb nm di ks sb=>match adr op with
  | none=>false
  | some (lo,hi,n)=>fN op v tb nm di ks.length&&abT ks.length lo hi&&decide (sb.length=n)&&akx ks&&aoq sb
def akx:List Xp->Bool
 | []=>true
 | x::r=>eY x&&akx r
def gS:Qy->Bool
 | .mk op al ks di its fr wh gr hv od li sk =>
  decide (-1<=li)&&decide (li<=ae1)&&decide (0<=sk)&&decide (sk<=ae1)&&abT od.length 0 64&&od.all aa4 &&
  (if op=1 then !al&&abT ks.length 0 0&&abT its.length 1 64&&auN its&&abT fr.length 0 1&&aqK fr&&fr.all (λf=>decide (gC f<=8))&&abT wh.length 0 1&&akx wh&&abT gr.length 0 64&&akx gr&&abT hv.length 0 1&&akx hv
   else if op=2\/op=3\/op=4 then abT ks.length 2 2&&aoq ks&&!di&&decide (its.length+fr.length+wh.length+gr.length+hv.length=0)
   else false)
def aoq:List Qy->Bool
 | []=>true
 | x::r=>gS x&&aoq r
def adu:Im->Bool
 | .mk st tb e az=>if st then aaP tb&&aed e&&decide (az=[]) else decide (tb=[])&&aaP az&&eY e
def auN:List Im->Bool
 | []=>true
 | x::r=>adu x&&auN r
def aaY:Fm->Bool
 | .mk kd nm az sb ks on =>
  if kd=1 then gP nm&&aaP az&&decide (sb.length+ks.length+on.length=0)
  else if kd=2 then decide (nm=[])&&gP az&&abT sb.length 1 1&&aoq sb&&decide (ks.length+on.length=0)
  else if kd=3\/kd=4\/kd=5 then decide (nm=[])&&decide (az=[])&&decide (sb.length=0)&&abT ks.length 2 2&&aqK ks&&decide (on.length=if kd=3 then 0 else 1)&&akx on
  else false
def aqK:List Fm->Bool
 | []=>true
 | x::r=>aaY x&&aqK r
end
theorem akw:∀ l:List Xp,akx l=l.all eY
 | []=>rfl
 | x::r=>by rw[akx,akw r];rfl
theorem aky:∀ l:List Qy,aoq l=l.all gS
 | []=>rfl
 | x::r=>by rw[aoq,aky r];rfl
theorem atg:∀ l:List Im,auN l=l.all adu
 | []=>rfl
 | x::r=>by rw[auN,atg r];rfl
theorem anc:∀ l:List Fm,aqK l=l.all aaY
 | []=>rfl
 | x::r=>by rw[aqK,anc r];rfl
def bm(a b:Nat×Nat):Nat×Nat:=(a.1+b.1,max a.2 b.2)
def upN(a:Nat×Nat):Nat×Nat:=(a.1+1,a.2+1)
def bj{α:Type}(f:α->Nat×Nat):List α->Nat×Nat
 | []=>(0,0)
 | x::r=>bm (f x) (bj f r)
mutual
def cV:Xp->Nat×Nat
 | .mk _ _ _ _ _ ks sb=>upN (bm (akp ks) (aoj sb))
def akp:List Xp->Nat×Nat
 | []=>(0,0)
 | x::r=>bm (cV x) (akp r)
def fM:Qy->Nat×Nat
 | .mk _ _ ks _ its fr wh gr hv _ _ _=>upN (bm (bm (bm (bm (bm (aoj ks) (auH its)) (aqn fr)) (akp wh)) (akp gr)) (akp hv))
def aoj:List Qy->Nat×Nat
 | []=>(0,0)
 | x::r=>bm (fM x) (aoj r)
def abv:Im->Nat×Nat
 | .mk st _ e _=>if st then (0,0) else cV e
def auH:List Im->Nat×Nat
 | []=>(0,0)
 | x::r=>bm (abv x) (auH r)
def aay:Fm->Nat×Nat
 | .mk _ _ _ sb ks on=>upN (bm (bm (aoj sb) (aqn ks)) (akp on))
def aqn:List Fm->Nat×Nat
 | []=>(0,0)
 | x::r=>bm (aay x) (aqn r)
end
theorem agX:∀ l:List Xp,akp l=bj cV l
 | []=>rfl
 | x::r=>by rw[akp,agX r];rfl
theorem akq:∀ l:List Qy,aoj l=bj fM l
 | []=>rfl
 | x::r=>by rw[aoj,akq r];rfl
theorem asS:∀ l:List Im,auH l=bj abv l
 | []=>rfl
 | x::r=>by rw[auH,asS r];rfl
theorem amW:∀ l:List Fm,aqn l=bj aay l
 | []=>rfl
 | x::r=>by rw[aqn,amW r];rfl
def ahN(a b c:Nat×Nat):bm (bm a b) c=bm a (bm b c):=by simp[bm,cE,Nat.max_assoc]
def ad4(a:Nat×Nat):bm a (0,0)=a:=by simp[bm]
def akc(a:Nat×Nat):bm (0,0) a=a:=by simp[bm]
def afp(n:Nat×Nat):Bool:=decide (n.1<=400)&&decide (n.2<=40)
def afU(e:Xp):Bool:=afp (cV e)&&eY e
def afV(q:Qy):Bool:=afp (fM q)&&gS q
def aqY:List UInt8->Bool
 | []=>false
 | c::r=>cG c&&r.all (λc=>cG c||bz c)
def aaN:List UInt8:=[32,97,108,108,32,97,110,97,108,121,122,101,32,97,110,100,32,97,115,32,97,115,99,32,98,101,103,105,110,32,98,101,116,119,101,101,110,32,98,111,111,108,32,98,121,32,99,97,115,101,32,99,104,101,99,107,32,99,104,101,99,107,112,111,105,110,116,32,99,111,109,109,105,116,32,99,114,101,97,116,101,32,99,114,111,115,115,32,100,101,108,101,116,101,32,100,101,115,99,32,100,105,115,116,105,110,99,116,32,100,114,111,112,32,101,108,115,101,32,101,110,100,32,101,120,99,101,112,116,32,101,120,105,115,116,115,32,101,120,112,108,97,105,110,32,102,97,108,115,101,32,102,111,114,101,105,103,110,32,102,114,111,109,32,103,114,111,117,112,32,104,97,118,105,110,103,32,105,110,32,105,110,100,101,120,32,105,110,110,101,114,32,105,110,115,101,114,116,32,105,110,116,32,105,110,116,101,114,115,101,99,116,32,105,110,116,111,32,105,115,32,106,111,105,110,32,107,101,121,32,108,101,102,116,32,108,105,107,101,32,108,105,109,105,116,32,110,111,116,32,110,117,108,108,32,111,102,102,115,101,116,32,111,110,32,111,114,32,111,114,100,101,114,32,112,114,105,109,97,114,121,32,114,101,102,101,114,101,110,99,101,115,32,114,111,108,108,98,97,99,107,32,115,101,108,101,99,116,32,115,101,116,32,116,97,98,108,101,32,116,101,120,116,32,116,104,101,110,32,116,114,117,101,32,117,110,105,111,110,32,117,110,105,113,117,101,32,117,112,100,97,116,101,32,118,97,99,117,117,109,32,118,97,108,117,101,115,32,119,104,101,110,32,119,104,101,114,101,32]
def afz(s:List UInt8):Bool:=Lib.contains aaN (32::(s++[32]))
def plN:Nat->List UInt8->Bool
 | _,[]=>true
 | k,c::r=>(cG c||(decide (k≠0)&&bz c))&&plN (k+1) r
def aHp(r:List UInt8):∀ k,plN (k+1) r=r.all (λc=>cG c||bz c):=by
 induction r with
 | nil=>intro k;rfl
 | cons x r ih=>intro k;simp[plN,ih]
def aOA(l:List UInt8):aqY l=(decide (l≠[])&&plN 0 l):=by
 cases l with
 | nil=>rfl
 | cons c r=>simp[aqY,plN,aHp]
def aEL{l:List UInt8}{k:Nat}(h:k<l.length):plN k (l.drop k)=((cG l[k]||(decide (k≠0)&&bz l[k]))&&plN (k+1) (l.drop (k+1))):=by rw[bI h,plN]
def c95(c:UInt8):(c=95)=(c.toNat=95):=propext ⟨λh=>by rw[h];rfl,λh=>UInt8.toNat_inj.1 h⟩
end Go.Tab
namespace Go.Proofs.YtghkmcffifpkeaaGreat
open RowKit Pe Tab
set_option maxRecDepth 1000000 in
def aBB(s:ByteArray)(w:World) :
  Calls Tryz.prog 244 #[.string s] w λe w'=>e=.returned (.bool (aqY s.data.toList))/\Below w.heap.size w w':=by
 rw[aOA]
 have hsz:s.data.toList.length=s.size:=by simp
 go_enter Tryz.func244,Tryz.ntmps244
 go_wp2
 go_loopw [] (λwr=>∃ pos:Nat,wr=w.iter s pos/\pos<=s.size/\plN 0 s.data.toList=plN pos (s.data.toList.drop pos)) (λwr=>s.size-wr.iterPos w.heap.size)
 case atStart=>exact⟨0,rfl,bn _,rfl⟩
 case round =>
  obtain⟨pos,rfl,hle,HS⟩:=hrel
  have hB:Below w.heap.size w (w.iter s pos):=(Below.refl _ _).alloc (am _) _
  by_cases hp:pos<s.size
  .rcases av (s[pos]'hp).toNat 128 with ha|ha
   rotate_left
   .have hd:=decode_high s pos hp ha
    have hd2:=decode_le s pos
    have hnx:∀ ty,(Instr.next (.pointer (some ⟨w.heap.size,0,none⟩)) true ty).run Tryz.prog (w.iter s pos)=_:=λty=>run_next_any w s pos ty hp
    have hpl:pos<s.data.toList.length:=by omega
    rw[aEL hpl] at HS
    have hg:s.data.toList[pos]=s[pos]'hp:=by simp[ByteArray.getElem_eq_getElem_data]
    rw[hg] at HS
    have hne:s.data.toList≠[]:=by intro e;rw[e] at hpl;simp at hpl
    have hn:plN 0 s.data.toList=false:=by
     rw[HS]
     have:(cG (s[pos]'hp)||(decide (pos≠0)&&bz (s[pos]'hp)))=false:=by
      simp only[cG,bz,Bool.or_eq_false_iff,ac6,gz,c95]
      omega
     rw[this,cm]
    generalize (Utf8.decode s pos)=dc at *
    obtain⟨rn,nb⟩:=dc
    dsimp only at hd hd2 hnx
    have hB2:Below w.heap.size w (w.iter s (pos+nb)):=(Below.refl _ _).alloc (am _) _
    clear HS hg
    go_wp2
    all_goals try simp only[dL,beq_eq_false_iff_ne,dv] at *
    all_goals first
     | (exfalso;omega)
     | (go_ret;exact⟨by simp[hn],hB2⟩)
   have hnx:∀ ty,(Instr.next (.pointer (some ⟨w.heap.size,0,none⟩)) true ty).run Tryz.prog (w.iter s pos)=_:=λty=>run_next_ascii w s pos ty hp ha
   have hpl:pos<s.data.toList.length:=by omega
   rw[aEL hpl] at HS
   have hg:s.data.toList[pos]=s[pos]'hp:=by simp[ByteArray.getElem_eq_getElem_data]
   rw[hg] at HS
   generalize hc:(s[pos]'hp)=c at *
   have hne:s.data.toList≠[]:=by intro e;rw[e] at hpl;simp at hpl
   have hB2:Below w.heap.size w (w.iter s (pos+1)):=(Below.refl _ _).alloc (am _) _
   have key:(cG c||(decide (pos≠0)&&bz c))=true↔(97<=(c.toNat:Int)/\(c.toNat:Int)<=122)\/(c.toNat:Int)=95\/(0<(pos:Int)/\48<=(c.toNat:Int)/\(c.toNat:Int)<=57):=by
    simp only[cG,bz,bD,ar,aR,c95]
    omega
   have yes:(97<=(c.toNat:Int)/\(c.toNat:Int)<=122)\/(c.toNat:Int)=95\/(0<(pos:Int)/\48<=(c.toNat:Int)/\(c.toNat:Int)<=57)->plN 0 s.data.toList=plN (pos+1) (s.data.toList.drop (pos+1)):=λh=>by rw[HS,key.2 h,bR]
   have no:¬((97<=(c.toNat:Int)/\(c.toNat:Int)<=122)\/(c.toNat:Int)=95\/(0<(pos:Int)/\48<=(c.toNat:Int)/\(c.toNat:Int)<=57))->plN 0 s.data.toList=false:=λh=>by
    cases hb:(cG c||(decide (pos≠0)&&bz c)) with
    | false=>rw[HS,hb,cm]
    | true=>exact absurd (key.1 hb) h
   clear HS key hc
   go_wp2
   all_goals try simp only[dL,beq_eq_false_iff_ne,dv] at *
   all_goals first
    | (refine⟨⟨pos+1,rfl,by omega,yes aC⟩,?_⟩;simp;omega)
    | (have hn:=no aC;go_ret;exact⟨by simp[hn],hB2⟩)
  .have hnx:∀ ty,(Instr.next (.pointer (some ⟨w.heap.size,0,none⟩)) true ty).run Tryz.prog (w.iter s pos)=_:=λty=>run_next_end w s pos ty hp
   rw[bv aC,plN] at HS
   rw[HS]
   go_wp2
   go_ret
   refine⟨?_,hB⟩
   rw[HS,ff]
   have e:(!s.toList.isEmpty)=decide (s.data.toList≠[]):=by rw[ByteArray.toList_eq];cases s.data.toList <;> rfl
   rw[← e]
   rfl
end Go.Proofs.YtghkmcffifpkeaaGreat
namespace Go.Pe
section
variable (s:S) (d j:Nat) (x:X) (t:Tk)
theorem Z6w:(s.put (some d) x).fr j=if j=d then x else s.fr j:=rfl
theorem Z6y(d:Option Nat):(s.put d x).objs=s.objs:=by cases d <;> rfl
theorem Z6v(d:Option Nat):(s.put d x).clk=s.clk:=by cases d <;> rfl
theorem Z6x:s.put none x=s:=rfl
theorem Z31:(s.drop (some t)).fr j=(s.fr j).drop t:=rfl
theorem Z32:(s.drop (some t)).objs=s.objs.map (Ob.drop t):=rfl
theorem Z30:(s.drop (some t)).clk=s.clk:=rfl
theorem Z3i(n:Nat):s.ev (.tmp n)=s.fr n:=rfl
theorem Z3g(v:Value):s.ev (.const v)=abK v:=rfl
theorem Z3h(f:Nat):s.ev (.func f)=.of (.fn f []):=rfl
end
def Z63(k:IntKind)(n:Int):abK (.int k n)=.of (.lit (.int k n)):=rfl
def Z62(b:Bool):abK (.bool b)=.of (.lit (.bool b)):=rfl
def Z67(b:ByteArray):abK (.string b)=.of (.lit (.string b)):=rfl
def Z65:abK (.slice none 0 0)=.nil:=rfl
def aoz:List X->Nat->X
 | [],_=>.of .undef
 | c::_,0=>c
 | _::cs,j+1=>aoz cs j
theorem Z42(obs:List Ob):∀ (xs:List X) (j:Nat),(ael xs obs).fr j=aoz xs j
 | [],j=>rfl
 | c::cs,0=>rfl
 | c::cs,j+1=>by have:=Z42 obs cs j;simpa [ael,aoz] using this
def Z43(xs:List X)(obs:List Ob):(ael xs obs).objs=obs:=rfl
def Z41(xs:List X)(obs:List Ob):(ael xs obs).clk=1:=rfl
def Z40(x:X)(xs:List X):aoz (x::xs) 0=x:=rfl
def Z3z(x:X)(xs:List X)(j:Nat):aoz (x::xs) (j+1)=aoz xs j:=rfl
def Z8q(P:Program)(pr:Pr)(b:Code)(Q:Ex->S->Prop)(s:S):aoi P pr b Q .normal s↔WC P pr b s Q:=bO
def Z8p(P:Program)(pr:Pr)(b:Code)(Q:Ex->S->Prop)(i:Nat)(s:S):aoi P pr b Q (.exit i) s↔Q (.exit i) s:=bO
def Z8s(P:Program)(pr:Pr)(b:Code)(Q:Ex->S->Prop)(s:S):aoi P pr b Q .ret s↔Q .ret s:=bO
def Z8r(P:Program)(pr:Pr)(b:Code)(Q:Ex->S->Prop)(x:X)(s:S):aoi P pr b Q (.pan x) s↔Q (.pan x) s:=bO
def Z24(i:Nat)(Q:Ex->S->Prop)(x:X)(s:S):aj4 i Q (.pan x) s↔Q (.pan x) s:=bO
def Z23(i:Nat)(Q:Ex->S->Prop)(s:S):aj4 i Q .normal s↔Q .normal s:=bO
def Z22(i j:Nat)(Q:Ex->S->Prop)(s:S):aj4 i Q (.exit j) s↔if j=i then Q .normal s else Q (.exit j) s:=bO
def Z25(i:Nat)(Q:Ex->S->Prop)(s:S):aj4 i Q .ret s↔Q .ret s:=bO
def S.tk(s:S):S:={s with clk:=s.clk+1}
def Z8u(s:S)(j:Nat):s.tk.fr j=s.fr j:=rfl
def Z8v(s:S):s.tk.objs=s.objs:=rfl
def Z8t(s:S):s.tk.clk=s.clk+1:=rfl
def Z7g(Q:Ex->S->Prop)(s:S):afA Q none s↔Q .normal s.tk:=bO
def Z5j(F:S->Prop)(Q:Option X->S->Prop)(s:S):auR F Q none s↔F s:=bO
def Z2t(b:Bool)(p q:Prop):au5 (some b) p q↔if b=true then p else q:=bO
def Z3s(ops:Array Oper)(s:S)(d:Option Nat)(op:Op)(ty:Nat)(pos:String)(af:Array Edge):eV ops s ⟨d,op,ty,pos,af,none⟩=some true:=rfl
def aq9(want:Bool):X->Option Bool
 | .of (.lit (.bool b))=>some (b == want)
 | .of .undef=>some false
 | _=>none
def aFF(s:S)(want:Bool):Option Nat->Option Bool
 | some d=>aq9 want (s.fr d)
 | none=>some false
def Z3t(ops:Array Oper)(s:S)(d:Option Nat)(op:Op)(ty:Nat)(pos:String)(af:Array Edge)(j:Nat)(want:Bool) :
  eV ops s ⟨d,op,ty,pos,af,some (j,want)⟩=aFF s want ((ops[j]?).bind (·.dst)):=by
 simp only[eV]
 cases (ops[j]?).bind (·.dst) with
 | none=>rfl
 | some d=>rfl
def Z3r(s:S)(want:Bool)(d:Nat):aFF s want (some d)=aq9 want (s.fr d):=rfl
def Z3u(want b:Bool):aq9 want (.of (.lit (.bool b)))=some (b == want):=rfl
def Z3v(want:Bool):aq9 want (.of .undef)=some false:=rfl
def Z6g(s:S)(d:Option Nat)(af:Array Edge)(K:S->Prop)(x:X):ab8 s d af K (out x)↔K (s.put d x):=bO
def Z6i(s:S)(d:Option Nat)(af:Array Edge)(K:S->Prop)(x:X)(t:Tk):ab8 s d af K (some (x,some t))↔aaQ s.clk af.toList (some t)=true/\K ((s.drop (some t)).put d x):=bO
def Z6f(s:S)(d:Option Nat)(af:Array Edge)(K:S->Prop)(x:X):ab8 s d af K (some (x,none))↔K (s.put d x):=bO
def Z3w(b:Bool)(p q:Prop):aj0 (some b) p q↔if b=true then p else q:=by cases b <;> simp[aj0]
def Zw(P:Program)(pr:Pr)(id:Nat)(l:List Oper)(s:S)(Q:Ex->S->Prop):WC P pr (.region id l.toArray false) s Q↔WO P pr false l.toArray 0 l s (afA Q):=aDK id l.toArray s Q
def Zx(P:Program)(pr:Pr)(id:Nat)(l:List Oper)(s:S)(Q:Ex->S->Prop):WC P pr (.region id l.toArray true) s Q↔if plB pr.mt l=true then plQ (aBA P pr l.toArray s (afA Q)) (alf pr.obj l.toArray) else if tlB l=true then WOT P pr l.toArray 0 l s (afA Q) else tlQ (acr pr.obj l) (λn=>WD P pr l.toArray n 0 false l s (afA Q)) (if aaO l=true then WOB P pr l.toArray 0 l s (afA Q) else if aib pr.obj l=true then WS P pr l.toArray l s (afA Q) else WO P pr true l.toArray 0 l s (afA Q)):=aDJ id l.toArray s Q
def aKU(A:Nat->Prop)(B:Prop):tlQ 0 A B↔B:=bO
def aQa{n n':Nat}(A:Nat->Prop)(B:Prop)(h:Unit->n=n'):tlQ n A B=tlQ n' A B:=by rw[h ()]
def aG1{b b':Bool}(A B:Prop)(h:Unit->b=b'):aK0 b A B=aK0 b' A B:=by rw[h ()]
attribute [congr] aQa aG1
def aNJ(obj:Nat->Bool)(a b c:Oper)(l:List Oper):acr obj (a::b::c::l)=acr obj (b::c::l):=rfl
def aP9(obj:Nat->Bool)(d:Option Nat)(o:Op)(ty:Nat)(po:String)(af:Array Edge)(g:Option (Nat×Bool))(d':Option Nat)(o':Op)(ty':Nat)(po':String)(af':Array Edge)(g':Option (Nat×Bool)):acr obj [⟨d,o,ty,po,af,g⟩,⟨d',o',ty',po',af',g'⟩]=if (ada obj o'&&g'.isNone)=true then 1 else if (ada obj o&&g.isNone&&(opK o' == 2&&g'.isNone))=true then 2 else 0:=rfl
def aOq(obj:Nat->Bool)(g:Nat)(a:Array Operand)(t:Array Nat):ada obj (.call {callee:=.value (.func g),args:=a,argTypes:=t})=obj g:=rfl
def aE5(obj:Nat->Bool):∀ x0,ada obj (.assign x0)=false:=λ_=>rfl
def aOo(obj:Nat->Bool):∀ x0 x1 x2,ada obj (.pick x0 x1 x2)=false:=λ_ _ _=>rfl
def aIb(obj:Nat->Bool):∀ x0 x1 x2 x3 x4,ada obj (.binOp x0 x1 x2 x3 x4)=false:=λ_ _ _ _ _=>rfl
def aOn(obj:Nat->Bool):∀ x0 x1 x2,ada obj (.unOp x0 x1 x2)=false:=λ_ _ _=>rfl
def aOp(obj:Nat->Bool):∀ x0 x1,ada obj (.load x0 x1)=false:=λ_ _=>rfl
def aIa(obj:Nat->Bool):∀ x0 x1 x2,ada obj (.index x0 x1 x2)=false:=λ_ _ _=>rfl
def auj(obj:Nat->Bool):∀ x0 x1 x2,ada obj (.buildSlice x0 x1 x2)=false:=λ_ _ _=>rfl
def aIc(obj:Nat->Bool):∀ x0,ada obj (.alloc x0)=false:=λ_=>rfl
def aH9(obj:Nat->Bool):∀ x0 x1 x2,ada obj (.store x0 x1 x2)=false:=λ_ _ _=>rfl
def Z4q(obj:Nat->Bool)(d:Option Nat)(o:Op)(ty:Nat)(po:String)(af:Array Edge)(g:Option (Nat×Bool))(r:List Oper):aib obj (⟨d,o,ty,po,af,g⟩::r)=(ae4 obj o&&g.isNone):=rfl
def Z7y(a b:Oper)(l:List Oper):aaO (a::b::l)=aaO (b::l):=rfl
def Z7z(d:Option Nat)(o:Op)(ty:Nat)(po:String)(af:Array Edge)(g:Option (Nat×Bool)):aaO [⟨d,o,ty,po,af,g⟩]=(cZ o&&g.isNone):=rfl
def Z8i(t:Nat)(a x:Operand):cZ (.store t a x)=true:=rfl
def Z84(c:Call):cZ (.call c)=false:=rfl
def Z56(obj:Nat->Bool):∀ x0,ae4 obj (.move x0)=false:=λ_=>rfl
def Z80:∀ x0,cZ (.assign x0)=false:=λ_=>rfl
def Z8g:∀ x0 x1 x2,cZ (.pick x0 x1 x2)=false:=λ_ _ _=>rfl
def Z81:∀ x0 x1 x2 x3 x4,cZ (.binOp x0 x1 x2 x3 x4)=false:=λ_ _ _ _ _=>rfl
def Z8j:∀ x0 x1 x2,cZ (.unOp x0 x1 x2)=false:=λ_ _ _=>rfl
def Z8b:∀ x0 x1,cZ (.load x0 x1)=false:=λ_ _=>rfl
def Z53(obj:Nat->Bool):∀ x0 x1,ae4 obj (.load x0 x1)=false:=λ_ _=>rfl
def Z50(obj:Nat->Bool):∀ x0 x1 x2,ae4 obj (.fieldAddr x0 x1 x2)=false:=λ_ _ _=>rfl
def Z89:∀ x0 x1 x2,cZ (.index x0 x1 x2)=false:=λ_ _ _=>rfl
def Z83:∀ x0 x1 x2,cZ (.buildSlice x0 x1 x2)=false:=λ_ _ _=>rfl
def aOl:∀ x0,opK (.move x0)=0:=λ_=>rfl
def aEY:∀ x0,opK (.assign x0)=2:=λ_=>rfl
def aOk:∀ x0 x1 x2,opK (.pick x0 x1 x2)=0:=λ_ _ _=>rfl
def aH4:∀ x0,opK (.alloc x0)=3:=λ_=>rfl
def aOm:∀ x0 x1,opK (.load x0 x1)=4:=λ_ _=>rfl
def aH3:∀ x0 x1 x2 x3 x4,opK (.binOp x0 x1 x2 x3 x4)=0:=λ_ _ _ _ _=>rfl
def aOi:∀ x0 x1 x2,opK (.unOp x0 x1 x2)=0:=λ_ _ _=>rfl
def awt:∀ x0 x1 x2,opK (.indexAddr x0 x1 x2)=0:=λ_ _ _=>rfl
def aH2:∀ x0 x1 x2,opK (.store x0 x1 x2)=1:=λ_ _ _=>rfl
def aQc(l:List Oper):tlB l=tlM l (akn l):=rfl
def aGY(l:List Oper):tlM l none=false:=rfl
def aGX(l:List Oper)(d:Nat):tlM l (some d)=!alo d l:=rfl
def aGZ(a b c:Oper)(l:List Oper):akn (a::b::c::l)=akn (b::c::l):=rfl
def aNK(d:Option Nat)(o:Op)(ty:Nat)(po:String)(af:Array Edge)(g:Option (Nat×Bool))(d':Option Nat)(o':Op)(ty':Nat)(po':String)(af':Array Edge)(g':Option (Nat×Bool)):akn [⟨d,o,ty,po,af,g⟩,⟨d',o',ty',po',af',g'⟩]=if (cZ o&&g.isNone&&(g'.isNone&&(cZ o'||opK o' == 2)))=true then aJ3 o else none:=rfl
def aTq(t d:Nat)(x:Operand):aJ3 (.store t (.tmp d) x)=some d:=rfl
def aIO(d:Nat):alo d []=false:=rfl
def aFj(j:Nat)(d:Option Nat)(o:Op)(ty:Nat)(po:String)(af:Array Edge)(g:Option (Nat×Bool))(l:List Oper):alo j (⟨d,o,ty,po,af,g⟩::l)=((opK o == 3&&eqD d j)||alo j l):=rfl
def aJz(a d:Nat):eqD (some a) d=(a == d):=rfl
def aJA(d:Nat):eqD none d=false:=rfl
def aOJ{b b':Bool}(p:Prop)(h:Unit->b=b'):aRL b p=aRL b' p:=by rw[h ()]
def aQb(l:List Oper){x x':Option Nat}(h:Unit->x=x'):tlM l x=tlM l x':=by rw[h ()]
def aFE{g g':Option Bool}(p q:Prop)(h:Unit->g=g'):aj0 g p q=aj0 g' p q:=by rw[h ()]
def aJI{g g':Option Bool}(p q:Prop)(h:Unit->g=g'):au5 g p q=au5 g' p q:=by rw[h ()]
def aOe(s:S)(d:Option Nat)(af:Array Edge)(K:S->Prop){v v':Out}(h:Unit->v=v'):ab8 s d af K v=ab8 s d af K v':=by rw[h ()]
def aOg(Q:S->Prop){v v':Option S}(h:Unit->v=v'):ach Q v=ach Q v':=by rw[h ()]
def aKj(P:Program)(pr:Pr)(f:Nat){xs xs':List X}{obs obs':List Ob}(K:An->Prop)(h:Unit->xs=xs')(h':Unit->obs=obs'):afu P pr f xs obs K=afu P pr f xs' obs' K:=by rw[h (),h' ()]
def aJN(P:Program)(pr:Pr)(dr:Bool)(s:S)(k:Nat)(d:Option Nat)(Q:Option X->S->Prop)(f:Nat){us us':List X}(caps:List C){cs cs':Option (List C)}{b b':Bool}(h1:Unit->us=us')(h2:Unit->cs=cs')(h3:Unit->b=b') :
  amy P pr dr s k d Q f us caps cs b=amy P pr dr s k d Q f us' caps cs' b':=by rw[h1 (),h2 (),h3 ()]
def aJL(P:Program)(pr:Pr)(dr:Bool)(s:S)(k:Nat)(d:Option Nat)(Q:Option X->S->Prop){us us':List X}{cs cs':Option (List C)}{x x':X}(h1:Unit->us=us')(h2:Unit->cs=cs')(h3:Unit->x=x') :
  akI P pr dr s k d Q us cs x=akI P pr dr s k d Q us' cs' x':=by rw[h1 (),h2 (),h3 ()]
def aEJ(P:Program)(pr:Pr)(s:S)(k:Nat)(d:Option Nat)(Q:Option X->S->Prop)(f:Nat)(caps:List C){cs cs':Option (List C)}(h:Unit->cs=cs'):alg P pr s k d Q f caps cs=alg P pr s k d Q f caps cs':=by rw[h ()]
def aH8(P:Program)(pr:Pr)(s:S)(k:Nat)(d:Option Nat)(Q:Option X->S->Prop)(f:Nat){us us':List X}{refs refs':List Nat}{ts ts':List Tk}(h1:Unit->us=us')(h2:Unit->refs=refs')(h3:Unit->ts=ts') :
  akz P pr s k d Q f us refs ts=akz P pr s k d Q f us' refs' ts':=by rw[h1 (),h2 (),h3 ()]
def aH7(P:Program)(pr:Pr)(s:S)(k:Nat)(d:Option Nat)(refs:List Nat)(ts:List Tk)(Q:Option X->S->Prop)(f:Nat)(us:List X){obs obs':Option (List Ob)}(h1:Unit->obs=obs') :
  aBP P pr s k d refs ts Q f us obs=aBP P pr s k d refs ts Q f us obs':=by rw[h1 ()]
def aOb(Q:Option X->S->Prop)(s:S){c c':Option C}(h:Unit->c=c'):aQG Q s c=aQG Q s c':=by rw[h ()]
attribute [congr] aFE aJI aOe aOg aKj aJN aJL aEJ aH8 aH7 aOb
section
variable (P:Program) (T:TT) (t:Nat) (u:Option TypeDesc) (k:IntKind) (a b:Int)
theorem Z1r:gJ P T t u .lss (.of (.lit (.int k a))) (.of (.lit (.int k b)))=out (aN (decide (a<b))):=by simp[gJ,gG,acg,ae6,bX,out]
theorem Z1q:gJ P T t u .leq (.of (.lit (.int k a))) (.of (.lit (.int k b)))=out (aN (decide (a<=b))):=by simp[gJ,gG,acg,ae6,bX,out]
theorem Z1p:gJ P T t u .gtr (.of (.lit (.int k a))) (.of (.lit (.int k b)))=out (aN (decide (b<a))):=by simp[gJ,gG,acg,ae6,bX,out]
theorem Z1o:gJ P T t u .geq (.of (.lit (.int k a))) (.of (.lit (.int k b)))=out (aN (decide (b<=a))):=by simp[gJ,gG,acg,ae6,bX,out]
theorem Z1n:gJ P T t u .eql (.of (.lit (.int k a))) (.of (.lit (.int k b)))=out (aN (decide (a=b))):=by simp[gJ,gG,acg,ae6,bX,out]
theorem Z1t:gJ P T t u .neq (.of (.lit (.int k a))) (.of (.lit (.int k b)))=out (aN (!decide (a=b))):=by simp[gJ,gG,acg,ae6,bX,out]
theorem Z1k:gJ P T t u .add (.of (.lit (.int k a))) (.of (.lit (.int k b)))=out (.of (.lit (.int k (k.wrap (a+b))))):=by simp[gJ,gG,acg,ae6,bX,out]
theorem Z1x:gJ P T t u .sub (.of (.lit (.int k a))) (.of (.lit (.int k b)))=out (.of (.lit (.int k (k.wrap (a-b))))):=by simp[gJ,gG,acg,ae6,bX,out]
theorem Z1s:gJ P T t u .mul (.of (.lit (.int k a))) (.of (.lit (.int k b)))=out (.of (.lit (.int k (k.wrap (a*b))))):=by simp[gJ,gG,acg,ae6,bX,out]
theorem Z1v(x y:ByteArray):gJ P T t u .eql (.of (.lit (.string x))) (.of (.lit (.string y)))=out (aN (decide (x=y))):=by simp[gJ,gG,acg,anM,bX,out]
theorem Z1w(x y:ByteArray):gJ P T t u .neq (.of (.lit (.string x))) (.of (.lit (.string y)))=out (aN (!decide (x=y))):=by simp[gJ,gG,acg,anM,bX,out]
theorem Z1u(x y:ByteArray):gJ P T t u .add (.of (.lit (.string x))) (.of (.lit (.string y)))=if x.size+y.size<=afM then out (ahQ (x++y)) else none:=by
 simp only[gJ,gG,acg,anM]
 split <;> rfl
theorem Z1m(x y:Bool):gJ P T t (some .bool) .neq (.of (.lit (.bool x))) (.of (.lit (.bool y)))=out (aN (!(x == y))):=by simp[gJ,gG,acg,asA,aoy,bX,out]
theorem Z9n(b:Bool):unX .not (.of (.lit (.bool b)))=out (aN (!b)):=rfl
end
def Z4h(b:Bool):adk (.of (.lit (.bool b)))=some b:=rfl
def aRl(m n:Int):apG (.of (.lit (.int .i64 m))) (.of (.lit (.int .i64 n)))=out (au (if m<n then n else m)):=rfl
def Z6q(s:S)(x y:Operand)(b:Bool):aBE s x y (some b)=out (if b=true then s.ev x else s.ev y):=rfl
def Z4f(s:ByteArray):aaI (some .string) (.of (.lit (.string s)))=out (au s.size):=rfl
def Z4e(e:Nat)(cs:List C)(n:Nat):aaI (some (.slice e)) (.of (.sl cs n))=out (au n):=rfl
def Z4d(e:Nat)(t:Tk)(e' z:Nat)(cs:List C)(n:Nat):aaI (some (.slice e)) (.own t e' z cs n)=out (au n):=rfl
def Z6e(s:S)(d:Option Nat)(af:Array Edge)(K:S->Prop)(c:Prop)[Decidable c](v:Out):ab8 s d af K (if c then v else none)↔c/\ab8 s d af K v:=by
 split
 .simp[*]
 .simp[*,ab8]
def Z72(c:C):X.rd (.of c)=some c:=rfl
def Z73(t:Tk)(e z:Nat)(cs:List C)(n:Nat):X.rd (.own t e z cs n)=some (.sl cs n):=rfl
def Z71:X.rd .nil=some (.sl [] 0):=rfl
def Z70(f:Operand->X):abJ f []=some []:=rfl
def aC8(c:Option C)(cs:Option (List C)):Option (List C):=match c,cs with
 | some c,some cs=>some (c::cs)
 | _,_=>none
def Z6z(f:Operand->X)(x:Operand)(r:List Operand):abJ f (x::r)=aC8 (f x).rd (abJ f r):=by
 simp only[abJ,aC8]
 cases (f x).rd <;> cases abJ f r <;> rfl
def Z2u(c:C)(cs:List C):aC8 (some c) (some cs)=some (c::cs):=rfl
def Z26(P:Program)(pr:Pr)(dr:Bool)(s:S)(k:Nat)(d:Option Nat)(Q:Option X->S->Prop)(f:Nat)(us:List X)(caps:List C)(cs:Option (List C)):amy P pr dr s k d Q f us caps cs false↔alg P pr s k d Q f caps cs:=bO
def Z6s(P:Program)(pr:Pr)(s:S)(k:Nat)(d:Option Nat)(Q:Option X->S->Prop)(f:Nat)(caps cs:List C):alg P pr s k d Q f caps (some cs)↔fh P f=true/\afu P pr f ((cs++caps).map .of) [] (awn s k d Q):=bO
def aB5{α:Type}(v:α)(K:α->Prop):Prop:=K v
def aOC{α:Type}{v v':α}(K:α->Prop)(h:Unit->v=v'):aB5 v K=aB5 v' K:=by rw[h ()]
attribute [congr] aOC
def Z4g{α:Type}(v:α)(K:α->Prop):aB5 v K↔K v:=bO
def Z6r(s:S)(k:Nat)(d:Option Nat)(Q:Option X->S->Prop)(rs:List X):awn s k d Q ⟨false,rs,[]⟩↔aB5 (agf (aht s.clk k rs)) λx=>Q none (s.put d x):=bO
def S.withO(s:S)(objs:List Ob):S:={s with objs:=objs}
section
variable (σ:Nat->Option Nat) (ρ:Tk->Option Tk)
theorem Z9g(c:C):(X.of c).tr σ ρ=.of c:=rfl
theorem Z9f:X.nil.tr σ ρ=.nil:=rfl
def trP(off:Nat):Option Nat->X
 | some r=>.ptr r off
 | none=>.of .any
def trO(e z:Nat)(cs:List C)(n:Nat):Option Tk->X
 | some t=>.own t e z cs n
 | none=>.of (.sl cs n)
theorem Z9i(r off:Nat):(X.ptr r off).tr σ ρ=trP off (σ r):=by simp only[X.tr,trP];cases σ r <;> rfl
theorem Z9h(t:Tk)(e z:Nat)(cs:List C)(n:Nat):(X.own t e z cs n).tr σ ρ=trO e z cs n (ρ t):=by simp only[X.tr,trO];cases ρ t <;> rfl
theorem Z9l:X.trs σ ρ []=[]:=rfl
theorem Z9k(x:X)(xs:List X):X.trs σ ρ (x::xs)=x.tr σ ρ::X.trs σ ρ xs:=rfl
theorem Z61(ty:Nat)(xs:List X):(Ob.var ty xs).tr σ ρ=.var ty (X.trs σ ρ xs):=rfl
end
def Z9b(off r:Nat):trP off (some r)=.ptr r off:=rfl
def Z9a(e z:Nat)(cs:List C)(n:Nat)(t:Tk):trO e z cs n (some t)=.own t e z cs n:=rfl
def Z5i(c k:Nat):aht c k []=[]:=rfl
def Z5h(c k:Nat)(x:X)(xs:List X):aht c k (x::xs)=x.tr (λ_=>none) (adv c k)::aht c k xs:=rfl
def Z6p(σ:Nat->Option Nat)(ρ:Tk->Option Tk)(objs:List Ob):abj σ ρ objs []=some []:=rfl
def Z75(objs:List Ob)(n:Nat)(seen:List Nat):fE objs n [] seen=seen:=by cases n <;> rfl
def Z7c(c:C):(X.of c).refs=[]:=rfl
def Z77:X.refsL []=[]:=rfl
def Z76(x:X)(xs:List X):X.refsL (x::xs)=x.refs++X.refsL xs:=rfl
def Z94(c:C):(X.of c).toks=[]:=rfl
def Z8z:X.toksL []=[]:=rfl
def Z8y(x:X)(xs:List X):X.toksL (x::xs)=x.toks++X.toksL xs:=rfl
def Z5v{α:Type}[DecidableEq α](seen:List α):nub [] seen=seen:=rfl
def Z6d(Q:S->Prop)(s:S):ach Q (some s)↔Q s:=bO
def Z15(s:S)(d:Option Nat)(ty:Nat)(xs:List X):arz s d ty (some xs)=some (alz s d ty xs):=rfl
def Z5p:acK []=true:=rfl
def Z5q(c:C)(xs:List X):acK (.of c::xs)=acK xs:=rfl
def Z5o(xs:List X):acK (.nil::xs)=acK xs:=rfl
def Z5r(t:Tk)(e z:Nat)(cs:List C)(n:Nat)(xs:List X):acK (.own t e z cs n::xs)=false:=rfl
def Z9p(s:S)(objs:List Ob)(j:Nat):(s.withO objs).fr j=s.fr j:=rfl
def Z9q(s:S)(objs:List Ob):(s.withO objs).objs=objs:=rfl
def Z9o(s:S)(objs:List Ob):(s.withO objs).clk=s.clk:=rfl
def Z8n(ρ:Tk->Option Tk)(s:S)(j:Nat):(s.tr ρ).fr j=(s.fr j).tr some ρ:=rfl
def Z8o(ρ:Tk->Option Tk)(s:S):(s.tr ρ).objs=s.objs.map (Ob.tr some ρ):=rfl
def Z8m(ρ:Tk->Option Tk)(s:S):(s.tr ρ).clk=s.clk:=rfl
def apL(r off:Nat)(xs:List X)(s:S):Bool->S
 | true=>s
 | false=>s.tr (adW r off xs.length (eS r off xs))
def Z16(s:S)(d:Option Nat)(ty:Nat)(xs:List X):alz s d ty xs=(apL s.objs.length 0 xs (s.withO (s.objs++[Ob.var ty xs])) (acK xs)).put d (.ptr s.objs.length 0):=by
 unfold alz apK apL S.withO
 cases acK xs <;> simp[acK]
def aqq(s:S)(d:Option Nat)(n r off:Nat)(xs:List X):Option Ob->Option S
 | some (.var ty ys)=>if xs.length=n/\off+xs.length<=ys.length then some ((apL r off xs (s.withO (s.objs.set r (Ob.var ty (ys.take off++xs++ys.drop (off+xs.length))))) (acK xs&&acK ((ys.drop off).take xs.length))).put d (.of .undef)) else none
 | _=>none
def Z8k(s:S)(d:Option Nat)(td:TD)(r off:Nat)(xs:List X):amX s d (some td) (.ptr r off) (some xs)=aqq s d td.size r off xs (s.objs[r]?):=by
 simp only[amX,afx,aqq]
 cases s.objs[r]? with
 | none=>rfl
 | some ob =>
  cases ob with
  | map es=>rfl
  | row ty cs=>rfl
  | var ty ys =>
   simp only
   split
   .simp only[ae]
    unfold apK apL S.withO
    cases acK xs <;> cases acK ((ys.drop off).take xs.length) <;> rfl
   .rfl
def Z47(r off:Nat)(xs:List X)(s:S):apL r off xs s true=s:=rfl
def Z46(r off:Nat)(xs:List X)(s:S):apL r off xs s false=s.tr (adW r off xs.length (eS r off xs)):=rfl
def aqP(r off n:Nat)(t:Tk):Option Tk->Option Tk
 | some t'=>some t'
 | none=>match t with
  | .cell r' o'=>if r'=r/\off<=o'/\o'<off+n then none else some t
  | .nm ..=>some t
def Z5f(r off n:Nat)(mv:List (Tk×Tk))(t:Tk):adW r off n mv t=aqP r off n t (acx mv t):=by
 unfold adW aqP
 cases acx mv t <;> rfl
def Z5e(r off n:Nat)(t t':Tk):aqP r off n t (some t')=some t':=rfl
def Z5c(r off n r' o':Nat):aqP r off n (.cell r' o') none=if r'=r/\off<=o'/\o'<off+n then none else some (.cell r' o'):=rfl
def Z5d(r off n a b c:Nat):aqP r off n (.nm a b c) none=some (.nm a b c):=rfl
def Z1d(t:Tk):acx [] t=none:=rfl
def Z1c(a b:Tk)(l:List (Tk×Tk))(t:Tk):acx ((a,b)::l) t=if a=t then some b else acx l t:=rfl
def Z2d(r off:Nat):eS r off []=[]:=rfl
def Z2f(r off:Nat)(t:Tk)(e z:Nat)(cs:List C)(n:Nat)(xs:List X):eS r off (.own t e z cs n::xs)=(t,.cell r off)::eS r (off+1) xs:=rfl
def Z2e(r off:Nat)(c:C)(xs:List X):eS r off (.of c::xs)=eS r (off+1) xs:=rfl
def Z2c(r off:Nat)(xs:List X):eS r off (.nil::xs)=eS r (off+1) xs:=rfl
def aRk{b b':Bool}(p q:Prop)(h:Unit->b=b'):mtQ b p q=mtQ b' p q:=by rw[h ()]
def aIj(p q:Prop):mtQ true p q↔p:=bO
def aFc(p q:Prop):mtQ false p q↔q:=bO
def stQ(dr mt:Bool)(s:S)(j t:Nat)(af:Array Edge)(Q:S->Prop)(td:Option TD)(xs:Option (List X))(cs:Option (List C))(ax:X):Prop:=ach Q (stO dr mt s j t af td xs cs ax)
def aQo(dr:Bool){mt mt':Bool}(s:S)(j t:Nat)(af:Array Edge)(Q:S->Prop){td td':Option TD}{xs xs':Option (List X)}{cs cs':Option (List C)}{ax ax':X}(h1:Unit->mt=mt')(h2:Unit->td=td')(h3:Unit->xs=xs')(h4:Unit->cs=cs')(h5:Unit->ax=ax') :
  stQ dr mt s j t af Q td xs cs ax=stQ dr mt' s j t af Q td' xs' cs' ax':=by rw[h1 (),h2 (),h3 (),h4 (),h5 ()]
def aYb(P:Program)(pr:Pr)(dr:Bool)(k:Nat)(ty:Nat)(po:String)(af:Array Edge)(s:S)(Q:Option X->S->Prop)(t j:Nat)(x:Operand):SO P pr dr k ⟨none,.store t (.tmp j) x,ty,po,af,none⟩ s Q↔stQ dr (pr.mt po (some j)) s j t af (Q none) (TT.of P t) (cJ (s.ev x)) (fW (s.ev x)) (s.fr j):=Zr dr k ty po af s Q t j x
def arN(s:S)(td:TD)(r off:Nat)(xs:List X)(Q:S->Prop)(o:Option Ob):Prop:=ach Q (aqq s none td.size r off xs o)
def aNN(s:S)(td:TD)(r off:Nat)(xs:List X)(Q:S->Prop){o o':Option Ob}(h:Unit->o=o'):arN s td r off xs Q o=arN s td r off xs Q o':=by rw[h ()]
def az9(s:S)(j t:Nat)(af:Array Edge)(Q:S->Prop)(td:TD)(cs:List C)(tk:Tk)(ty z:Nat):ach Q (avS s j t tk ty z af (some td) (some cs))↔(ty=t/\z=td.size/\cs.length=z/\aaQ s.clk af.toList (some tk)=true)/\Q ((s.drop (some tk)).put (some j) (.of (.ref cs))):=by
 unfold avS
 simp only
 split
 .rename_i h;simp only[ach];exact⟨λq=>⟨h,q⟩,λq=>q.2⟩
 .rename_i h;simp only[ach];exact⟨λq=>q.elim,λq=>h q.1⟩
def aNQ(mt:Bool)(s:S)(j t:Nat)(af:Array Edge)(Q:S->Prop)(td:TD)(xs:Option (List X))(cs:List C)(tk:Tk)(ty z:Nat):stQ true mt s j t af Q (some td) xs (some cs) (.nw (some tk) ty z)↔(ty=t/\z=td.size/\cs.length=z/\aaQ s.clk af.toList (some tk)=true)/\Q ((s.drop (some tk)).put (some j) (.of (.ref cs))):=az9 s j t af Q td cs tk ty z
def aG8(s:S)(j t:Nat)(af:Array Edge)(Q:S->Prop)(td:TD)(xs:Option (List X))(cs:List C)(tk:Tk)(ty z:Nat):stQ false false s j t af Q (some td) xs (some cs) (.nw (some tk) ty z)↔(ty=t/\z=td.size/\cs.length=z/\aaQ s.clk af.toList (some tk)=true)/\Q ((s.drop (some tk)).put (some j) (.of (.ref cs))):=az9 s j t af Q td cs tk ty z
def aG9(s:S)(j t:Nat)(af:Array Edge)(Q:S->Prop)(td:TD)(xs:List X)(cs:Option (List C))(tk:Tk)(ty z:Nat):stQ false true s j t af Q (some td) (some xs) cs (.nw (some tk) ty z)↔(ty=t/\z=td.size/\xs.length=z/\aaQ s.clk af.toList (some tk)=true)/\Q (((s.drop (some tk)).withO ((s.drop (some tk)).objs++[Ob.var t (X.drops tk xs)])).put (some j) (.ptr (s.drop (some tk)).objs.length 0)):=by
 show ach Q (auS s j t tk ty z af (some td) (some xs))↔_
 unfold auS
 simp only
 split
 .rename_i h;simp only[ach];exact⟨λq=>⟨h,q⟩,λq=>q.2⟩
 .rename_i h;simp only[ach];exact⟨λq=>q.elim,λq=>h q.1⟩
def aNR(mt:Bool)(s:S)(j t:Nat)(af:Array Edge)(Q:S->Prop)(td:TD)(xs:List X)(cs:Option (List C))(r off:Nat):stQ false mt s j t af Q (some td) (some xs) cs (.ptr r off)↔arN s td r off xs Q (s.objs[r]?):=by
 unfold arN
 rw[← Z8k]
 exact bO
def aNO(s:S)(td:TD)(r off:Nat)(xs:List X)(Q:S->Prop)(ty:Nat)(ys:List X):arN s td r off xs Q (some (.var ty ys))↔(xs.length=td.size/\off+xs.length<=ys.length)/\Q ((apL r off xs (s.withO (s.objs.set r (Ob.var ty (ys.take off++xs++ys.drop (off+xs.length))))) (acK xs&&acK ((ys.drop off).take xs.length))).put none (.of .undef)):=by
 unfold arN
 simp only[aqq]
 split
 .rename_i h;simp only[ach];exact⟨λq=>⟨h,q⟩,λq=>q.2⟩
 .rename_i h;simp only[ach];exact⟨λq=>q.elim,λq=>h q.1⟩
def axS(s:S)(d:Option Nat)(Q:S->Prop)(td:Option TD)(cs:Option (List C)):Prop:=ach Q (aDr s d td cs)
def aPq(s:S)(d:Option Nat)(Q:S->Prop){td td':Option TD}{cs cs':Option (List C)}(h:Unit->td=td')(h':Unit->cs=cs'):axS s d Q td cs=axS s d Q td' cs':=by rw[h (),h' ()]
def aYc(P:Program)(pr:Pr)(k:Nat)(d:Option Nat)(ty:Nat)(po:String)(af:Array Edge)(g:Option (Nat×Bool))(s:S)(Q:Option X->S->Prop)(t:Nat)(x:Operand):SO P pr false k ⟨d,.box t x,ty,po,af,g⟩ s Q↔mtQ (pr.mt po d) (ach (Q none) (arz s d t (aDs (TT.of P t) (cJ (s.ev x))))) (axS s d (Q none) (TT.of P t) (fW (s.ev x))):=Z4 k d ty po af g s Q t x
def aPr(s:S)(d:Option Nat)(Q:S->Prop)(td:TD)(cs:List C):axS s d Q (some td) (some cs)↔(cs.length=td.size/\0<td.size)/\Q (s.put d (.of (.ref cs))):=by
 unfold axS aDr
 simp only
 split
 .rename_i h;simp only[ach];exact⟨λq=>⟨h,q⟩,λq=>q.2⟩
 .rename_i h;simp only[ach];exact⟨λq=>q.elim,λq=>h q.1⟩
def aRf(tk:Tk)(t:Nat)(td:TD):nwX tk t (some td)=if 0<td.size then out (.nw (some tk) t td.size) else none:=rfl
def aHd(cs:List C):fW (.of (.agg cs))=some cs:=by
 show ((some (cs.map X.of)).bind X.rds)=some cs
 rw[dE]
 induction cs with
 | nil=>rfl
 | cons c r ih=>rw[bd,X.rds,ih,X.rd]
def aN3(v:Value):fW (.of (.lit v))=some [.lit v]:=rfl
def aN2(t:Tk)(e z:Nat)(cs:List C)(n:Nat):fW (.own t e z cs n)=some [.sl cs n]:=rfl
def aN4(xs:List X):fW (.agg xs)=X.rds xs:=rfl
def aN0:X.rds []=some []:=rfl
def aC6(x:Option C)(l:Option (List C)):Option (List C):=match x,l with
 | some c,some cs=>some (c::cs)
 | _,_=>none
def aHc(x:X)(r:List X):X.rds (x::r)=aC6 x.rd (X.rds r):=by
 unfold aC6
 rw[X.rds]
 cases x.rd <;> cases X.rds r <;> rfl
def aC5(c:C)(cs:List C):aC6 (some c) (some cs)=some (c::cs):=rfl
def aQx(xs:List X):X.rd (.agg xs)=(X.rds xs).map .agg:=by rw[X.rd]
def aJB(t:Tk)(o:Option Tk)(ty z:Nat):(X.nw o ty z).drop t=.nw (af5 t o) ty z:=by rw[X.drop]
def aCY(t t':Tk):af5 t (some t')=if t'=t then none else some t':=rfl
def aFV(t:Tk):X.drops t []=[]:=by rw[X.drops]
def aCU(t:Tk)(x:X)(r:List X):X.drops t (x::r)=x.drop t::X.drops t r:=by rw[X.drops]
def aUA(σ:Nat->Option Nat)(ρ:Tk->Option Tk)(o:Option Tk)(ty z:Nat):(X.nw o ty z).tr σ ρ=.nw (o.bind ρ) ty z:=by rw[X.tr]
def avJ:∀ t,cZ (.alloc t)=false:=λ_=>rfl
attribute [congr] aRk aQo aNN aPq aOJ aQb
def aC4(x:Option X)(l:Option (List X)):Option (List X):=match x,l with
 | some x,some l=>some (x::l)
 | _,_=>none
def Z7j(T:TT)(s:S):acb T s []=some []:=rfl
def Z7k(T:TT)(s:S)(t:Nat)(r:List ResultVar):acb T s (.tmp t::r)=(acb T s r).map (s.fr t::·):=rfl
def Z7i(T:TT)(s:S)(a t:Nat)(r:List ResultVar):acb T s (.cell a t::r)=aC4 ((abf T s.objs t (s.fr a)).map (·.1)) (acb T s r):=by
 simp only[acb,aC4]
 cases abf T s.objs t (s.fr a) with
 | none=>rfl
 | some p=>cases acb T s r <;> rfl
def Z2x(x:X)(l:List X):aC4 (some x) (some l)=some (x::l):=rfl
def aq0(refs:List Nat)(rs:List X):List Tk:=(nub (X.toksL rs) []).filter λt=>match t with
  | .nm ..=>true
  | .cell r _=>!decide (r∈refs)
def awW(refs:List Nat)(ts:List Tk)(pan:Bool)(rs:List X)(objs:List Ob):Option An:=(abj (pos refs) (abc refs ts) objs refs).map λobs=>⟨pan,X.trs (pos refs) (abc refs ts) rs,obs⟩
def aFq(refs:List Nat)(pan:Bool)(rs:List X)(objs:List Ob):Option An:=awW refs (aq0 refs rs) pan rs objs
def Z4b(m:Nat)(pan:Bool)(rs:List X)(objs:List Ob):ad1 m pan rs objs=aFq (fE objs 999 (X.refsL rs++((objs.take m).map Ob.refs).flatten) (List.range m)) pan rs objs:=rfl
def Z48(refs:List Nat)(pan:Bool)(rs:List X)(objs:List Ob):aFq refs pan rs objs=awW refs (aq0 refs rs) pan rs objs:=rfl
def Z49(refs:List Nat)(ts:List Tk)(pan:Bool)(rs:List X)(objs:List Ob):awW refs ts pan rs objs=(abj (pos refs) (abc refs ts) objs refs).map λobs=>⟨pan,X.trs (pos refs) (abc refs ts) rs,obs⟩:=rfl
def aoB(refs:List Nat):List Tk->List Tk
 | []=>[]
 | .nm a b c::l=>.nm a b c::aoB refs l
 | .cell r o::l=>if r∈refs then aoB refs l else .cell r o::aoB refs l
def Z4a(refs:List Nat)(rs:List X):aq0 refs rs=aoB refs (nub (X.toksL rs) []):=by
 unfold aq0
 generalize nub (X.toksL rs) []=l
 induction l with
 | nil=>rfl
 | cons t l ih =>
  cases t with
  | nm a b c=>rw[List.filter_cons_of_pos (by rfl),ih];rfl
  | cell r o =>
   simp only[aoB]
   split
   .rename_i h;rw[List.filter_cons_of_neg (by simp[h]),ih]
   .rename_i h;rw[List.filter_cons_of_pos (by simp[h]),ih]
def Z3o(refs:List Nat):aoB refs []=[]:=rfl
def Z1z(i:Nat):Region.binds .any ⟨i,.data⟩=true:=rfl
def Z1y(i:Nat):Region.binds .any ⟨i,.chain⟩=true:=rfl
def Z21(i:Nat):Region.binds .any ⟨i,.phase⟩=true:=rfl
def Z6b(x:X):agf [x]=x:=rfl
def Z6c(x y:X)(r:List X):agf (x::y::r)=.tup (x::y::r):=rfl
def Z3j(xs:List X)(i:Nat):amq i (.tup xs)=bX (xs[i]?):=rfl
def Z3d(P:Program)(b:Bool)(f m:Nat)(an:An)(s:S):endQ P b f m an .normal s↔((acb (TT.of P) s (acJ P f)).bind λrs=>ad1 m false (af9 b rs) s.objs)=some an:=bO
def Z3f(P:Program)(b:Bool)(f m:Nat)(an:An)(s:S):endQ P b f m an .ret s↔((acb (TT.of P) s (acJ P f)).bind λrs=>ad1 m false (af9 b rs) s.objs)=some an:=bO
def Z3e(P:Program)(b:Bool)(f m:Nat)(an:An)(x:X)(s:S):endQ P b f m an (.pan x) s↔ad1 m true [x] s.objs=some an:=bO
def at8(s:ByteArray)(k:Nat):Nat:=(s.data.toList.getD k 0).toNat
def aFz{T:TT}{t:Nat}(hT:(T t).map (·.und)=some .string)(s:ByteArray)(n:Int):afG T t (.of (.lit (.string s))) (.of (.lit (.int .i64 n)))=if 0<=n/\n.toNat<s.size then out (.of (.lit (.int .u8 (at8 s n.toNat)))) else none:=by
 have hs:afF ((T t).map (·.und))=true:=by rw[hT];rfl
 simp only[afG,aa8]
 by_cases h:0<=n/\n.toNat<s.size
 .rw[aiw ⟨hs,h.1,h.2⟩,aE h]
  congr 5
  unfold at8
  have:s.data.toList.getD n.toNat 0=s[n.toNat]:=by
   rw[ba]
   have hl:n.toNat<s.data.toList.length:=by simpa using h.2
   rw[aO hl]
   rfl
  rw[this]
 .rw[aA h,dif_neg (λg=>h g.2)]
def afH{T:TT}{t e:Nat}{d:TD}(h:elemOf T t=some (e,d))(cs:List C)(n:Nat)(i:Int)(x:X)(hx:aaR x=some (cs,n)):cn T t x (.of (.lit (.int .i64 i)))=if 0<=i/\i<(n:Int)/\cs.length=n*d.size/\0<d.size then out (.of (.ref (cs.drop (i.toNat*d.size)))) else none:=by
 unfold elemOf at h
 split at h
 .rename_i e' _ _ _ _ _ hT
  simp only[ay,bh] at h
  obtain⟨d',hd,rfl,rfl⟩:=h
  simp only[cn,aa8,hT,hd,hx]
 .cases h
def cj(n:Int)(h1:-9223372036854775808<=n)(h2:n<=9223372036854775807):IntKind.i64.wrap n=n:=IntWalk.i64_in n ⟨h1,h2⟩
def ao8{T:TT}{a b:Nat}{d:TD}{k:IntKind}(ha:T a=some d)(hb:(T b).map (·.und)=some (.int k))(k':IntKind)(n:Int):ad3 T a b (.of (.lit (.int k' n)))=out (.of (.lit (.int k (k.wrap n)))):=by
 simp only[ad3,adA,ha,hb]
def aXB(T:TT)(t off:Nat):List C->Option X
 | []=>none
 | c::cs=>(dQ T t ((c::cs).drop off)).map .of
def al7(T:TT)(t off:Nat):Option Ob->Option X
 | some (.var _ xs)=>dP T t (xs.drop off)
 | some (.row _ cs)=>aXB T t off cs
 | _=>none
def Z4l(T:TT)(objs:List Ob)(t r off:Nat):abf T objs t (.ptr r off)=bX (al7 T t off (objs[r]?)):=by
 simp only[abf,al7]
 cases objs[r]? with
 | none=>rfl
 | some ob =>
  cases ob with
  | row ty cs=>cases cs <;> rfl
  | _=>rfl
def Z4k(T:TT)(t off ty:Nat)(xs:List X):al7 T t off (some (.var ty xs))=dP T t (xs.drop off):=rfl
def Z6j(x:X):bX (some x)=out x:=rfl
def Z4m(T:TT)(objs:List Ob)(t:Nat)(cs:List C):abf T objs t (.of (.ref cs))=bX ((dQ T t cs).map .of):=rfl
def aO9{T:TT}{a b e:Nat}(ha:afF ((T a).map (·.und))=true)(hb:(T b).map (·.und)=some (.slice e))(he:amh (T e)=true)(s:ByteArray):ad3 T a b (.of (.lit (.string s)))=out (.of (.sl (aj3 s) s.size)):=by
 simp only[ad3,hb,au4,ha,he,agj,ah]
def Z39(t:Tk)(c:C):(X.of c).drop t=.of c:=rfl
def Z38(t:Tk):X.nil.drop t=.nil:=rfl
def Z3b(t:Tk)(r o:Nat):(X.ptr r o).drop t=.ptr r o:=rfl
def Z3a(t t':Tk)(e z:Nat)(cs:List C)(n:Nat):(X.own t' e z cs n).drop t=if t'=t then .of (.sl cs n) else .own t' e z cs n:=rfl
def Z34(t:Tk)(ty:Nat)(xs:List X):(Ob.var ty xs).drop t=.var ty (xs.map (X.drop t)):=by simp[Ob.drop,ab3]
def Old(clk:Nat)(t:Tk):Prop:=(t.older clk λ_=>False)/\t.isRow=false
def Z68(clk c ix i:Nat):Old clk (.nm c ix i)↔c<clk:=by simp[Old,Tk.older,Tk.isRow]
def aH1(clk r o:Nat):Old clk (.cell r o)↔(o == 1099511627776)=false:=by simp[Old,Tk.older,Tk.isRow]
def Z69{clk:Nat}{t:Tk}(h:Old clk t)(af:List Edge):aaQ clk af (some t)=true:=by
 cases t with
 | nm c ix i=>rw[Z68] at h;simp[aaQ,h]
 | cell r o=>rw[aH1] at h;simp[aaQ,h]
def Z7r(clk ix i:Nat)(af:List Edge):aaQ clk af (some (.nm clk ix i))=af.any λe=>Region.binds .any e&&e.on == ix:=by simp[aaQ]
def Z2s(s:S)(n:Nat):s.clk+n+1=s.clk+(n+1):=rfl
def Z6n(f:Operand->X):gN f []=some []:=rfl
def aC7(i:Nat)(l:Option (List X))(q:Option (List (Nat×List X))):Option (List (Nat×List X)):=match l,q with
 | some l,some q=>some ((i,l)::q)
 | _,_=>none
def Z6m(f:Operand->X)(i:Nat)(x:Operand)(r:List (Nat×Operand)):gN f ((i,x)::r)=aC7 i (cJ (f x)) (gN f r):=by
 simp only[gN,aC7]
 cases cJ (f x) <;> cases gN f r <;> rfl
def Z2w(i:Nat)(l:List X)(q:List (Nat×List X)):aC7 i (some l) (some q)=some ((i,l)::q):=rfl
theorem aqj:∀ l:List UInt8,ae9 (l.map λb=>C.lit (.int .u8 b.toNat))=some l
 | []=>rfl
 | b::l=>by
  rw[bd,ae9,aqj l]
  simp
def aut{T:TT}{a b e:Nat}{sz by_:Nat}{ag:Bool}{ze:List Value}{fi:List (Nat×Nat)}(ha:T a=some ⟨.slice e,sz,by_,ag,ze,fi⟩)(hb:(T b).map (·.und)=some .string)(h8:amh (T e)=true)(tk:Tk)(z n:Nat)(l:List UInt8)(hn:l.length=n) :
  ad3 T a b (.own tk e z (l.map λb=>C.lit (.int .u8 b.toNat)) n)=out (ahQ ⟨l.toArray⟩):=by
 simp only[ad3,adA,ajm,ha,hb,aaR,h8,bM,hn,cz,ah,aqj,aP,bX]
 rfl
def Z17{α:Type}{A:List α}{n:Nat}(h:A.length=n)(x:α):(A++[x])[n]?=some x:=by subst h;simp
def Z18{α:Type}{A:List α}{n:Nat}(h:A.length=n)(x y:α):(A++[x]).set n y=A++[y]:=by subst h;simp
def Z4o(f:Ob->Ob)(J:List Ob)(x:Ob):List.map f (J++[x])=List.map f J++[f x]:=by simp
def Z2m(v:Value):cJ (.of (.lit v))=some [.of (.lit v)]:=rfl
def Z2p(t:Tk)(e z:Nat)(cs:List C)(n:Nat):cJ (.own t e z cs n)=some [.own t e z cs n]:=rfl
def Z2h(xs:List X):cJ (.agg xs)=some xs:=rfl
def Z2i(cs:List C):cJ (.of (.agg cs))=some (cs.map .of):=rfl
def aCo(place:Nat->Option (Nat×Nat))(cells xs:List X)(r:List (Nat×List X)):Option (Nat×Nat)->Option (List X)
 | some (off,size)=>if xs.length=size/\off+size<=cells.length then aah place (cells.take off++xs++cells.drop (off+size)) r else none
 | none=>none
def Z3m(place:Nat->Option (Nat×Nat))(cells:List X):aah place cells []=some cells:=rfl
def Z3l(place:Nat->Option (Nat×Nat))(cells xs:List X)(i:Nat)(r:List (Nat×List X)):aah place cells ((i,xs)::r)=aCo place cells xs r (place i):=by
 simp only[aah,aCo]
 cases place i <;> rfl
def Z3k(place:Nat->Option (Nat×Nat))(cells xs:List X)(r:List (Nat×List X))(off size:Nat)(h:xs.length=size/\off+size<=cells.length):aCo place cells xs r (some (off,size))=aah place (cells.take off++xs++cells.drop (off+size)) r:=aE h
def azE(rs:List X):af9 false rs=rs.map ai7:=rfl
def aG3(c:C):ai7 (.of c)=.of c:=rfl
def aEk:ai7 .nil=.of (.sl [] 0):=rfl
def aEj(t:Tk)(e z:Nat)(cs:List C)(n:Nat):ai7 (.own t e z cs n)=.of (.sl cs n):=rfl
def aEl(xs:List X):ai7 (.agg xs)=aqp (.agg xs) ((X.rds xs).map .agg):=by unfold ai7;rw[X.rd]
def aBf(x:X)(c:C):aqp x (some c)=.of c:=rfl
def zD:=ai (ib (ib @Zz @Zt @Zu @Zy @Z10 @Zv @Zw @Zx @Z12) (ib @Z11 @Z13 @Z14 @Zm @Z2 @Zp @Z3 @Zs @Zg) (ib @Zc @Ze @Zd @Zq @Z9 @Za @Z5 @Z6 @Zf) (ib @Z1 @aTx @Z7 @Z0 @Z6w @Z6y @Z6v @Z6x @Z8u) (ib @Z8v @Z8t @Z31 @Z32 @Z30 @Z9p @Z9q @Z9o @Z8n) (ib @Z8o @Z8m @Z3i @Z3g @Z3h @Z42 @Z43 @Z41 @Z8q) (ib @Z8p @Z8s @Z8r @Z23 @Z22 @Z25 @Z24 @Z7g @Z5j) (ib @Z3s @Z3t @Z70 @Z6z @Z7k @Z7i @Z3d @Z3f @Z3e) (ib @aGC @aYb @aYc @aPr @aNQ @aG8 @aG9 @aNR @aNO)) (hU @aIj @aFc @aQc @aGZ @aNK @aIO @aFj)
def zU:=hC (ib (ib @Z2m @Z2p @Z2h @Z2i @Z3m @Z3l @Z3k @Z4o @Z17) (ib @Z18 @Z39 @Z38 @Z3b @Z3a @Z34 @Z2s @Z68 @Z69) (ib @Z7r @Z6n @Z6m @Z2w @Z4q @Z7y @Z7z @Z8i @Z84) (ib @Z56 @Z80 @Z8g @Z81 @Z8j @Z8b @Z53 @Z50 @Z89) (ib @Z83 @Z4g @Z63 @Z62 @Z67 @Z65 @Z40 @Z3z @Z2t) (ib @Z3w @Z3r @Z3u @Z3v @Z6g @Z6f @Z6e @Z6i @Z1r) (ib @Z1q @Z1p @Z1o @Z1n @Z1t @Z1k @Z1x @Z1s @Z1v) (ib @Z1w @Z1m @Z9n @Z4h @aRl @Z6q @Z4f @Z4e @Z4d) (ib @Z72 @Z73 @Z71 @Z2u @Z26 @Z6s @Z6r @Z9g @Z9f)) (ib (ib @Z9i @Z9h @Z9l @Z9k @Z61 @Z9b @Z9a @Z5i @Z5h) (ib @Z6p @Z75 @Z7c @Z77 @Z76 @Z94 @Z8z @Z8y @Z5v) (ib @Z6d @Z15 @Z5p @Z5q @Z5o @Z5r @Z16 @Z8k @Z47) (ib @Z46 @Z5f @Z5e @Z5c @Z5d @Z1d @Z1c @Z2d @Z2f) (ib @Z2e @Z2c @Z7j @Z2x @Z4b @Z48 @Z49 @Z4a @Z3o) (ib @Z1z @Z1y @Z21 @Z6b @Z6c @Z3j @Z4m @Z4l @Z4k) (ib @Z6j @aRf @aHd @aN3 @aN2 @aN4 @aN0 @aHc @aC5) (ib @aQx @aJB @aCY @aFV @aCU @aUA @avJ @azE @aG3) (ib @aEk @aEj @aEl @aBf @aOl @aEY @aOk @aH4 @avJ)) (ai (hJ @aOm @aH3 @aOi @awt @aH2) (hJ @aGY @aGX @aTq @aJz @aJA))
def zD2:=@aKU
def zU2:=ai (hU @aKU @aNJ @aP9 @aOq @aE5 @aOo @aIb) (hM @aOn @aOp @aIa @auj @aIc @aH9)
end Go.Pe
namespace Go.Proofs.YtghkmcffifpkeaaGreat
open Pe Tab
def byC(l:List UInt8):List C:=l.map λb=>.lit (.int .u8 b.toNat)
def aph:List C->Option (List UInt8)
 | []=>some []
 | .lit (.int .u8 n)::r=>if n=(UInt8.ofNat n.toNat).toNat then (aph r).map (UInt8.ofNat n.toNat::·) else none
 | _=>none
theorem avr:∀ l:List UInt8,aph (byC l)=some l
 | []=>rfl
 | b::l=>by
  have h:=avr l
  simp only[byC,bd,aph] at h ⊢
  rw[h]
  simp
theorem azV:∀ (cs:List C) (l:List UInt8),aph cs=some l->cs=byC l
 | [],l,h=>by simp only[aph,ae] at h;subst h;rfl
 | c::cs,l,h=>by
  unfold aph at h
  split at h
  .rename_i e;cases e
  .rename_i n r e
   cases e
   split at h
   .rename_i hn
    simp only[ay] at h
    obtain⟨l',h',rfl⟩:=h
    rw[azV _ l' h']
    simp only[byC,bd]
    rw[← hn]
   .cases h
  .cases h
def ars(l:List UInt8):(byC l).length=l.length:=by simp[byC]
def art(l q:List UInt8):byC (l++q)=byC l++byC q:=by simp[byC]
def str(l:List UInt8):ByteArray:=⟨l.toArray⟩
def bld(l:List UInt8):List X:=[.ptr 0 0,.own (.cell 0 1) 5 1 (byC l) l.length]
def akK:List Ob->Option (List UInt8)
 | [.var 245 [.of (.lit (.pointer none)),.nil]]=>some []
 | [.var 245 [.ptr 0 0,.own (.cell 0 1) 5 1 cs _]]=>aph cs
 | _=>none
def ixP(xs:List X)(obs:List Ob):Option An:=match xs,obs with
 | [.of (.lit (.string s)),.of (.fn f [])],[]=>if f=202 then some ⟨false,[au (Lib.idxFunc aia true s)],[]⟩ else none
 | _,_=>none
def arn(xs:List X)(obs:List Ob):Option An:=match xs,obs with
 | [.of (.lit (.string s)),.of (.lit (.string sub))],[]=>if s.size<4294967281 then some ⟨false,[aN (Lib.contains s.data.toList sub.data.toList)],[]⟩ else none
 | _,_=>none
def wbP(xs:List X)(obs:List Ob):Option An:=match xs with
 | [.ptr 0 0,.of (.lit (.int .u8 n))]=>(akK obs).bind λl=>if l.length+1<=LIM/\0<=n/\n<256 then some ⟨false,[.of (.lit .nilIface)],[.var 245 (bld (l++[UInt8.ofNat n.toNat]))]⟩ else none
 | _=>none
def bsP(xs:List X)(obs:List Ob):Option An:=match xs with
 | [.ptr 0 0]=>(akK obs).map λl=>⟨false,[ahQ (str l)],[.var 245 [.of .any,.of .any]]⟩
 | _=>none
def lxP(xs:List X)(obs:List Ob):Option An:=match xs,obs with
 | [.of (.lit (.string s))],[]=>some ⟨false,[aN (aqY s.data.toList)],[]⟩
 | _,_=>none
def hpP(xs:List X)(obs:List Ob):Option An:=match xs,obs with
 | [.of (.lit (.string s)),.of (.lit (.string p))],[]=>some ⟨false,[aN (Lib.hasPrefix s.data.toList p.data.toList)],[]⟩
 | _,_=>none
def ibP(xs:List X)(obs:List Ob):Option An:=match xs,obs with
 | [.of (.lit (.string s)),.of (.lit (.int .u8 n))],[]=>some ⟨false,[au (Lib.indexByte s.data.toList n.toNat.toUInt8)],[]⟩
 | _,_=>none
def ahr:Orc:=λf xs obs =>
 if f=201 then ixP xs obs
 else if f=283 then arn xs obs
 else if f=238 then hpP xs obs
 else if f=239 then ibP xs obs
 else if f=241 then wbP xs obs
 else if f=242 then bsP xs obs
 else if f=244 then lxP xs obs
 else none
def pr:Pr:=⟨ahr,ad7,tkF,amf,mtF⟩
abbrev cKp(f:Nat)(xs:List X)(obs:List Ob)(K:An->Prop):Prop:=afu Tryz.prog pr f xs obs K
def aQC(f:Nat):pr.obj f=ad7 f:=rfl
def aAc(f:Nat):pr.keep f=amf f:=rfl
def aUU(p:String)(d:Option Nat):pr.mt p d=mtF p d:=rfl
abbrev G1(f:Nat)(xs:List X)(x:X):Prop:=aF Tryz.prog pr f xs [] ⟨false,[x],[]⟩
abbrev GN(f:Nat)(xs:List X)(rs:List X):Prop:=aF Tryz.prog pr f xs [] ⟨false,rs,[]⟩
def aUG{P:Program}{f:Nat}{fn:Func}(h:FnI P f fn):acJ P f=fn.results.toList:=by unfold acJ;rw[h.2]
def ahg{f:Nat}{fn:Func}{xs:List X}{obs:List Ob}{an:An}{kp:Bool}(hp:ahr f xs obs=none)(hi:FnI Tryz.prog f fn)(hk:amf f=kp)(hl:Nat.ble xs.length fn.ntmps=true)
  (h:WC Tryz.prog pr (fn.body.getD .skip) (ael xs obs) (endQ Tryz.prog kp f obs.length an)):aF Tryz.prog pr f xs obs an :=
 aF.of_body hp hi.1 (by unfold arw;rw[hi.2];exact cP hl) (by unfold anL;rw[hi.2,aAc,hk];exact h)
def kf{f:Nat}{fn:Func}(h:FnI Tryz.prog f fn)(k:amf f=false:=by exact rfl):amf f=false/\acJ Tryz.prog f=fn.results.toList:=⟨k,aUG h⟩
def bB{f:Nat}{fn:Func}{xs:List X}{obs:List Ob}{an:An}(hi:FnI Tryz.prog f fn)(h:WC Tryz.prog pr (fn.body.getD .skip) (ael xs obs) (endQ Tryz.prog false f obs.length an))(hp:ahr f xs obs=none:=by exact rfl)(hk:amf f=false:=by exact rfl)(hl:Nat.ble xs.length fn.ntmps=true:=by exact rfl):aF Tryz.prog pr f xs obs an:=ahg hp hi hk hl h
