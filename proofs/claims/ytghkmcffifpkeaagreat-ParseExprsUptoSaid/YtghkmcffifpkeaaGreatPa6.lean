/- A part. Conditions: none. -/
import Derived.Test.YtghkmcffifpkeaaGreatPa5
set_option linter.all false
set_option maxRecDepth 100000
set_option maxHeartbeats 64000000
namespace Go.Pe
open RowKit
theorem aog(σ:Nat->Option Nat)(ρ:Tk->Option Tk):∀ xs:List X,X.trs σ ρ xs=xs.map (X.tr σ ρ)
 | []=>rfl
 | x::r=>by simp only[X.trs,bd,aog σ ρ r]
section
variable {ρ:Tk->Option Tk}
theorem aBo:∀ (x:X) (c:C),x.rd=some c->(x.tr some ρ).rd=some c :=
 X.rec (motive_1:=λx=>∀ c,x.rd=some c->(x.tr some ρ).rd=some c) (motive_2:=λxs=>∀ cs,X.rds xs=some cs->X.rds (X.trs some ρ xs)=some cs)
  (λ_ _ h=>h) (λ_ h=>h) (λt e z cs n c h=>by simp only[X.tr];split <;> simpa [X.rd] using h) (λ_ _ _ h=>h) (λ_ _ h=>h) (λ_ _ _ _ h=>by simp[X.rd] at h)
  (λxs ih c h=>by
   simp only[X.rd,ay] at h
   obtain⟨cs,h1,rfl⟩:=h
   simp only[X.tr,X.rd,ih cs h1,aP]) (λ_ _ _ h=>by simp[X.rd] at h) (λ_ _ _ _ h=>by simp[X.rd] at h) (λ_ _ _ _ h=>by simp[X.rd] at h)
  (λ_ h=>h) (λx xs ih1 ih2 cs h=>by
   simp only[X.rds] at h
   split at h
   .rename_i c cs' h1 h2
    simp only[X.trs,X.rds,ih1 _ h1,ih2 _ h2]
    exact h
   .cases h)
theorem aEx:∀ (xs:List X) (cs:List C),X.rds xs=some cs->X.rds (xs.map (X.tr some ρ))=some cs
 | [],cs,h=>h
 | x::r,cs,h=>by
  simp only[X.rds] at h
  split at h
  .rename_i c cs' h1 h2
   simp only[bd,X.rds,aBo _ _ h1,aEx _ _ h2]
   exact h
  .cases h
theorem alj(t:Tk)(e z:Nat)(cs:List C)(n:Nat):(X.own t e z cs n).tr some ρ=.of (.sl cs n)\/∃ t',(X.own t e z cs n).tr some ρ=.own t' e z cs n:=by
 simp only[X.tr]
 split
 .exact .inr ⟨_,rfl⟩
 .exact .inl rfl
theorem avu(r e z:Nat):(X.top r e z).tr some ρ=.top r e z\/(X.top r e z).tr some ρ=.of .any:=by
 simp only[X.tr]
 split
 .exact .inl rfl
 .exact .inr rfl
theorem awS(x:X):gG (x.tr some ρ)=gG x:=by
 cases x with
 | own t e z cs n=>rcases alj (ρ:=ρ) t e z cs n with h|⟨t',h⟩ <;> rw[h] <;> rfl
 | top r e z=>rcases avu (ρ:=ρ) r e z with h|h <;> rw[h] <;> rfl
 | _=>rfl
theorem aFm(x:X):aa8 (x.tr some ρ)=aa8 x:=by
 cases x with
 | own t e z cs n=>rcases alj (ρ:=ρ) t e z cs n with h|⟨t',h⟩ <;> rw[h] <;> rfl
 | top r e z=>rcases avu (ρ:=ρ) r e z with h|h <;> rw[h] <;> rfl
 | _=>rfl
theorem aPs(x:X):aaR (x.tr some ρ)=aaR x:=by
 cases x with
 | own t e z cs n=>rcases alj (ρ:=ρ) t e z cs n with h|⟨t',h⟩ <;> rw[h] <;> rfl
 | top r e z=>rcases avu (ρ:=ρ) r e z with h|h <;> rw[h] <;> rfl
 | _=>rfl
theorem aF6{x:X}(h:acX x=true):cJ (x.tr some ρ)=(cJ x).map (List.map (X.tr some ρ)):=by
 cases x with
 | own t e z cs n=>simp only[cJ,aP,bd,cI];rcases alj (ρ:=ρ) t e z cs n with h|⟨t',h⟩ <;> rw[h] <;> rfl
 | of c=>cases c <;> simp[X.tr,cJ]
 | top r e z=>cases h
 | agg xs=>simp only[X.tr,cJ,aog,aP]
 | _=>rfl
theorem aww(v:Value):(abK v).tr some ρ=abK v:=by
 unfold abK
 split <;> rfl
theorem aGH(d:TD):(fU d).map (X.tr some ρ)=fU d:=by
 simp[fU,aww]
theorem aEN(T:TT)(ty:Nat)(xs:List X):dP T ty (xs.map (X.tr some ρ))=(dP T ty xs).map (X.tr some ρ):=by
 unfold dP
 split
 .rfl
 .rename_i d _
  simp only[bM]
  split
  .split
   .simp[X.tr,aog,aek]
   .cases xs <;> simp
  .rfl
theorem axh(place:Nat->Option (Nat×Nat)):∀ (qs:List (Nat×List X)) (cells:List X),aah place (cells.map (X.tr some ρ)) (qs.map λp=>(p.1,p.2.map (X.tr some ρ)))=(aah place cells qs).map (List.map (X.tr some ρ))
 | [],cells=>rfl
 | (i,xs)::r,cells=>by
  simp only[bd,aah]
  cases place i with
  | none=>rfl
  | some p =>
   obtain⟨off,size⟩:=p
   simp only[bM]
   split
   .rw[← axh place r]
    simp[aek,ab5]
   .rfl
theorem ata{f g:Operand->X}:∀ (ps:List (Nat×Operand)),(∀ p∈ps,g p.2=(f p.2).tr some ρ/\acX (f p.2)=true)->gN g ps=(gN f ps).map (List.map λp=>(p.1,p.2.map (X.tr some ρ)))
 | [],_=>rfl
 | (i,x)::r,h=>by
  obtain⟨h1,h2⟩:=h (i,x) (abp ..)
  simp only[gN,h1,aF6 h2,ata r λp hp=>h p (dR _ hp)]
  cases cJ (f x) <;> cases gN f r <;> simp
theorem aGW{s s':S}(h:∀ j,s'.fr j=(s.fr j).tr some ρ)(x:Operand):s'.ev x=(s.ev x).tr some ρ:=(aso ρ).ev h x
end
theorem aje{s:S}:∀ {l:List Operand},af0 s l=true->∀ x∈l,acX (s.ev x)=true
 | [],_,x,hx=>by cases hx
 | a::l,h,x,hx=>by
  simp only[af0,ar] at h
  rcases bQ.1 hx with rfl|hx
  .exact h.1
  .exact aje h.2 x hx
section
variable {T:TT} {refs:List Nat}
theorem azb{objs objs':List Ob}{t:Nat}{y x:X}{e:Option Tk}{D:List Nat}(hob:∀ r ob,r∉refs->objs[r]?=some ob->objs'[r]?=some (ob.tr some (dz refs [])))
  (hD:ahz y=some D) (hDr:∀ r∈D,r∉refs) (hv:abf T objs t y=some (x,e)):e=none/\abf T objs' t (y.tr some (dz refs []))=some (x.tr some (dz refs []),none):=by
 cases y with
 | ptr r off =>
  simp only[ahz,ae] at hD
  subst hD
  have hno:=hDr r aT
  unfold abf at hv
  simp only at hv
  cases hx:objs[r]? with
  | none=>rw[hx] at hv;cases hv
  | some ob =>
   rw[hx] at hv
   have h':=hob r ob hno hx
   cases ob with
   | var ty' xs =>
    obtain⟨hv2,rfl⟩:=acR hv
    refine⟨rfl,?_⟩
    simp only[X.tr,abf,h',Ob.tr,aog,← ab5,aEN,hv2,aP,bX]
   | map es=>cases hv
   | row ty' cs =>
    cases cs with
    | nil=>cases hv
    | cons c cs =>
     obtain⟨hv2,rfl⟩:=acR hv
     simp only[ay] at hv2
     obtain⟨c',hv2,rfl⟩:=hv2
     exact⟨rfl,by simp only[X.tr,abf,h',Ob.tr,hv2,aP,bX]⟩
 | of c =>
  cases c with
  | ref cs =>
   obtain⟨hv2,rfl⟩:=acR hv
   simp only[ay] at hv2
   obtain⟨c',hv2,rfl⟩:=hv2
   exact⟨rfl,by simp only[X.tr,abf,hv2,aP,bX]⟩
  | _=>cases hv
 | _=>cases hv
theorem aj1{ρ:Tk->Option Tk}{t f:Nat}{y x:X}{e:Option Tk}(hv:gu T t f y=some (x,e)):e=none/\gu T t f (y.tr some ρ)=some (x.tr some ρ,none):=by
 unfold gu at hv ⊢
 cases hf:aie T t f with
 | none=>rw[hf] at hv;cases hv
 | some p =>
  obtain⟨o',z'⟩:=p
  rw[hf] at hv
  simp only at hv ⊢
  by_cases hz:0<z'
  .rw[aE hz] at hv ⊢
   cases y with
   | ptr r off=>obtain⟨rfl,rfl⟩:=fj hv;exact⟨rfl,rfl⟩
   | of c=>cases c with
    | ref cs=>obtain⟨rfl,rfl⟩:=fj hv;exact⟨rfl,rfl⟩
    | _=>cases hv
   | _=>cases hv
  .rw[aA hz] at hv;cases hv
theorem apO{ρ:Tk->Option Tk}{t:Nat}{y i x:X}{e:Option Tk}(hnt:acX y=true)(hv:cn T t y i=some (x,e)):e=none/\cn T t (y.tr some ρ) (i.tr some ρ)=some (x.tr some ρ,none):=by
 unfold cn at hv ⊢
 rw[aFm]
 cases hl:aa8 i with
 | none=>rw[hl] at hv;cases hv
 | some j =>
  rw[hl] at hv
  simp only at hv ⊢
  cases hT:T t with
  | none=>rw[hT] at hv;cases hv
  | some d =>
   obtain⟨und,n0,b0,a0,z0,f0⟩:=d
   rw[hT] at hv
   cases und with
   | slice et =>
    simp only at hv ⊢
    rw[aPs]
    cases hE:T et with
    | none=>rw[hE] at hv;cases hv
    | some d =>
     rw[hE] at hv
     cases hs:aaR y with
     | none =>
      exfalso
      rw[hs] at hv
      cases y with
      | top r e z=>cases hnt
      | _=>simp[ahS] at hv
     | some p =>
      obtain⟨cs,n⟩:=p
      rw[hs] at hv
      simp only at hv ⊢
      split at hv
      .rename_i hc
       rw[aE hc]
       obtain⟨rfl,rfl⟩:=fj hv
       exact⟨rfl,rfl⟩
      .cases hv
   | array n et =>
    simp only at hv ⊢
    cases hE:T et with
    | none=>rw[hE] at hv;cases hv
    | some d =>
     rw[hE] at hv
     simp only at hv ⊢
     by_cases hc:0<=j/\j<(n:Int)
     .rw[aE hc] at hv ⊢
      cases y with
      | ptr r off=>obtain⟨rfl,rfl⟩:=fj hv;exact⟨rfl,rfl⟩
      | of c=>cases c with
       | ref cs=>obtain⟨rfl,rfl⟩:=fj hv;exact⟨rfl,rfl⟩
       | _=>cases hv
      | _=>cases hv
     .rw[aA hc] at hv;cases hv
   | _=>cases hv
theorem aDu{ρ:Tk->Option Tk}{P:Program}{t:Nat}{u:Option TypeDesc}{op:BinOp}{a b x:X}{e:Option Tk}(hv:gJ P T t u op a b=some (x,e)):e=none/\gJ P T t u op (a.tr some ρ) (b.tr some ρ)=some (x.tr some ρ,none):=by
 unfold gJ at hv ⊢
 rw[awS,awS]
 have key:ae7 P T t op a.rd b.rd=some (x,e)->e=none/\ae7 P T t op (a.tr some ρ).rd (b.tr some ρ).rd=some (x.tr some ρ,none):=by
  intro hv
  unfold ae7 at hv
  split at hv
  .rename_i cs ds h1 h2
   rw[aBo _ _ h1,aBo _ _ h2]
   unfold ae7
   simp only
   split at hv
   .obtain⟨hv2,rfl⟩:=acR hv
    simp only[ay] at hv2
    obtain⟨w,hv2,rfl⟩:=hv2
    exact⟨rfl,by simp only[hv2,aP,bX,X.tr]⟩
   .obtain⟨hv2,rfl⟩:=acR hv
    simp only[ay] at hv2
    obtain⟨w,hv2,rfl⟩:=hv2
    exact⟨rfl,by simp only[hv2,aP,bX,X.tr]⟩
   .cases hv
  .cases hv
 cases h1:gG a with
 | none=>rw[h1] at hv;exact key hv
 | some u' =>
  cases h2:gG b with
  | none=>rw[h1,h2] at hv;exact key hv
  | some v' =>
   rw[h1,h2] at hv
   obtain⟨hv2,rfl⟩:=acR hv
   simp only[ay] at hv2
   obtain⟨w,hv2,rfl⟩:=hv2
   refine⟨rfl,?_⟩
   simp only[hv2,aP,bX,X.tr]
theorem aB7{ρ:Tk->Option Tk}{u:Option TypeDesc}{y x:X}{e:Option Tk}(hnt:acX y=true)(hv:aaI u y=some (x,e)):e=none/\aaI u (y.tr some ρ)=some (x.tr some ρ,none):=by
 have sl:∀ (cs:List C) (n:Nat) (y:X),(if ajj u then out (au n) else none)=some (x,e)->aaI u y=(if ajj u then out (au n) else none)->e=none/\aaI u y=some (x.tr some ρ,none):=by
  intro cs n y hv h
  rw[h]
  split at hv
  .rename_i hs
   rw[aE hs]
   obtain⟨rfl,rfl⟩:=fj hv
   exact⟨rfl,rfl⟩
  .cases hv
 cases y with
 | of c =>
  cases c with
  | lit v =>
   cases v with
   | string st =>
    unfold aaI at hv ⊢
    simp only[X.tr] at hv ⊢
    split at hv
    .rename_i hs
     rw[aE hs]
     obtain⟨rfl,rfl⟩:=fj hv
     exact⟨rfl,rfl⟩
    .cases hv
   | _=>cases hv
  | sl cs n=>exact sl cs n _ hv rfl
  | _=>cases hv
 | nil=>exact sl [] 0 _ hv rfl
 | own t e z cs n =>
  rcases alj (ρ:=ρ) t e z cs n with h|⟨t',h⟩ <;> rw[h]
  .exact sl cs n _ hv rfl
  .exact sl cs n _ hv rfl
 | top r e z=>cases hnt
 | _=>cases hv
end
def aic{b:Bool}{D:List Nat}(h:auV b=some D):b=true:=by
 cases b with
 | true=>rfl
 | false=>cases h
def azW{P:Program}{T:TT}{E:En}{s s':S}{ix:Nat}{o:Oper}{x:X}{e:Option Tk}{refs D:List Nat}(hk:aoc o.op=true)(hc:s'.clk=s.clk)(hev:∀ y∈o.op.operands.toList,s'.ev y=(s.ev y).tr some (dz refs []))
  (hob:∀ r ob,r∉refs->s.objs[r]?=some ob->s'.objs[r]?=some (ob.tr some (dz refs []))) (hD:ajW s o.op=some D) (hDr:∀ r∈D,r∉refs) (hv:val P T E s ix o=some (x,e)) :
  e=none/\val P T E s' ix o=some (x.tr some (dz refs []),none):=by
 obtain⟨d,op,ty,pos,af,g⟩:=o
 simp only at hk hev hD
 unfold aoc at hk
 split at hk
 .rename_i y
  have hv:out (s.ev y)=some (x,e):=hv
  obtain⟨rfl,rfl⟩:=fj hv
  refine⟨rfl,?_⟩
  show out (s'.ev y)=_
  rw[hev y (by simp[Op.operands])]
  rfl
 .rename_i t a
  have hv:abf T s.objs t (s.ev a)=some (x,e):=hv
  show _/\abf T s'.objs t (s'.ev a)=_
  rw[hev a (by simp[Op.operands])]
  exact azb hob hD hDr hv
 .rename_i t a f
  have hv:gu T t f (s.ev a)=some (x,e):=hv
  show _/\gu T t f (s'.ev a)=_
  rw[hev a (by simp[Op.operands])]
  exact aj1 hv
 .rename_i t a i
  have hn:=aic hD
  have hv:cn T t (s.ev a) (s.ev i)=some (x,e):=hv
  show _/\cn T t (s'.ev a) (s'.ev i)=_
  rw[hev a (by simp[Op.operands]),hev i (by simp[Op.operands])]
  exact apO (aje hn a aT) hv
 .rename_i a
  have hn:∀ s:S,val P T E s ix ⟨d,.nilCheck a,ty,pos,af,g⟩=match s.ev a with
   | .ptr r off=>out (.ptr r off)
   | .of (.ref cs)=>out (.of (.ref cs))
   | _=>none:=λ_=>rfl
  rw[hn] at hv ⊢
  rw[hev a (by simp[Op.operands])]
  cases hy:s.ev a with
  | ptr r off=>rw[hy] at hv;obtain⟨rfl,rfl⟩:=fj hv;exact⟨rfl,rfl⟩
  | of c=>cases c with
   | ref cs=>rw[hy] at hv;obtain⟨rfl,rfl⟩:=fj hv;exact⟨rfl,rfl⟩
   | _=>rw[hy] at hv;cases hv
  | _=>rw[hy] at hv;cases hv
 .rename_i bop t a b yt
  have hv:gJ P T t ((T t).map (·.und)) bop (s.ev a) (s.ev b)=some (x,e):=hv
  show _/\gJ P T t ((T t).map (·.und)) bop (s'.ev a) (s'.ev b)=_
  rw[hev a (by simp[Op.operands]),hev b (by simp[Op.operands])]
  exact aDu hv
 .rename_i t n ps
  have hn:=aic hD
  have hp:=ata (ρ:=dz refs []) (f:=s.ev) (g:=s'.ev) ps.toList λp hp=>⟨hev p.2 (by simp only[Op.operands];simpa using ⟨p.1,by simpa using hp⟩),aje hn _ (List.mem_map.2 ⟨p,hp,rfl⟩)⟩
  simp only[val] at hv ⊢
  rw[hp,hc]
  cases h1:elemOf T t with
  | none=>rw[h1] at hv;cases hv
  | some p =>
   obtain⟨e',d'⟩:=p
   cases h2:gN s.ev ps.toList with
   | none=>rw[h1,h2] at hv;cases hv
   | some qs =>
    rw[h1,h2] at hv
    simp only[aP] at hv ⊢
    by_cases hcond:n*d'.size<=16777216/\0<d'.size/\d'.zero.length=d'.size
    .rw[aE hcond] at hv ⊢
     have:=axh (ρ:=dz refs []) (λi=>some (i*d'.size,d'.size)) qs ((List.replicate n (fU d')).flatten)
     have hz:((List.replicate n (fU d')).flatten).map (X.tr some (dz refs []))=(List.replicate n (fU d')).flatten:=by
      rw[List.map_flatten,List.map_replicate,aGH]
     rw[hz] at this
     rw[this]
     cases hf:aah (λi=>some (i*d'.size,d'.size)) ((List.replicate n (fU d')).flatten) qs with
     | none=>rw[hf] at hv;cases hv
     | some xs =>
      rw[hf] at hv
      simp only[aP] at hv ⊢
      cases hcs:X.rds xs with
      | none=>rw[hcs] at hv;cases hv
      | some cs =>
       rw[hcs] at hv
       rw[aEx _ _ hcs]
       simp only at hv ⊢
       obtain⟨rfl,rfl⟩:=fj hv
       exact⟨rfl,by simp only[out,X.tr,dz,dH,ap]⟩
    .rw[aA hcond] at hv;cases hv
 .rename_i c args tys
  have hn:=aic hD
  have hv:ae8 P T E s ix (.builtin .len) args.toList tys.toList=some (x,e):=hv
  show _/\ae8 P T E s' ix (.builtin .len) args.toList tys.toList=_
  match hA:args.toList,tys.toList,hv,hn with
  | [y],[t],hv,hn =>
   have hm:y∈args.toList:=by rw[hA];simp
   have hy:=hev y (by simp only[Op.operands,Call.operands];simpa using hm)
   have hv:aaI ((T t).map (·.und)) (s.ev y)=some (x,e):=hv
   show _/\aaI ((T t).map (·.und)) (s'.ev y)=_
   rw[hy]
   exact aB7 (aje hn y aT) hv
  | [],_,hv,_=>cases hv
  | _::_::_,_,hv,_=>cases hv
  | [_],[],hv,_=>cases hv
  | [_],_::_::_,hv,_=>cases hv
 .cases hk
def akb(P:Program)(E:En)(s:S)(o:Oper)(g:Nat)(us:List X):Prop:=o.guard=none/\(∃ f args tys,o.op=.call {callee:=.value f,args:=args,argTypes:=tys}/\aep s (.value f) args.toList=some (g,us))/\E.obj g=true/\E.tk g=false
def aF4{P:Program}{E:En}{s:S}{D:List Nat}{o:Oper}(hg:o.guard=none)(h:aDc E.obj E.tk s D o.op=true):∃ g us,akb P E s o g us/\∀ r∈fE s.objs 999 (X.refsL us) [],r∉D:=by
 unfold aDc at h
 split at h
 rotate_left
 .cases h
 rename_i cal args tys hop
 cases cal with
 | value f =>
  cases ht:aep s (.value f) args.toList with
  | none=>rw[ht] at h;cases h
  | some p =>
   obtain⟨g,us⟩:=p
   rw[ht] at h
   simp only[aS5,ar,df] at h
   obtain⟨⟨h1,h2⟩,h3⟩:=h
   refine⟨g,us,⟨hg,⟨f,args,_,hop,ht⟩,h1,h2⟩,λr hr hD=>?_⟩
   have:=bo.1 h3 r hr
   simp[hD] at this
 | _=>cases h
def az3{P:Program}{T:TT}{E:En}{s:S}{ix:Nat}{o:Oper}{g:Nat}{us:List X}(h:akb P E s o g us):abl P T E false s ix o=callS P E s ix o.dst g us:=by
 obtain⟨_,⟨f,args,tys,hop,ht⟩,ho,_⟩:=h
 unfold abl
 simp only[ab,ap,hop,ht,ho,ah]
def aJV{s s2:S}{ix:Nat}{du dc:Option Nat}{x:X}{refs:List Nat}{an:An}{q:Option X}(hd:∀ j,du=some j->dc≠some j)(h:agJ (s.put du x) ix dc refs [] an=some (q,s2)) :
  ∃ s',agJ s ix dc refs [] an=some (q,s')/\s2=s'.put du (x.tr some (dz refs [])):=by
 have e1:(s.put du x).objs=s.objs:=by cases du <;> rfl
 have e2:(s.put du x).clk=s.clk:=by cases du <;> rfl
 have e3:∀ O:List Ob,(⟨λj=>((s.put du x).fr j).tr some (dz refs []),O,s.clk⟩ : S)=(⟨λj=>(s.fr j).tr some (dz refs []),O,s.clk⟩ : S).put du (x.tr some (dz refs [])):=λO=>by
  cases du with
  | none=>rfl
  | some d =>
   simp only[S.put]
   congr 1
   funext j
   simp only[upd]
   split <;> rfl
 unfold agJ at h ⊢
 simp only[e1,e2] at h ⊢
 split at h
 rotate_left
 .cases h
 rename_i hlen
 rw[aE hlen]
 rw[e3] at h
 obtain⟨pan,rs,obs⟩:=an
 cases pan with
 | true =>
  match rs,h with
  | [y],h =>
   simp only[bT] at h ⊢
   obtain⟨rfl,rfl⟩:=h
   exact⟨_,⟨rfl,rfl⟩,rfl⟩
  | [],h=>cases h
  | _::_::_,h=>cases h
 | false =>
  simp only[bT] at h ⊢
  obtain⟨rfl,rfl⟩:=h
  exact⟨_,⟨rfl,rfl⟩,afZ _ _ _ hd⟩
def aDv{s s':S}{ix:Nat}{dc:Option Nat}{refs:List Nat}{an:An}{q:Option X}(h:agJ s ix dc refs [] an=some (q,s')) :
  s'.clk=s.clk/\(∀ j,dc≠some j->s'.fr j=(s.fr j).tr some (dz refs []))/\∀ r ob,r∉refs->s.objs[r]?=some ob->s'.objs[r]?=some (ob.tr some (dz refs [])):=by
 have key:∀ (O:List Ob) (d:Option Nat) (y:X),(({s with fr:=λj=>(s.fr j).tr some (dz refs []),objs:=O}:S).put d y).clk=s.clk/\(∀ j,d≠some j->(({s with fr:=λj=>(s.fr j).tr some (dz refs []),objs:=O}:S).put d y).fr j=(s.fr j).tr some (dz refs []))/\(({s with fr:=λj=>(s.fr j).tr some (dz refs []),objs:=O}:S).put d y).objs=O:=λO d y=>by
  cases d with
  | none=>exact⟨rfl,λ_ _=>rfl,rfl⟩
  | some d=>exact⟨rfl,λj hj=>by simp only[S.put,upd];rw[aA λe=>hj (by rw[e])],rfl⟩
 have hO:∀ (σ:Nat->Option Nat) (ρ:Tk->Option Tk) (l2:List Ob) (r:Nat) (ob:Ob),r∉refs->s.objs[r]?=some ob->(aa7 σ ρ (s.objs.map (Ob.tr some (dz refs []))) refs an.obs++l2)[r]?=some (ob.tr some (dz refs [])):=λσ ρ l2 r ob hno hob=>by
  have hr:r<s.objs.length:=(List.getElem?_eq_some_iff.1 hob).1
  rw[bq (by rw[alT];simpa using hr),ahl _ _ refs _ _ r hno,cd,hob]
  rfl
 unfold agJ at h
 simp only at h
 split at h
 rotate_left
 .cases h
 obtain⟨pan,rs,obs⟩:=an
 cases pan with
 | true =>
  match rs,h with
  | [y],h =>
   simp only[bT] at h
   obtain⟨rfl,rfl⟩:=h
   exact⟨rfl,λ_ _=>rfl,λr ob h1 h2=>hO _ _ _ r ob h1 h2⟩
  | [],h=>cases h
  | _::_::_,h=>cases h
 | false =>
  simp only[bT] at h
  obtain⟨rfl,rfl⟩:=h
  refine⟨(key _ dc _).1,(key _ dc _).2.1,λr ob h1 h2=>?_⟩
  rw[(key _ dc _).2.2]
  exact hO _ _ _ r ob h1 h2
def aJM{P:Program}{E:En}{s s':S}{ix:Nat}{d:Option Nat}{g:Nat}{us:List X}{q:Option X}(htk:E.tk g=false)(h:callS P E s ix d g us=some (q,s')) :
  ∃ an,(∀ (s0:S) (d0:Option Nat),s0.objs=s.objs->callS P E s0 ix d0 g us=agJ s0 ix d0 (fE s.objs 999 (X.refsL us) []) [] an)/\agJ s ix d (fE s.objs 999 (X.refsL us) []) [] an=some (q,s'):=by
 unfold callS at h
 simp only[htk,ab,ap] at h
 split at h
 rotate_left
 .cases h
 rename_i hc
 split at h
 rotate_left
 .cases h
 rename_i obs hobs
 split at h
 rotate_left
 .cases h
 rename_i an hor
 refine⟨an,λs0 d0 h0=>?_,h⟩
 unfold callS
 simp only[htk,ab,ap,h0]
 rw[aE hc,hobs]
 simp only
 rw[hor]
def aIV{ρ:Tk->Option Tk}{y:X}{D:List Nat}(h:ahz y=some D):ahz (y.tr some ρ)=some D:=by
 cases y with
 | own t e z cs n=>cases h
 | top r e z=>cases h
 | _=>exact h
def aE8{ρ:Tk->Option Tk}{y:X}(h:acX y=true):acX (y.tr some ρ)=true:=by
 cases y with
 | own t e z cs n=>rcases alj (ρ:=ρ) t e z cs n with h'|⟨t',h'⟩ <;> rw[h'] <;> rfl
 | top r e z=>cases h
 | _=>rfl
theorem ajd{s s':S}:∀ {l:List Operand},(∀ y∈l,acX (s.ev y)=true->acX (s'.ev y)=true)->af0 s l=true->af0 s' l=true
 | [],_,_=>rfl
 | a::l,hl,h=>by
  simp only[af0,ar] at h ⊢
  exact⟨hl a aT h.1,ajd (λy hy=>hl y (by simp[hy])) h.2⟩
def asi{s s':S}{op:Op}{D:List Nat}(h1:∀ y∈op.operands.toList,ahz (s.ev y)=some D->ahz (s'.ev y)=some D)(h2:∀ y∈op.operands.toList,acX (s.ev y)=true->acX (s'.ev y)=true)(h:ajW s op=some D):ajW s' op=some D:=by
 unfold ajW at h ⊢
 split at h
 .exact h1 _ (by simp[Op.operands]) h
 .rename_i c args tys
  have hn:=aic h
  rw[ajd (λy hy=>h2 y (by simp only[Op.operands,Call.operands];simpa using hy)) hn]
  rw[hn] at h
  exact h
 .rename_i t n ps
  have hn:=aic h
  rw[ajd (λy hy=>h2 y (by simp only[Op.operands];simpa using hy)) hn]
  rw[hn] at h
  exact h
 .rename_i t x i
  have hn:=aic h
  rw[ajd (λy hy=>h2 y (by simp only[dt] at hy;subst hy;simp[Op.operands])) hn]
  rw[hn] at h
  exact h
 .exact h
def aB8(t:Tk)(y:X):ahz (y.drop t)=ahz y:=by
 cases y with
 | own t' e z cs n=>rcases fQ t t' e z cs n with h|h <;> rw[h] <;> rfl
 | _=>rfl
def ayU(t:Tk)(y:X):acX (y.drop t)=acX y:=by
 cases y with
 | own t' e z cs n=>rcases fQ t t' e z cs n with h|h <;> rw[h] <;> rfl
 | _=>rfl
def apH{ops:Array Oper}{o:Oper}{y:Operand}{j:Nat}(hy:y∈o.op.operands.toList)(e:y=.tmp j):j∈o.looksAt ops:=by
 unfold Oper.looksAt
 rw[bS]
 exact .inl (List.mem_filterMap.2 ⟨y,by simpa using hy,by rw[e]⟩)
def aP3{P:Program}{T:TT}{E:En}{s:S}{ix:Nat}{o:Oper}{x:X}{e:Option Tk}{D:List Nat}(hk:aoc o.op=true)(hD:ajW s o.op=some D)(hv:val P T E s ix o=some (x,e)):e=none :=
 (azW (P:=P) (T:=T) (E:=E) (s:=s) (ix:=ix) (s':={s with fr:=λj=>(s.fr j).tr some (dz [] []),objs:=s.objs.map (Ob.tr some (dz [] []))}) (refs:=[]) hk rfl (λy _=>aGW (λ_=>rfl) y) (λr ob _ h=>by show (s.objs.map (Ob.tr some (dz [] [])))[r]?=_;rw[cd,h];rfl) hD (λr _=>dH) hv).1
def aA7{o:Oper}(hk:aoc o.op=true):dW o=o.dst:=adR (by
 obtain⟨d,op,ty,pos,af,g⟩:=o
 cases op <;> first|rfl|cases hk)
def aS4{P:Program}{E:En}{s:S}{o:Oper}{g:Nat}{us:List X}(h:akb P E s o g us):dW o=o.dst:=by
 obtain⟨_,⟨f,args,tys,hop,_⟩,_⟩:=h
 exact adR (by rw[hop];rfl)
def aP4{P:Program}{T:TT}{E:En}{ops:Array Oper}{R:Nat->Prop}{s s1 s2:S}{i c:Nat}{ou oc:Oper}{q:Option X}{g:Nat}{us:List X}(hk:aoc ou.op=true)(hgu:ou.guard=none)(hap:ajp ops ou oc)
  (hu:bH P T E true ops s i ou=some (none,s1)) (hld:∃ D,ajW s ou.op=some D/\∀ r∈D,¬ R r) (hca:akb P E s1 oc g us) (hR:∀ r∈fE s1.objs 999 (X.refsL us) [],R r) (hc:callS P E s1 c oc.dst g us=some (q,s2)) :
  s1.objs=s.objs/\akb P E s oc g us/\∃ s',callS P E s c oc.dst g us=some (q,s')/\blank s2=blank s'/\(q=none->bH P T E true ops s' i ou=some (none,s2)/\∃ D,ajW s' ou.op=some D/\∀ r∈D,¬ R r):=by
 obtain⟨D,hD,hDR⟩:=hld
 obtain⟨a1,a2,a3⟩:=hap
 rw[aA7 hk] at a1 a2
 rw[aS4 hca] at a2 a3
 have hgo:∀ s:S,bH P T E true ops s i ou=fO P T E s i ou:=λs=>by
  unfold bH eV
  rw[hgu]
  rfl
 rw[hgo] at hu
 unfold fO at hu
 split at hu
 rotate_left
 .cases hu
 rename_i x e hv
 obtain rfl:=aP3 hk hD hv
 simp only[S.drop,aaQ,ah,bT,dg] at hu
 rw[aA7 hk] at hu
 subst hu
 have ho:(s.put ou.dst x).objs=s.objs:=by cases ou.dst <;> rfl
 obtain⟨g1,⟨f,args,tys,hop,ht⟩,g2,g3⟩:=hca
 have hlk:∀ y∈oc.op.operands.toList,(s.put ou.dst x).ev y=s.ev y:=λy hy=>ae5 _ _ _ _ λj hj e=>a1 j hj (apH hy e)
 have ht':aep s (.value f) args.toList=some (g,us):=by
  rw[hop] at hlk
  have hf:(s.put ou.dst x).ev f=s.ev f:=hlk f (by simp[Op.operands,Call.operands])
  have ha:args.toList.map (s.put ou.dst x).ev=args.toList.map s.ev:=fm λy hy=>hlk y (by simp only[Op.operands,Call.operands];simpa using .inr (by simpa using hy))
  unfold aep at ht ⊢
  simp only[hf,ha] at ht ⊢
  exact ht
 have hca':akb P E s oc g us:=⟨g1,⟨f,args,tys,hop,ht'⟩,g2,g3⟩
 obtain⟨an,h1,h2⟩:=aJM g3 hc
 rw[ho] at hR h1 h2
 obtain⟨s',h3,rfl⟩:=aJV (λj hj=>a2 j hj) h2
 obtain⟨f1,f2,f3⟩:=aDv h3
 refine⟨ho,hca',s',by rw[h1 s _ rfl];exact h3,by unfold blank;cases ou.dst <;> rfl,λ_=>?_⟩
 have hev:∀ y∈ou.op.operands.toList,s'.ev y=(s.ev y).tr some (dz (fE s.objs 999 (X.refsL us) []) []):=λy hy=>by
  cases y with
  | tmp j=>exact f2 j λe=>a3 j e (apH hy rfl)
  | const v=>exact (aww v).symm
  | func f=>rfl
  | global g=>rfl
 have hDn:∀ r∈D,r∉fE s.objs 999 (X.refsL us) []:=λr hr hm=>hDR r hr (hR r hm)
 obtain⟨_,h4⟩:=azW hk f1 hev f3 hD hDn hv
 refine⟨?_,D,asi (λy hy h=>by rw[hev y hy];exact aIV h) (λy hy h=>by rw[hev y hy];exact aE8 h) hD,hDR⟩
 rw[hgo]
 unfold fO
 rw[h4]
 simp only[S.drop,aaQ,ah]
 rw[aA7 hk]
def aZt(R:Nat->Prop)(s:S)(op:Op):Prop:=∃ D,ajW s op=some D/\∀ r∈D,¬ R r
def StP(P:Program)(T:TT)(E:En)(ops:Array Oper)(R:Nat->Prop)(c:Option Nat)(s:S)(i:Nat)(o:Oper)(q:Option X)(s':S):Prop :=
 (some i≠c/\q=none/\bH P T E true ops s i o=some (none,s')/\(agw ops c i=false->aeY ops c i=false->aZt R s o.op)) \/
 (some i=c/\∃ g us,akb P E s o g us/\(∀ r∈fE s.objs 999 (X.refsL us) [],R r)/\aiJ (callS P E s i o.dst g us)=some (q,s'))
def aaM(P:Program)(T:TT)(E:En)(ops:Array Oper)(R:Nat->Prop)(c:Option Nat)(m:Nat)(Qp:X->S->Prop)(Qn:S->Prop):Nat->Array Bool->S->Prop
 | 0,listed,s=>(∀ j,j<m->listed.getD j true=true)/\Qn s
 | fuel+1,listed,s=>(∃ i,i∈Region.ready .any ops listed/\i<m)/\∀ i∈Region.ready .any ops listed,i<m->∃ o q s',ops[i]?=some o/\StP P T E ops R c s i o q s'/\(∀ x,q=some x->Qp x s')/\(q=none->aaM P T E ops R c m Qp Qn fuel (listed.setIfInBounds i true) s')
structure PlOk (ops:Array Oper) (c:Option Nat) (m:Nat) (pre mid:List Nat):Prop where
 cov:∀ i,i<m->i∈pre\/some i=c\/i∈mid
 solo:∀ i o,i<m->ops[i]?=some o->cZ o.op=true->afm ops i=true
 pre:∀ i∈pre,agw ops c i=true\/uAt ops i=true
 mid:∀ i∈mid,aeY ops c i=true
def aAo{P:Program}{T:TT}{E:En}{ops:Array Oper}{s s1:S}{i:Nat}{oi oj:Oper}(h:bH P T E true ops s i oi=some (none,s1))(ha:∀ d,dW oi=some d->d∉oj.looksAt ops)(D:List Nat):ajW s oj.op=some D↔ajW s1 oj.op=some D:=by
 obtain⟨_,x,e,_,rfl⟩:=aeC h
 have hev:∀ y∈oj.op.operands.toList,((s.drop e).put (dW oi) x).ev y=(s.drop e).ev y:=λy hy=>ae5 _ _ _ _ λj hj e'=>ha j hj (apH hy e')
 have h1:∀ y∈oj.op.operands.toList,ahz (((s.drop e).put (dW oi) x).ev y)=ahz (s.ev y):=λy hy=>by
  rw[hev y hy]
  cases e with
  | none=>rfl
  | some t=>rw[dD,aB8]
 have h2:∀ y∈oj.op.operands.toList,acX (((s.drop e).put (dW oi) x).ev y)=acX (s.ev y):=λy hy=>by
  rw[hev y hy]
  cases e with
  | none=>rfl
  | some t=>rw[dD,ayU]
 exact⟨asi (λy hy h=>by rw[h1 y hy];exact h) (λy hy h=>by rw[h2 y hy];exact h),asi (λy hy h=>by rw[← h1 y hy];exact h) (λy hy h=>by rw[← h2 y hy];exact h)⟩
def ahX{listed:Array Bool}{i:Nat}:(listed.setIfInBounds i true).getD i true=true:=by
 rcases av i listed.size with g|g
 .simp[g]
 .simp[g]
section
variable {P:Program} {T:TT} {E:En} {ops:Array Oper} {R:Nat->Prop} {c:Option Nat} {m:Nat} {pre mid:List Nat} {Qp:X->S->Prop} {Qn:S->Prop}
theorem aDA(hp:PlOk ops c m pre mid){i:Nat}{oi:Oper}(hi:ops[i]?=some oi)(him:i<m):∀ (fuel:Nat) (listed:Array Bool) (s s1:S) (q1:Option X),Dc ops listed ->
  (∀ (j:Nat) (oj:Oper),ops[j]?=some oj->j≠i->listed.getD j true=false->(∀ e∈oj.after,Region.binds .any e=true->e.on≠i)->oi.apart ops oj=true) ->
  (some i=c->∀ j,j<m->listed.getD j true=false->j≠i->aeY ops c j=true) ->
  i∈Region.ready .any ops listed->StP P T E ops R c s i oi q1 s1->(∀ x,q1=some x->Qp x s1)->(q1=none->aaM P T E ops R c m Qp Qn fuel (listed.setIfInBounds i true) s1)->aaM P T E ops R c m Qp Qn (fuel+1) listed s:=by
 intro fuel
 induction fuel with
 | zero =>
  intro listed s s1 q1 hdc _ hlast hr hs Hp H
  refine⟨⟨i,hr,him⟩,λj hj hjm=>?_⟩
  by_cases hji:j=i
  .subst hji;exact⟨oi,q1,s1,hi,hs,Hp,H⟩
  .exfalso
   have hjun:=(mem_ready.1 hj).1
   have hiun:=(mem_ready.1 hr).1
   rcases hs with ⟨_,rfl,_⟩|⟨hc,_⟩
   .have:=(H rfl).1 j hjm
    rw[getD_set_ne true (bC hji),hjun] at this
    cases this
   .have:=hlast hc j hjm hjun hji
    rw[← hc] at this
    exact ahk hdc hiun this hj
 | succ fuel ih =>
  intro listed s s1 q1 hdc hfree hlast hr hs Hp H
  refine⟨⟨i,hr,him⟩,λj hj hjm=>?_⟩
  by_cases hji:j=i
  .subst hji;exact⟨oi,q1,s1,hi,hs,Hp,H⟩
  .have hjun:=(mem_ready.1 hj).1
   have hiun:=(mem_ready.1 hr).1
   rcases hs with ⟨hic,rfl,hsi,hli⟩|⟨hc,_⟩
   rotate_left
   .exfalso
    have:=hlast hc j hjm hjun hji
    rw[← hc] at this
    exact ahk hdc hiun this hj
   obtain⟨oj,qj,s2,hoj,hsj,HHp,HH⟩:=(H rfl).2 j (ready_mono hj hji) hjm
   have hji':=aaD hj hoj hiun
   have hij':=aaD hr hi hjun
   have hap:=aij hi hoj (bC hji) hij' hji' (hfree j oj hoj hji hjun hji') (λh=>hp.solo i oi him hi h) (λh=>hp.solo j oj hjm hoj h)
   have hun':∀ k,(listed.setIfInBounds j true).getD k true=false->listed.getD k true=false:=λk hk=>by
    by_cases hjk:j=k
    .subst hjk;exact hjun
    .rw[getD_set_ne true hjk] at hk;exact hk
   have go:∀ s',StP P T E ops R c s j oj none s'->StP P T E ops R c s' i oi none s2->qj=none->∃ o q s',ops[j]?=some o/\StP P T E ops R c s j o q s'/\(∀ x,q=some x->Qp x s')/\(q=none->aaM P T E ops R c m Qp Qn (fuel+1) (listed.setIfInBounds j true) s'):=by
    intro s' g1 g2 hq
    refine⟨oj,none,s',hoj,g1,λx hx=>(by cases hx),λ_=>?_⟩
    exact ih (listed.setIfInBounds j true) s' s2 none (hdc.set hj) (λk ok hk hki hun hno=>hfree k ok hk hki (hun' k hun) hno) (λh=>absurd h hic) (ready_mono hr (bC hji)) g2 (λx hx=>by cases hx) (λ_=>by rw[fB _ _ hji];exact HH hq)
   rcases hsj with ⟨hjc,rfl,hsj,hlj⟩|⟨hjc,g,us,hca,hR,hcs⟩
   .obtain⟨s',g1,g2⟩:=axF hap hij' hji' hsi hsj
    refine go s' (.inl ⟨hjc,rfl,g1,λh1 h2=>?_⟩) (.inl ⟨hic,rfl,g2,λh1 h2=>?_⟩) rfl
    .obtain⟨D,hD,hDR⟩:=hlj h1 h2
     exact⟨D,(aAo hsi hap.1 D).2 hD,hDR⟩
    .obtain⟨D,hD,hDR⟩:=hli h1 h2
     exact⟨D,(aAo g1 hap.symm.1 D).1 hD,hDR⟩
   .have hf:agw ops c i=false:=by
     cases hf:agw ops c i with
     | false=>rfl
     | true=>rw[← hjc] at hf;exact absurd hj (ahk hdc hiun hf)
    have hw:aeY ops c i=false:=by
     cases hw:aeY ops c i with
     | false=>rfl
     | true=>rw[← hjc] at hw;exact absurd hr (ahk hdc hjun hw)
    have hu:uAt ops i=true:=by
     rcases hp.cov i him with h|h|h
     .rcases hp.pre i h with h|h
      .rw[hf] at h;cases h
      .exact h
     .exact absurd h hic
     .rw[hp.mid i h] at hw;cases hw
    unfold uAt at hu
    simp only[hi,ar,aaU] at hu
    cases hcq:callS P E s1 j oj.dst g us with
    | none=>rw[hcq] at hcs;cases hcs
    | some p =>
     obtain⟨q0,s0⟩:=p
     rw[hcq] at hcs
     obtain⟨ho,hca',s',h1,h2,h3⟩:=aP4 hu.1 hu.2 hap hsi (hli hf hw) hca hR hcq
     rw[ho] at hR
     cases q0 with
     | none =>
      simp only[aiJ,bT] at hcs
      obtain⟨rfl,rfl⟩:=hcs
      obtain⟨h4,h5⟩:=h3 rfl
      exact go s' (.inr ⟨hjc,g,us,hca',hR,by rw[h1];rfl⟩) (.inl ⟨hic,rfl,h4,λ_ _=>h5⟩) rfl
     | some x =>
      simp only[aiJ,bT] at hcs
      obtain⟨rfl,rfl⟩:=hcs
      refine⟨oj,some x,blank s',hoj,.inr ⟨hjc,g,us,hca',hR,by rw[h1];rfl⟩,λy hy=>?_,λh=>by cases h⟩
      cases hy
      rw[← h2]
      exact HHp x rfl
def ak6(P:Program)(T:TT)(E:En)(ops:Array Oper)(R:Nat->Prop)(c:Option Nat):List Nat->S->Option X->S->Prop
 | [],s,q,s'=>q=none/\s'=s
 | i::l,s,q,s'=>∃ o q1 s1,ops[i]?=some o/\StP P T E ops R c s i o q1 s1/\(∀ x,q1=some x->q=some x/\s'=s1)/\(q1=none->ak6 P T E ops R c l s1 q s')
theorem axZ(hp:PlOk ops c m pre mid)(tl:List Nat):∀ (l:List Nat) (listed:Array Bool) (s:S) (q:Option X) (s':S),agt ops (l++tl) listed=true->Dc ops listed->(∀ i∈l,i<m)->(∀ j,j<m->listed.getD j true=false->j∈l) ->
  (∀ (l1 l2:List Nat) (i:Nat),l=l1++i::l2->some i=c->∀ j∈l2,aeY ops c j=true)->ak6 P T E ops R c l s q s'->(q=none->Qn s')->(∀ x,q=some x->Qp x s')->aaM P T E ops R c m Qp Qn l.length listed s
 | [],listed,s,q,s',_,_,_,hcov,_,h,hn,_=>by
  obtain⟨rfl,rfl⟩:=h
  refine⟨λj hj=>?_,hn rfl⟩
  cases hl:listed.getD j true with
  | true=>rfl
  | false=>cases hcov j hj hl
 | i::l,listed,s,q,s',hB,hdc,hlt,hcov,hcl,h,hn,hpq=>by
  obtain⟨o,q1,s1,hi,hst,h1,h2⟩:=h
  simp only[eI,agt,ar] at hB
  obtain⟨⟨hr,hf⟩,hB'⟩:=hB
  have hr':i∈Region.ready .any ops listed:=by simpa using hr
  refine aDA hp hi (hlt i aT) l.length listed s s1 q1 hdc (Region.free_spec hi hf) (λhc j hj hun hji=>?_) hr' hst (λx hx=>?_) (λhq=>?_)
  .rcases bQ.1 (hcov j hj hun) with h|h
   .exact absurd h hji
   .exact hcl [] l i rfl hc j h
  .obtain⟨rfl,rfl⟩:=h1 x hx;exact hpq x rfl
  .refine axZ hp tl l _ s1 q s' hB' (hdc.set hr') (λj hj=>hlt j (by simp[hj])) (λj hj hun=>?_) (λl1 l2 k e hc j hj=>hcl (i::l1) l2 k (by rw[e];rfl) hc j hj) (h2 hq) hn hpq
   have hji:j≠i:=λe=>by subst e;rw[ahX] at hun;cases hun
   rw[getD_set_ne true (bC hji)] at hun
   rcases bQ.1 (hcov j hj hun) with h|h
   .exact absurd h hji
   .exact h
theorem aip:∀ (l1 l2:List Nat) (s:S) (q:Option X) (s1 s':S),ak6 P T E ops R c l1 s none s1->ak6 P T E ops R c l2 s1 q s'->ak6 P T E ops R c (l1++l2) s q s'
 | [],l2,s,q,s1,s',h,h2=>by obtain⟨_,rfl⟩:=h;exact h2
 | i::l1,l2,s,q,s1,s',h,h2=>by
  obtain⟨o,q1,s0,hi,hst,g1,g2⟩:=h
  have hq:q1=none:=by
   cases q1 with
   | none=>rfl
   | some x=>cases (g1 x rfl).1
  subst hq
  exact⟨o,none,s0,hi,hst,λx hx=>(by cases hx),λ_=>aip l1 l2 s0 q s1 s' (g2 rfl) h2⟩
end
theorem Sim.blank{M0:Base}{k:Know}{ow:Own}{done:Nat->Prop}{w0 w:World}{N:Nat}{s:S}{tmps:Array Value}(h:Sim M0 k ow done w0 w N s tmps):Sim M0 k ow done w0 w N (Go.Pe.blank s) tmps :=
 {h.toHp with size:=h.size,fr:=λj=>by simp[Go.Pe.blank,aL,Rep],fresh:=h.fresh,cells:=h.cells}
section
variable {P:Program} {M0:Base} {w0:World} {N:Nat} {ds:List Deferred}
theorem aO1{ops:Array Oper}{m:Nat}(hF:aJw ops m=true){i t:Nat}(hi:i<m)(ht:m<=t)(hts:t<ops.size):wB ops i ops.size t=true:=by
 have:=bo.1 hF t (List.mem_range.2 hts)
 simp only[bD,aR] at this
 rcases this with h|h
 .omega
 .exact bo.1 h i (List.mem_range.2 hi)
theorem arx{E:En}(horc:EnSound P M0.G E){ops:Array Oper}(hdst:∀ (j:Nat) (o:Oper),ops[j]?=some o->ab2 N o=true){R:Nat->Prop}{c:Option Nat}{m n:Nat}(hF:aJw ops m=true)(hmn:ops.size=m+n){Qp:X->S->Prop}{Qn:S->Prop}{Q:Exit->Act->World->Prop}{k0:Know}
  (hP:∀ x s' v tmps' w' k' ow' done',k0.le k'->Qp x s'->Sim M0 k' ow' done' w0 w' N s' tmps'->aL k' ow' x v->Q (.panic [{v:=v,recovered:=false}]) ⟨tmps',ds⟩ w')
  (hN:∀ listed s w tmps k ow,k0.le k->Qn s->(∀ j,j<m->listed.getD j true=true)->(∀ j,m<=j->j<ops.size->listed.getD j true=false)->listed.size=ops.size->Dc ops listed->Sim M0 k ow (λj=>listed.getD j true=true) w0 w N s tmps->wpAny P .any ops Q n listed ⟨tmps,ds⟩ w) :
  ∀ (fuel:Nat) (listed:Array Bool) (s:S) (w:World) (tmps:Array Value) (k:Know) (ow:Own),k0.le k->Sim M0 k ow (λj=>listed.getD j true=true) w0 w N s tmps->listed.size=ops.size->Dc ops listed->(∀ j,m<=j->j<ops.size->listed.getD j true=false) ->
  aaM P (TT.of P) E ops R c m Qp Qn fuel listed s->wpAny P .any ops Q (fuel+n) listed ⟨tmps,ds⟩ w
 | 0,listed,s,w,tmps,k,ow,hk,hs,hsz,hdc,hge,h=>by
  rw[cB]
  exact hN listed s w tmps k ow hk h.2 h.1 hge hsz hdc hs
 | fuel+1,listed,s,w,tmps,k,ow,hk,hs,hsz,hdc,hge,h=>by
  obtain⟨⟨i0,hi0,hi0m⟩,h⟩:=h
  rw[show fuel+1+n=(fuel+n)+1 by omega]
  refine⟨λh0=>(by rw[h0] at hi0;cases hi0),λi hi=>?_⟩
  have him:i<m:=by
   rcases av i m with g|g
   .exact g
   .exfalso
    have his:i<ops.size:=by
     obtain⟨_,o,ho,_⟩:=mem_ready.1 hi
     exact (Array.getElem?_eq_some_iff.1 ho).1
    exact ahk hdc (mem_ready.1 hi0).1 (aO1 hF hi0m g his) hi
  obtain⟨o,q,s',ho,hst,Hp,H⟩:=h i hi him
  have hun:=(mem_ready.1 hi).1
  have hdone:∀ j,(listed.getD j true=true\/j=i)->(listed.setIfInBounds i true).getD j true=true:=λj hj=>by
   rcases hj with hj|rfl
   .by_cases hij:i=j
    .subst hij;rw[hun] at hj;cases hj
    .rw[getD_set_ne true hij];exact hj
   .exact ahX
  have hge':∀ j,m<=j->j<ops.size->(listed.setIfInBounds i true).getD j true=false:=λj h1 h2=>by
   rw[getD_set_ne true aC];exact hge j h1 h2
  have next:∀ s' w' tmps' k' ow',k0.le k'->aaM P (TT.of P) E ops R c m Qp Qn fuel (listed.setIfInBounds i true) s'->Sim M0 k' ow' (λj=>listed.getD j true=true\/j=i) w0 w' N s' tmps'->wpAny P .any ops Q (fuel+n) (listed.setIfInBounds i true) ⟨tmps',ds⟩ w' :=
   λs' w' tmps' k' ow' g1 g2 g3=>arx horc hdst hF hmn hP hN fuel _ s' w' tmps' k' ow' g1 (g3.more hdone) (by simpa using hsz) (hdc.set hi) hge' g2
  rcases hst with ⟨_,rfl,hst,_⟩|⟨_,g,us,hca,_,hcs⟩
  .exact aao (dr:=true) hs horc (by rw[hun];simp) ho (hdst i o ho) hst (λ_ tmps' w' k' ow' g1 g2=>next s' w' tmps' k' ow' (Know.le_trans hk g1) (H rfl) g2) (λx hx=>by cases hx)
  .have hst:∀ r,callS P E s i o.dst g us=some r->bH P (TT.of P) E false ops s i o=some r:=λr hr=>by
    unfold bH eV
    rw[hca.1]
    simp only
    rw[az3 hca]
    exact hr
   cases hcq:callS P E s i o.dst g us with
   | none=>rw[hcq] at hcs;cases hcs
   | some p =>
    obtain⟨q0,s0⟩:=p
    rw[hcq] at hcs
    refine aao (dr:=false) hs horc (by rw[hun];simp) ho (hdst i o ho) (hst _ hcq) (λhe tmps' w' k' ow' g1 g2=>?_) (λx hx v w' k' ow' g1 g2 g3=>?_)
    .subst he
     simp only[aiJ,bT] at hcs
     obtain⟨rfl,rfl⟩:=hcs
     exact next s0 w' tmps' k' ow' (Know.le_trans hk g1) (H rfl) g2
    .subst hx
     simp only[aiJ,bT] at hcs
     obtain⟨rfl,rfl⟩:=hcs
     exact hP x _ v tmps w' k' ow' _ (Know.le_trans hk g1) (Hp x rfl) g2.blank g3
end
section
variable {P:Program} {M0:Base} {k:Know} {ow:Own} {done:Nat->Prop} {w0 w:World} {N:Nat} {s:S} {tmps:Array Value} {ds:List Deferred}
theorem aEQ(hs:Sim M0 k ow done w0 w N s tmps){t':Tk}{e z n:Nat}{cs:List C}{v:Value}(hx:aL k ow (.own t' e z cs n) v) :
  ∃ xs,ow t'=some (v,e,z,n)/\w.ownsRow 0 e z v n xs/\bA k.m cs xs/\(∀ u∈xs,u.oneCell'=true)/\∀ g,v.ownBlock=some g->agk M0.mod w0 g/\(∀ r,k.μ r=some g->gv s.objs 0 r)/\(∀ t v2 e z n,(ow.del t') t=some (v2,e,z,n)->v2.ownBlock≠some g)/\∀ o u,k.m g o=some u->xs[o]?=some u:=by
 simp only[aL] at hx
 obtain⟨ho,hcl,hrep⟩:=hx
 obtain⟨⟨xs,hown⟩,htok⟩:=hs.tok _ _ _ _ _ ho
 simp only[Rep] at hrep
 obtain⟨a,cp,us,hve,_,hul,hum⟩:=hrep
 have hlen:us.length=xs.length:=by rw[hul.length,hown.1,hcl]
 have hat:∀ g,v.ownBlock=some g->∀ i u,us[i]?=some u->k.m g i=some u:=by
  intro g hg i u hu
  have hne:us≠[]:=by rintro rfl;simp at hu
  obtain⟨b,o,rfl,hc⟩:=hum hne
  rw[hve] at hg hown
  rcases hown.2 with ⟨h0,_⟩|⟨g',cap2,cur,hv,_⟩
  .cases h0
  .simp only[Value.slice.injEq,ae,Addr.mk.injEq] at hv
   obtain⟨⟨rfl,rfl,_⟩,_,rfl⟩:=hv
   simp only[Value.ownBlock,ae] at hg
   subst hg
   have:=hc i u hu
   simpa using this
 have hblk:xs≠[]->∃ g,v.ownBlock=some g:=λhne=>by
  rcases hown.2 with ⟨_,h0⟩|⟨g',cap2,cur,hv,_⟩
  .exfalso;subst h0;have:=hown.1;rw[abz] at this;exact hne (cr this)
  .exact⟨g',by rw[hv];rfl⟩
 have hsame:us=xs:=by
  apply abD
  intro i
  by_cases hi:i<us.length
  .have hx2:xs[i]?=some (xs[i]'(by omega)):=by simp[show i<xs.length by omega]
   obtain⟨g,hg⟩:=hblk (by rintro rfl;simp only[cq] at hlen;omega)
   have hu:us[i]?=some us[i]:=by simp[hi]
   have hc1:=(hs.mem _ _ _ (hat g hg i _ hu)).1
   have hc2:=hown.cells hg i _ hx2
   rw[Addr.add_lit,cB,hc1] at hc2
   rw[hu,hx2]
   exact hc2
  .rw[bc aC,bc aC]
 subst hsame
 refine⟨us,ho,hown,hul,λu hu=>?_,λg hg=>⟨(htok g hg).1,λr hr=>?_,λt v2 e2 z2 n2 h2=>?_,λo u hm=>?_⟩⟩
 .obtain⟨i,hi⟩:=List.mem_iff_getElem?.1 hu
  obtain⟨g,hg⟩:=hblk (by rintro rfl;cases hu)
  exact (hs.mem _ _ _ (hat g hg i u hi)).2
 .obtain⟨ty,rs,q1,q2⟩:=((htok g hg).2.2 r hr).1
  cases rs with
  | nil=>exact⟨ty,[],q1,am _⟩
  | cons a' rs =>
   exfalso
   have hnone:=(hs.toHp.lt hr).2.2 ⟨_,q1,rfl⟩
   have hpos':0<us.length:=by rw[hul.length,hcl];simp only[aX] at q2;omega
   have:=hat g hg 0 _ (aO hpos')
   rw[hnone] at this
   cases this
 .simp only[Own.del] at h2
  split at h2
  .cases h2
  .rename_i hne
   exact hs.tokne t' t _ _ _ _ _ _ _ _ ho h2 (bC hne) g hg
 .have hlt:o<n*z:=by
   rcases av o (n*z) with g1|g1
   .exact g1
   .rw[(htok g hg).2.1 o g1] at hm;cases hm
  have hlx:o<us.length:=by rw[hown.1];exact hlt
  have:=hat g hg o _ (aO hlx)
  rw[aO hlx,← this]
  exact hm
theorem aHj{t ty e:Nat}{d:TD}(hund:P.underlying t=some (.slice e))(hd:TT.of P e=some d)(hz:0<d.size){v:Value}{n:Nat}{xs:List Value}(hown:w.ownsRow 0 e d.size v n xs)
  {A:Option Addr} {c:Nat} {news:List Value} (hl:news.length=d.size) (hA:∃ b o,A=some ⟨b,o,none⟩/\∀ i u,news[i]?=some u->w.cell? ⟨b,o+i,none⟩=some u)
  (h1:∀ u∈news,u.oneCell'=true) (hLIM:n+1<=LIM) (hby:d.bytes<=32768) {vx:Value} (hvl:vx.cells.toList.length=d.size) (hv1:∀ u∈vx.cells.toList,u.oneCell'=true) :
  ∃ v' w1 g R,(Builtin.append_ #[t,t] ty #[v,.slice A 1 c]).run P w=.ok v' w1/\(∀ w',(Instr.indexAt t v' (.int .i64 n)).run P w'=.ok (.pointer (some ⟨g,n*d.size,none⟩)) w')/\(∀ w',w'.heap[g]?=w1.heap[g]?->(Instr.storeAt e (.pointer (some ⟨g,n*d.size,none⟩)) vx).run P w'=.ok () (w'.setRow g R)) /\
   v'.ownBlock=some g/\(w1.setRow g R).ownsRow 0 e d.size v' (n+1) (xs++vx.cells.toList)/\(∃ cap,v'=.slice (some ⟨g,0,none⟩) (n+1) cap)/\((w.grownBy (w1.setRow g R) v.ownBlock/\v'.ownBlock=v.ownBlock)\/(w.grownBy (w1.setRow g R) none/\v'.ownBlock=some w.heap.size)):=by
 obtain⟨v',w1,hr,hown1,hcase⟩:=aiR (P:=P) (w:=w) (ty:=ty) (m:=1) (c:=c) hund hd hz hown (by rw[abY];exact hl) (λ_=>hA) h1 hLIM hby (bn _)
 rcases hown1.2 with ⟨_,h0⟩|⟨g,cap,cur,rfl,_,hh,hcap,hcm,hcs,htake⟩
 .omega
 have hlx:xs.length=n*d.size:=hown.1
 have hsz1:(n+1)*d.size<=cur.size:=by rw[hcs];exact Nat.mul_le_mul_right _ hcap
 have hadd:(n+1)*d.size=n*d.size+d.size:=by rw[adZ,abY]
 have hpre:cur.toList.take (n*d.size)=xs:=by
  have h2:(cur.toList.take ((n+1)*d.size)).take (n*d.size)=cur.toList.take (n*d.size):=by rw[List.take_take,Nat.min_eq_left aC]
  rw[htake,List.take_append_of_le_length aC,aaA aC] at h2
  exact h2.symm
 have hfit:n*d.size+0+vx.cells.toList.length<=cur.size:=by omega
 have hst:∀ w',w'.heap[g]?=w1.heap[g]?->(storeCells ⟨g,n*d.size,none⟩ vx.cells.toList 0).run P w'=.ok () (w'.setRow g (xs++vx.cells.toList++cur.toList.drop (n*d.size+d.size)).toArray):=λw' hw'=>by
  have hst:=run_storeCells_at P g (n*d.size) e vx.cells.toList 0 cur w' (hw'.trans hh) hfit hv1
  rw[gV,hpre,hvl] at hst
  exact hst
 have hsz:vx.cells.size=d.size:=by simpa using hvl
 refine⟨_,w1,g,(xs++vx.cells.toList++cur.toList.drop (n*d.size+d.size)).toArray,hr,λw'=>?_,λw' hw'=>?_,rfl,?_,⟨cap,rfl⟩,?_⟩
 .have h0:(0:Int)<=(n:Int):=acu n
  have hru:=run_underlying (P:=P) (w:=w') hund
  simp[Instr.indexAt,asIntOf,hru,(TT.of_ok hd).run_size,h0,Addr.add_lit,show (n:Int)<((n:Int)+1) by omega]
 .simp[Instr.storeAt,Instr.sureAddr,storeVar,(TT.of_ok hd).run_size,hsz,hst w' hw']
 .refine⟨by rw[bp,hlx,hvl,hadd],.inr ⟨g,cap,_,rfl,bn _,setRow_heap w1 g cur _ e _ hh,hcap,hcm,?_,?_⟩⟩
  .simp only[dZ,bp,cU,eL]
   omega
  .rw[aa9,hadd,show n*d.size+d.size=(xs++vx.cells.toList).length by rw[bp,hlx,hvl]]
   exact acG
 .have hoth:∀ c,c≠g->(w1.setRow g (xs++vx.cells.toList++cur.toList.drop (n*d.size+d.size)).toArray).heap[c]?=w1.heap[c]?:=λc hc=>setRow_other w1 g c _ hc
  have hsz2:(w1.setRow g (xs++vx.cells.toList++cur.toList.drop (n*d.size+d.size)).toArray).heap.size=w1.heap.size:=by simp[World.setRow]
  rcases hcase with ⟨q1,q2⟩|⟨q1,q2⟩
  .refine .inl ⟨⟨q1.os,q1.tape,q1.output,by rw[hsz2];exact q1.size,λk hk hne=>?_⟩,q2⟩
   rw[hoth k (λe=>hne (by rw[← q2,e];rfl))]
   exact q1.block k hk hne
  .refine .inr ⟨⟨q1.os,q1.tape,q1.output,by rw[hsz2];exact q1.size,λk hk hne=>?_⟩,q2⟩
   simp only[Value.ownBlock,ae] at q2
   rw[hoth k aC]
   exact q1.block k hk hne
theorem Sim.push(h:Sim M0 k ow done w0 w N s tmps){row:Option Nat}{w':World}{v':Value}{e z g cap:Nat}{us:List Value}{cs:List C}(hvv:v'=.slice (some ⟨g,0,none⟩) 1 cap)
  (hrow:∀ g,row=some g->agk M0.mod w0 g/\(∀ r,k.μ r=some g->gv s.objs 0 r)/\(∀ t v e z n,ow t=some (v,e,z,n)->v.ownBlock≠some g)/\∀ o,k.m g o=none)
  (hg:w.grownBy w' row) (hown:w'.ownsRow 0 e z v' 1 us) (hv:v'.ownBlock=row\/(v'.ownBlock=some w.heap.size/\row=none)) (hcs:bA k.m cs us) (h1:∀ u∈us,u.oneCell'=true) (hz:0<z) :
  ∃ k' ow',k.le k'/\Sim M0 k' ow' done w0 w' N {s with objs:=s.objs++[.row e cs]} tmps/\aL k' ow' (.top s.objs.length e z) v':=by
 have hgb:v'.ownBlock=some g:=by rw[hvv];rfl
 have hnt:ow (abw s.objs.length)=none:=by
  cases ht:ow (abw s.objs.length) with
  | none=>rfl
  | some p=>have:=h.cells _ _ _ ht;omega
 let k':Know:={m:=k.m,μ:=λr=>if r=s.objs.length then some g else k.μ r}
 let ow':=ow.add (abw s.objs.length) (v',e,z,1)
 have hle:k.le k':=⟨λ_ _ _ h=>h,λr b' hr=>by
  have:=h.dom r b' hr
  show (if r=s.objs.length then some g else k.μ r)=some b'
  rw[aA aC];exact hr⟩
 have hsub:ow.sub ow':=Own.sub_add hnt
 have hnew:agk M0.mod w0 g/\(∀ r,k.μ r=some g->gv s.objs 0 r)/\(∀ t v e z n,ow t=some (v,e,z,n)->v.ownBlock≠some g)/\∀ o,k.m g o=none:=by
  rcases hv with hv|⟨hv,_⟩
  .exact hrow g (by rw[← hv,hgb])
  .have e1:g=w.heap.size:=aG (hgb.symm.trans hv)
   subst e1
   refine⟨.inl h.below.size,λr hr=>?_,λt v e z n ho hb=>?_,λo=>?_⟩
   .have:=(h.lt hr).2.1
    exact absurd this aC
   .have:=(h.tlt ho hb).2
    omega
   .cases hm:k.m w.heap.size o with
    | none=>rfl
    | some u=>have:=agq h.mem hm;omega
 obtain⟨n1,n2,n3,n4⟩:=hnew
 have hdd:∀ r,k.μ r=some g->¬ Liv s.objs r:=λr hr=>ahn (n2 r hr)
 have hblk:∀ b,b<w.heap.size->b≠g->w'.heap[b]?=w.heap[b]?:=λb hb hne=>hg.block b hb λe=>hne (by
  rcases hv with hv|⟨_,hv⟩
  .rw[← hv,hgb] at e;exact aG e
  .rw[hv] at e;cases e)
 have hrl:∀ b,some b=row->b=g:=λb e=>by
  rcases hv with hv|⟨_,hv⟩
  .rw[← hv,hgb] at e;exact aG e
  .rw[hv] at e;cases e
 rcases hown.2 with ⟨_,h0⟩|⟨g',cap',cur,hv2,_,hh,hcap,hcm,hcsz,htake⟩
 .cases h0
 rw[hvv] at hv2
 simp only[Value.slice.injEq,ae,Addr.mk.injEq] at hv2
 obtain⟨⟨rfl,_,_⟩,_,rfl⟩:=hv2
 have hgl:g<w'.heap.size:=(Array.getElem?_eq_some_iff.1 hh).1
 rw[abY] at htake
 have hul:us.length=z:=by rw[hown.1,abY]
 have hob:w'.heap[g]?=some (.cells (us++cur.toList.drop z).toArray e (0,0)):=by
  rw[hh]
  congr 2
  rw[← htake,ac3]
 refine⟨k',ow',hle,{
  good:=h.good
  size:=h.size
  below:=⟨hg.os.trans h.below.os,hg.tape.trans h.below.tape,hg.output.trans h.below.output,gU h.below.size hg.size,
   λb hb hm=>(hblk b (cD hb h.below.size) (λe=>by subst e;rcases n1 with q|q;omega;exact hm q)).trans (h.below.block b hb hm)⟩
  fr:=λj=>aL.mono hle hsub _ _ (h.fr j)
  mem:=λb o u hm=>by
   obtain⟨g1,g2⟩:=h.mem b o u hm
   have hne:b≠g:=λe=>by subst e;have:k.m b o=some u:=hm;rw[n4] at this;cases this
   exact⟨(World.cell?_of_block (a:=⟨b,o,none⟩) (hblk b (agq h.mem hm) hne)).trans g1,g2⟩
  obj:=λr ob hr=>by
   by_cases hlast:r=s.objs.length
   .subst hlast
    simp at hr
    subst hr
    exact⟨g,by simp[k'],n1,hgl,λ_=>n4,.inr ⟨us,_,hob,h1,hcs⟩⟩
   .have hr':s.objs[r]?=some ob:=by
     rcases av r s.objs.length with g'|g'
     .rwa [bq g'] at hr
     .rw[fd g'] at hr
      obtain⟨q,hq⟩:=abn (show r-s.objs.length≠0 by omega)
      rw[hq] at hr
      simp at hr
    obtain⟨b,g1,g2,g3,g4,g5⟩:=h.obj r ob hr'
    by_cases hb:b=g
    .subst hb
     exact⟨b,hle.2 _ _ g1,g2,hgl,g4,.dead (al5 hr' (hdd r g1))⟩
    .exact⟨b,hle.2 _ _ g1,g2,cD g3 hg.size,g4,(g5.keep (hblk b g3 hb)).mono hle hsub⟩
  dom:=λr b' hr=>by
   simp only[k'] at hr
   simp only[bp,ft]
   split at hr
   .omega
   .have:=h.dom r b' hr;omega
  inj:=λr r' b hr hr' hl hl'=>by
   simp only[k'] at hr hr'
   split at hr
   .split at hr'
    .omega
    .have:=aG hr
     subst this
     exact absurd (aet hl' (h.dom r' _ hr')) (hdd r' hr')
   .split at hr'
    .have:=aG hr'
     subst this
     exact absurd (aet hl (h.dom r _ hr)) (hdd r hr)
    .exact h.inj r r' b hr hr' (aet hl (h.dom r b hr)) (aet hl' (h.dom r' b hr'))
  tok:=λt v e' z' n ht=>by
   have ht:(if t=abw s.objs.length then some (v',e,z,1) else ow t)=some (v,e',z',n):=ht
   split at ht
   .rename_i ht'
    simp only[bT] at ht
    obtain⟨rfl,rfl,rfl,rfl⟩:=ht
    refine⟨⟨us,hown⟩,λg' hg'=>?_⟩
    obtain rfl:g=g':=aG (hgb.symm.trans hg')
    refine⟨n1,λo _=>n4 o,λr hr=>?_⟩
    simp only[k'] at hr
    split at hr
    .rename_i hr0
     subst hr0
     exact⟨⟨e,cs,by simp,by rw[← hcs.length,hul,abY];exact am _⟩,λ_=>ht'⟩
    .exact⟨akt ((n2 r hr).mono (bn _)),λhl=>absurd (aet hl (h.dom r _ hr)) (hdd r hr)⟩
   .obtain⟨⟨xs,g1⟩,g2⟩:=h.tok t v e' z' n ht
    refine⟨⟨xs,acE (λg' hgo hlt=>hblk g' hlt (λe=>n3 t v _ _ _ ht (by rw[← e];exact hgo))) g1⟩,λg' hgo=>⟨(g2 g' hgo).1,(g2 g' hgo).2.1,λr hr=>?_⟩⟩
    simp only[k'] at hr
    split at hr
    .have:=aG hr
     subst this
     exact absurd hgo (n3 t v _ _ _ ht)
    .exact⟨akt ((g2 g' hgo).2.2 r hr).1,λhl=>((g2 g' hgo).2.2 r hr).2 (aet hl (h.dom r _ hr))⟩
  tokne:=λt1 t2 v1 e1 z1 m1 v2 e2 z2 m2 h1' h2' hne g' hg1 hg2=>by
   have h1':(if t1=abw s.objs.length then some (v',e,z,1) else ow t1)=some (v1,e1,z1,m1):=h1'
   have h2':(if t2=abw s.objs.length then some (v',e,z,1) else ow t2)=some (v2,e2,z2,m2):=h2'
   split at h1'
   .rename_i e1'
    simp only[bT] at h1'
    obtain⟨rfl,rfl,rfl,rfl⟩:=h1'
    obtain rfl:g=g':=aG (hgb.symm.trans hg1)
    split at h2'
    .rename_i e2';exact hne (e1'.trans e2'.symm)
    .exact n3 _ _ _ _ _ h2' hg2
   .split at h2'
    .simp only[bT] at h2'
     obtain⟨rfl,rfl,rfl,rfl⟩:=h2'
     obtain rfl:g=g':=aG (hgb.symm.trans hg2)
     exact n3 _ _ _ _ _ h1' hg1
    .exact h.tokne t1 t2 _ _ _ _ _ _ _ _ h1' h2' hne g' hg1 hg2
  fresh:=λt p ht=>by
   have ht:(if t=abw s.objs.length then some (v',e,z,1) else ow t)=some p:=ht
   split at ht
   .rename_i e1;subst e1;trivial
   .exact h.fresh t p ht
  cells:=λr off p ht=>by
   have ht:(if Tk.cell r off=abw s.objs.length then some (v',e,z,1) else ow (.cell r off))=some p:=ht
   simp only[bp,ft]
   split at ht
   .rename_i e1;cases e1;omega
   .have:=h.cells r off p ht;omega
  m0:=h.m0},?_⟩
 simp only[aL]
 exact⟨by simp[ow',Own.add],g,cap,by simp[k'],hvv⟩
end
def agx{tmps:Array Value}{ds:List Deferred}{d:Nat}{v:Value}{x:Operand}(h:x≠.tmp d):((⟨tmps,ds⟩ : Act).put (some d) v).eval x=(⟨tmps,ds⟩ : Act).eval x:=by
 cases x with
 | tmp j =>
  have hj:j≠d:=λe=>h (by rw[e])
  simp[Act.put,Act.eval,aaa (bC hj)]
 | _=>rfl
def aiy{tmps:Array Value}{ds:List Deferred}{d:Nat}{v:Value}(h:d<tmps.size):((⟨tmps,ds⟩ : Act).put (some d) v).eval (.tmp d)=v:=by
 simp[Act.put,Act.eval,h]
def awp{k:Know}{ow:Own}{t:Tk}{e z n:Nat}{cs:List C}{v:Value}(h:aL k ow (.own t e z cs n) v):ow t=some (v,e,z,n):=by
 simp only[aL] at h
 exact h.1
def aD7{k:Know}{ow:Own}{r e z:Nat}{v:Value}(h:aL k ow (.top r e z) v):ow (abw r)=some (v,e,z,1):=by
 simp only[aL] at h
 exact h.1
def aED{T:TT}{s s':S}{ix:Nat}{a b c:Oper}(hp:als a b c=true)(h:auM T s ix a b c=some s') :
  ∃ x y i v st ty d d',a.op=.call {callee:=.builtin .append,args:=#[x,y],argTypes:=#[st,st]}/\a.guard=none/\a.dst=some d/\b.op=.indexAddr st (.tmp d) i/\b.guard=none/\b.dst=some d'/\c.op=.store ty (.tmp d') v/\c.guard=none/\c.dst=none /\
   d≠d'/\i≠.tmp d/\v≠.tmp d/\v≠.tmp d'/\aBw T s ix a b c st x y i v ty=some s':=by
 unfold als at hp
 simp only[ar,aaU] at hp
 obtain⟨⟨⟨g1,g2⟩,g3,g4⟩,hp⟩:=hp
 split at hp
 rotate_left
 .cases hp
 rename_i asx ts t x i ty y v d d' h1 h2 h3 h4 h5
 simp only[ar,dL,adl,dv] at hp
 obtain⟨⟨⟨⟨⟨⟨e1,e2⟩,e3⟩,e4⟩,e5⟩,e6⟩,e7,e8⟩:=hp
 subst e1;subst e2
 unfold auM at h
 rw[h1,h2,h3] at h
 simp only at h
 split at h
 rotate_left
 .cases h
 rename_i x' y' hargs
 have ha:asx=#[x',y']:=by rw[← cN (xs:=asx),hargs]
 have ht:ts=#[t,t]:=by rw[← cN (xs:=ts),e4]
 subst ha;subst ht
 exact⟨x',y',i,v,t,ty,d,d',h1,g1,h4,h2,g2,h5,h3,g3,g4,e3,λe=>e6 (by rw[e];rfl),λe=>e7 (by rw[e];rfl),λe=>e8 (by rw[e];rfl),h⟩
section
variable {P:Program} {M0:Base} {w0:World} {N:Nat} {ds:List Deferred}
theorem aBv{k:Know}{ow:Own}{done:Nat->Prop}{w:World}{s s':S}{tmps:Array Value}(hs:Sim M0 k ow done w0 w N s tmps){ix:Nat}(hd:¬ done ix){a b c:Oper}(hda:ab2 N a=true)(hdb:ab2 N b=true)(hp:als a b c=true)(h:auM (TT.of P) s ix a b c=some s') :
  a.guard=none/\b.guard=none/\c.guard=none/\∃ v1 w1 v2 g R,(execOp (⟨tmps,ds⟩ : Act).eval a).run P w=.ok (.value v1) w1/\(∀ w',(execOp ((⟨tmps,ds⟩ : Act).put a.dst v1).eval b).run P w'=.ok (.value v2) w') /\
   (∀ (A:Act) (w':World),(∀ y∈c.op.operands.toList,A.eval y=(((⟨tmps,ds⟩ : Act).put a.dst v1).put b.dst v2).eval y)->w'.heap[g]?=w1.heap[g]?->(execOp A.eval c).run P w'=.ok .skip (w'.setRow g R))/\c.dst=none/\v1.ownBlock=some g /\
   ∃ k' ow',k.le k'/\Sim M0 k' ow' (λj=>done j\/j=ix) w0 (w1.setRow g R) N s' (((⟨tmps,ds⟩ : Act).put a.dst v1).put b.dst v2).tmps/\(((⟨tmps,ds⟩ : Act).put a.dst v1).put b.dst v2)=⟨(((⟨tmps,ds⟩ : Act).put a.dst v1).put b.dst v2).tmps,ds⟩/\∃ t e z n,ow' t=some (v1,e,z,n):=by
 obtain⟨x,y,i,v,st,ty,d,d',ha,hga,hda',hb,hgb,hdb',hc,hgc,hdc,hne,hi,hv,hv',hX⟩:=aED hp h
 have hd1:d<N:=ahI hda d hda'
 have hd2:d'<N:=ahI hdb d' hdb'
 have hsz:tmps.size=N:=hs.size
 have hs1:=hs.more (done':=λj=>done j\/j=ix) (λ_ h=>.inl h)
 refine⟨hga,hgb,hgc,?_⟩
 unfold aBw at hX
 split at hX
 rotate_left
 .cases hX
 rename_i e td cs0 j ys hel hsl hli hrd
 split at hX
 rotate_left
 .cases hX
 rename_i hcond
 obtain⟨hc0,hyl,hz,rfl⟩:=hcond
 split at hX
 rotate_left
 .cases hX
 rename_i z t obs hR
 split at hX
 rotate_left
 .cases hX
 rename_i hok
 simp only[ae] at hX
 subst hX
 obtain⟨hund,hdd⟩:=ahH hel
 have hund':P.underlying st=some (.slice ty):=by
  cases hT:TT.of P st with
  | none=>simp[hT] at hund
  | some dd=>simp only[hT,aP,ae] at hund;rw[← hund];exact (TT.of_ok hT).und
 have hyv:=aoM hsl (Sim.ev (ds:=ds) hs y)
 simp only[Rep] at hyv
 obtain⟨A,cap,vs,hyv,_,hvl,hm⟩:=hyv
 have hvlen:vs.length=td.size:=by rw[hvl.length];exact hc0
 have hvne:vs≠[]:=by rintro rfl;simp only[cq] at hvlen;omega
 obtain⟨b0,o0,hA,hcell⟩:=hm hvne
 have hA2:∃ b o,A=some ⟨b,o,none⟩/\∀ i u,vs[i]?=some u->w.cell? ⟨b,o+i,none⟩=some u:=⟨b0,o0,hA,λi u hu=>(hs.mem _ _ _ (hcell i u hu)).1⟩
 have hone:∀ u∈vs,u.oneCell'=true:=λu hu=>by
  obtain⟨i,hi⟩:=List.mem_iff_getElem?.1 hu
  exact (hs.mem _ _ _ (hcell i u hi)).2
 have hel2:bA k.m ys ((⟨tmps,ds⟩ : Act).eval v).cells.toList/\∀ u∈((⟨tmps,ds⟩ : Act).eval v).cells.toList,u.oneCell'=true:=by
  unfold fW at hrd
  rw[bE] at hrd
  obtain⟨xs,hx1,hx2⟩:=hrd
  obtain⟨q1,q2⟩:=aeJ hx1 (Sim.ev (ds:=ds) hs v)
  exact⟨ajK _ _ _ hx2 q1,q2⟩
 obtain⟨hyr,hy1⟩:=hel2
 have hyl2:((⟨tmps,ds⟩ : Act).eval v).cells.toList.length=td.size:=by rw[hyr.length];exact hyl
 have hj:=af2 hli (Sim.ev (ds:=ds) hs i)
 have run:∀ (n:Nat) (vx:Value) (xs:List Value),(⟨tmps,ds⟩ : Act).eval x=vx->j=(n:Int)->w.ownsRow 0 ty td.size vx n xs->n+1<=LIM->td.bytes<=32768 ->
   ∃ v1 w1 g R cap',(execOp (⟨tmps,ds⟩ : Act).eval a).run P w=.ok (.value v1) w1/\(∀ w',(execOp ((⟨tmps,ds⟩ : Act).put a.dst v1).eval b).run P w'=.ok (.value (.pointer (some ⟨g,n*td.size,none⟩))) w') /\
    (∀ (A:Act) (w':World),(∀ y∈c.op.operands.toList,A.eval y=(((⟨tmps,ds⟩ : Act).put a.dst v1).put b.dst (.pointer (some ⟨g,n*td.size,none⟩))).eval y)->w'.heap[g]?=w1.heap[g]?->(execOp A.eval c).run P w'=.ok .skip (w'.setRow g R)) /\
    v1=.slice (some ⟨g,0,none⟩) (n+1) cap'/\(w1.setRow g R).ownsRow 0 ty td.size v1 (n+1) (xs++((⟨tmps,ds⟩ : Act).eval v).cells.toList)/\((w.grownBy (w1.setRow g R) vx.ownBlock/\v1.ownBlock=vx.ownBlock)\/(w.grownBy (w1.setRow g R) none/\v1.ownBlock=some w.heap.size)):=by
  intro n vx xs hvx hjn hown hL hB
  obtain⟨v1,w1,g,R,r1,r2,r3,r4,r5,⟨cap',r6⟩,r7⟩:=aHj (P:=P) (ty:=a.type) (c:=cap) hund' hdd hz hown hvlen hA2 hone hL hB hyl2 hy1
  refine⟨v1,w1,g,R,cap',?_,λw'=>?_,λA w' hA hw'=>?_,r6,r5,r7⟩
  .rw[← hvx,← hyv] at r1
   simp[execOp,ha,resolve,invoke,builtin,r1]
  .have e1:((⟨tmps,ds⟩ : Act).put a.dst v1).eval (.tmp d)=v1:=by rw[hda'];exact aiy (by rw[hsz];exact hd1)
   have e2:((⟨tmps,ds⟩ : Act).put a.dst v1).eval i=.int .i64 n:=by rw[hda',agx hi,hj,hjn]
   simp[execOp,hb,e1,e2,r2 w']
  .have e1:A.eval (.tmp d')=.pointer (some ⟨g,n*td.size,none⟩):=by
    rw[hA (.tmp d') (by simp[hc,Op.operands]),hda',hdb']
    exact aiy (tmps:=tmps.setIfInBounds d v1) (by rw[acm,hsz];exact hd2)
   have e2:A.eval v=(⟨tmps,ds⟩ : Act).eval v:=by
    rw[hA v (by simp[hc,Op.operands]),hda',hdb']
    exact (agx (tmps:=tmps.setIfInBounds d v1) hv').trans (agx hv)
   simp[execOp,hc,e1,e2,r3 w' hw']
 have fin:∀ (S2:S) (v1 v2:Value) (w2:World) (k':Know) (ow':Own),(∃ t e z n,ow' t=some (v1,e,z,n))->Sim M0 k' ow' (λj=>done j\/j=ix) w0 w2 N S2 tmps->aL k' ow' z v1 ->
   Sim M0 k' ow' (λj=>done j\/j=ix) w0 w2 N ((S2.put a.dst z).put b.dst (.of .any)) (((⟨tmps,ds⟩ : Act).put a.dst v1).put b.dst v2).tmps/\(((⟨tmps,ds⟩ : Act).put a.dst v1).put b.dst v2)=⟨(((⟨tmps,ds⟩ : Act).put a.dst v1).put b.dst v2).tmps,ds⟩/\∃ t e z n,ow' t=some (v1,e,z,n):=by
  intro S2 v1 v2 w2 k' ow' hot g1 g2
  have q1:=Sim.put (ds:=ds) g1 a.dst (λj hj=>ahI hda j hj) g2
  have q2:=Sim.put (ds:=ds) q1 b.dst (λj hj=>ahI hdb j hj) (x:=.of .any) (v:=v2) (by simp[aL,Rep])
  rw[hda',hdb'] at q2 ⊢
  exact⟨q2,rfl,hot⟩
 have hnm:ow (.nm s.clk ix 0)=none:=hs.new hd
 have app:∀ s:S,({s with objs:=s.objs++[]}:S)=s:=λs=>by rw[aU]
 unfold aLe at hR
 split at hR
 .rename_i hx0
  split at hR
  rotate_left
  .cases hR
  rename_i hcc
  obtain⟨hj0,hB⟩:=hcc
  simp only[bT] at hR
  obtain⟨rfl,rfl,rfl⟩:=hR
  have hvx:=Sim.ev (ds:=ds) hs x
  rw[hx0] at hvx
  simp only[aL] at hvx
  obtain⟨v1,w1,g,R,cap',r1,r2,r3,r4,r5,r6⟩:=run 0 _ [] hvx hj0 (World.ownsRow_nil w 0 ty td.size) (by simp[LIM]) hB
  simp only[cB,db] at r4 r5
  have hgb:v1.ownBlock=some g:=by rw[r4];rfl
  have hcase:(v1.ownBlock=none\/v1.ownBlock=some w.heap.size)/\w.grownBy (w1.setRow g R) none:=by
   rcases r6 with ⟨g1,g2⟩|⟨g1,g2⟩
   .exact⟨.inl g2,g1⟩
   .exact⟨.inr g2,g1⟩
  obtain⟨k',g1,g2,g3⟩:=hs1.row (row:=none) (w':=w1.setRow g R) (v':=v1) (c:=s.clk) (ix:=ix) (i:=0) (λg hg=>by cases hg) hcase.2 r5 (hcase.1.imp id (λh=>⟨h,rfl⟩)) hyr hy1 hnm (.inr ⟨rfl,.inr rfl⟩)
  exact⟨v1,w1,_,g,R,r1,r2,r3,hdc,hgb,k',_,g1,by rw[akH,app];exact fin _ _ _ _ _ _ ⟨_,_,_,_,awp g3⟩ g2 g3⟩
 .rename_i t' e' z' cs n hx0
  split at hR
  rotate_left
  .cases hR
  rename_i hcc
  obtain⟨rfl,rfl,hjn,hL,hB⟩:=hcc
  have hvx:=Sim.ev (ds:=ds) hs x
  rw[hx0] at hvx
  obtain⟨xs,f1,f2,f3,f4,f5⟩:=aEQ hs hvx
  obtain⟨v1,w1,g,R,cap',r1,r2,r3,r4,r5,r6⟩:=run n _ xs rfl hjn f2 hL hB
  have hgb:v1.ownBlock=some g:=by rw[r4];rfl
  split at hR
  .rename_i hn0
   subst hn0
   simp only[bT] at hR
   obtain⟨rfl,rfl,rfl⟩:=hR
   have hrow:=ajQ hok
   have hsd:=hs1.del t' hrow
   have hx0':xs=[]:=cr (by rw[f2.1,abz])
   subst hx0'
   simp only[cB,db] at r4 r5
   have hdr:∀ g r,gv s.objs g r->gv (s.drop (some t')).objs g r:=λg r h=>afy (λ_ _=>rfl) h
   have key:∀ row:Option Nat,w.grownBy (w1.setRow g R) row->(v1.ownBlock=row\/(v1.ownBlock=some w.heap.size/\row=none))->(∀ g,row=some g->((⟨tmps,ds⟩ : Act).eval x).ownBlock=some g) ->
     ∃ k' ow',k.le k'/\Sim M0 k' ow' (λj=>done j\/j=ix) w0 (w1.setRow g R) N {s.drop (some t') with objs:=(s.drop (some t')).objs++[.row e' ys]} tmps/\aL k' ow' (.top (s.drop (some t')).objs.length e' td.size) v1:=by
    intro row q1 q2 q3
    exact hsd.push r4 (λg hg=>by
     obtain⟨p1,p2,p3,p4⟩:=f5 g (q3 g hg)
     refine⟨p1,λr hr=>hdr 0 r (p2 r hr),p3,λo=>?_⟩
     cases hm:k.m g o with
     | none=>rfl
     | some u=>have:=p4 o u hm;simp at this) q1 r5 q2 hyr hy1 hz
   have hLL:(s.drop (some t')).objs.length=s.objs.length:=by simp[S.drop]
   rcases r6 with ⟨q1,q2⟩|⟨q1,q2⟩
   .obtain⟨k',ow',g1,g2,g3⟩:=key _ q1 (.inl q2) (λg hg=>hg)
    rw[hLL] at g3
    exact⟨v1,w1,_,g,R,r1,r2,r3,hdc,hgb,k',ow',g1,fin _ _ _ _ _ _ ⟨_,_,_,_,aD7 g3⟩ g2 g3⟩
   .obtain⟨k',ow',g1,g2,g3⟩:=key none q1 (.inr ⟨q2,rfl⟩) (λg hg=>by cases hg)
    rw[hLL] at g3
    exact⟨v1,w1,_,g,R,r1,r2,r3,hdc,hgb,k',ow',g1,fin _ _ _ _ _ _ ⟨_,_,_,_,aD7 g3⟩ g2 g3⟩
  .simp only[bT] at hR
   obtain⟨rfl,rfl,rfl⟩:=hR
   have hrow:=ajQ hok
   have hsd:=hs1.del t' hrow
   have hnm':(ow.del t') (.nm s.clk ix 0)=none:=by simp only[Own.del];split;rfl;exact hnm
   have hone2:∀ u∈xs++((⟨tmps,ds⟩ : Act).eval v).cells.toList,u.oneCell'=true:=λu hu=>by
    rcases bS.1 hu with hu|hu
    .exact f4 u hu
    .exact hy1 u hu
   have hlx:xs.length=n*td.size:=f2.1
   have key:∀ row:Option Nat,w.grownBy (w1.setRow g R) row->(v1.ownBlock=row\/(v1.ownBlock=some w.heap.size/\row=none))->(∀ g,row=some g->((⟨tmps,ds⟩ : Act).eval x).ownBlock=some g) ->
     ∃ k' ow',k.le k'/\Sim M0 k' ow' (λj=>done j\/j=ix) w0 (w1.setRow g R) N (s.drop (some t')) tmps/\aL k' ow' (.own (.nm s.clk ix 0) e' td.size (cs++ys) (n+1)) v1:=by
    intro row q1 q2 q3
    obtain⟨k',g1,g2,g3⟩:=hsd.row (row:=row) (w':=w1.setRow g R) (v':=v1) (c:=s.clk) (ix:=ix) (i:=0) (λg hg=>by
     obtain⟨p1,p2,p3,p4⟩:=f5 g (q3 g hg)
     refine⟨p1,λr hr=>afy (λ_ _=>rfl) (p2 r hr),p3,λo u hm=>?_⟩
     have:=p4 o u hm
     rw[bq (List.getElem?_eq_some_iff.1 this).1]
     exact this) q1 r5 q2 (f3.append hyr) hone2 hnm' (.inr ⟨rfl,.inr rfl⟩)
    exact⟨k',_,g1,g2,g3⟩
   rcases r6 with ⟨q1,q2⟩|⟨q1,q2⟩
   .obtain⟨k',ow',g1,g2,g3⟩:=key _ q1 (.inl q2) (λg hg=>hg)
    exact⟨v1,w1,_,g,R,r1,r2,r3,hdc,hgb,k',ow',g1,by rw[app];exact fin _ _ _ _ _ _ ⟨_,_,_,_,awp g3⟩ g2 g3⟩
   .obtain⟨k',ow',g1,g2,g3⟩:=key none q1 (.inr ⟨q2,rfl⟩) (λg hg=>by cases hg)
    exact⟨v1,w1,_,g,R,r1,r2,r3,hdc,hgb,k',ow',g1,by rw[app];exact fin _ _ _ _ _ _ ⟨_,_,_,_,awp g3⟩ g2 g3⟩
 .cases hR
end
section
variable {P:Program} {M0:Base} {w0:World} {N:Nat} {ds:List Deferred}
theorem aQL{ops:Array Oper}{n k:Nat}{listed:Array Bool}(hF:apW ops n=true)(hkn:ops.size<=k+n+1)(hdc:Dc ops listed)(hlt:∀ j,j<k->listed.getD j true=true)(hk:listed.getD k true=false){i:Nat}(hi:i∈Region.ready .any ops listed):i=k:=by
 obtain⟨hun,o,ho,_⟩:=mem_ready.1 hi
 have his:i<ops.size:=(Array.getElem?_eq_some_iff.1 ho).1
 rcases acL i k with h|h|h
 .rw[hlt i h] at hun;cases hun
 .exact h
 .exact absurd hi (ahk hdc hk (axm hF h his aC))
theorem aQt{listed:Array Bool}{k:Nat}(hlt:∀ j,j<k->listed.getD j true=true):∀ j,j<k+1->(listed.setIfInBounds k true).getD j true=true:=λj hj=>by
 by_cases hjk:j=k
 .subst hjk;exact ahX
 .rw[getD_set_ne true (bC hjk)];exact hlt j aC
theorem aQu{ops:Array Oper}{listed:Array Bool}{k:Nat}(hge:∀ j,k<=j->j<ops.size->listed.getD j true=false):∀ j,k+1<=j->j<ops.size->(listed.setIfInBounds k true).getD j true=false:=λj h1 h2=>by
 rw[getD_set_ne true aC];exact hge j aC h2
theorem aCV{k n:Nat}(h:k<n):(List.range n).drop k=k::(List.range n).drop (k+1):=by
 rw[bI (by simpa using h)]
 simp
theorem avy{E:En}(horc:EnSound P M0.G E){ops:Array Oper}(hdst:∀ (j:Nat) (o:Oper),ops[j]?=some o->ab2 N o=true){n:Nat}(hF:apW ops n=true){Q:Exit->Act->World->Prop}{q:Option X}{s':S}{k0:Know}
  (hQ:q=none->∀ tmps' w' k' ow' done',k0.le k'->Sim M0 k' ow' done' w0 w' N s' tmps'->Q .normal ⟨tmps',ds⟩ w')
  (hP:∀ x,q=some x->∀ v tmps' w' k' ow' done',k0.le k'->Sim M0 k' ow' done' w0 w' N s' tmps'->aL k' ow' x v->Q (.panic [{v:=v,recovered:=false}]) ⟨tmps',ds⟩ w') :
  ∀ (l:List Oper) (k:Nat) (listed:Array Bool) (s:S) (w:World) (tmps:Array Value) (kn:Know) (ow:Own),k+l.length=ops.size->ops.size<=k+n+1->(∀ j,l[j]?=ops[k+j]?)->(∀ j,j<k->listed.getD j true=true)->(∀ j,k<=j->j<ops.size->listed.getD j true=false)->Dc ops listed ->
  agt ops ((List.range ops.size).drop k) listed=true->k0.le kn->Sim M0 kn ow (λj=>listed.getD j true=true) w0 w N s tmps->aaV P (TT.of P) E false ops k l s=some (q,s')->wpAny P .any ops Q l.length listed ⟨tmps,ds⟩ w
 | [],k,listed,s,w,tmps,kn,ow,hks,_,_,hlt,_,_,_,hkn,hs,h=>by
  simp only[aaV,bT] at h
  obtain⟨rfl,rfl⟩:=h
  refine⟨List.eq_nil_iff_forall_not_mem.2 λi hi=>?_,hQ rfl tmps w kn ow _ hkn hs⟩
  obtain⟨hun,o,ho,_⟩:=mem_ready.1 hi
  have his:i<ops.size:=(Array.getElem?_eq_some_iff.1 ho).1
  simp only[cq] at hks
  rw[hlt i aC] at hun
  cases hun
 | o::l,k,listed,s,w,tmps,kn,ow,hks,hkn',hl,hlt,hge,hdc,hB,hkn,hs,h=>by
  simp only[aX] at hks
  have h0:ops[k]?=some o:=by simpa using (hl 0).symm
  rw[aCV aC] at hB
  simp only[agt,ar] at hB
  obtain⟨⟨hr,_⟩,hB'⟩:=hB
  have hr':k∈Region.ready .any ops listed:=by simpa using hr
  have hun:=hge k (am _) aC
  refine⟨λh0=>(by rw[h0] at hr';cases hr'),λi hi=>?_⟩
  obtain rfl:=aQL hF hkn' hdc hlt hun hi
  have hdone:∀ j,(listed.getD j true=true\/j=i)->(listed.setIfInBounds i true).getD j true=true:=λj hj=>by
   rcases hj with hj|rfl
   .by_cases hij:i=j
    .subst hij;exact ahX
    .rw[getD_set_ne true hij];exact hj
   .exact ahX
  simp only[aaV] at h
  split at h
  .rename_i s1 h1
   refine aao (dr:=false) hs horc (by rw[hun];simp) h0 (hdst i o h0) h1 (λ_ tmps' w' k' ow' g1 g2=>?_) (λx hx=>by cases hx)
   exact avy horc hdst hF hQ hP l (i+1) _ s1 w' tmps' k' ow' aC aC (λj=>by have:=hl (j+1);simpa [cE,fw 1 j] using this) (aQt hlt) (aQu hge) (hdc.set hr') hB' (Know.le_trans hkn g1) (g2.more hdone) h
  .rename_i x s1 h1
   simp only[bT] at h
   obtain⟨rfl,rfl⟩:=h
   exact aao (dr:=false) hs horc (by rw[hun];simp) h0 (hdst i o h0) h1 (λhe=>by cases he) (λx hx v w' k' ow' g1 g2 g3=>hP x hx v tmps w' k' ow' _ (Know.le_trans hkn g1) g2 g3)
  .cases h
theorem aYl{o:Oper}{a:Act}{w:World}{K:Act->World->Prop}{Q Q':Exit->Act->World->Prop}(h:∀ e a w,Q e a w->Q' e a w)(hh:o.wp P a w K Q):o.wp P a w K Q':=by
 unfold Oper.wp at *
 generalize (execOp a.eval o).run P w=r at *
 cases r with
 | ok n w' =>
  cases n <;> simp only[Oper.upon] at hh ⊢ <;>
   first
    | exact hh
    | exact Calls.mono hh (λe w'' he=>by
      cases e <;> first|exact he|exact h _ _ _ he|exact he.imp λa hx=>hx.imp λw hx=>h _ _ _ hx)
 | halt x w'=>cases x <;> simp only[Oper.upon] at hh ⊢ <;> first|exact h _ _ _ hh|exact hh
theorem azS{ops:Array Oper}{Q Q':Exit->Act->World->Prop}(h:∀ e a w,Q e a w->Q' e a w):∀ (fuel:Nat) (listed:Array Bool) (a:Act) (w:World),wpAny P .any ops Q fuel listed a w->wpAny P .any ops Q' fuel listed a w
 | 0,_,_,_,hh=>⟨hh.1,h _ _ _ hh.2⟩
 | fuel+1,listed,a,w,hh=>⟨λh0=>h _ _ _ (hh.1 h0),λi hi=>by
  have h1:=wpOp_mono (λa' w' h'=>azS h fuel _ a' w' h') (hh.2 i hi)
  unfold wpOp at h1 ⊢
  split
  .rename_i ho
   simpa [ho] using h1
  .rename_i o ho
   simp only[ho] at h1
   split
   .rename_i hw
    simp only[hw,ah] at h1
    exact h1.imp (aYl h) λg=>⟨g.1,g.2.imp λa hx=>hx.imp λw hx=>h _ _ _ hx⟩
   .rename_i hw
    simp only[hw] at h1
    exact h1⟩
theorem ayz(w:World){a b:Nat}(x y:Array Value)(h:a≠b):(w.setRow a x).setRow b y=(w.setRow b y).setRow a x:=by
 unfold World.setRow
 simp only[World.mk.injEq,dg,aaZ]
 refine Array.ext_getElem? λi=>?_
 simp only[aab]
 by_cases h1:b=i
 .subst h1
  simp[h]
 .by_cases h2:a=i
  .subst h2
   simp[bC h]
  .simp[h1,h2]
theorem aEq{E:En}(horc:EnSound P M0.G E){ops:Array Oper}(hdst:∀ (j:Nat) (o:Oper),ops[j]?=some o->ab2 N o=true){Q:Exit->Act->World->Prop}{q:Option X}{s':S}{k0:Know}
  (hQ:q=none->∀ tmps' w' k' ow' done',k0.le k'->Sim M0 k' ow' done' w0 w' N s' tmps'->Q .normal ⟨tmps',ds⟩ w')
  {m:Nat} {listed:Array Bool} {s:S} {w:World} {tmps:Array Value} {kn:Know} {ow:Own} {a b c n f g:Oper} (ha:ops[m]?=some a) (hb:ops[m+1]?=some b) (hc:ops[m+2]?=some c) (hn:ops[m+3]?=some n) (hf:ops[m+4]?=some f) (hg:ops[m+5]?=some g)
  (hun:∀ j,m<=j->j<ops.size->listed.getD j true=false) (hp:als a b c=true) (ht:aBb c n f g=true) (h6:six ops m listed=true) (hkn:k0.le kn) (hs:Sim M0 kn ow (λj=>listed.getD j true=true) w0 w N s tmps)
  (h:evT P (TT.of P) E ops m s true [a,b,c,n,f,g]=some (q,s')):wpAny P .any ops Q 6 listed ⟨tmps,ds⟩ w:=by
 have hsz:∀ j o,ops[j]?=some o->j<ops.size:=λj o ho=>(Array.getElem?_eq_some_iff.1 ho).1
 unfold evT at h
 simp only at h
 split at h
 rotate_left
 .cases h
 rename_i s1 h1
 obtain⟨ga,gb,gc,v1,w1,v2,gg,R,r1,r2,r3,hcd,hob,k1,ow1,q1,q2,q3,t0,e0,z0,n0,htok⟩:=aBv hs (ix:=m) (by rw[hun m (am _) (hsz _ _ ha)];simp) (hdst m a ha) (hdst _ b hb) hp h1
 unfold aBb at ht
 simp only[ar,aaU] at ht
 obtain⟨⟨⟨gn,gf⟩,gg0,hgd⟩,ht⟩:=ht
 split at ht
 rotate_left
 .cases ht
 rename_i x e t e1 fi e' ty e2 v' hno hnd hfo hfd hgo
 simp only[ar,dL] at ht
 obtain⟨⟨rfl,rfl⟩,hall⟩:=ht
 have hall':∀ y∈c.op.operands.toList,y≠.tmp e1/\y≠.tmp e2:=λy hy=>by
  have:=bo.1 hall y hy
  simp only[ar,adl,dv] at this
  exact⟨λh=>this.1 (by rw[h];rfl),λh=>this.2 (by rw[h];rfl)⟩
 have he1:e1<N:=ahI (hdst _ n hn) e1 hnd
 have he2:e2<N:=ahI (hdst _ f hf) e2 hfd
 generalize hA2:((⟨tmps,ds⟩ : Act).put a.dst v1).put b.dst v2=A2 at r3 q2 q3
 obtain⟨T2,D2⟩:=A2
 simp only at q2
 obtain rfl:ds=D2:=by have:=congrArg Act.defers q3;exact this.symm
 simp only[aaV] at h
 have hdE:∀ {o:Oper},(∃ x,o.op=.nilCheck x)\/(∃ t x i,o.op=.fieldAddr t x i)->dW o=o.dst:=λho=>adR (by
  rcases ho with ⟨x,ho⟩|⟨t,x,i,ho⟩ <;> rw[ho] <;> rfl)
 have hstn:∀ (s:S) (ix:Nat) r,bH P (TT.of P) E false ops s ix n=some r->∃ y,r=(none,s.put (some e1) y)/\s.ev x=y/\((∃ r o,y=.ptr r o)\/∃ cs,y=.of (.ref cs)):=λs ix r hr=>by
  unfold bH eV at hr
  rw[gn] at hr
  simp only[abl,ab,ap,hno,fO,val] at hr
  rw[hdE (.inl ⟨_,hno⟩),hnd] at hr
  split at hr
  rotate_left
  .cases hr
  rename_i y tk hv
  split at hr
  rotate_left
  .cases hr
  simp only[ae] at hr
  subst hr
  split at hv
  .rename_i r0 o0 hx
   obtain⟨rfl,rfl⟩:=fj hv
   exact⟨_,by rw[akH],hx,.inl ⟨_,_,rfl⟩⟩
  .rename_i cs hx
   obtain⟨rfl,rfl⟩:=fj hv
   exact⟨_,by rw[akH],hx,.inr ⟨_,rfl⟩⟩
  .cases hv
 have hstf:∀ (s:S) (ix:Nat) r,bH P (TT.of P) E false ops s ix f=some r->∃ y,r=(none,s.put (some e2) y)/\gu (TT.of P) t fi (s.ev (.tmp e1))=some (y,none):=λs ix r hr=>by
  unfold bH eV at hr
  rw[gf] at hr
  simp only[abl,ab,ap,hfo,fO,val] at hr
  rw[hdE (.inr ⟨_,_,_,hfo⟩),hfd] at hr
  split at hr
  rotate_left
  .cases hr
  rename_i y tk hv
  split at hr
  rotate_left
  .cases hr
  simp only[ae] at hr
  subst hr
  obtain⟨rfl,_⟩:=aj1 (ρ:=λt=>some t) hv
  exact⟨y,by rw[akH],hv⟩
 have hstg:∀ (s:S) (ix:Nat) r,(∀ tk z1 z2,s.ev (.tmp e2)≠.nw tk z1 z2)->bH P (TT.of P) E false ops s ix g=some r->∃ d r0 o0 xs s4,r=(none,s4)/\TT.of P ty=some d/\s.ev (.tmp e2)=.ptr r0 o0/\cJ (s.ev v')=some xs/\afx s none d.size r0 o0 xs=some s4:=λs ix r hnw hr=>by
  unfold bH eV at hr
  rw[gg0] at hr
  simp only[abl,ab,ap,hgo] at hr
  split at hr
  .rename_i tk z1 z2 hx
   exact absurd hx (hnw _ _ _)
  split at hr
  rotate_left
  .cases hr
  rename_i d r0 o0 xs hT hx hxs
  rw[hgd] at hr
  simp only[ay] at hr
  obtain⟨s4,h4,rfl⟩:=hr
  exact⟨d,r0,o0,xs,s4,rfl,hT,hx,hxs,h4⟩
 cases hr1:bH P (TT.of P) E false ops s1 (m+3) n with
 | none=>rw[hr1] at h;cases h
 | some p1 =>
 obtain⟨y1,rfl,hy1,hyc⟩:=hstn _ _ _ hr1
 rw[hr1] at h
 simp only at h
 cases hr2:bH P (TT.of P) E false ops (s1.put (some e1) y1) (m+3+1) f with
 | none=>rw[hr2] at h;cases h
 | some p2 =>
 obtain⟨y2,rfl,hy2⟩:=hstf _ _ _ hr2
 rw[hr2] at h
 simp only at h
 have hev1:(s1.put (some e1) y1).ev (.tmp e1)=y1:=by simp[S.ev,S.put,upd]
 rw[hev1] at hy2
 have hev2:((s1.put (some e1) y1).put (some e2) y2).ev (.tmp e2)=y2:=by simp[S.ev,S.put,upd]
 have hy2c:(∃ r o z,y1=.ptr r o/\y2=.ptr r (o+z))\/∃ cs,y2=.of (.ref cs):=by
  unfold gu at hy2
  split at hy2
  rotate_left
  .cases hy2
  split at hy2
  rotate_left
  .cases hy2
  split at hy2
  .exact .inl ⟨_,_,_,rfl,(fj hy2).1.symm⟩
  .exact .inr ⟨_,(fj hy2).1.symm⟩
  .cases hy2
 cases hr3:bH P (TT.of P) E false ops ((s1.put (some e1) y1).put (some e2) y2) (m+3+1+1) g with
 | none=>rw[hr3] at h;cases h
 | some p3 =>
 obtain⟨d,r0,o0,xs,s4,rfl,hT,hx3,hxs,h4⟩:=hstg _ _ _ (λtk z1 z2 he=>by
  rw[hev2] at he
  rcases hy2c with ⟨_,_,_,_,h'⟩|⟨_,h'⟩ <;> rw[h'] at he <;> cases he) hr3
 rw[hr3] at h
 simp only[bT] at h
 obtain⟨rfl,rfl⟩:=h
 rw[hev2] at hx3
 subst hx3
 rcases hy2c with ⟨ra,oa,z,rfl,hy⟩|⟨_,hy⟩
 rotate_left
 .cases hy
 simp only[X.ptr.injEq] at hy
 obtain⟨rfl,rfl⟩:=hy
 have hsT:T2.size=N:=q2.size
 have hav:=Sim.ev (ds:=ds) q2 x
 rw[hy1] at hav
 simp only[aL] at hav
 obtain⟨bl,hbl,hav⟩:=hav
 have q2n:=Sim.put (ds:=ds) q2 (some e1) (λj hj=>by cases hj;exact he1) (x:=.ptr r0 oa) (v:=.pointer (some ⟨bl,oa,none⟩)) (by simp only[aL];exact⟨bl,hbl,rfl⟩)
 have r4:∀ w',(execOp (⟨T2,ds⟩ : Act).eval n).run P w'=.ok (.value (.pointer (some ⟨bl,oa,none⟩))) w':=λw'=>by simp[execOp,hno,hav]
 have hfu:∀ w',(Instr.fieldAt t (.pointer (some ⟨bl,oa,none⟩)) fi).run P w'=.ok (.pointer (some ⟨bl,oa+z,none⟩)) w':=λw'=>by
  obtain⟨_,u,hu,hux⟩:=akF (P:=P) (w:=w') (k:=k1) (ow:=ow1) hy2 (v:=.pointer (some ⟨bl,oa,none⟩)) (by simp only[aL];exact⟨bl,hbl,rfl⟩)
  simp only[aL] at hux
  obtain⟨b',hb',rfl⟩:=hux
  obtain rfl:bl=b':=aG (hbl.symm.trans hb')
  exact hu
 have r5:∀ w',(execOp ((⟨T2,ds⟩ : Act).put (some e1) (.pointer (some ⟨bl,oa,none⟩))).eval f).run P w'=.ok (.value (.pointer (some ⟨bl,oa+z,none⟩))) w':=λw'=>by
  have e3:((⟨T2,ds⟩ : Act).put (some e1) (.pointer (some ⟨bl,oa,none⟩))).eval (.tmp e1)=.pointer (some ⟨bl,oa,none⟩):=aiy (by rw[hsT];exact he1)
  simp[execOp,hfo,e3,hfu w']
 have q2f:=Sim.put (ds:=ds) q2n (some e2) (λj hj=>by cases hj;exact he2) (x:=.ptr r0 (oa+z)) (v:=.pointer (some ⟨bl,oa+z,none⟩)) (by simp only[aL];exact⟨bl,hbl,rfl⟩)
 have hA4:(⟨((⟨((⟨T2,ds⟩ : Act).put (some e1) (.pointer (some ⟨bl,oa,none⟩))).tmps,ds⟩ : Act).put (some e2) (.pointer (some ⟨bl,oa+z,none⟩))).tmps,ds⟩ : Act)=(((⟨T2,ds⟩ : Act).put (some e1) (.pointer (some ⟨bl,oa,none⟩))).put (some e2) (.pointer (some ⟨bl,oa+z,none⟩))):=rfl
 generalize hA4e:(((⟨T2,ds⟩ : Act).put (some e1) (.pointer (some ⟨bl,oa,none⟩))).put (some e2) (.pointer (some ⟨bl,oa+z,none⟩)))=A4 at hA4
 have hA4p:A4.eval (.tmp e2)=.pointer (some ⟨bl,oa+z,none⟩):=by
  rw[← hA4e]
  exact aiy (tmps:=T2.setIfInBounds e1 _) (by rw[acm,hsT];exact he2)
 have r6:∃ R',bl≠gg/\∀ w',w'.heap[bl]?=w1.heap[bl]?->(execOp A4.eval g).run P w'=.ok .skip (w'.setRow bl R'):=by
  unfold afx at h4
  split at h4
  rotate_left
  .cases h4
  rename_i ty' ys hr
  split at h4
  rotate_left
  .cases h4
  rename_i hcd'
  have hne:bl≠gg:=by
   rintro rfl
   obtain⟨_,hk⟩:=q2f.tok _ _ _ _ _ htok
   exact ajv hr (λ_ _ e=>by cases e) ((hk bl hob).2.2 r0 hbl).1
  obtain⟨hl,h1⟩:=aeJ hxs (q2f.ev v')
  rw[hA4] at hl h1
  obtain⟨b',g1,g2,g3,g4,vs,hh,hone,hvs⟩:=q2f.obj r0 _ hr
  obtain rfl:bl=b':=aG (hbl.symm.trans g1)
  rw[setRow_other _ _ _ _ hne] at hh
  have ok:=TT.of_ok hT
  have hlen:=hl.length
  have hvl:=hvs.length
  have hfit:(oa+z)+0+(A4.eval v').cells.toList.length<=vs.toArray.size:=by
   simp only[dZ]
   omega
  have hsz2:(A4.eval v').cells.size=d.size:=by
   have:(A4.eval v').cells.toList.length=d.size:=by omega
   simpa using this
  refine⟨(vs.toArray.toList.take (oa+z+0)++(A4.eval v').cells.toList++vs.toArray.toList.drop (oa+z+0+(A4.eval v').cells.toList.length)).toArray,hne,λw' hw'=>?_⟩
  have hrun:=run_storeCells_at P bl (oa+z) ty' (A4.eval v').cells.toList 0 vs.toArray w' (hw'.trans hh) hfit h1
  simp[execOp,hgo,Instr.storeAt,hA4p,Instr.sureAddr,storeVar,ok.run_size,hsz2,hrun]
 obtain⟨R',hne,r6⟩:=r6
 have hfin:Q .normal A4 ((w1.setRow gg R).setRow bl R'):=by
  have hk:=aao (dr:=false) q2f horc (ix:=m+3+1+1) (by rw[hun _ aC (hsz _ _ hg)];simp;omega) (o:=g) hg (hdst _ g hg) hr3 (K:=λA w'=>∃ k' ow',k1.le k'/\Sim M0 k' ow' (λj=>(listed.getD j true=true\/j=m)\/j=m+3+1+1) w0 w' N s4 A.tmps/\A=⟨A.tmps,ds⟩) (Q:=λ_ _ _=>False) (λ_ tmps' w' k' ow' g1 g2=>⟨k',ow',g1,g2,rfl⟩) (λx hx=>by cases hx)
  rw[hA4] at hk
  unfold wpOp at hk
  have hg':ops[m+3+1+1]?=some g:=hg
  simp only[hg'] at hk
  rw[aE (by unfold Region.wanted;rw[gg0])] at hk
  rcases hk with hk|⟨_,_,_,hk⟩
  .unfold Oper.wp at hk
   rw[r6 _ (setRow_other _ _ _ _ hne)] at hk
   simp only[Oper.upon] at hk
   rw[hgd] at hk
   obtain⟨k',ow',g1,g2,g3⟩:=hk
   have:=hQ rfl _ _ k' ow' _ (Know.le_trans hkn (Know.le_trans q1 g1)) g2
   rw[← g3] at this
   exact this
  .exact hk.elim
 simp only[six,ar,dL] at h6
 obtain⟨⟨⟨⟨hns,hrd0⟩,⟨hf1,hc1⟩,hf2,hc2⟩,⟨⟨hf3,hc3⟩,hrd4⟩,hrd5,hrd6⟩,hrd7⟩:=h6
 refine wpAny_all hrd0 aT λi hi=>?_
 obtain rfl:=dt.1 hi
 unfold wpOp
 simp only[ha]
 rw[aE (by unfold Region.wanted;rw[ga])]
 refine .inl (acQ r1 ?_)
 refine azS (Q:=λe a w=>e=.normal/\Q .normal a w) (λe a w he=>by obtain⟨rfl,he⟩:=he;exact he) _ _ _ _ ?_
 refine wpAny_take hb hns hf1 hc1 (λc a w h=>by cases h.1) (.inl ⟨by unfold Region.wanted;rw[gb],r2⟩) ?_
 rw[hA2]
 refine wpAny_take hn hns hf2 hc2 (λc a w h=>by cases h.1) (.inl ⟨by unfold Region.wanted;rw[gn],r4⟩) ?_
 rw[hnd]
 refine wpAny_take hf hns hf3 hc3 (λc a w h=>by cases h.1) (.inl ⟨by unfold Region.wanted;rw[gf],r5⟩) ?_
 rw[hfd,hA4e]
 have r3':∀ w',w'.heap[gg]?=w1.heap[gg]?->(execOp A4.eval c).run P w'=.ok .skip (w'.setRow gg R):=λw' hw'=>r3 A4 w' (λy hy=>by
  rw[← hA4e]
  exact (agx (tmps:=T2.setIfInBounds e1 _) (hall' y hy).2).trans (agx (hall' y hy).1)) hw'
 refine wpAny_all hrd4 aT λi hi=>?_
 simp only[bQ,dH,aaj] at hi
 rcases hi with rfl|rfl
 .unfold wpOp
  simp only[hc]
  rw[aE (by unfold Region.wanted;rw[gc])]
  refine .inl ?_
  unfold Oper.wp
  rw[r3' _ rfl]
  simp only[Oper.upon]
  rw[hcd]
  refine wpAny_all hrd5 aT λi hi=>?_
  obtain rfl:=dt.1 hi
  unfold wpOp
  simp only[hg]
  rw[aE (by unfold Region.wanted;rw[gg0])]
  refine .inl ?_
  unfold Oper.wp
  rw[show A4.put none undef=A4 from rfl,r6 _ (setRow_other _ _ _ _ hne)]
  simp only[Oper.upon]
  rw[hgd]
  exact⟨hrd7,rfl,hfin⟩
 .unfold wpOp
  simp only[hg]
  rw[aE (by unfold Region.wanted;rw[gg0])]
  refine .inl ?_
  unfold Oper.wp
  rw[r6 _ rfl]
  simp only[Oper.upon]
  rw[hgd]
  refine wpAny_all hrd6 aT λi hi=>?_
  obtain rfl:=dt.1 hi
  unfold wpOp
  simp only[hc]
  rw[aE (by unfold Region.wanted;rw[gc])]
  refine .inl ?_
  unfold Oper.wp
  rw[show A4.put none undef=A4 from rfl,r3' _ (setRow_other _ _ _ _ (bC hne))]
  simp only[Oper.upon]
  rw[hcd]
  refine⟨?_,rfl,?_⟩
  .rw[fB _ _ aC];exact hrd7
  .rw[← ayz _ _ _ (bC hne)];exact hfin
end
def aEG{obj:Nat->Bool}{ops:Array Oper}{p:Pn}(h:alf obj ops=some p):aqF ops p=true:=by
 unfold alf at h
 split at h
 .rename_i hp
  obtain rfl:=aG h
  exact hp
 .cases h
section
variable {P:Program} {T:TT} {E:En} {ops:Array Oper} {R:Nat->Prop} {c:Option Nat}
theorem ass:∀ (l:List (Nat×Bool)) (D D':List Nat) (s s':S),evA P T E ops l D s=some (D',s')->(∀ x∈l,some x.1≠c/\(x.2=true->agw ops c x.1=true))->(∀ r,R r->r∉D')->ak6 P T E ops R c (l.map (·.1)) s none s'/\∀ r∈D,r∈D'
 | [],D,D',s,s',h,_,_=>by
  simp only[evA,bT] at h
  obtain⟨rfl,rfl⟩:=h
  exact⟨⟨rfl,rfl⟩,λ_ h=>h⟩
 | i::l,D,D',s,s',h,hne,hR=>by
  simp only[evA] at h
  split at h
  rotate_left
  .cases h
  rename_i o ho
  split at h
  rotate_left
  .cases h
  rename_i D1 hD
  split at h
  rotate_left
  .cases h
  rename_i s1 h1
  obtain⟨g1,g2⟩:=ass l (D1++D) D' s1 s' h (λj hj=>hne j (by simp[hj])) hR
  refine⟨⟨o,none,s1,ho,.inl ⟨(hne i aT).1,rfl,h1,λhf _=>?_⟩,λx hx=>(by cases hx),λ_=>g1⟩,λr hr=>g2 r (by simp[hr])⟩
  have hb:i.2=false:=by
   cases hb:i.2 with
   | false=>rfl
   | true=>rw[(hne i aT).2 hb] at hf;cases hf
  rw[hb] at hD
  exact⟨D1,hD,λr hr hRr=>hR r hRr (g2 r (by simp[hr]))⟩
theorem asu:∀ (l:List (Nat×Bool)) (D D':List Nat) (s s':S),evA P T E ops l D s=some (D',s')->(∀ x∈l,some x.1≠c/\aeY ops c x.1=true)->ak6 P T E ops R c (l.map (·.1)) s none s'
 | [],D,D',s,s',h,_=>by
  simp only[evA,bT] at h
  obtain⟨rfl,rfl⟩:=h
  exact⟨rfl,rfl⟩
 | i::l,D,D',s,s',h,hne=>by
  simp only[evA] at h
  split at h
  rotate_left
  .cases h
  rename_i o ho
  split at h
  rotate_left
  .cases h
  rename_i D1 hD
  split at h
  rotate_left
  .cases h
  rename_i s1 h1
  refine⟨o,none,s1,ho,.inl ⟨(hne i aT).1,rfl,h1,λ_ hw=>?_⟩,λx hx=>(by cases hx),λ_=>asu l (D1++D) D' s1 s' h (λj hj=>hne j (by simp[hj]))⟩
  rw[(hne i aT).2] at hw
  cases hw
end
theorem ao5{ops:Array Oper}(tl:List Nat):∀ (l:List Nat) (listed:Array Bool),agt ops (l++tl) listed=true->agt ops tl (l.foldl (λa i=>a.setIfInBounds i true) listed)=true
 | [],_,h=>h
 | i::l,listed,h=>by
  simp only[eI,agt,ar] at h
  exact ao5 tl l _ h.2
theorem axb:∀ (l:List Nat) (a:Array Bool) (j:Nat),j<a.size->(l.foldl (λa i=>a.setIfInBounds i true) a).getD j true=if j∈l then true else a.getD j true
 | [],a,j,_=>by simp
 | i::l,a,j,hj=>by
  rw[adE,axb l _ j (by simpa using hj)]
  by_cases h1:j∈l
  .rw[aE h1,aE (dR _ h1)]
  .rw[aA h1]
   by_cases h2:j=i
   .subst h2;rw[ahX,aE aT]
   .rw[getD_set_ne true (bC h2),aA (by simp[h1,h2])]
theorem atx:∀ (l:List Nat) (a:Array Bool),(l.foldl (λa i=>a.setIfInBounds i true) a).size=a.size
 | [],_=>rfl
 | i::l,a=>by rw[adE,atx l];simp
def aO0(l:List Nat)(a b:Array Bool)(hs:b.size=a.size)(h:∀ j,j<a.size->b.getD j true=if j∈l then true else a.getD j true):l.foldl (λa i=>a.setIfInBounds i true) a=b:=by
 refine Array.ext (by rw[atx,hs]) λj h1 h2=>?_
 have hj:j<a.size:=by rw[← hs];exact h2
 have e1:=axb l a j hj
 rw[← h j hj] at e1
 have e2:(l.foldl (λa i=>a.setIfInBounds i true) a).getD j true=(l.foldl (λa i=>a.setIfInBounds i true) a)[j]:=by simp[h1]
 have e3:b.getD j true=b[j]:=by simp[h2]
 rw[← e2,← e3]
 exact e1
theorem avK{α:Type}{a:α}:∀ (A B l1 l2:List α),a∉A->a∉B->A++a::B=l1++a::l2->l2=B
 | [],B,[],l2,_,_,h=>by simp only[db,gp] at h;exact h.2.symm
 | [],B,x::l1,l2,_,hB,h=>by
  simp only[db,eI,gp] at h
  exact absurd (by rw[h.2];simp) hB
 | x::A,B,[],l2,hA,_,h=>by
  simp only[aaW,gp] at h
  exact absurd (by rw[h.1];simp) hA
 | x::A,B,y::l1,l2,hA,hB,h=>by
  simp only[eI,gp] at h
  exact avK A B l1 l2 (λh'=>hA (by simp[h'])) hB h.2
section
variable {P:Program} {M0:Base} {w0:World} {N:Nat} {ds:List Deferred}
theorem aFS{E:En}(horc:EnSound P M0.G E){ops:Array Oper}(hdst:∀ (j:Nat) (o:Oper),ops[j]?=some o->ab2 N o=true){p:Pn}(hok:aqF ops p=true){s s':S}{q:Option X}{w:World}{tmps:Array Value}{k:Know}{ow:Own}
  (hs:Sim M0 k ow (λj=>(Array.replicate ops.size false).getD j true=true) w0 w N s tmps) (h:evP P (TT.of P) E ops p s=some (q,s')) {Q:Exit->Act->World->Prop}
  (hQ:q=none->∀ tmps' w' k' ow' done',k.le k'->Sim M0 k' ow' done' w0 w' N s' tmps'->Q .normal ⟨tmps',ds⟩ w')
  (hP:∀ x,q=some x->∀ v tmps' w' k' ow' done',k.le k'->Sim M0 k' ow' done' w0 w' N s' tmps'->aL k' ow' x v->Q (.panic [{v:=v,recovered:=false}]) ⟨tmps',ds⟩ w') :
  wpAny P .any ops Q ops.size (Array.replicate ops.size false) ⟨tmps,ds⟩ w:=by
 unfold aqF at hok
 simp only[ar,aR] at hok
 obtain⟨⟨⟨⟨hB,hF⟩,hm,hlen⟩,⟨hcov,hord⟩,hnc⟩,⟨hcb,hpre,hmid⟩,hpush⟩:=hok
 obtain⟨c,preB,midB,m,push⟩:=p
 simp only[Pn.ord] at hB hF hm hlen hcov hord hnc hcb hpre hmid hpush
 have hpre2:∀ x∈preB,(x.2=true->agw ops c x.1=true)/\(agw ops c x.1=true\/uAt ops x.1=true):=λx hx=>by
  have:=bo.1 hpre x hx
  simp only[ar,bD,df] at this
  exact⟨λh=>this.1.resolve_left (by rw[h];simp),this.2⟩
 have hmid2:∀ x∈midB,aeY ops c x.1=true:=λx hx=>by
  have:=bo.1 hmid x hx
  simp only[ar] at this
  exact this.2
 generalize hpreE:preB.map (·.1)=pre at hB hlen hcov hord hnc
 generalize hmidE:midB.map (·.1)=mid at hB hlen hcov hord hnc
 have hmem:∀ i,i∈pre++c.toList++mid↔i∈pre\/some i=c\/i∈mid:=λi=>by
  cases c with
  | none=>simp
  | some c=>simp[or_assoc,eq_comm]
 have hnc':∀ i,i∈pre\/i∈mid->some i≠c:=λi hi=>by
  have:=bo.1 hnc i (bS.2 hi)
  simpa using this
 have hcov':∀ i,i<m->i∈pre++c.toList++mid:=λi hi=>by
  have:=bo.1 hcov i (List.mem_range.2 hi)
  simpa using this
 have hord':∀ i∈pre++c.toList++mid,i<m/\aBj ops i=true:=λi hi=>by
  have:=bo.1 hord i hi
  simpa using this
 have hpl:PlOk ops c m pre mid:={
  cov:=λi hi=>(hmem i).1 (hcov' i hi)
  solo:=λi o hi ho hst=>by
   have:=(hord' i (hcov' i hi)).2
   unfold aBj at this
   rw[ho] at this
   simpa [hst] using this
  pre:=λi hi=>by
   rw[← hpreE] at hi
   obtain⟨x,hx,rfl⟩:=List.mem_map.1 hi
   exact (hpre2 x hx).2
  mid:=λi hi=>by
   rw[← hmidE] at hi
   obtain⟨x,hx,rfl⟩:=List.mem_map.1 hi
   exact hmid2 x hx}
 have hdc0:Dc ops (Array.replicate ops.size false):=λk o hk hl=>by
  have hks:k<ops.size:=(Array.getElem?_eq_some_iff.1 hk).1
  simp[hks] at hl
 have hun0:∀ j,j<ops.size->(Array.replicate ops.size false).getD j true=false:=λj hj=>by simp[hj]
 have hpos:∀ (l1 l2:List Nat) (i:Nat),pre++c.toList++mid=l1++i::l2->some i=c->∀ j∈l2,aeY ops c j=true:=λl1 l2 i he hc j hj=>by
  subst hc
  have:=avK pre mid l1 l2 (λh=>hnc' i (.inl h) rfl) (λh=>hnc' i (.inr h) rfl) (by rw[← he];simp)
  subst this
  exact hpl.mid j hj
 have main:∀ (R:Nat->Prop) (q0:Option X) (s2:S),ak6 P (TT.of P) E ops R c (pre++c.toList++mid) s q0 s2->(∀ x,q0=some x->q=some x/\s'=s2)->(q0=none->evT P (TT.of P) E ops m s2 push (ops.toList.drop m)=some (q,s')) ->
   wpAny P .any ops Q ops.size (Array.replicate ops.size false) ⟨tmps,ds⟩ w:=by
  intro R q0 s2 hrun hqp hqn
  have hany:=axZ (m:=m) (Qp:=λx t=>q=some x/\s'=t) (Qn:=λt=>evT P (TT.of P) E ops m t push (ops.toList.drop m)=some (q,s')) hpl ((List.range ops.size).drop m) _ (Array.replicate ops.size false) s q0 s2 hB hdc0 (λi hi=>(hord' i hi).1) (λj hj _=>hcov' j hj) hpos hrun hqn hqp
  have hfin:=arx (P:=P) (Q:=Q) (k0:=k) (n:=ops.size-m) horc hdst hF aC (λx t v tmps' w' k' ow' done' g1 g2 g3 g4=>by
    obtain⟨g2,rfl⟩:=g2
    exact hP x g2 v tmps' w' k' ow' done' g1 g3 g4) (λlisted t w' tmps' k' ow' g1 g2 g3 g4 gs g5 g6=>by
    have hB2:agt ops ((List.range ops.size).drop m) listed=true:=by
     have:=ao5 _ _ _ hB
     rwa [aO0 (pre++c.toList++mid) (Array.replicate ops.size false) listed (by simpa using gs) λj hj=>?_] at this
     have hj':j<ops.size:=by simpa using hj
     rcases av j m with g|g
     .rw[g3 j g,aE (hcov' j g)]
     .rw[g4 j g hj',aA (λh=>by have:=(hord' j h).1;omega),hun0 j hj']
    have hlt:listed=ajU ops.size m:=by
     refine Array.ext (by simp[ajU,gs]) λj h1 h2=>?_
     have hj:j<ops.size:=by rw[← gs];exact h1
     have e2:listed.getD j true=listed[j]:=by simp[h1]
     rw[← e2]
     rcases av j m with g|g
     .rw[g3 j g];simp[ajU,g]
     .rw[g4 j g hj];simp[ajU];omega
    have this:wpAny P .any ops Q (ops.toList.drop m).length listed ⟨tmps',ds⟩ w':=by
     cases push with
     | false =>
      refine avy horc hdst hpush (k0:=k) hQ hP (ops.toList.drop m) m listed t w' tmps' k' ow' (by simp;omega) aC (λj=>by rw[eX];simp) g3 g4 g5 hB2 g1 g6 ?_
      simpa [evT] using g2
     | true =>
      simp only[az2,ar] at hpush
      obtain⟨hph,h6⟩:=hpush
      rw[← hlt] at h6
      have hdr:∀ j,(ops.toList.drop m)[j]?=ops[m+j]?:=λj=>by rw[eX];simp
      generalize ops.toList.drop m=l at hph hdr g2 ⊢
      unfold awk at hph
      split at hph
      rotate_left
      .cases hph
      rename_i a b c n f g
      simp only[ar] at hph
      exact aEq horc hdst (k0:=k) hQ (a:=a) (b:=b) (c:=c) (n:=n) (f:=f) (g:=g) (by simpa using (hdr 0).symm) (by simpa using (hdr 1).symm) (by simpa using (hdr 2).symm) (by simpa using (hdr 3).symm) (by simpa using (hdr 4).symm) (by simpa using (hdr 5).symm) g4 hph.1 hph.2 h6 g1 g6 g2
    simpa using this) _ (Array.replicate ops.size false) s w tmps k ow (Know.le_refl k) hs aT hdc0 (λj _ hj=>hun0 j hj) hany
  rw[hlen,show m+(ops.size-m)=ops.size by omega] at hfin
  exact hfin
 unfold evP at h
 simp only at h
 split at h
 rotate_left
 .cases h
 rename_i D s1 h1
 cases c with
 | none =>
  simp only[amu] at h
  split at h
  rotate_left
  .cases h
  rename_i D2 s3 h3
  have r1:=(ass (R:=λ_=>False) (c:=none) preB [] D s s1 h1 (λx hx=>⟨by simp,λ_=>rfl⟩) (λr hr=>hr.elim)).1
  rw[hpreE] at r1
  have r2:=asu (R:=λ_=>False) (c:=none) midB [] D2 s1 s3 h3 (λx hx=>⟨by simp,hmid2 x hx⟩)
  rw[hmidE] at r2
  exact main (λ_=>False) none s3 (by simpa using aip pre mid s none s1 s3 r1 r2) (λx hx=>by cases hx) (λ_=>h)
 | some c =>
  have hbare:=bo.1 hcb c aT
  simp only[amu] at h
  cases ho:ops[c]? with
  | none=>rw[ho] at h;cases h
  | some o =>
   rw[ho] at h
   simp only at h
   by_cases hclk:aDc E.obj E.tk s1 D o.op=true
   .rw[aE hclk] at h
    have hgn:o.guard=none:=by
     unfold aGr at hbare
     rw[ho] at hbare
     simpa using hbare
    obtain⟨g,us,hca,hno⟩:=aF4 (P:=P) hgn hclk
    rw[az3 hca] at h
    have r1:=(ass (R:=λr=>r∈fE s1.objs 999 (X.refsL us) []) (c:=some c) preB [] D s s1 h1 (λx hx=>⟨hnc' x.1 (.inl (by rw[← hpreE];exact List.mem_map.2 ⟨x,hx,rfl⟩)),(hpre2 x hx).1⟩) (λr hr=>hno r hr)).1
    rw[hpreE] at r1
    cases hcq:aiJ (callS P E s1 c o.dst g us) with
    | none=>rw[hcq] at h;cases h
    | some pq =>
     obtain⟨q0,s2⟩:=pq
     rw[hcq] at h
     have hst:StP P (TT.of P) E ops (λr=>r∈fE s1.objs 999 (X.refsL us) []) (some c) s1 c o q0 s2:=.inr ⟨rfl,g,us,hca,λr hr=>hr,hcq⟩
     cases q0 with
     | some x =>
      simp only[bT] at h
      obtain⟨rfl,rfl⟩:=h
      refine main (λr=>r∈fE s1.objs 999 (X.refsL us) []) (some x) s2 ?_ (λy hy=>⟨hy,rfl⟩) (λhe=>by cases he)
      have:ak6 P (TT.of P) E ops (λr=>r∈fE s1.objs 999 (X.refsL us) []) (some c) (c::mid) s1 (some x) s2:=⟨o,some x,s2,ho,hst,λy hy=>⟨hy,rfl⟩,λhe=>(by cases he)⟩
      simpa using aip pre (c::mid) s (some x) s1 s2 r1 this
     | none =>
      simp only at h
      split at h
      rotate_left
      .cases h
      rename_i D2 s3 h3
      have r2:=asu (R:=λr=>r∈fE s1.objs 999 (X.refsL us) []) (c:=some c) midB [] D2 s2 s3 h3 (λx hx=>⟨hnc' x.1 (.inr (by rw[← hmidE];exact List.mem_map.2 ⟨x,hx,rfl⟩)),hmid2 x hx⟩)
      rw[hmidE] at r2
      have:ak6 P (TT.of P) E ops (λr=>r∈fE s1.objs 999 (X.refsL us) []) (some c) (c::mid) s1 none s3:=⟨o,none,s2,ho,hst,λy hy=>(by cases hy),λ_=>r2⟩
      exact main (λr=>r∈fE s1.objs 999 (X.refsL us) []) none s3 (by simpa using aip pre (c::mid) s none s1 s3 r1 this) (λx hx=>by cases hx) (λ_=>h)
   .rw[aA hclk] at h;cases h
end
section
variable {P:Program} {M0:Base} {w0:World} {N:Nat} {ds:List Deferred}
theorem am5(hm:P.follows .mixedOrders=true){E:En}(horc:EnSound P M0.G E){id:Nat}{ops:Array Oper}{draw:Bool}(hok:aBM E.mt N ops draw=true){s:S}{q:Option X}{s':S}{w:World}{tmps:Array Value}{k:Know}{ow:Own}
  (hs:Sim M0 k ow (λ_=>False) w0 w N s tmps) (h:evR P (TT.of P) E draw ops s=some (q,s')) {Q:Exit->Act->World->Prop}
  (hQ:q=none->∀ tmps' w' k' ow',k.le k'->Sim M0 k' ow' (λ_=>False) w0 w' N {s' with clk:=s'.clk+1} tmps'->Q .normal ⟨tmps',ds⟩ w')
  (hP:∀ x,q=some x->∀ v tmps' w' k' ow',k.le k'->Sim M0 k' ow' (λ_=>False) w0 w' N {s' with clk:=s'.clk+1} tmps'->aL k' ow' x v->Q (.panic [{v:=v,recovered:=false}]) ⟨tmps',ds⟩ w'):(Code.region id ops draw).wp P Q ⟨tmps,ds⟩ w:=by
 unfold aBM at hok
 simp only[ar,bD,df] at hok
 obtain⟨hd,hok⟩:=hok
 have hdst:∀ o∈ops.toList,ab2 N o=true:=λo ho=>by
  rw[Array.all_eq_true_iff_forall_mem] at hd
  exact hd o (by simpa using ho)
 cases draw with
 | false =>
  have h:aaV P (TT.of P) E false ops 0 ops.toList s=some (q,s'):=by simpa [evR] using h
  refine wp_region ?_
  rw[List.range_eq_range',← eL]
  exact ao7 horc ops.toList 0 s w tmps k ow _ aT hdst (λj hj=>hj.elim) hs h (λhe tmps' w' k' ow' done' g1 g2=>hQ he tmps' w' k' ow' g1 g2.tick) (λx he v tmps' w' k' ow' done' g1 g2 g3=>hP x he v tmps' w' k' ow' g1 g2.tick g3)
 | true =>
  simp only[acv,ahu] at hok
  have hb:Below w.heap.size w {w with drawn:=w.drawn+1}:=⟨rfl,rfl,rfl,am _,λ_ _=>rfl⟩
  have h2:=(hs.grow hb).more (done':=λj=>(Array.replicate ops.size false).getD j true=true) (λ_ h=>h.elim)
  have hd':∀ (j:Nat) (o:Oper),ops[j]?=some o->ab2 N o=true:=λj o ho=>hdst o (by simpa using Array.mem_of_getElem? ho)
  unfold evR at h
  simp only[bR] at h
  by_cases hpl:plB E.mt ops.toList=true
  .rw[aE hpl] at h
   unfold axp at h
   split at h
   rotate_left
   .cases h
   rename_i p hpo
   refine wp_region_any hm ?_
   exact aFS horc hd' (aEG hpo) (h2.more λj hj=>hj) h (λhe tmps' w' k' ow' done' g1 g2=>hQ he tmps' w' k' ow' g1 g2.tick) (λx he v tmps' w' k' ow' done' g1 g2 g3=>hP x he v tmps' w' k' ow' g1 g2.tick g3)
  rw[aA hpl] at h
  obtain⟨⟨hlex,hfed,hlk⟩,hok⟩:=hok.resolve_left hpl
  unfold Region.lexB at hlex
  simp only[ar] at hlex
  by_cases htl:tlB ops.toList=true
  .rw[aE htl] at h hok
   have hdc:Dc ops (Array.replicate ops.size false):=λk o hk hl=>by
    have hks:k<ops.size:=(Array.getElem?_eq_some_iff.1 hk).1
    simp[hks] at hl
   obtain⟨rfl,h1⟩:=axY (P:=P) (T:=TT.of P) (E:=E) (Q:=λt=>t=s') hok (aNL _ htl) ops.toList 0 (Array.replicate ops.size false) s s' q aT aT hdc (by simpa using hlex.2) h rfl
   refine wp_region_any hm ?_
   have h3:=amz (m:=2) (P:=P) horc hd' (Q:=Q) (Qs:=λt=>t=s') (k0:=k) (λt tmps' w' k' ow' done' g1 g2 g3=>by subst g2;exact hQ rfl tmps' w' k' ow' g1 g3.tick) _ _ s _ tmps k ow (Know.le_refl k) h2 h1
   simpa using h3
  rw[aA htl] at h
  simp only[htl,ab,ap,ar,bD,df] at hok
  obtain⟨hS,hfd⟩:=hok
  by_cases htn:(!(acr E.obj ops.toList == 0))=true
  .rw[aE htn] at h
   have hne:acr E.obj ops.toList≠0:=by simpa using htn
   rw[amV _ hne] at hfed
   simp only[ay,bh] at h
   obtain⟨t,ht,rfl,rfl⟩:=h
   have hst:=avz _ _ hne
   have hdc:Dc ops (Array.replicate ops.size false):=λk o hk hl=>by
    have hks:k<ops.size:=(Array.getElem?_eq_some_iff.1 hk).1
    simp[hks] at hl
   have h1:=ax0 (P:=P) (T:=TT.of P) (E:=E) (Q:=λu=>u=t) hfed hlk (alQ hS hst) ops.toList 0 false (Array.replicate ops.size false) s t aT aT hdc (λj hj=>absurd hj aC) (by simpa using hlex.2) ht rfl
   refine wp_region_any hm ?_
   have h3:=ary (P:=P) horc hd' (Q:=Q) (Qs:=λu=>u=t) (k0:=k) (λt tmps' w' k' ow' done' g1 g2 g3=>by subst g2;exact hQ rfl tmps' w' k' ow' g1 g3.tick) _ _ s _ tmps k ow (Know.le_refl k) h2 h1
   simpa using h3
  rw[aA htn] at h
  split at h
  .rename_i hsp
   unfold amr at h
   split at h
   .rename_i hst
    have hfeed:anx ops=true:=by
     rcases hfd with h'|h'
     .rw[hst] at h';cases h'
     .exact h'
    have hdc:Dc ops (Array.replicate ops.size false):=λk o hk hl=>by
     have hks:k<ops.size:=(Array.getElem?_eq_some_iff.1 hk).1
     simp[hks] at hl
    obtain⟨rfl,h1⟩:=ax2 (P:=P) (T:=TT.of P) (E:=E) (Q:=λt=>t=s') hfeed hS hst ops.toList 0 (Array.replicate ops.size false) s s' q aT aT hdc (by simpa using hlex.2) h rfl
    refine wp_region_any hm ?_
    have h3:=amz (m:=1) (P:=P) horc hd' (Q:=Q) (Qs:=λt=>t=s') (k0:=k) (λt tmps' w' k' ow' done' g1 g2 g3=>by subst g2;exact hQ rfl tmps' w' k' ow' g1 g3.tick) _ _ s _ tmps k ow (Know.le_refl k) h2 h1
    simpa using h3
   .rename_i hst
    have hst:aaO ops.toList=false:=by simpa using hst
    have hmk:aib E.obj ops.toList=true:=by
     unfold spB at hsp
     rw[hst,aH] at hsp
     exact hsp
    split at h
    rotate_left
    .cases h
    rename_i o r hl
    split at h
    rotate_left
    .cases h
    rename_i s1 hm1
    obtain rfl:=amt _ _ _ _ _ h
    rw[hl] at hmk
    simp only[aib] at hmk
    have hsz:ops.size=r.length+1:=by rw[← eL,hl];rfl
    have h0:ops[0]?=some o:=by
     have:ops.toList[0]?=some o:=by rw[hl];rfl
     simpa using this
    have hlex2:=hlex.2
    rw[hsz] at hlex2
    unfold Region.lexFrom at hlex2
    simp only[ar] at hlex2
    obtain⟨⟨hr,hfr⟩,hB'⟩:=hlex2
    refine wp_region_any hm ?_
    have h1:=ap6 (P:=P) (T:=TT.of P) (E:=E) (Q:=λt=>t=s') (alQ hS hst) r 1 ((Array.replicate (r.length+1) false).setIfInBounds 0 true) s1 s' (λj=>by
     have:ops.toList[1+j]?=r[j]?:=by rw[hl,fw,gA]
     rw[← this];simp) (by simpa using hB') h rfl
    rw[hsz] at h2 ⊢
    exact aIk (P:=P) horc (alQ hS hst) hd' (Q:=Q) (Qs:=λt=>t=s') (k0:=k) (λt tmps' w' k' ow' done' g1 g2 g3=>by subst g2;exact hQ rfl tmps' w' k' ow' g1 g3.tick) h0 hmk r.length _ s s1 _ tmps k ow (Know.le_refl k) h2 (Region.free_spec h0 hfr) (by simpa using hr) hm1 h1
  .rename_i hsp
   have hst:aaO ops.toList=false:=by
    unfold spB at hsp
    cases h':aaO ops.toList with
    | false=>rfl
    | true=>rw[h',aY] at hsp;exact absurd rfl hsp
   obtain rfl:=amt _ _ _ _ _ h
   refine wp_region_any hm ?_
   have h1:=ap6 (P:=P) (T:=TT.of P) (E:=E) (Q:=λt=>t=s') (alQ hS hst) ops.toList 0 (Array.replicate ops.size false) s s' aT (by simpa using hlex.2) h rfl
   have h3:=ajo (P:=P) horc hd' (Q:=Q) (Qs:=λt=>t=s') (k0:=k) (λt tmps' w' k' ow' done' g1 g2 g3=>by subst g2;exact hQ rfl tmps' w' k' ow' g1 g3.tick) _ _ s _ tmps k ow (Know.le_refl k) h2 h1
   simpa using h3
end
