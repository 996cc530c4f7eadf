/-
  The facts of this seat's translation that the evaluator wants: its types, its functions' bodies. Written by program. Conditions: none.
-/
import Derived.Test.YtemdljoideegeaaGreatDoorPa7
import Derived.Test.YtemdljoideegeaaGreatDoorProg
import Derived.KernelRfl
set_option linter.defProp false
set_option linter.unusedSectionVars false
set_option maxRecDepth 100000
set_option maxHeartbeats 64000000
namespace Go.Proofs.YtemdljoideegeaaGreatDoor
open Go Go.Pe
def FnI (P:Program) (f:Nat) (fn:Func):Prop:=aDL P f=true∧P.funcs[f]?=some fn
def bh (f:Nat):Bool:=[47,46,49,166,48,18,24,28,35,36,37,38,39,40,43,44,64,65,67,70,71,81,82,83,84,85,149,150,19,42,119,151,152,153,174,175,41,63,66,69,121,122,86,58].contains f
def tkF (f:Nat):Bool:=[58].contains f
def frG {T:TT} {t:Nat} {d:TD} (h:T t=some d) (j o z:Nat) (g:d.fields[j]?=some (o,z+1)) (cs:List C):abl T t j (.of (.ref cs))=Pe.out (.of (.ref (cs.drop o))):=by simp only [abl,aiL,h,dG,g];rfl
def faG {T:TT} {t:Nat} {d:TD} (h:T t=some d) (j o z:Nat) (g:d.fields[j]?=some (o,z+1)) (r a:Nat):abl T t j (.ptr r a)=Pe.out (.ptr r (a+o)):=by simp only [abl,aiL,h,dG,g];rfl
def fxG {T:TT} {t:Nat} {d:TD} (h:T t=some d) (j o z u:Nat) (g:d.fields[j]?=some (o,z)) (k:anf d.und j=some u) (xs:List X):afz T t j (.agg xs)=dE (gX T u (xs.drop o)):=by simp only [afz,h,g,k]
def fcG {T:TT} {t:Nat} {d:TD} (h:T t=some d) (j o z u:Nat) (g:d.fields[j]?=some (o,z)) (k:anf d.und j=some u) (cs:List C):afz T t j (.of (.agg cs))=dE ((cC T u (cs.drop o)).map .of):=by simp only [afz,h,g,k]
def EG {T:TT} {t e a b:Nat} {f:Bool} {z:List Value} {q:List (Nat×Nat)} {d:TD} (h:T t=some ⟨.slice e,a,b,f,z,q⟩) (g:T e=some d):Pe.elemOf T t=some (e,d):=by simp only [Pe.elemOf,h,g,bH]
def UG {T:TT} {t a b:Nat} {y:TypeDesc} {f:Bool} {z:List Value} {q:List (Nat×Nat)} (h:T t=some ⟨y,a,b,f,z,q⟩):(T t).map (·.und)=some y:=by rw[h];rfl
def T3:TT.of Tryz.prog 3=some ⟨.int .i64,1,8,false,[.int .i64 0],[]⟩:=by kernel_rfl
def T4:TT.of Tryz.prog 4=some ⟨.bool,1,1,false,[.bool false],[]⟩:=by kernel_rfl
def T5:TT.of Tryz.prog 5=some ⟨.int .u8,1,1,false,[.int .u8 0],[]⟩:=by kernel_rfl
def T9:TT.of Tryz.prog 9=some ⟨.string,1,16,false,[.string ⟨#[]⟩],[]⟩:=by kernel_rfl
def T22:TT.of Tryz.prog 22=some ⟨.slice 56,1,24,false,[.slice none 0 0],[]⟩:=by kernel_rfl
def T23:TT.of Tryz.prog 23=some ⟨.slice 9,1,24,false,[.slice none 0 0],[]⟩:=by kernel_rfl
def T24:TT.of Tryz.prog 24=some ⟨.slice 58,1,24,false,[.slice none 0 0],[]⟩:=by kernel_rfl
def T25:TT.of Tryz.prog 25=some ⟨.slice 145,1,24,false,[.slice none 0 0],[]⟩:=by kernel_rfl
def T26:TT.of Tryz.prog 26=some ⟨.slice 45,1,24,false,[.slice none 0 0],[]⟩:=by kernel_rfl
def T27:TT.of Tryz.prog 27=some ⟨.slice 26,1,24,false,[.slice none 0 0],[]⟩:=by kernel_rfl
def T28:TT.of Tryz.prog 28=some ⟨.slice 54,1,24,false,[.slice none 0 0],[]⟩:=by kernel_rfl
def T29:TT.of Tryz.prog 29=some ⟨.slice 41,1,24,false,[.slice none 0 0],[]⟩:=by kernel_rfl
def T31:TT.of Tryz.prog 31=some ⟨.struct #[⟨ "Kind",3,0,false,"","",0⟩,⟨ "Table",9,1,false,"","",8⟩,⟨ "Name",9,2,false,"","",24⟩,⟨ "Cols",22,3,false,"","",40⟩,⟨ "Names",23,4,false,"","",64⟩,⟨ "Unique",4,5,false,"","",88⟩,⟨ "Keys",24,6,false,"","",96⟩,⟨ "Refs",25,7,false,"","",120⟩,⟨ "Checks",26,8,false,"","",144⟩,⟨ "Rows",27,9,false,"","",168⟩,⟨ "Sets",28,10,false,"","",192⟩,⟨ "Where",26,11,false,"","",216⟩,⟨ "Q",29,12,false,"","",240⟩],13,264,true,[.int .i64 0,.string ⟨#[]⟩,.string ⟨#[]⟩,.slice none 0 0,.slice none 0 0,.bool false,.slice none 0 0,.slice none 0 0,.slice none 0 0,.slice none 0 0,.slice none 0 0,.slice none 0 0,.slice none 0 0],[(0,1),(1,1),(2,1),(3,1),(4,1),(5,1),(6,1),(7,1),(8,1),(9,1),(10,1),(11,1),(12,1)]⟩:=by kernel_rfl
def T34:TT.of Tryz.prog 34=some ⟨.int .i64,1,8,false,[.int .i64 0],[]⟩:=by kernel_rfl
def T37:TT.of Tryz.prog 37=some ⟨.slice 60,1,24,false,[.slice none 0 0],[]⟩:=by kernel_rfl
def T38:TT.of Tryz.prog 38=some ⟨.slice 62,1,24,false,[.slice none 0 0],[]⟩:=by kernel_rfl
def T39:TT.of Tryz.prog 39=some ⟨.slice 64,1,24,false,[.slice none 0 0],[]⟩:=by kernel_rfl
def T41:TT.of Tryz.prog 41=some ⟨.struct #[⟨ "Op",3,0,false,"","",0⟩,⟨ "All",4,1,false,"","",8⟩,⟨ "Kids",29,2,false,"","",16⟩,⟨ "Distinct",4,3,false,"","",40⟩,⟨ "Items",37,4,false,"","",48⟩,⟨ "From",38,5,false,"","",72⟩,⟨ "Where",26,6,false,"","",96⟩,⟨ "Group",26,7,false,"","",120⟩,⟨ "Having",26,8,false,"","",144⟩,⟨ "Order",39,9,false,"","",168⟩,⟨ "Limit",3,10,false,"","",192⟩,⟨ "Skip",3,11,false,"","",200⟩],12,208,true,[.int .i64 0,.bool false,.slice none 0 0,.bool false,.slice none 0 0,.slice none 0 0,.slice none 0 0,.slice none 0 0,.slice none 0 0,.slice none 0 0,.int .i64 0,.int .i64 0],[(0,1),(1,1),(2,1),(3,1),(4,1),(5,1),(6,1),(7,1),(8,1),(9,1),(10,1),(11,1)]⟩:=by kernel_rfl
def T43:TT.of Tryz.prog 43=some ⟨.struct #[⟨ "Kind",3,0,false,"","",0⟩,⟨ "N",3,1,false,"","",8⟩,⟨ "S",9,2,false,"","",16⟩],3,32,true,[.int .i64 0,.int .i64 0,.string ⟨#[]⟩],[(0,1),(1,1),(2,1)]⟩:=by kernel_rfl
def T45:TT.of Tryz.prog 45=some ⟨.struct #[⟨ "Op",3,0,false,"","",0⟩,⟨ "V",43,1,false,"","",8⟩,⟨ "Table",9,4,false,"","",40⟩,⟨ "Name",9,5,false,"","",56⟩,⟨ "Distinct",4,6,false,"","",72⟩,⟨ "Kids",26,7,false,"","",80⟩,⟨ "Sub",29,8,false,"","",104⟩],9,128,true,[.int .i64 0,.int .i64 0,.int .i64 0,.string ⟨#[]⟩,.string ⟨#[]⟩,.string ⟨#[]⟩,.bool false,.slice none 0 0,.slice none 0 0],[(0,1),(1,3),(4,1),(5,1),(6,1),(7,1),(8,1)]⟩:=by kernel_rfl
def T54:TT.of Tryz.prog 54=some ⟨.struct #[⟨ "Name",9,0,false,"","",0⟩,⟨ "E",45,1,false,"","",16⟩],10,144,true,[.string ⟨#[]⟩,.int .i64 0,.int .i64 0,.int .i64 0,.string ⟨#[]⟩,.string ⟨#[]⟩,.string ⟨#[]⟩,.bool false,.slice none 0 0,.slice none 0 0],[(0,1),(1,9)]⟩:=by kernel_rfl
def T56:TT.of Tryz.prog 56=some ⟨.struct #[⟨ "Name",9,0,false,"","",0⟩,⟨ "Type",3,1,false,"","",16⟩,⟨ "NotNull",4,2,false,"","",24⟩],3,32,true,[.string ⟨#[]⟩,.int .i64 0,.bool false],[(0,1),(1,1),(2,1)]⟩:=by kernel_rfl
def T58:TT.of Tryz.prog 58=some ⟨.struct #[⟨ "Primary",4,0,false,"","",0⟩,⟨ "Names",23,1,false,"","",8⟩],2,32,true,[.bool false,.slice none 0 0],[(0,1),(1,1)]⟩:=by kernel_rfl
def T60:TT.of Tryz.prog 60=some ⟨.struct #[⟨ "Star",4,0,false,"","",0⟩,⟨ "Table",9,1,false,"","",8⟩,⟨ "E",45,2,false,"","",24⟩,⟨ "As",9,11,false,"","",152⟩],12,168,true,[.bool false,.string ⟨#[]⟩,.int .i64 0,.int .i64 0,.int .i64 0,.string ⟨#[]⟩,.string ⟨#[]⟩,.string ⟨#[]⟩,.bool false,.slice none 0 0,.slice none 0 0,.string ⟨#[]⟩],[(0,1),(1,1),(2,9),(11,1)]⟩:=by kernel_rfl
def T62:TT.of Tryz.prog 62=some ⟨.struct #[⟨ "Kind",3,0,false,"","",0⟩,⟨ "Name",9,1,false,"","",8⟩,⟨ "As",9,2,false,"","",24⟩,⟨ "Sub",29,3,false,"","",40⟩,⟨ "Kids",38,4,false,"","",64⟩,⟨ "On",26,5,false,"","",88⟩],6,112,true,[.int .i64 0,.string ⟨#[]⟩,.string ⟨#[]⟩,.slice none 0 0,.slice none 0 0,.slice none 0 0],[(0,1),(1,1),(2,1),(3,1),(4,1),(5,1)]⟩:=by kernel_rfl
def T64:TT.of Tryz.prog 64=some ⟨.struct #[⟨ "Name",9,0,false,"","",0⟩,⟨ "At",3,1,false,"","",16⟩,⟨ "Down",4,2,false,"","",24⟩],3,32,true,[.string ⟨#[]⟩,.int .i64 0,.bool false],[(0,1),(1,1),(2,1)]⟩:=by kernel_rfl
def T65:TT.of Tryz.prog 65=some ⟨.pointer 67,1,8,false,[.pointer none],[]⟩:=by kernel_rfl
def T67:TT.of Tryz.prog 67=some ⟨.struct #[⟨ "tokens",23,0,false,"","tabellion/print",0⟩],1,24,true,[.slice none 0 0],[(0,1)]⟩:=by kernel_rfl
def T72:TT.of Tryz.prog 72=some ⟨.func #[41] #[4] false,1,8,false,[.nilFunc],[]⟩:=by kernel_rfl
def T75:TT.of Tryz.prog 75=some ⟨.func #[45] #[4] false,1,8,false,[.nilFunc],[]⟩:=by kernel_rfl
def T80:TT.of Tryz.prog 80=some ⟨.struct #[⟨ "nodes",3,0,false,"","tabellion/syntax",0⟩,⟨ "depth",3,1,false,"","tabellion/syntax",8⟩],2,16,true,[.int .i64 0,.int .i64 0],[(0,1),(1,1)]⟩:=by kernel_rfl
def T89:TT.of Tryz.prog 89=some ⟨.map 3 9,1,8,false,[.map none],[]⟩:=by kernel_rfl
def T91:TT.of Tryz.prog 91=some ⟨.slice 5,1,24,false,[.slice none 0 0],[]⟩:=by kernel_rfl
def T93:TT.of Tryz.prog 93=some ⟨.struct #[⟨ "addr",90,0,false,"","strings",0⟩,⟨ "buf",91,1,false,"","strings",8⟩],2,32,true,[.pointer none,.slice none 0 0],[(0,1),(1,1)]⟩:=by kernel_rfl
def aEL:TT.of Tryz.prog 104=some ⟨.struct #[⟨ "Nodes",3,0,false,"","",0⟩,⟨ "Deep",3,1,false,"","",8⟩],2,16,true,[.int .i64 0,.int .i64 0],[(0,1),(1,1)]⟩:=by kernel_rfl
def a0l:TT.of Tryz.prog 138=some ⟨.func #[9] #[4] false,1,8,false,[.nilFunc],[]⟩:=by kernel_rfl
def a0k:TT.of Tryz.prog 140=some ⟨.func #[56] #[4] false,1,8,false,[.nilFunc],[]⟩:=by kernel_rfl
def a0j:TT.of Tryz.prog 142=some ⟨.func #[58] #[4] false,1,8,false,[.nilFunc],[]⟩:=by kernel_rfl
def ara:TT.of Tryz.prog 145=some ⟨.struct #[⟨ "Names",23,0,false,"","",0⟩,⟨ "Table",9,1,false,"","",24⟩,⟨ "To",23,2,false,"","",40⟩],3,64,true,[.slice none 0 0,.string ⟨#[]⟩,.slice none 0 0],[(0,1),(1,1),(2,1)]⟩:=by kernel_rfl
def a0i:TT.of Tryz.prog 146=some ⟨.func #[145] #[4] false,1,8,false,[.nilFunc],[]⟩:=by kernel_rfl
def a0h:TT.of Tryz.prog 151=some ⟨.func #[26] #[4] false,1,8,false,[.nilFunc],[]⟩:=by kernel_rfl
def a0g:TT.of Tryz.prog 153=some ⟨.func #[54] #[4] false,1,8,false,[.nilFunc],[]⟩:=by kernel_rfl
def a7s:TT.of Tryz.prog 155=some ⟨.array 4 9,4,64,true,[.string ⟨#[]⟩,.string ⟨#[]⟩,.string ⟨#[]⟩,.string ⟨#[]⟩],[]⟩:=by kernel_rfl
def a0f:TT.of Tryz.prog 173=some ⟨.func #[64] #[4] false,1,8,false,[.nilFunc],[]⟩:=by kernel_rfl
def a0e:TT.of Tryz.prog 175=some ⟨.func #[60] #[4] false,1,8,false,[.nilFunc],[]⟩:=by kernel_rfl
def a0d:TT.of Tryz.prog 177=some ⟨.func #[62] #[4] false,1,8,false,[.nilFunc],[]⟩:=by kernel_rfl
def a7r:TT.of Tryz.prog 179=some ⟨.map 3 23,1,8,false,[.map none],[]⟩:=by kernel_rfl
def a7q:TT.of Tryz.prog 180=some ⟨.map 3 3,1,8,false,[.map none],[]⟩:=by kernel_rfl
def aEK:TT.of Tryz.prog 190=some ⟨.struct #[⟨ "least",3,0,false,"","tabellion/syntax",0⟩,⟨ "most",3,1,false,"","tabellion/syntax",8⟩,⟨ "subs",3,2,false,"","tabellion/syntax",16⟩],3,24,true,[.int .i64 0,.int .i64 0,.int .i64 0],[(0,1),(1,1),(2,1)]⟩:=by kernel_rfl
def a7p:TT.of Tryz.prog 192=some ⟨.map 3 190,1,8,false,[.map none],[]⟩:=by kernel_rfl
def aEJ:TT.of Tryz.prog 224=some ⟨.slice 4,1,24,false,[.slice none 0 0],[]⟩:=by kernel_rfl
def a0c:TT.of Tryz.prog 229=some ⟨.slice 3,1,24,false,[.slice none 0 0],[]⟩:=by kernel_rfl
def U3:=UG T3
def Q3 (x:C) (xs:List C):cC (TT.of Tryz.prog) 3 (x::xs)=some x:=by simp only[cC,T3];rfl
def P4 (x:X) (xs:List X):gX (TT.of Tryz.prog) 4 (x::xs)=some x:=by simp only[gX,T4];rfl
def Q4 (x:C) (xs:List C):cC (TT.of Tryz.prog) 4 (x::xs)=some x:=by simp only[cC,T4];rfl
def Q5 (x:C) (xs:List C):cC (TT.of Tryz.prog) 5 (x::xs)=some x:=by simp only[cC,T5];rfl
def U9:=UG T9
def Q9 (x:C) (xs:List C):cC (TT.of Tryz.prog) 9 (x::xs)=some x:=by simp only[cC,T9];rfl
def Q22 (x:C) (xs:List C):cC (TT.of Tryz.prog) 22 (x::xs)=some x:=by simp only[cC,T22];rfl
def P23 (x:X) (xs:List X):gX (TT.of Tryz.prog) 23 (x::xs)=some x:=by simp only[gX,T23];rfl
def Q23 (x:C) (xs:List C):cC (TT.of Tryz.prog) 23 (x::xs)=some x:=by simp only[cC,T23];rfl
def Q24 (x:C) (xs:List C):cC (TT.of Tryz.prog) 24 (x::xs)=some x:=by simp only[cC,T24];rfl
def Q25 (x:C) (xs:List C):cC (TT.of Tryz.prog) 25 (x::xs)=some x:=by simp only[cC,T25];rfl
def Q26 (x:C) (xs:List C):cC (TT.of Tryz.prog) 26 (x::xs)=some x:=by simp only[cC,T26];rfl
def Q27 (x:C) (xs:List C):cC (TT.of Tryz.prog) 27 (x::xs)=some x:=by simp only[cC,T27];rfl
def Q28 (x:C) (xs:List C):cC (TT.of Tryz.prog) 28 (x::xs)=some x:=by simp only[cC,T28];rfl
def Q29 (x:C) (xs:List C):cC (TT.of Tryz.prog) 29 (x::xs)=some x:=by simp only[cC,T29];rfl
def P31 (x0 x1 x2 x3 x4 x5 x6 x7 x8 x9 x10 x11 x12:X) (xs:List X):gX (TT.of Tryz.prog) 31 (x0::x1::x2::x3::x4::x5::x6::x7::x8::x9::x10::x11::x12::xs)=some (.agg [x0,x1,x2,x3,x4,x5,x6,x7,x8,x9,x10,x11,x12]):=by simp only[gX,T31];rfl
def Q31 (x0 x1 x2 x3 x4 x5 x6 x7 x8 x9 x10 x11 x12:C) (xs:List C):cC (TT.of Tryz.prog) 31 (x0::x1::x2::x3::x4::x5::x6::x7::x8::x9::x10::x11::x12::xs)=some (.agg [x0,x1,x2,x3,x4,x5,x6,x7,x8,x9,x10,x11,x12]):=by simp only[cC,T31];rfl
def aY5:=faG T31 0 0 0 rfl
def aXC:=frG T31 0 0 0 rfl
def aY4:=faG T31 1 1 0 rfl
def aXB:=frG T31 1 1 0 rfl
def aY3:=faG T31 2 2 0 rfl
def aXA:=frG T31 2 2 0 rfl
def aY2:=faG T31 3 3 0 rfl
def aXz:=frG T31 3 3 0 rfl
def aY1:=faG T31 4 4 0 rfl
def aXy:=frG T31 4 4 0 rfl
def aY0:=faG T31 5 5 0 rfl
def aXx:=frG T31 5 5 0 rfl
def aYZ:=faG T31 6 6 0 rfl
def aXw:=frG T31 6 6 0 rfl
def aYY:=faG T31 7 7 0 rfl
def aXv:=frG T31 7 7 0 rfl
def aYX:=faG T31 8 8 0 rfl
def aXu:=frG T31 8 8 0 rfl
def aYW:=faG T31 9 9 0 rfl
def aXt:=frG T31 9 9 0 rfl
def aRV:=faG T31 10 10 0 rfl
def aRJ:=frG T31 10 10 0 rfl
def aRU:=faG T31 11 11 0 rfl
def aRI:=frG T31 11 11 0 rfl
def aRT:=faG T31 12 12 0 rfl
def aRH:=frG T31 12 12 0 rfl
def Q37 (x:C) (xs:List C):cC (TT.of Tryz.prog) 37 (x::xs)=some x:=by simp only[cC,T37];rfl
def Q38 (x:C) (xs:List C):cC (TT.of Tryz.prog) 38 (x::xs)=some x:=by simp only[cC,T38];rfl
def Q39 (x:C) (xs:List C):cC (TT.of Tryz.prog) 39 (x::xs)=some x:=by simp only[cC,T39];rfl
def Q41 (x0 x1 x2 x3 x4 x5 x6 x7 x8 x9 x10 x11:C) (xs:List C):cC (TT.of Tryz.prog) 41 (x0::x1::x2::x3::x4::x5::x6::x7::x8::x9::x10::x11::xs)=some (.agg [x0,x1,x2,x3,x4,x5,x6,x7,x8,x9,x10,x11]):=by simp only[cC,T41];rfl
def aXs:=frG T41 0 0 0 rfl
def aXr:=frG T41 1 1 0 rfl
def aXq:=frG T41 2 2 0 rfl
def aXp:=frG T41 3 3 0 rfl
def aXo:=frG T41 4 4 0 rfl
def aXn:=frG T41 5 5 0 rfl
def aXm:=frG T41 6 6 0 rfl
def aXl:=frG T41 7 7 0 rfl
def aXk:=frG T41 8 8 0 rfl
def aXj:=frG T41 9 9 0 rfl
def aRF:=frG T41 10 10 0 rfl
def aRE:=frG T41 11 11 0 rfl
def P43 (x0 x1 x2:X) (xs:List X):gX (TT.of Tryz.prog) 43 (x0::x1::x2::xs)=some (.agg [x0,x1,x2]):=by simp only[gX,T43];rfl
def Q43 (x0 x1 x2:C) (xs:List C):cC (TT.of Tryz.prog) 43 (x0::x1::x2::xs)=some (.agg [x0,x1,x2]):=by simp only[cC,T43];rfl
def aXi:=frG T43 0 0 0 rfl
def aXh:=frG T43 1 1 0 rfl
def aXg:=frG T43 2 2 0 rfl
def P45 (x0 x1 x2 x3 x4 x5 x6 x7 x8:X) (xs:List X):gX (TT.of Tryz.prog) 45 (x0::x1::x2::x3::x4::x5::x6::x7::x8::xs)=some (.agg [x0,x1,x2,x3,x4,x5,x6,x7,x8]):=by simp only[gX,T45];rfl
def Q45 (x0 x1 x2 x3 x4 x5 x6 x7 x8:C) (xs:List C):cC (TT.of Tryz.prog) 45 (x0::x1::x2::x3::x4::x5::x6::x7::x8::xs)=some (.agg [x0,x1,x2,x3,x4,x5,x6,x7,x8]):=by simp only[cC,T45];rfl
def aYV:=faG T45 0 0 0 rfl
def aXf:=frG T45 0 0 0 rfl
def aYU:=faG T45 1 1 2 rfl
def aXe:=frG T45 1 1 2 rfl
def aYT:=faG T45 2 4 0 rfl
def aXd:=frG T45 2 4 0 rfl
def aYS:=faG T45 3 5 0 rfl
def aXc:=frG T45 3 5 0 rfl
def aYR:=faG T45 4 6 0 rfl
def aXb:=frG T45 4 6 0 rfl
def aYQ:=faG T45 5 7 0 rfl
def aXa:=frG T45 5 7 0 rfl
def aYP:=faG T45 6 8 0 rfl
def aW9:=frG T45 6 8 0 rfl
def Q54 (x0 x1 x2 x3 x4 x5 x6 x7 x8 x9:C) (xs:List C):cC (TT.of Tryz.prog) 54 (x0::x1::x2::x3::x4::x5::x6::x7::x8::x9::xs)=some (.agg [x0,x1,x2,x3,x4,x5,x6,x7,x8,x9]):=by simp only[cC,T54];rfl
def aW8:=frG T54 0 0 0 rfl
def aW7:=frG T54 1 1 8 rfl
def Q56 (x0 x1 x2:C) (xs:List C):cC (TT.of Tryz.prog) 56 (x0::x1::x2::xs)=some (.agg [x0,x1,x2]):=by simp only[cC,T56];rfl
def aW6:=frG T56 0 0 0 rfl
def aW5:=frG T56 1 1 0 rfl
def aW4:=frG T56 2 2 0 rfl
def Q58 (x0 x1:C) (xs:List C):cC (TT.of Tryz.prog) 58 (x0::x1::xs)=some (.agg [x0,x1]):=by simp only[cC,T58];rfl
def aW3:=frG T58 0 0 0 rfl
def aW2:=frG T58 1 1 0 rfl
def Q60 (x0 x1 x2 x3 x4 x5 x6 x7 x8 x9 x10 x11:C) (xs:List C):cC (TT.of Tryz.prog) 60 (x0::x1::x2::x3::x4::x5::x6::x7::x8::x9::x10::x11::xs)=some (.agg [x0,x1,x2,x3,x4,x5,x6,x7,x8,x9,x10,x11]):=by simp only[cC,T60];rfl
def aW1:=frG T60 0 0 0 rfl
def aW0:=frG T60 1 1 0 rfl
def aWZ:=frG T60 2 2 8 rfl
def aWY:=frG T60 3 11 0 rfl
def Q62 (x0 x1 x2 x3 x4 x5:C) (xs:List C):cC (TT.of Tryz.prog) 62 (x0::x1::x2::x3::x4::x5::xs)=some (.agg [x0,x1,x2,x3,x4,x5]):=by simp only[cC,T62];rfl
def aWX:=frG T62 0 0 0 rfl
def aWW:=frG T62 1 1 0 rfl
def aWV:=frG T62 2 2 0 rfl
def aWU:=frG T62 3 3 0 rfl
def aWT:=frG T62 4 4 0 rfl
def aWS:=frG T62 5 5 0 rfl
def Q64 (x0 x1 x2:C) (xs:List C):cC (TT.of Tryz.prog) 64 (x0::x1::x2::xs)=some (.agg [x0,x1,x2]):=by simp only[cC,T64];rfl
def aWR:=frG T64 0 0 0 rfl
def aWQ:=frG T64 1 1 0 rfl
def aWP:=frG T64 2 2 0 rfl
def P65 (x:X) (xs:List X):gX (TT.of Tryz.prog) 65 (x::xs)=some x:=by simp only[gX,T65];rfl
def ami:=faG T67 0 0 0 rfl
def Q72 (x:C) (xs:List C):cC (TT.of Tryz.prog) 72 (x::xs)=some x:=by simp only[cC,T72];rfl
def Q75 (x:C) (xs:List C):cC (TT.of Tryz.prog) 75 (x::xs)=some x:=by simp only[cC,T75];rfl
def P80 (x0 x1:X) (xs:List X):gX (TT.of Tryz.prog) 80 (x0::x1::xs)=some (.agg [x0,x1]):=by simp only[gX,T80];rfl
def Q80 (x0 x1:C) (xs:List C):cC (TT.of Tryz.prog) 80 (x0::x1::xs)=some (.agg [x0,x1]):=by simp only[cC,T80];rfl
def aWO:=frG T80 0 0 0 rfl
def aWN:=frG T80 1 1 0 rfl
def U91:=UG T91
def aIM:=faG T93 1 1 0 rfl
def a7u (x0 x1:X) (xs:List X):gX (TT.of Tryz.prog) 104 (x0::x1::xs)=some (.agg [x0,x1]):=by simp only[gX,aEL];rfl
def aRR:=frG aEL 0 0 0 rfl
def aRQ:=frG aEL 1 1 0 rfl
def a0x (x:C) (xs:List C):cC (TT.of Tryz.prog) 138 (x::xs)=some x:=by simp only[cC,a0l];rfl
def a0w (x:C) (xs:List C):cC (TT.of Tryz.prog) 140 (x::xs)=some x:=by simp only[cC,a0k];rfl
def a0v (x:C) (xs:List C):cC (TT.of Tryz.prog) 142 (x::xs)=some x:=by simp only[cC,a0j];rfl
def a7t (x0 x1 x2:C) (xs:List C):cC (TT.of Tryz.prog) 145 (x0::x1::x2::xs)=some (.agg [x0,x1,x2]):=by simp only[cC,ara];rfl
def aRP:=frG ara 0 0 0 rfl
def aRO:=frG ara 1 1 0 rfl
def aRN:=frG ara 2 2 0 rfl
def a0u (x:C) (xs:List C):cC (TT.of Tryz.prog) 146 (x::xs)=some x:=by simp only[cC,a0i];rfl
def a0t (x:C) (xs:List C):cC (TT.of Tryz.prog) 151 (x::xs)=some x:=by simp only[cC,a0h];rfl
def a0s (x:C) (xs:List C):cC (TT.of Tryz.prog) 153 (x::xs)=some x:=by simp only[cC,a0g];rfl
def a0r (x:C) (xs:List C):cC (TT.of Tryz.prog) 173 (x::xs)=some x:=by simp only[cC,a0f];rfl
def a0q (x:C) (xs:List C):cC (TT.of Tryz.prog) 175 (x::xs)=some x:=by simp only[cC,a0e];rfl
def a0p (x:C) (xs:List C):cC (TT.of Tryz.prog) 177 (x::xs)=some x:=by simp only[cC,a0d];rfl
def aRM:=frG aEK 0 0 0 rfl
def aRL:=frG aEK 1 1 0 rfl
def aRK:=frG aEK 2 2 0 rfl
def aMm:=UG aEJ
def E22:=EG T22 T56
def E23:=EG T23 T9
def E24:=EG T24 T58
def E25:=EG T25 ara
def E26:=EG T26 T45
def E27:=EG T27 T26
def E28:=EG T28 T54
def E29:=EG T29 T41
def E37:=EG T37 T60
def E38:=EG T38 T62
def E39:=EG T39 T64
def M89:acM (TT.of Tryz.prog) 89=some (.int .i64,9):=by simp only[acM,T89,T3];rfl
def E91:=EG T91 T5
def a7w (qs:List (Nat×List X)):amt Tryz.prog 155 (TT.of Tryz.prog 155) (some qs)=dE ((jb (fun i=>some (i*1,1)) (([.string ⟨#[]⟩,.string ⟨#[]⟩,.string ⟨#[]⟩,.string ⟨#[]⟩]:List Value).map abR) qs).map .agg):=by simp only[a7s,amt,T9];rfl
def aET:acM (TT.of Tryz.prog) 179=some (.int .i64,23):=by simp only[acM,a7r,T3];rfl
def aES:acM (TT.of Tryz.prog) 180=some (.int .i64,3):=by simp only[acM,a7q,T3];rfl
def aox:acM (TT.of Tryz.prog) 192=some (.int .i64,190):=by simp only[acM,a7p,T3];rfl
def aE7:=EG aEJ T4
def aE6:=EG a0c T3
def fi3:FnI Tryz.prog 3 Tryz.f3:=⟨by kernel_rfl,Tryz.func3⟩
def fi4:FnI Tryz.prog 4 Tryz.f4:=⟨by kernel_rfl,Tryz.func4⟩
def fi5:FnI Tryz.prog 5 Tryz.f5:=⟨by kernel_rfl,Tryz.func5⟩
def aP7:ak Tryz.prog 5=true:=by kernel_rfl
def fi6:FnI Tryz.prog 6 Tryz.f6:=⟨by kernel_rfl,Tryz.func6⟩
def aP6:ak Tryz.prog 6=true:=by kernel_rfl
def fi7:FnI Tryz.prog 7 Tryz.f7:=⟨by kernel_rfl,Tryz.func7⟩
def aP5:ak Tryz.prog 7=true:=by kernel_rfl
def fi8:FnI Tryz.prog 8 Tryz.f8:=⟨by kernel_rfl,Tryz.func8⟩
def a4G:ak Tryz.prog 8=true:=by kernel_rfl
def fi9:FnI Tryz.prog 9 Tryz.f9:=⟨by kernel_rfl,Tryz.func9⟩
def a4F:ak Tryz.prog 9=true:=by kernel_rfl
def aYN:FnI Tryz.prog 10 Tryz.f10:=⟨by kernel_rfl,Tryz.func10⟩
def aZZ:ak Tryz.prog 10=true:=by kernel_rfl
def aLR:FnI Tryz.prog 11 Tryz.f11:=⟨by kernel_rfl,Tryz.func11⟩
def aJj:ak Tryz.prog 11=true:=by kernel_rfl
def aYM:FnI Tryz.prog 12 Tryz.f12:=⟨by kernel_rfl,Tryz.func12⟩
def aZY:ak Tryz.prog 12=true:=by kernel_rfl
def aLQ:FnI Tryz.prog 13 Tryz.f13:=⟨by kernel_rfl,Tryz.func13⟩
def aJi:ak Tryz.prog 13=true:=by kernel_rfl
def aYL:FnI Tryz.prog 14 Tryz.f14:=⟨by kernel_rfl,Tryz.func14⟩
def aZX:ak Tryz.prog 14=true:=by kernel_rfl
def aLP:FnI Tryz.prog 15 Tryz.f15:=⟨by kernel_rfl,Tryz.func15⟩
def apZ:ak Tryz.prog 15=true:=by kernel_rfl
def aLO:FnI Tryz.prog 16 Tryz.f16:=⟨by kernel_rfl,Tryz.func16⟩
def apY:ak Tryz.prog 16=true:=by kernel_rfl
def aYK:FnI Tryz.prog 17 Tryz.f17:=⟨by kernel_rfl,Tryz.func17⟩
def aZW:ak Tryz.prog 17=true:=by kernel_rfl
def aiM:FnI Tryz.prog 18 Tryz.f18:=⟨by kernel_rfl,Tryz.func18⟩
def aZV:ak Tryz.prog 18=true:=by kernel_rfl
def aYJ:FnI Tryz.prog 19 Tryz.f19:=⟨by kernel_rfl,Tryz.func19⟩
def av6:ak Tryz.prog 19=true:=by kernel_rfl
def aYI:FnI Tryz.prog 20 Tryz.f20:=⟨by kernel_rfl,Tryz.func20⟩
def aZU:ak Tryz.prog 20=true:=by kernel_rfl
def aYH:FnI Tryz.prog 21 Tryz.f21:=⟨by kernel_rfl,Tryz.func21⟩
def av5:ak Tryz.prog 21=true:=by kernel_rfl
def ahU:FnI Tryz.prog 22 Tryz.f22:=⟨by kernel_rfl,Tryz.func22⟩
def aZT:ak Tryz.prog 22=true:=by kernel_rfl
def aYG:FnI Tryz.prog 23 Tryz.f23:=⟨by kernel_rfl,Tryz.func23⟩
def aZS:ak Tryz.prog 23=true:=by kernel_rfl
def aLN:FnI Tryz.prog 24 Tryz.f24:=⟨by kernel_rfl,Tryz.func24⟩
def aj9:ak Tryz.prog 24=true:=by kernel_rfl
def aYF:FnI Tryz.prog 25 Tryz.f25:=⟨by kernel_rfl,Tryz.func25⟩
def aZR:ak Tryz.prog 25=true:=by kernel_rfl
def aYE:FnI Tryz.prog 26 Tryz.f26:=⟨by kernel_rfl,Tryz.func26⟩
def aj8:ak Tryz.prog 26=true:=by kernel_rfl
def aYD:FnI Tryz.prog 27 Tryz.f27:=⟨by kernel_rfl,Tryz.func27⟩
def aZQ:ak Tryz.prog 27=true:=by kernel_rfl
def aYC:FnI Tryz.prog 28 Tryz.f28:=⟨by kernel_rfl,Tryz.func28⟩
def aJh:ak Tryz.prog 28=true:=by kernel_rfl
def aYB:FnI Tryz.prog 29 Tryz.f29:=⟨by kernel_rfl,Tryz.func29⟩
def aZP:ak Tryz.prog 29=true:=by kernel_rfl
def aYA:FnI Tryz.prog 30 Tryz.f30:=⟨by kernel_rfl,Tryz.func30⟩
def aJg:ak Tryz.prog 30=true:=by kernel_rfl
def aLM:FnI Tryz.prog 31 Tryz.f31:=⟨by kernel_rfl,Tryz.func31⟩
def aJf:ak Tryz.prog 31=true:=by kernel_rfl
def aYz:FnI Tryz.prog 32 Tryz.f32:=⟨by kernel_rfl,Tryz.func32⟩
def aZO:ak Tryz.prog 32=true:=by kernel_rfl
def aYy:FnI Tryz.prog 33 Tryz.f33:=⟨by kernel_rfl,Tryz.func33⟩
def av4:ak Tryz.prog 33=true:=by kernel_rfl
def afn:FnI Tryz.prog 34 Tryz.f34:=⟨by kernel_rfl,Tryz.func34⟩
def aZN:ak Tryz.prog 34=true:=by kernel_rfl
def aYx:FnI Tryz.prog 35 Tryz.f35:=⟨by kernel_rfl,Tryz.func35⟩
def aZM:ak Tryz.prog 35=true:=by kernel_rfl
def aYw:FnI Tryz.prog 36 Tryz.f36:=⟨by kernel_rfl,Tryz.func36⟩
def ab1:ak Tryz.prog 36=true:=by kernel_rfl
def aYv:FnI Tryz.prog 37 Tryz.f37:=⟨by kernel_rfl,Tryz.func37⟩
def adh:ak Tryz.prog 37=true:=by kernel_rfl
def aYu:FnI Tryz.prog 38 Tryz.f38:=⟨by kernel_rfl,Tryz.func38⟩
def ad9:ak Tryz.prog 38=true:=by kernel_rfl
def aYt:FnI Tryz.prog 39 Tryz.f39:=⟨by kernel_rfl,Tryz.func39⟩
def av3:ak Tryz.prog 39=true:=by kernel_rfl
def aLK:FnI Tryz.prog 40 Tryz.f40:=⟨by kernel_rfl,Tryz.func40⟩
def aZL:ak Tryz.prog 40=true:=by kernel_rfl
def aYs:FnI Tryz.prog 41 Tryz.f41:=⟨by kernel_rfl,Tryz.func41⟩
def aZK:ak Tryz.prog 41=true:=by kernel_rfl
def aYr:FnI Tryz.prog 42 Tryz.f42:=⟨by kernel_rfl,Tryz.func42⟩
def aJe:ak Tryz.prog 42=true:=by kernel_rfl
def aYq:FnI Tryz.prog 43 Tryz.f43:=⟨by kernel_rfl,Tryz.func43⟩
def aeO:ak Tryz.prog 43=true:=by kernel_rfl
def aYp:FnI Tryz.prog 44 Tryz.f44:=⟨by kernel_rfl,Tryz.func44⟩
def av2:ak Tryz.prog 44=true:=by kernel_rfl
def aYo:FnI Tryz.prog 45 Tryz.f45:=⟨by kernel_rfl,Tryz.func45⟩
def aJd:ak Tryz.prog 45=true:=by kernel_rfl
def aZJ:ak Tryz.prog 46=true:=by kernel_rfl
def aZI:ak Tryz.prog 47=true:=by kernel_rfl
def aYn:FnI Tryz.prog 48 Tryz.f48:=⟨by kernel_rfl,Tryz.func48⟩
def aZH:ak Tryz.prog 48=true:=by kernel_rfl
def aZG:ak Tryz.prog 49=true:=by kernel_rfl
def afm:FnI Tryz.prog 50 Tryz.f50:=⟨by kernel_rfl,Tryz.func50⟩
def aZF:ak Tryz.prog 50=true:=by kernel_rfl
def aYm:FnI Tryz.prog 51 Tryz.f51:=⟨by kernel_rfl,Tryz.func51⟩
def av1:ak Tryz.prog 51=true:=by kernel_rfl
def aYl:FnI Tryz.prog 52 Tryz.f52:=⟨by kernel_rfl,Tryz.func52⟩
def aZE:ak Tryz.prog 52=true:=by kernel_rfl
def aYk:FnI Tryz.prog 53 Tryz.f53:=⟨by kernel_rfl,Tryz.func53⟩
def aZD:ak Tryz.prog 53=true:=by kernel_rfl
def aYj:FnI Tryz.prog 54 Tryz.f54:=⟨by kernel_rfl,Tryz.func54⟩
def afD:ak Tryz.prog 54=true:=by kernel_rfl
def aYi:FnI Tryz.prog 55 Tryz.f55:=⟨by kernel_rfl,Tryz.func55⟩
def aZC:ak Tryz.prog 55=true:=by kernel_rfl
def aLJ:FnI Tryz.prog 56 Tryz.f56:=⟨by kernel_rfl,Tryz.func56⟩
def aZB:ak Tryz.prog 56=true:=by kernel_rfl
def aLI:FnI Tryz.prog 57 Tryz.f57:=⟨by kernel_rfl,Tryz.func57⟩
def aZA:ak Tryz.prog 57=true:=by kernel_rfl
def aYh:FnI Tryz.prog 58 Tryz.f58:=⟨by kernel_rfl,Tryz.func58⟩
def av0:ak Tryz.prog 58=true:=by kernel_rfl
def aYg:FnI Tryz.prog 59 Tryz.f59:=⟨by kernel_rfl,Tryz.func59⟩
def agN:ak Tryz.prog 59=true:=by kernel_rfl
def aLH:FnI Tryz.prog 60 Tryz.f60:=⟨by kernel_rfl,Tryz.func60⟩
def aJc:ak Tryz.prog 60=true:=by kernel_rfl
def aYf:FnI Tryz.prog 61 Tryz.f61:=⟨by kernel_rfl,Tryz.func61⟩
def aj7:ak Tryz.prog 61=true:=by kernel_rfl
def aYe:FnI Tryz.prog 62 Tryz.f62:=⟨by kernel_rfl,Tryz.func62⟩
def aj6:ak Tryz.prog 62=true:=by kernel_rfl
def aYd:FnI Tryz.prog 63 Tryz.f63:=⟨by kernel_rfl,Tryz.func63⟩
def aZz:ak Tryz.prog 63=true:=by kernel_rfl
def aYc:FnI Tryz.prog 64 Tryz.f64:=⟨by kernel_rfl,Tryz.func64⟩
def avZ:ak Tryz.prog 64=true:=by kernel_rfl
def aYb:FnI Tryz.prog 65 Tryz.f65:=⟨by kernel_rfl,Tryz.func65⟩
def avY:ak Tryz.prog 65=true:=by kernel_rfl
def aYa:FnI Tryz.prog 66 Tryz.f66:=⟨by kernel_rfl,Tryz.func66⟩
def avX:ak Tryz.prog 66=true:=by kernel_rfl
def aX9:FnI Tryz.prog 67 Tryz.f67:=⟨by kernel_rfl,Tryz.func67⟩
def aZy:ak Tryz.prog 67=true:=by kernel_rfl
def aX8:FnI Tryz.prog 68 Tryz.f68:=⟨by kernel_rfl,Tryz.func68⟩
def aJb:ak Tryz.prog 68=true:=by kernel_rfl
def aX7:FnI Tryz.prog 69 Tryz.f69:=⟨by kernel_rfl,Tryz.func69⟩
def aZx:ak Tryz.prog 69=true:=by kernel_rfl
def aX6:FnI Tryz.prog 70 Tryz.f70:=⟨by kernel_rfl,Tryz.func70⟩
def avW:ak Tryz.prog 70=true:=by kernel_rfl
def aX5:FnI Tryz.prog 71 Tryz.f71:=⟨by kernel_rfl,Tryz.func71⟩
def aJa:ak Tryz.prog 71=true:=by kernel_rfl
def aX4:FnI Tryz.prog 72 Tryz.f72:=⟨by kernel_rfl,Tryz.func72⟩
def aI9:ak Tryz.prog 72=true:=by kernel_rfl
def aX3:FnI Tryz.prog 73 Tryz.f73:=⟨by kernel_rfl,Tryz.func73⟩
def ams:ak Tryz.prog 73=true:=by kernel_rfl
def aas:FnI Tryz.prog 74 Tryz.f74:=⟨by kernel_rfl,Tryz.func74⟩
def aZw:ak Tryz.prog 74=true:=by kernel_rfl
def aok:FnI Tryz.prog 75 Tryz.f75:=⟨by kernel_rfl,Tryz.func75⟩
def aZv:ak Tryz.prog 75=true:=by kernel_rfl
def aLG:FnI Tryz.prog 76 Tryz.f76:=⟨by kernel_rfl,Tryz.func76⟩
def avV:ak Tryz.prog 76=true:=by kernel_rfl
def aX2:FnI Tryz.prog 77 Tryz.f77:=⟨by kernel_rfl,Tryz.func77⟩
def agM:ak Tryz.prog 77=true:=by kernel_rfl
def aX1:FnI Tryz.prog 78 Tryz.f78:=⟨by kernel_rfl,Tryz.func78⟩
def afC:ak Tryz.prog 78=true:=by kernel_rfl
def aX0:FnI Tryz.prog 79 Tryz.f79:=⟨by kernel_rfl,Tryz.func79⟩
def aI8:ak Tryz.prog 79=true:=by kernel_rfl
def aXZ:FnI Tryz.prog 80 Tryz.f80:=⟨by kernel_rfl,Tryz.func80⟩
def aI7:ak Tryz.prog 80=true:=by kernel_rfl
def aXY:FnI Tryz.prog 81 Tryz.f81:=⟨by kernel_rfl,Tryz.func81⟩
def aI6:ak Tryz.prog 81=true:=by kernel_rfl
def aXX:FnI Tryz.prog 82 Tryz.f82:=⟨by kernel_rfl,Tryz.func82⟩
def apX:ak Tryz.prog 82=true:=by kernel_rfl
def aXW:FnI Tryz.prog 83 Tryz.f83:=⟨by kernel_rfl,Tryz.func83⟩
def aZu:ak Tryz.prog 83=true:=by kernel_rfl
def aXV:FnI Tryz.prog 84 Tryz.f84:=⟨by kernel_rfl,Tryz.func84⟩
def aZt:ak Tryz.prog 84=true:=by kernel_rfl
def aXU:FnI Tryz.prog 85 Tryz.f85:=⟨by kernel_rfl,Tryz.func85⟩
def aZs:ak Tryz.prog 85=true:=by kernel_rfl
def aXT:FnI Tryz.prog 86 Tryz.f86:=⟨by kernel_rfl,Tryz.func86⟩
def aZr:ak Tryz.prog 86=true:=by kernel_rfl
def aXS:FnI Tryz.prog 87 Tryz.f87:=⟨by kernel_rfl,Tryz.func87⟩
def apW:ak Tryz.prog 87=true:=by kernel_rfl
def aXR:FnI Tryz.prog 88 Tryz.f88:=⟨by kernel_rfl,Tryz.func88⟩
def amr:ak Tryz.prog 88=true:=by kernel_rfl
def aXQ:FnI Tryz.prog 89 Tryz.f89:=⟨by kernel_rfl,Tryz.func89⟩
def aZq:ak Tryz.prog 89=true:=by kernel_rfl
def aXP:FnI Tryz.prog 90 Tryz.f90:=⟨by kernel_rfl,Tryz.func90⟩
def ahG:ak Tryz.prog 90=true:=by kernel_rfl
def aXO:FnI Tryz.prog 91 Tryz.f91:=⟨by kernel_rfl,Tryz.func91⟩
def avU:ak Tryz.prog 91=true:=by kernel_rfl
def aXN:FnI Tryz.prog 92 Tryz.f92:=⟨by kernel_rfl,Tryz.func92⟩
def aZp:ak Tryz.prog 92=true:=by kernel_rfl
def aDP:FnI Tryz.prog 93 Tryz.f93:=⟨by kernel_rfl,Tryz.func93⟩
def aZo:ak Tryz.prog 93=true:=by kernel_rfl
def aXM:FnI Tryz.prog 94 Tryz.f94:=⟨by kernel_rfl,Tryz.func94⟩
def aI5:ak Tryz.prog 94=true:=by kernel_rfl
def aXL:FnI Tryz.prog 95 Tryz.f95:=⟨by kernel_rfl,Tryz.func95⟩
def aZn:ak Tryz.prog 95=true:=by kernel_rfl
def aXK:FnI Tryz.prog 96 Tryz.f96:=⟨by kernel_rfl,Tryz.func96⟩
def aZm:ak Tryz.prog 96=true:=by kernel_rfl
def aXJ:FnI Tryz.prog 97 Tryz.f97:=⟨by kernel_rfl,Tryz.func97⟩
def aI4:ak Tryz.prog 97=true:=by kernel_rfl
def aXI:FnI Tryz.prog 98 Tryz.f98:=⟨by kernel_rfl,Tryz.func98⟩
def amq:ak Tryz.prog 98=true:=by kernel_rfl
def aXH:FnI Tryz.prog 99 Tryz.f99:=⟨by kernel_rfl,Tryz.func99⟩
def aZl:ak Tryz.prog 99=true:=by kernel_rfl
def aP0:FnI Tryz.prog 100 Tryz.f100:=⟨by kernel_rfl,Tryz.func100⟩
def aBD:ak Tryz.prog 100=true:=by kernel_rfl
def aPZ:FnI Tryz.prog 101 Tryz.f101:=⟨by kernel_rfl,Tryz.func101⟩
def aeh:ak Tryz.prog 101=true:=by kernel_rfl
def aPY:FnI Tryz.prog 102 Tryz.f102:=⟨by kernel_rfl,Tryz.func102⟩
def anq:ak Tryz.prog 102=true:=by kernel_rfl
def aPX:FnI Tryz.prog 103 Tryz.f103:=⟨by kernel_rfl,Tryz.func103⟩
def aeg:ak Tryz.prog 103=true:=by kernel_rfl
def aPW:FnI Tryz.prog 104 Tryz.f104:=⟨by kernel_rfl,Tryz.func104⟩
def aTn:ak Tryz.prog 104=true:=by kernel_rfl
def aPV:FnI Tryz.prog 105 Tryz.f105:=⟨by kernel_rfl,Tryz.func105⟩
def aBC:ak Tryz.prog 105=true:=by kernel_rfl
def aPU:FnI Tryz.prog 106 Tryz.f106:=⟨by kernel_rfl,Tryz.func106⟩
def aTm:ak Tryz.prog 106=true:=by kernel_rfl
def aPT:FnI Tryz.prog 107 Tryz.f107:=⟨by kernel_rfl,Tryz.func107⟩
def aBB:ak Tryz.prog 107=true:=by kernel_rfl
def aPS:FnI Tryz.prog 108 Tryz.f108:=⟨by kernel_rfl,Tryz.func108⟩
def aTl:ak Tryz.prog 108=true:=by kernel_rfl
def aPR:FnI Tryz.prog 109 Tryz.f109:=⟨by kernel_rfl,Tryz.func109⟩
def aBA:ak Tryz.prog 109=true:=by kernel_rfl
def aPQ:FnI Tryz.prog 110 Tryz.f110:=⟨by kernel_rfl,Tryz.func110⟩
def ail:ak Tryz.prog 110=true:=by kernel_rfl
def aPP:FnI Tryz.prog 111 Tryz.f111:=⟨by kernel_rfl,Tryz.func111⟩
def aq4:ak Tryz.prog 111=true:=by kernel_rfl
def aPO:FnI Tryz.prog 112 Tryz.f112:=⟨by kernel_rfl,Tryz.func112⟩
def anp:ak Tryz.prog 112=true:=by kernel_rfl
def aPN:FnI Tryz.prog 113 Tryz.f113:=⟨by kernel_rfl,Tryz.func113⟩
def aTk:ak Tryz.prog 113=true:=by kernel_rfl
def aPM:FnI Tryz.prog 114 Tryz.f114:=⟨by kernel_rfl,Tryz.func114⟩
def aBz:ak Tryz.prog 114=true:=by kernel_rfl
def aPL:FnI Tryz.prog 115 Tryz.f115:=⟨by kernel_rfl,Tryz.func115⟩
def aTj:ak Tryz.prog 115=true:=by kernel_rfl
def aPK:FnI Tryz.prog 116 Tryz.f116:=⟨by kernel_rfl,Tryz.func116⟩
def aBy:ak Tryz.prog 116=true:=by kernel_rfl
def aPJ:FnI Tryz.prog 117 Tryz.f117:=⟨by kernel_rfl,Tryz.func117⟩
def aBx:ak Tryz.prog 117=true:=by kernel_rfl
def aPI:FnI Tryz.prog 118 Tryz.f118:=⟨by kernel_rfl,Tryz.func118⟩
def aTi:ak Tryz.prog 118=true:=by kernel_rfl
def aPH:FnI Tryz.prog 119 Tryz.f119:=⟨by kernel_rfl,Tryz.func119⟩
def aTh:ak Tryz.prog 119=true:=by kernel_rfl
def aPG:FnI Tryz.prog 120 Tryz.f120:=⟨by kernel_rfl,Tryz.func120⟩
def aTg:ak Tryz.prog 120=true:=by kernel_rfl
def aPF:FnI Tryz.prog 121 Tryz.f121:=⟨by kernel_rfl,Tryz.func121⟩
def aTf:ak Tryz.prog 121=true:=by kernel_rfl
def aPE:FnI Tryz.prog 122 Tryz.f122:=⟨by kernel_rfl,Tryz.func122⟩
def aTe:ak Tryz.prog 122=true:=by kernel_rfl
def aPD:FnI Tryz.prog 123 Tryz.f123:=⟨by kernel_rfl,Tryz.func123⟩
def aTd:ak Tryz.prog 123=true:=by kernel_rfl
def aPC:FnI Tryz.prog 125 Tryz.f125:=⟨by kernel_rfl,Tryz.func125⟩
def aTc:ak Tryz.prog 125=true:=by kernel_rfl
def aPB:FnI Tryz.prog 126 Tryz.f126:=⟨by kernel_rfl,Tryz.func126⟩
def aTb:ak Tryz.prog 126=true:=by kernel_rfl
def aPA:FnI Tryz.prog 127 Tryz.f127:=⟨by kernel_rfl,Tryz.func127⟩
def agf:ak Tryz.prog 127=true:=by kernel_rfl
def aPz:FnI Tryz.prog 128 Tryz.f128:=⟨by kernel_rfl,Tryz.func128⟩
def aTa:ak Tryz.prog 128=true:=by kernel_rfl
def aPy:FnI Tryz.prog 129 Tryz.f129:=⟨by kernel_rfl,Tryz.func129⟩
def aBw:ak Tryz.prog 129=true:=by kernel_rfl
def aPx:FnI Tryz.prog 130 Tryz.f130:=⟨by kernel_rfl,Tryz.func130⟩
def aS9:ak Tryz.prog 130=true:=by kernel_rfl
def aPw:FnI Tryz.prog 131 Tryz.f131:=⟨by kernel_rfl,Tryz.func131⟩
def ano:ak Tryz.prog 131=true:=by kernel_rfl
def aPv:FnI Tryz.prog 132 Tryz.f132:=⟨by kernel_rfl,Tryz.func132⟩
def aS8:ak Tryz.prog 132=true:=by kernel_rfl
def aPu:FnI Tryz.prog 133 Tryz.f133:=⟨by kernel_rfl,Tryz.func133⟩
def aik:ak Tryz.prog 133=true:=by kernel_rfl
def aPt:FnI Tryz.prog 134 Tryz.f134:=⟨by kernel_rfl,Tryz.func134⟩
def anl:ak Tryz.prog 134=true:=by kernel_rfl
def aPs:FnI Tryz.prog 135 Tryz.f135:=⟨by kernel_rfl,Tryz.func135⟩
def aS7:ak Tryz.prog 135=true:=by kernel_rfl
def aPr:FnI Tryz.prog 136 Tryz.f136:=⟨by kernel_rfl,Tryz.func136⟩
def aS6:ak Tryz.prog 136=true:=by kernel_rfl
def aPq:FnI Tryz.prog 137 Tryz.f137:=⟨by kernel_rfl,Tryz.func137⟩
def aq3:ak Tryz.prog 137=true:=by kernel_rfl
def aPp:FnI Tryz.prog 138 Tryz.f138:=⟨by kernel_rfl,Tryz.func138⟩
def aS5:ak Tryz.prog 138=true:=by kernel_rfl
def aPo:FnI Tryz.prog 139 Tryz.f139:=⟨by kernel_rfl,Tryz.func139⟩
def aBv:ak Tryz.prog 139=true:=by kernel_rfl
def aPn:FnI Tryz.prog 140 Tryz.f140:=⟨by kernel_rfl,Tryz.func140⟩
def aBu:ak Tryz.prog 140=true:=by kernel_rfl
def aPm:FnI Tryz.prog 141 Tryz.f141:=⟨by kernel_rfl,Tryz.func141⟩
def aq2:ak Tryz.prog 141=true:=by kernel_rfl
def aPl:FnI Tryz.prog 142 Tryz.f142:=⟨by kernel_rfl,Tryz.func142⟩
def aq1:ak Tryz.prog 142=true:=by kernel_rfl
def aPk:FnI Tryz.prog 143 Tryz.f143:=⟨by kernel_rfl,Tryz.func143⟩
def aS4:ak Tryz.prog 143=true:=by kernel_rfl
def aPj:FnI Tryz.prog 144 Tryz.f144:=⟨by kernel_rfl,Tryz.func144⟩
def aBt:ak Tryz.prog 144=true:=by kernel_rfl
def aPi:FnI Tryz.prog 145 Tryz.f145:=⟨by kernel_rfl,Tryz.func145⟩
def aS3:ak Tryz.prog 145=true:=by kernel_rfl
def aPh:FnI Tryz.prog 146 Tryz.f146:=⟨by kernel_rfl,Tryz.func146⟩
def aBs:ak Tryz.prog 146=true:=by kernel_rfl
def aPg:FnI Tryz.prog 147 Tryz.f147:=⟨by kernel_rfl,Tryz.func147⟩
def aBr:ak Tryz.prog 147=true:=by kernel_rfl
def aPf:FnI Tryz.prog 148 Tryz.f148:=⟨by kernel_rfl,Tryz.func148⟩
def aBq:ak Tryz.prog 148=true:=by kernel_rfl
def aPe:FnI Tryz.prog 149 Tryz.f149:=⟨by kernel_rfl,Tryz.func149⟩
def aBp:ak Tryz.prog 149=true:=by kernel_rfl
def aPd:FnI Tryz.prog 150 Tryz.f150:=⟨by kernel_rfl,Tryz.func150⟩
def ank:ak Tryz.prog 150=true:=by kernel_rfl
def aPc:FnI Tryz.prog 151 Tryz.f151:=⟨by kernel_rfl,Tryz.func151⟩
def aBo:ak Tryz.prog 151=true:=by kernel_rfl
def aPb:FnI Tryz.prog 152 Tryz.f152:=⟨by kernel_rfl,Tryz.func152⟩
def aBn:ak Tryz.prog 152=true:=by kernel_rfl
def aPa:FnI Tryz.prog 153 Tryz.f153:=⟨by kernel_rfl,Tryz.func153⟩
def aBm:ak Tryz.prog 153=true:=by kernel_rfl
def aO9:FnI Tryz.prog 154 Tryz.f154:=⟨by kernel_rfl,Tryz.func154⟩
def aS2:ak Tryz.prog 154=true:=by kernel_rfl
def aO8:FnI Tryz.prog 155 Tryz.f155:=⟨by kernel_rfl,Tryz.func155⟩
def aS1:ak Tryz.prog 155=true:=by kernel_rfl
def aO7:FnI Tryz.prog 156 Tryz.f156:=⟨by kernel_rfl,Tryz.func156⟩
def aS0:ak Tryz.prog 156=true:=by kernel_rfl
def aO6:FnI Tryz.prog 157 Tryz.f157:=⟨by kernel_rfl,Tryz.func157⟩
def aSZ:ak Tryz.prog 157=true:=by kernel_rfl
def aO5:FnI Tryz.prog 158 Tryz.f158:=⟨by kernel_rfl,Tryz.func158⟩
def aBl:ak Tryz.prog 158=true:=by kernel_rfl
def aO4:FnI Tryz.prog 159 Tryz.f159:=⟨by kernel_rfl,Tryz.func159⟩
def aBk:ak Tryz.prog 159=true:=by kernel_rfl
def aO3:FnI Tryz.prog 160 Tryz.f160:=⟨by kernel_rfl,Tryz.func160⟩
def aBj:ak Tryz.prog 160=true:=by kernel_rfl
def aO2:FnI Tryz.prog 161 Tryz.f161:=⟨by kernel_rfl,Tryz.func161⟩
def aq0:ak Tryz.prog 161=true:=by kernel_rfl
def aO1:FnI Tryz.prog 162 Tryz.f162:=⟨by kernel_rfl,Tryz.func162⟩
def aSY:ak Tryz.prog 162=true:=by kernel_rfl
def ae6:FnI Tryz.prog 163 Tryz.f163:=⟨by kernel_rfl,Tryz.func163⟩
def aBi:ak Tryz.prog 163=true:=by kernel_rfl
def aO0:FnI Tryz.prog 164 Tryz.f164:=⟨by kernel_rfl,Tryz.func164⟩
def aBh:ak Tryz.prog 164=true:=by kernel_rfl
def aDT:FnI Tryz.prog 165 Tryz.f165:=⟨by kernel_rfl,Tryz.func165⟩
def aSX:ak Tryz.prog 165=true:=by kernel_rfl
def aOZ:FnI Tryz.prog 166 Tryz.f166:=⟨by kernel_rfl,Tryz.func166⟩
def jx:ak Tryz.prog 166=true:=by kernel_rfl
def aOY:FnI Tryz.prog 167 Tryz.f167:=⟨by kernel_rfl,Tryz.func167⟩
def aSW:ak Tryz.prog 167=true:=by kernel_rfl
def aOX:FnI Tryz.prog 168 Tryz.f168:=⟨by kernel_rfl,Tryz.func168⟩
def aqZ:ak Tryz.prog 168=true:=by kernel_rfl
def aOW:FnI Tryz.prog 169 Tryz.f169:=⟨by kernel_rfl,Tryz.func169⟩
def aSV:ak Tryz.prog 169=true:=by kernel_rfl
def aOV:FnI Tryz.prog 170 Tryz.f170:=⟨by kernel_rfl,Tryz.func170⟩
def aff:ak Tryz.prog 170=true:=by kernel_rfl
def aOU:FnI Tryz.prog 171 Tryz.f171:=⟨by kernel_rfl,Tryz.func171⟩
def aBg:ak Tryz.prog 171=true:=by kernel_rfl
def aOT:FnI Tryz.prog 172 Tryz.f172:=⟨by kernel_rfl,Tryz.func172⟩
def aSU:ak Tryz.prog 172=true:=by kernel_rfl
def aST:ak Tryz.prog 173=true:=by kernel_rfl
def aOS:FnI Tryz.prog 174 Tryz.f174:=⟨by kernel_rfl,Tryz.func174⟩
def aBf:ak Tryz.prog 174=true:=by kernel_rfl
def aOR:FnI Tryz.prog 175 Tryz.f175:=⟨by kernel_rfl,Tryz.func175⟩
def aBe:ak Tryz.prog 175=true:=by kernel_rfl
def aDS:FnI Tryz.prog 176 Tryz.f176:=⟨by kernel_rfl,Tryz.func176⟩
def aSS:ak Tryz.prog 176=true:=by kernel_rfl
def aOQ:FnI Tryz.prog 177 Tryz.f177:=⟨by kernel_rfl,Tryz.func177⟩
def aSR:ak Tryz.prog 177=true:=by kernel_rfl
def aOP:FnI Tryz.prog 178 Tryz.f178:=⟨by kernel_rfl,Tryz.func178⟩
def aSQ:ak Tryz.prog 178=true:=by kernel_rfl
def aOO:FnI Tryz.prog 179 Tryz.f179:=⟨by kernel_rfl,Tryz.func179⟩
def aSP:ak Tryz.prog 179=true:=by kernel_rfl
def aON:FnI Tryz.prog 180 Tryz.f180:=⟨by kernel_rfl,Tryz.func180⟩
def aBd:ak Tryz.prog 180=true:=by kernel_rfl
def aOM:FnI Tryz.prog 181 Tryz.f181:=⟨by kernel_rfl,Tryz.func181⟩
def aSO:ak Tryz.prog 181=true:=by kernel_rfl
def aOL:FnI Tryz.prog 182 Tryz.f182:=⟨by kernel_rfl,Tryz.func182⟩
def aBc:ak Tryz.prog 182=true:=by kernel_rfl
def aOK:FnI Tryz.prog 183 Tryz.f183:=⟨by kernel_rfl,Tryz.func183⟩
def aSN:ak Tryz.prog 183=true:=by kernel_rfl
def aOJ:FnI Tryz.prog 184 Tryz.f184:=⟨by kernel_rfl,Tryz.func184⟩
def aBb:ak Tryz.prog 184=true:=by kernel_rfl
def aOI:FnI Tryz.prog 185 Tryz.f185:=⟨by kernel_rfl,Tryz.func185⟩
def aSM:ak Tryz.prog 185=true:=by kernel_rfl
def aOH:FnI Tryz.prog 186 Tryz.f186:=⟨by kernel_rfl,Tryz.func186⟩
def aBa:ak Tryz.prog 186=true:=by kernel_rfl
def aOG:FnI Tryz.prog 187 Tryz.f187:=⟨by kernel_rfl,Tryz.func187⟩
def aSL:ak Tryz.prog 187=true:=by kernel_rfl
def aOF:FnI Tryz.prog 188 Tryz.f188:=⟨by kernel_rfl,Tryz.func188⟩
def aSK:ak Tryz.prog 188=true:=by kernel_rfl
def aOE:FnI Tryz.prog 189 Tryz.f189:=⟨by kernel_rfl,Tryz.func189⟩
def aA9:ak Tryz.prog 189=true:=by kernel_rfl
def aOD:FnI Tryz.prog 190 Tryz.f190:=⟨by kernel_rfl,Tryz.func190⟩
def aSJ:ak Tryz.prog 190=true:=by kernel_rfl
def aOC:FnI Tryz.prog 191 Tryz.f191:=⟨by kernel_rfl,Tryz.func191⟩
def aA8:ak Tryz.prog 191=true:=by kernel_rfl
def aOB:FnI Tryz.prog 192 Tryz.f192:=⟨by kernel_rfl,Tryz.func192⟩
def aSI:ak Tryz.prog 192=true:=by kernel_rfl
def aOA:FnI Tryz.prog 193 Tryz.f193:=⟨by kernel_rfl,Tryz.func193⟩
def aA7:ak Tryz.prog 193=true:=by kernel_rfl
def aOz:FnI Tryz.prog 194 Tryz.f194:=⟨by kernel_rfl,Tryz.func194⟩
def aA6:ak Tryz.prog 194=true:=by kernel_rfl
def aOy:FnI Tryz.prog 195 Tryz.f195:=⟨by kernel_rfl,Tryz.func195⟩
def aqY:ak Tryz.prog 195=true:=by kernel_rfl
def aOx:FnI Tryz.prog 196 Tryz.f196:=⟨by kernel_rfl,Tryz.func196⟩
def aA5:ak Tryz.prog 196=true:=by kernel_rfl
def aOw:FnI Tryz.prog 197 Tryz.f197:=⟨by kernel_rfl,Tryz.func197⟩
def aA4:ak Tryz.prog 197=true:=by kernel_rfl
def aOv:FnI Tryz.prog 198 Tryz.f198:=⟨by kernel_rfl,Tryz.func198⟩
def anj:ak Tryz.prog 198=true:=by kernel_rfl
def aOu:FnI Tryz.prog 199 Tryz.f199:=⟨by kernel_rfl,Tryz.func199⟩
def aA3:ak Tryz.prog 199=true:=by kernel_rfl
def aOt:FnI Tryz.prog 200 Tryz.f200:=⟨by kernel_rfl,Tryz.func200⟩
def aSH:ak Tryz.prog 200=true:=by kernel_rfl
def aOs:FnI Tryz.prog 201 Tryz.f201:=⟨by kernel_rfl,Tryz.func201⟩
def aSG:ak Tryz.prog 201=true:=by kernel_rfl
def aOr:FnI Tryz.prog 202 Tryz.f202:=⟨by kernel_rfl,Tryz.func202⟩
def aSF:ak Tryz.prog 202=true:=by kernel_rfl
def aOq:FnI Tryz.prog 203 Tryz.f203:=⟨by kernel_rfl,Tryz.func203⟩
def aSE:ak Tryz.prog 203=true:=by kernel_rfl
def aOp:FnI Tryz.prog 204 Tryz.f204:=⟨by kernel_rfl,Tryz.func204⟩
def aSD:ak Tryz.prog 204=true:=by kernel_rfl
def aOo:FnI Tryz.prog 205 Tryz.f205:=⟨by kernel_rfl,Tryz.func205⟩
def ani:ak Tryz.prog 205=true:=by kernel_rfl
def aOn:FnI Tryz.prog 206 Tryz.f206:=⟨by kernel_rfl,Tryz.func206⟩
def aka:ak Tryz.prog 206=true:=by kernel_rfl
def aSC:ak Tryz.prog 207=true:=by kernel_rfl
def aOm:FnI Tryz.prog 208 Tryz.f208:=⟨by kernel_rfl,Tryz.func208⟩
def aSB:ak Tryz.prog 208=true:=by kernel_rfl
def aOl:FnI Tryz.prog 210 Tryz.f210:=⟨by kernel_rfl,Tryz.func210⟩
def aSA:ak Tryz.prog 210=true:=by kernel_rfl
def aOk:FnI Tryz.prog 211 Tryz.f211:=⟨by kernel_rfl,Tryz.func211⟩
def aSz:ak Tryz.prog 211=true:=by kernel_rfl
def aOj:FnI Tryz.prog 212 Tryz.f212:=⟨by kernel_rfl,Tryz.func212⟩
def aSy:ak Tryz.prog 212=true:=by kernel_rfl
def aOi:FnI Tryz.prog 213 Tryz.f213:=⟨by kernel_rfl,Tryz.func213⟩
def aA2:ak Tryz.prog 213=true:=by kernel_rfl
def aOh:FnI Tryz.prog 214 Tryz.f214:=⟨by kernel_rfl,Tryz.func214⟩
def aSx:ak Tryz.prog 214=true:=by kernel_rfl
def aOg:FnI Tryz.prog 215 Tryz.f215:=⟨by kernel_rfl,Tryz.func215⟩
def aA1:ak Tryz.prog 215=true:=by kernel_rfl
def aOf:FnI Tryz.prog 216 Tryz.f216:=⟨by kernel_rfl,Tryz.func216⟩
def aSw:ak Tryz.prog 216=true:=by kernel_rfl
def aOe:FnI Tryz.prog 217 Tryz.f217:=⟨by kernel_rfl,Tryz.func217⟩
def aA0:ak Tryz.prog 217=true:=by kernel_rfl
def aOd:FnI Tryz.prog 218 Tryz.f218:=⟨by kernel_rfl,Tryz.func218⟩
def aqX:ak Tryz.prog 218=true:=by kernel_rfl
def aOc:FnI Tryz.prog 219 Tryz.f219:=⟨by kernel_rfl,Tryz.func219⟩
def aAZ:ak Tryz.prog 219=true:=by kernel_rfl
def aOb:FnI Tryz.prog 220 Tryz.f220:=⟨by kernel_rfl,Tryz.func220⟩
def aqW:ak Tryz.prog 220=true:=by kernel_rfl
def aOa:FnI Tryz.prog 221 Tryz.f221:=⟨by kernel_rfl,Tryz.func221⟩
def aAY:ak Tryz.prog 221=true:=by kernel_rfl
def aDR:FnI Tryz.prog 222 Tryz.f222:=⟨by kernel_rfl,Tryz.func222⟩
def aAX:ak Tryz.prog 222=true:=by kernel_rfl
def aSv:ak Tryz.prog 223=true:=by kernel_rfl
def aN9:FnI Tryz.prog 225 Tryz.f225:=⟨by kernel_rfl,Tryz.func225⟩
def aSu:ak Tryz.prog 225=true:=by kernel_rfl
def aSs:ak Tryz.prog 227=true:=by kernel_rfl
def aN8:FnI Tryz.prog 229 Tryz.f229:=⟨by kernel_rfl,Tryz.func229⟩
def aSr:ak Tryz.prog 229=true:=by kernel_rfl
def aN7:FnI Tryz.prog 230 Tryz.f230:=⟨by kernel_rfl,Tryz.func230⟩
def aSq:ak Tryz.prog 230=true:=by kernel_rfl
def aN6:FnI Tryz.prog 231 Tryz.f231:=⟨by kernel_rfl,Tryz.func231⟩
def aSp:ak Tryz.prog 231=true:=by kernel_rfl
def aN5:FnI Tryz.prog 232 Tryz.f232:=⟨by kernel_rfl,Tryz.func232⟩
def aSo:ak Tryz.prog 232=true:=by kernel_rfl
def aN4:FnI Tryz.prog 233 Tryz.f233:=⟨by kernel_rfl,Tryz.func233⟩
def aSn:ak Tryz.prog 233=true:=by kernel_rfl
def aN3:FnI Tryz.prog 234 Tryz.f234:=⟨by kernel_rfl,Tryz.func234⟩
def aSm:ak Tryz.prog 234=true:=by kernel_rfl
def aN2:FnI Tryz.prog 235 Tryz.f235:=⟨by kernel_rfl,Tryz.func235⟩
def aSl:ak Tryz.prog 235=true:=by kernel_rfl
def aN1:FnI Tryz.prog 236 Tryz.f236:=⟨by kernel_rfl,Tryz.func236⟩
def aSk:ak Tryz.prog 236=true:=by kernel_rfl
def aN0:FnI Tryz.prog 237 Tryz.f237:=⟨by kernel_rfl,Tryz.func237⟩
def aAW:ak Tryz.prog 237=true:=by kernel_rfl
def aNZ:FnI Tryz.prog 238 Tryz.f238:=⟨by kernel_rfl,Tryz.func238⟩
def aSj:ak Tryz.prog 238=true:=by kernel_rfl
def aNX:FnI Tryz.prog 239 Tryz.f239:=⟨by kernel_rfl,Tryz.func239⟩
def aSi:ak Tryz.prog 239=true:=by kernel_rfl
def aNW:FnI Tryz.prog 240 Tryz.f240:=⟨by kernel_rfl,Tryz.func240⟩
def aSh:ak Tryz.prog 240=true:=by kernel_rfl
def aNV:FnI Tryz.prog 241 Tryz.f241:=⟨by kernel_rfl,Tryz.func241⟩
def aSg:ak Tryz.prog 241=true:=by kernel_rfl
def aNU:FnI Tryz.prog 242 Tryz.f242:=⟨by kernel_rfl,Tryz.func242⟩
def aSf:ak Tryz.prog 242=true:=by kernel_rfl
def aNT:FnI Tryz.prog 243 Tryz.f243:=⟨by kernel_rfl,Tryz.func243⟩
def aAV:ak Tryz.prog 243=true:=by kernel_rfl
def aNS:FnI Tryz.prog 244 Tryz.f244:=⟨by kernel_rfl,Tryz.func244⟩
def aAU:ak Tryz.prog 244=true:=by kernel_rfl
def aNR:FnI Tryz.prog 245 Tryz.f245:=⟨by kernel_rfl,Tryz.func245⟩
def aqV:ak Tryz.prog 245=true:=by kernel_rfl
def aSe:ak Tryz.prog 246=true:=by kernel_rfl
def aNQ:FnI Tryz.prog 247 Tryz.f247:=⟨by kernel_rfl,Tryz.func247⟩
def aSd:ak Tryz.prog 247=true:=by kernel_rfl
def aNP:FnI Tryz.prog 248 Tryz.f248:=⟨by kernel_rfl,Tryz.func248⟩
def aSc:ak Tryz.prog 248=true:=by kernel_rfl
def aNO:FnI Tryz.prog 249 Tryz.f249:=⟨by kernel_rfl,Tryz.func249⟩
def aSb:ak Tryz.prog 249=true:=by kernel_rfl
def aNN:FnI Tryz.prog 250 Tryz.f250:=⟨by kernel_rfl,Tryz.func250⟩
def aSa:ak Tryz.prog 250=true:=by kernel_rfl
def aNM:FnI Tryz.prog 251 Tryz.f251:=⟨by kernel_rfl,Tryz.func251⟩
def aR9:ak Tryz.prog 251=true:=by kernel_rfl
def aNL:FnI Tryz.prog 252 Tryz.f252:=⟨by kernel_rfl,Tryz.func252⟩
def aR8:ak Tryz.prog 252=true:=by kernel_rfl
def aNK:FnI Tryz.prog 253 Tryz.f253:=⟨by kernel_rfl,Tryz.func253⟩
def aR7:ak Tryz.prog 253=true:=by kernel_rfl
def aNJ:FnI Tryz.prog 260 Tryz.f260:=⟨by kernel_rfl,Tryz.func260⟩
def aR6:ak Tryz.prog 260=true:=by kernel_rfl
def aNI:FnI Tryz.prog 261 Tryz.f261:=⟨by kernel_rfl,Tryz.func261⟩
def aR5:ak Tryz.prog 261=true:=by kernel_rfl
def aNH:FnI Tryz.prog 262 Tryz.f262:=⟨by kernel_rfl,Tryz.func262⟩
def aR4:ak Tryz.prog 262=true:=by kernel_rfl
def aU1:bh 5=false:=rfl
def aU0:bh 6=false:=rfl
def aUZ:bh 7=false:=rfl
def a5G:bh 8=false:=rfl
def a5F:bh 9=false:=rfl
def a2W:bh 10=false:=rfl
def aNt:bh 11=false:=rfl
def a2V:bh 12=false:=rfl
def aNs:bh 13=false:=rfl
def a2U:bh 14=false:=rfl
def atk:bh 15=false:=rfl
def atj:bh 16=false:=rfl
def a2T:bh 17=false:=rfl
def a2S:bh 18=true:=rfl
def a5x:tkF 18=false:=rfl
def aC5:bh 19=true:=rfl
def aKb:tkF 19=false:=rfl
def a2R:bh 20=false:=rfl
def aC4:bh 21=false:=rfl
def a2Q:bh 22=false:=rfl
def a2P:bh 23=false:=rfl
def am5:bh 24=true:=rfl
def aqf:tkF 24=false:=rfl
def a2O:bh 25=false:=rfl
def am4:bh 26=false:=rfl
def a2N:bh 27=false:=rfl
def aNr:bh 28=true:=rfl
def aT8:tkF 28=false:=rfl
def a2M:bh 29=false:=rfl
def aNq:bh 30=false:=rfl
def aNp:bh 31=false:=rfl
def a2L:bh 32=false:=rfl
def aC3:bh 33=false:=rfl
def a2K:bh 34=false:=rfl
def a2J:bh 35=true:=rfl
def a5w:tkF 35=false:=rfl
def ac4:bh 36=true:=rfl
def aez:tkF 36=false:=rfl
def aeq:bh 37=true:=rfl
def agl:tkF 37=false:=rfl
def afI:bh 38=true:=rfl
def ahP:tkF 38=false:=rfl
def aC2:bh 39=true:=rfl
def aKa:tkF 39=false:=rfl
def a2I:bh 40=true:=rfl
def a5v:tkF 40=false:=rfl
def a2H:bh 41=true:=rfl
def a5u:tkF 41=false:=rfl
def aNo:bh 42=true:=rfl
def aT7:tkF 42=false:=rfl
def agv:bh 43=true:=rfl
def aiv:tkF 43=false:=rfl
def aC1:bh 44=true:=rfl
def aJ9:tkF 44=false:=rfl
def aNn:bh 45=false:=rfl
def a2G:bh 46=true:=rfl
def a5t:tkF 46=false:=rfl
def a2F:bh 47=true:=rfl
def a5s:tkF 47=false:=rfl
def a2E:bh 48=true:=rfl
def a5r:tkF 48=false:=rfl
def a2D:bh 49=true:=rfl
def a5q:tkF 49=false:=rfl
def a2C:bh 50=false:=rfl
def aC0:bh 51=false:=rfl
def a2B:bh 52=false:=rfl
def a2A:bh 53=false:=rfl
def ahj:bh 54=false:=rfl
def a2z:bh 55=false:=rfl
def a2y:bh 56=false:=rfl
def a2x:bh 57=false:=rfl
def aCZ:bh 58=true:=rfl
def aJ8:tkF 58=true:=rfl
def ah5:bh 59=false:=rfl
def aNm:bh 60=false:=rfl
def am3:bh 61=false:=rfl
def am2:bh 62=false:=rfl
def a2w:bh 63=true:=rfl
def a5p:tkF 63=false:=rfl
def aCY:bh 64=true:=rfl
def aJ7:tkF 64=false:=rfl
def aCX:bh 65=true:=rfl
def aJ6:tkF 65=false:=rfl
def aCW:bh 66=true:=rfl
def aJ5:tkF 66=false:=rfl
def a2v:bh 67=true:=rfl
def a5o:tkF 67=false:=rfl
def aNl:bh 68=false:=rfl
def a2u:bh 69=true:=rfl
def a5n:tkF 69=false:=rfl
def aCV:bh 70=true:=rfl
def aJ4:tkF 70=false:=rfl
def aNk:bh 71=true:=rfl
def aT6:tkF 71=false:=rfl
def aNj:bh 72=false:=rfl
def apf:bh 73=false:=rfl
def a2t:bh 74=false:=rfl
def a2s:bh 75=false:=rfl
def aCU:bh 76=false:=rfl
def ah4:bh 77=false:=rfl
def ahi:bh 78=false:=rfl
def aNi:bh 79=false:=rfl
def aNh:bh 80=false:=rfl
def aNg:bh 81=true:=rfl
def aT5:tkF 81=false:=rfl
def ati:bh 82=true:=rfl
def aCi:tkF 82=false:=rfl
def a2r:bh 83=true:=rfl
def a5m:tkF 83=false:=rfl
def a2q:bh 84=true:=rfl
def a5l:tkF 84=false:=rfl
def a2p:bh 85=true:=rfl
def a5k:tkF 85=false:=rfl
def a2o:bh 86=true:=rfl
def ath:bh 87=false:=rfl
def ape:bh 88=false:=rfl
def a2n:bh 89=false:=rfl
def ai3:bh 90=false:=rfl
def aCT:bh 91=false:=rfl
def a2m:bh 92=false:=rfl
def a2l:bh 93=false:=rfl
def aNf:bh 94=false:=rfl
def a2k:bh 95=false:=rfl
def a2j:bh 96=false:=rfl
def aNe:bh 97=false:=rfl
def apd:bh 98=false:=rfl
def a2i:bh 99=false:=rfl
def aGT:bh 100=false:=rfl
def afw:bh 101=false:=rfl
def apn:bh 102=false:=rfl
def afv:bh 103=false:=rfl
def aWl:bh 104=false:=rfl
def aGS:bh 105=false:=rfl
def aWk:bh 106=false:=rfl
def aGR:bh 107=false:=rfl
def aWj:bh 108=false:=rfl
def aGQ:bh 109=false:=rfl
def ajR:bh 110=false:=rfl
def auQ:bh 111=false:=rfl
def apm:bh 112=false:=rfl
def aWi:bh 113=false:=rfl
def aGP:bh 114=false:=rfl
def aWh:bh 115=false:=rfl
def aGO:bh 116=false:=rfl
def aGN:bh 117=false:=rfl
def aWg:bh 118=false:=rfl
def aWf:bh 119=true:=rfl
def a1z:tkF 119=false:=rfl
def aWe:bh 120=false:=rfl
def aWd:bh 121=true:=rfl
def a1y:tkF 121=false:=rfl
def aWc:bh 122=true:=rfl
def a1x:tkF 122=false:=rfl
def aWb:bh 123=false:=rfl
def aWa:bh 125=false:=rfl
def aV9:bh 126=false:=rfl
def ahx:bh 127=false:=rfl
def aV8:bh 128=false:=rfl
def aGM:bh 129=false:=rfl
def aV7:bh 130=false:=rfl
def apk:bh 131=false:=rfl
def aV6:bh 132=false:=rfl
def ajQ:bh 133=false:=rfl
def apj:bh 134=false:=rfl
def aV5:bh 135=false:=rfl
def aV4:bh 136=false:=rfl
def auP:bh 137=false:=rfl
def aV3:bh 138=false:=rfl
def aGL:bh 139=false:=rfl
def aGK:bh 140=false:=rfl
def auO:bh 141=false:=rfl
def auN:bh 142=false:=rfl
def aV2:bh 143=false:=rfl
def aGJ:bh 144=false:=rfl
def aV1:bh 145=false:=rfl
def aGI:bh 146=false:=rfl
def aGH:bh 147=false:=rfl
def aGG:bh 148=false:=rfl
def aGF:bh 149=true:=rfl
def aM6:tkF 149=false:=rfl
def api:bh 150=true:=rfl
def atd:tkF 150=false:=rfl
def aGE:bh 151=true:=rfl
def aM5:tkF 151=false:=rfl
def aGD:bh 152=true:=rfl
def aM4:tkF 152=false:=rfl
def aGC:bh 153=true:=rfl
def aM3:tkF 153=false:=rfl
def aV0:bh 154=false:=rfl
def aVZ:bh 155=false:=rfl
def aVY:bh 156=false:=rfl
def aVX:bh 157=false:=rfl
def aGB:bh 158=false:=rfl
def aGA:bh 159=false:=rfl
def aGz:bh 160=false:=rfl
def auM:bh 161=false:=rfl
def aVW:bh 162=false:=rfl
def aGy:bh 163=false:=rfl
def aGx:bh 164=false:=rfl
def aVV:bh 165=false:=rfl
def aaY:bh 166=true:=rfl
def aVU:bh 167=false:=rfl
def auL:bh 168=false:=rfl
def aVT:bh 169=false:=rfl
def agw:bh 170=false:=rfl
def aGw:bh 171=false:=rfl
def aVS:bh 172=false:=rfl
def aVR:bh 173=false:=rfl
def aGv:bh 174=true:=rfl
def aM2:tkF 174=false:=rfl
def aGu:bh 175=true:=rfl
def aM1:tkF 175=false:=rfl
def aVQ:bh 176=false:=rfl
def aVP:bh 177=false:=rfl
def aVO:bh 178=false:=rfl
def aVN:bh 179=false:=rfl
def aGt:bh 180=false:=rfl
def aVM:bh 181=false:=rfl
def aGs:bh 182=false:=rfl
def aVL:bh 183=false:=rfl
def aGr:bh 184=false:=rfl
def aVK:bh 185=false:=rfl
def aGq:bh 186=false:=rfl
def aVJ:bh 187=false:=rfl
def aVI:bh 188=false:=rfl
def aGp:bh 189=false:=rfl
def aVH:bh 190=false:=rfl
def aGo:bh 191=false:=rfl
def aVG:bh 192=false:=rfl
def aGn:bh 193=false:=rfl
def aGm:bh 194=false:=rfl
def auK:bh 195=false:=rfl
def aGl:bh 196=false:=rfl
def aGk:bh 197=false:=rfl
def aph:bh 198=false:=rfl
def aGj:bh 199=false:=rfl
def aVF:bh 200=false:=rfl
def aVE:bh 201=false:=rfl
def aVD:bh 202=false:=rfl
def aVC:bh 203=false:=rfl
def aVB:bh 204=false:=rfl
def apg:bh 205=false:=rfl
def al3:bh 206=false:=rfl
def aVA:bh 207=false:=rfl
def aVz:bh 208=false:=rfl
def aVy:bh 210=false:=rfl
def aVx:bh 211=false:=rfl
def aVw:bh 212=false:=rfl
def aGi:bh 213=false:=rfl
def aVv:bh 214=false:=rfl
def aGh:bh 215=false:=rfl
def aVu:bh 216=false:=rfl
def aGg:bh 217=false:=rfl
def auJ:bh 218=false:=rfl
def aGf:bh 219=false:=rfl
def auI:bh 220=false:=rfl
def aGe:bh 221=false:=rfl
def aGd:bh 222=false:=rfl
def aVt:bh 223=false:=rfl
def aVs:bh 225=false:=rfl
def aVq:bh 227=false:=rfl
def aVp:bh 229=false:=rfl
def aVo:bh 230=false:=rfl
def aVn:bh 231=false:=rfl
def aVm:bh 232=false:=rfl
def aVl:bh 233=false:=rfl
def aVk:bh 234=false:=rfl
def aVj:bh 235=false:=rfl
def aVi:bh 236=false:=rfl
def aGc:bh 237=false:=rfl
def aVh:bh 238=false:=rfl
def aVg:bh 239=false:=rfl
def aVf:bh 240=false:=rfl
def aVe:bh 241=false:=rfl
def aVd:bh 242=false:=rfl
def aGb:bh 243=false:=rfl
def aGa:bh 244=false:=rfl
def auH:bh 245=false:=rfl
def aVc:bh 246=false:=rfl
def aVb:bh 247=false:=rfl
def aVa:bh 248=false:=rfl
def aU9:bh 249=false:=rfl
def aU8:bh 250=false:=rfl
def aU7:bh 251=false:=rfl
def aU6:bh 252=false:=rfl
def aU5:bh 253=false:=rfl
def aU4:bh 260=false:=rfl
def aU3:bh 261=false:=rfl
def aU2:bh 262=false:=rfl
def mtL:List (String×Nat):=[("law.go:26",2),("law.go:28",2),("print.go:111",2),("print.go:226",2),("print.go:257",3),("print.go:305",2),("print.go:309",4),("print.go:357",2),("print.go:403",4),("print.go:422",9),("print.go:432",9),("print.go:442",9),("print.go:96",3),("ref.go:304",4),("ref.go:307",2),("ref.go:310",2),("ref.go:311",3),("ref.go:318",2),("ref.go:319",3),("ref.go:326",2),("ref.go:327",3),("ref.go:330",6),("ref.go:343",2),("ref.go:344",3),("strings.go:1149",10),("syntax.go:174",3),("syntax.go:211",4),("syntax.go:214",2),("syntax.go:217",4),("syntax.go:218",5),("syntax.go:226",2),("syntax.go:229",2),("syntax.go:237",2),("syntax.go:242",2),("syntax.go:248",2),("syntax.go:249",2),("syntax.go:250",2),("syntax.go:63",5),("value.go:15",2)]
def mtF (po:String):Option Nat→Bool
 | some d=>mtL.any fun p=>p.2 == d&&p.1 == po
 | none=>false
def aY (f:Nat):Bool:=[59,30,26,90,91,92,93,162,222,163,60,165,74,75,137,55,57,56,22,58].contains f
def mt0:mtF "law.go:15" (some 1)=false:=by kernel_rfl
def mt1:mtF "law.go:15" (some 2)=false:=by kernel_rfl
def mt2:mtF "law.go:15" (some 3)=false:=by kernel_rfl
def mt3:mtF "law.go:16" (some 4)=false:=by kernel_rfl
def mt4:mtF "law.go:17" (some 5)=false:=by kernel_rfl
def mt5:mtF "law.go:25" (some 1)=false:=by kernel_rfl
def mt6:mtF "law.go:26" (some 1)=false:=by kernel_rfl
def mt7:mtF "law.go:26" (some 2)=true:=by kernel_rfl
def mt8:mtF "law.go:28" (some 1)=false:=by kernel_rfl
def mt9:mtF "law.go:28" (some 2)=true:=by kernel_rfl
def a67:mtF "law.go:31" (some 1)=false:=by kernel_rfl
def a66:mtF "law.go:41" (some 2)=false:=by kernel_rfl
def a65:mtF "law.go:41" (some 3)=false:=by kernel_rfl
def a64:mtF "law.go:64" (some 8)=false:=by kernel_rfl
def a63:mtF "print.go:101" (some 3)=false:=by kernel_rfl
def a62:mtF "print.go:111" (some 2)=true:=by kernel_rfl
def a61:mtF "print.go:111" (some 3)=false:=by kernel_rfl
def a60:mtF "print.go:116" (some 3)=false:=by kernel_rfl
def a6Z:mtF "print.go:194" (some 3)=false:=by kernel_rfl
def a6Y:mtF "print.go:212" (some 3)=false:=by kernel_rfl
def a6X:mtF "print.go:226" (some 2)=true:=by kernel_rfl
def a6W:mtF "print.go:226" (some 3)=false:=by kernel_rfl
def a6V:mtF "print.go:245" (some 7)=false:=by kernel_rfl
def a6U:mtF "print.go:257" (some 3)=true:=by kernel_rfl
def a6T:mtF "print.go:257" (some 4)=false:=by kernel_rfl
def a6S:mtF "print.go:263" (some 3)=false:=by kernel_rfl
def a6R:mtF "print.go:273" (some 3)=false:=by kernel_rfl
def a6Q:mtF "print.go:278" (some 5)=false:=by kernel_rfl
def a6P:mtF "print.go:305" (some 2)=true:=by kernel_rfl
def a6O:mtF "print.go:305" (some 3)=false:=by kernel_rfl
def a6N:mtF "print.go:309" (some 4)=true:=by kernel_rfl
def a6M:mtF "print.go:314" (some 7)=false:=by kernel_rfl
def a6L:mtF "print.go:320" (some 9)=false:=by kernel_rfl
def a6K:mtF "print.go:326" (some 11)=false:=by kernel_rfl
def a6J:mtF "print.go:334" (some 13)=false:=by kernel_rfl
def a6I:mtF "print.go:343" (some 3)=false:=by kernel_rfl
def a6H:mtF "print.go:351" (some 5)=false:=by kernel_rfl
def a6G:mtF "print.go:357" (some 2)=true:=by kernel_rfl
def a6F:mtF "print.go:357" (some 3)=false:=by kernel_rfl
def a6E:mtF "print.go:383" (some 2)=false:=by kernel_rfl
def a6D:mtF "print.go:403" (some 4)=true:=by kernel_rfl
def a6C:mtF "print.go:418" (some 1)=false:=by kernel_rfl
def a6B:mtF "print.go:422" (some 9)=true:=by kernel_rfl
def a6A:mtF "print.go:428" (some 1)=false:=by kernel_rfl
def a6z:mtF "print.go:432" (some 9)=true:=by kernel_rfl
def a6y:mtF "print.go:438" (some 1)=false:=by kernel_rfl
def a6x:mtF "print.go:442" (some 9)=true:=by kernel_rfl
def aDa:mtF "print.go:75" (some 7)=false:=by kernel_rfl
def a6w:mtF "print.go:96" (some 3)=true:=by kernel_rfl
def a6v:mtF "print.go:96" (some 4)=false:=by kernel_rfl
def a6u:mtF "ref.go:111" (some 1)=false:=by kernel_rfl
def a6t:mtF "ref.go:119" (some 1)=false:=by kernel_rfl
def a6s:mtF "ref.go:125" (some 1)=false:=by kernel_rfl
def a6r:mtF "ref.go:133" (some 1)=false:=by kernel_rfl
def a6q:mtF "ref.go:145" (some 1)=false:=by kernel_rfl
def a6p:mtF "ref.go:168" (some 1)=false:=by kernel_rfl
def a6o:mtF "ref.go:177" (some 1)=false:=by kernel_rfl
def a6n:mtF "ref.go:181" (some 1)=false:=by kernel_rfl
def a6m:mtF "ref.go:182" (some 1)=false:=by kernel_rfl
def a6l:mtF "ref.go:206" (some 1)=false:=by kernel_rfl
def a6k:mtF "ref.go:218" (some 6)=false:=by kernel_rfl
def a6j:mtF "ref.go:226" (some 2)=false:=by kernel_rfl
def a6i:mtF "ref.go:234" (some 1)=false:=by kernel_rfl
def a6h:mtF "ref.go:247" (some 1)=false:=by kernel_rfl
def a6g:mtF "ref.go:251" (some 1)=false:=by kernel_rfl
def a6f:mtF "ref.go:269" (some 1)=false:=by kernel_rfl
def a6e:mtF "ref.go:274" (some 1)=false:=by kernel_rfl
def a6d:mtF "ref.go:304" (some 2)=false:=by kernel_rfl
def a6c:mtF "ref.go:304" (some 3)=false:=by kernel_rfl
def a6b:mtF "ref.go:304" (some 4)=true:=by kernel_rfl
def a6a:mtF "ref.go:307" (some 1)=false:=by kernel_rfl
def a59:mtF "ref.go:307" (some 2)=true:=by kernel_rfl
def a58:mtF "ref.go:310" (some 2)=true:=by kernel_rfl
def a57:mtF "ref.go:311" (some 3)=true:=by kernel_rfl
def a56:mtF "ref.go:318" (some 2)=true:=by kernel_rfl
def a55:mtF "ref.go:319" (some 3)=true:=by kernel_rfl
def a54:mtF "ref.go:32" (some 1)=false:=by kernel_rfl
def a52:mtF "ref.go:326" (some 2)=true:=by kernel_rfl
def a50:mtF "ref.go:327" (some 3)=true:=by kernel_rfl
def a5Z:mtF "ref.go:329" (some 5)=false:=by kernel_rfl
def a5Y:mtF "ref.go:330" (some 6)=true:=by kernel_rfl
def a5X:mtF "ref.go:332" (some 1)=false:=by kernel_rfl
def a5W:mtF "ref.go:343" (some 1)=false:=by kernel_rfl
def a5V:mtF "ref.go:343" (some 2)=true:=by kernel_rfl
def a5U:mtF "ref.go:344" (some 3)=true:=by kernel_rfl
def a5T:mtF "ref.go:360" (some 1)=false:=by kernel_rfl
def a5S:mtF "ref.go:376" (some 1)=false:=by kernel_rfl
def a5R:mtF "ref.go:386" (some 1)=false:=by kernel_rfl
def a5Q:mtF "ref.go:399" (some 1)=false:=by kernel_rfl
def a5P:mtF "ref.go:402" (some 1)=false:=by kernel_rfl
def a5O:mtF "ref.go:404" (some 1)=false:=by kernel_rfl
def a5N:mtF "ref.go:406" (some 1)=false:=by kernel_rfl
def a5M:mtF "ref.go:412" (some 2)=false:=by kernel_rfl
def a5L:mtF "ref.go:412" (some 3)=false:=by kernel_rfl
def a5K:mtF "ref.go:42" (some 1)=false:=by kernel_rfl
def a5J:mtF "ref.go:427" (some 1)=false:=by kernel_rfl
def a5I:mtF "ref.go:434" (some 1)=false:=by kernel_rfl
def a5H:mtF "ref.go:441" (some 1)=false:=by kernel_rfl
def a31:mtF "ref.go:66" (some 2)=false:=by kernel_rfl
def a30:mtF "ref.go:71" (some 1)=false:=by kernel_rfl
def a3Z:mtF "ref.go:99" (some 1)=false:=by kernel_rfl
def akX:mtF "slices.go:41" (some 8)=false:=by kernel_rfl
def akW:mtF "slices.go:42" (some 9)=false:=by kernel_rfl
def a3Y:mtF "syntax.go:102" (some 1)=false:=by kernel_rfl
def a3X:mtF "syntax.go:107" (some 5)=false:=by kernel_rfl
def a3W:mtF "syntax.go:114" (some 1)=false:=by kernel_rfl
def a3V:mtF "syntax.go:131" (some 1)=false:=by kernel_rfl
def a3U:mtF "syntax.go:134" (some 1)=false:=by kernel_rfl
def a3T:mtF "syntax.go:142" (some 1)=false:=by kernel_rfl
def a3S:mtF "syntax.go:156" (some 1)=false:=by kernel_rfl
def a3R:mtF "syntax.go:159" (some 1)=false:=by kernel_rfl
def a3Q:mtF "syntax.go:162" (some 1)=false:=by kernel_rfl
def a3P:mtF "syntax.go:167" (some 1)=false:=by kernel_rfl
def a3O:mtF "syntax.go:173" (some 1)=false:=by kernel_rfl
def a3N:mtF "syntax.go:174" (some 3)=true:=by kernel_rfl
def a3M:mtF "syntax.go:211" (some 2)=false:=by kernel_rfl
def a3L:mtF "syntax.go:211" (some 3)=false:=by kernel_rfl
def a3K:mtF "syntax.go:211" (some 4)=true:=by kernel_rfl
def a3J:mtF "syntax.go:214" (some 1)=false:=by kernel_rfl
def a3I:mtF "syntax.go:214" (some 2)=true:=by kernel_rfl
def am7:mtF "syntax.go:217" (some 4)=true:=by kernel_rfl
def am6:mtF "syntax.go:218" (some 5)=true:=by kernel_rfl
def aps:mtF "syntax.go:219" (some 7)=false:=by kernel_rfl
def a3H:mtF "syntax.go:226" (some 1)=false:=by kernel_rfl
def a3G:mtF "syntax.go:226" (some 2)=true:=by kernel_rfl
def a3F:mtF "syntax.go:229" (some 1)=false:=by kernel_rfl
def a3E:mtF "syntax.go:229" (some 2)=true:=by kernel_rfl
def a3D:mtF "syntax.go:237" (some 1)=false:=by kernel_rfl
def a3C:mtF "syntax.go:237" (some 2)=true:=by kernel_rfl
def a3B:mtF "syntax.go:242" (some 1)=false:=by kernel_rfl
def a3A:mtF "syntax.go:242" (some 2)=true:=by kernel_rfl
def a3z:mtF "syntax.go:243" (some 3)=false:=by kernel_rfl
def a3y:mtF "syntax.go:248" (some 1)=false:=by kernel_rfl
def a3x:mtF "syntax.go:248" (some 2)=true:=by kernel_rfl
def a3w:mtF "syntax.go:249" (some 2)=true:=by kernel_rfl
def a3v:mtF "syntax.go:249" (some 3)=false:=by kernel_rfl
def a3u:mtF "syntax.go:250" (some 1)=false:=by kernel_rfl
def a3t:mtF "syntax.go:250" (some 2)=true:=by kernel_rfl
def a3s:mtF "syntax.go:250" (some 4)=false:=by kernel_rfl
def a3r:mtF "syntax.go:255" (some 1)=false:=by kernel_rfl
def a3q:mtF "syntax.go:258" (some 1)=false:=by kernel_rfl
def a3p:mtF "syntax.go:261" (some 1)=false:=by kernel_rfl
def a3o:mtF "syntax.go:264" (some 1)=false:=by kernel_rfl
def a3n:mtF "syntax.go:270" (some 2)=false:=by kernel_rfl
def a3m:mtF "syntax.go:270" (some 3)=false:=by kernel_rfl
def a3l:mtF "syntax.go:275" (some 2)=false:=by kernel_rfl
def a3k:mtF "syntax.go:275" (some 3)=false:=by kernel_rfl
def a3j:mtF "syntax.go:280" (some 2)=false:=by kernel_rfl
def a3i:mtF "syntax.go:280" (some 3)=false:=by kernel_rfl
def a3h:mtF "syntax.go:285" (some 2)=false:=by kernel_rfl
def a3g:mtF "syntax.go:285" (some 3)=false:=by kernel_rfl
def a3f:mtF "syntax.go:290" (some 2)=false:=by kernel_rfl
def a3e:mtF "syntax.go:290" (some 3)=false:=by kernel_rfl
def a3d:mtF "syntax.go:291" (some 2)=false:=by kernel_rfl
def a3c:mtF "syntax.go:291" (some 3)=false:=by kernel_rfl
def a3b:mtF "syntax.go:292" (some 2)=false:=by kernel_rfl
def a3a:mtF "syntax.go:292" (some 3)=false:=by kernel_rfl
def a29:mtF "syntax.go:296" (some 2)=false:=by kernel_rfl
def a28:mtF "syntax.go:296" (some 3)=false:=by kernel_rfl
def agC:mtF "syntax.go:34" (some 7)=false:=by kernel_rfl
def ah6:mtF "syntax.go:35" (some 2)=false:=by kernel_rfl
def a27:mtF "syntax.go:58" (some 1)=false:=by kernel_rfl
def a26:mtF "syntax.go:59" (some 3)=false:=by kernel_rfl
def a25:mtF "syntax.go:63" (some 5)=true:=by kernel_rfl
def a24:mtF "syntax.go:94" (some 1)=false:=by kernel_rfl
def a22:mtF "value.go:15" (some 2)=true:=by kernel_rfl
def a2Z:mtF "value.go:33" (some 1)=false:=by kernel_rfl
def a2Y:mtF "value.go:89" (some 1)=false:=by kernel_rfl
def aNC:aY 3=false:=rfl
def aNB:aY 4=false:=rfl
def aNA:aY 5=false:=rfl
def aNz:aY 6=false:=rfl
def aDv:aY 7=false:=rfl
def aNx:aY 8=false:=rfl
def aNw:aY 9=false:=rfl
def aIr:aY 10=false:=rfl
def avi:aY 11=false:=rfl
def aIq:aY 12=false:=rfl
def avh:aY 13=false:=rfl
def aIp:aY 14=false:=rfl
def avg:aY 15=false:=rfl
def avf:aY 16=false:=rfl
def aIo:aY 17=false:=rfl
def aeK:aY 18=false:=rfl
def aIn:aY 19=false:=rfl
def aIm:aY 20=false:=rfl
def aIl:aY 21=false:=rfl
def ad6:aY 22=true:=rfl
def aIk:aY 23=false:=rfl
def ave:aY 24=false:=rfl
def aIj:aY 25=false:=rfl
def aIi:aY 26=true:=rfl
def aIh:aY 27=false:=rfl
def aIg:aY 28=false:=rfl
def aIf:aY 29=false:=rfl
def aIe:aY 30=true:=rfl
def avd:aY 31=false:=rfl
def aId:aY 32=false:=rfl
def aIc:aY 33=false:=rfl
def ach:aY 34=false:=rfl
def aIb:aY 35=false:=rfl
def aIa:aY 36=false:=rfl
def aH9:aY 37=false:=rfl
def aH8:aY 38=false:=rfl
def aH7:aY 39=false:=rfl
def avc:aY 40=false:=rfl
def aH6:aY 41=false:=rfl
def aH5:aY 42=false:=rfl
def aH4:aY 43=false:=rfl
def aH3:aY 44=false:=rfl
def aH2:aY 45=false:=rfl
def aH1:aY 48=false:=rfl
def acg:aY 50=false:=rfl
def aH0:aY 51=false:=rfl
def aHZ:aY 52=false:=rfl
def aHY:aY 53=false:=rfl
def aHX:aY 54=false:=rfl
def aHW:aY 55=true:=rfl
def avb:aY 56=true:=rfl
def ava:aY 57=true:=rfl
def aHV:aY 58=true:=rfl
def aHU:aY 59=true:=rfl
def au9:aY 60=true:=rfl
def aHT:aY 61=false:=rfl
def aHS:aY 62=false:=rfl
def aHR:aY 63=false:=rfl
def aHQ:aY 64=false:=rfl
def aHP:aY 65=false:=rfl
def aHO:aY 66=false:=rfl
def aHN:aY 67=false:=rfl
def aHM:aY 68=false:=rfl
def aHL:aY 69=false:=rfl
def aHK:aY 70=false:=rfl
def aHJ:aY 71=false:=rfl
def aHI:aY 72=false:=rfl
def aHH:aY 73=false:=rfl
def gA:aY 74=true:=rfl
def aiF:aY 75=true:=rfl
def au8:aY 76=false:=rfl
def aHG:aY 77=false:=rfl
def aHF:aY 78=false:=rfl
def aHE:aY 79=false:=rfl
def aHD:aY 80=false:=rfl
def aHC:aY 81=false:=rfl
def aHB:aY 82=false:=rfl
def aHA:aY 83=false:=rfl
def aHz:aY 84=false:=rfl
def aHy:aY 85=false:=rfl
def aHx:aY 86=false:=rfl
def aHw:aY 87=false:=rfl
def aHv:aY 88=false:=rfl
def aHu:aY 89=false:=rfl
def aHt:aY 90=true:=rfl
def aHs:aY 91=true:=rfl
def aHr:aY 92=true:=rfl
def apC:aY 93=true:=rfl
def aHq:aY 94=false:=rfl
def aHp:aY 95=false:=rfl
def aHo:aY 96=false:=rfl
def aHn:aY 97=false:=rfl
def aHm:aY 98=false:=rfl
def aHl:aY 99=false:=rfl
def aAE:aY 100=false:=rfl
def aAD:aY 101=false:=rfl
def aAC:aY 102=false:=rfl
def aAB:aY 103=false:=rfl
def aAA:aY 104=false:=rfl
def aAz:aY 105=false:=rfl
def aAy:aY 106=false:=rfl
def aAx:aY 107=false:=rfl
def aAw:aY 108=false:=rfl
def aAv:aY 109=false:=rfl
def aAu:aY 110=false:=rfl
def aAt:aY 111=false:=rfl
def aAs:aY 112=false:=rfl
def aAr:aY 113=false:=rfl
def aAq:aY 114=false:=rfl
def aAp:aY 115=false:=rfl
def aAo:aY 116=false:=rfl
def aAn:aY 117=false:=rfl
def aAm:aY 118=false:=rfl
def aAl:aY 119=false:=rfl
def aAk:aY 120=false:=rfl
def aAj:aY 121=false:=rfl
def aAi:aY 122=false:=rfl
def aAh:aY 123=false:=rfl
def aAg:aY 125=false:=rfl
def aAf:aY 126=false:=rfl
def aAe:aY 127=false:=rfl
def aAd:aY 128=false:=rfl
def aAc:aY 129=false:=rfl
def aAb:aY 130=false:=rfl
def aAa:aY 131=false:=rfl
def az9:aY 132=false:=rfl
def az8:aY 133=false:=rfl
def az7:aY 134=false:=rfl
def az6:aY 135=false:=rfl
def az5:aY 136=false:=rfl
def az4:aY 137=true:=rfl
def az3:aY 138=false:=rfl
def az2:aY 139=false:=rfl
def az1:aY 140=false:=rfl
def az0:aY 141=false:=rfl
def azZ:aY 142=false:=rfl
def azY:aY 143=false:=rfl
def azX:aY 144=false:=rfl
def azW:aY 145=false:=rfl
def azV:aY 146=false:=rfl
def azU:aY 147=false:=rfl
def azT:aY 148=false:=rfl
def azS:aY 149=false:=rfl
def azR:aY 150=false:=rfl
def azQ:aY 151=false:=rfl
def azP:aY 152=false:=rfl
def azO:aY 153=false:=rfl
def azN:aY 154=false:=rfl
def azM:aY 155=false:=rfl
def azL:aY 156=false:=rfl
def azK:aY 157=false:=rfl
def azJ:aY 158=false:=rfl
def azI:aY 159=false:=rfl
def azH:aY 160=false:=rfl
def azG:aY 161=false:=rfl
def azF:aY 162=true:=rfl
def acz:aY 163=true:=rfl
def azE:aY 164=false:=rfl
def aqP:aY 165=true:=rfl
def azD:aY 166=false:=rfl
def azC:aY 167=false:=rfl
def azB:aY 168=false:=rfl
def azA:aY 169=false:=rfl
def azz:aY 170=false:=rfl
def azy:aY 171=false:=rfl
def azx:aY 172=false:=rfl
def azw:aY 174=false:=rfl
def azv:aY 175=false:=rfl
def aqO:aY 176=false:=rfl
def azu:aY 177=false:=rfl
def azt:aY 178=false:=rfl
def azs:aY 179=false:=rfl
def azr:aY 180=false:=rfl
def azq:aY 181=false:=rfl
def azp:aY 182=false:=rfl
def azo:aY 183=false:=rfl
def azn:aY 184=false:=rfl
def azm:aY 185=false:=rfl
def azl:aY 186=false:=rfl
def azk:aY 187=false:=rfl
def azj:aY 188=false:=rfl
def azi:aY 189=false:=rfl
def azh:aY 190=false:=rfl
def azg:aY 191=false:=rfl
def azf:aY 192=false:=rfl
def aze:aY 193=false:=rfl
def azd:aY 194=false:=rfl
def azc:aY 195=false:=rfl
def azb:aY 196=false:=rfl
def aza:aY 197=false:=rfl
def ay9:aY 198=false:=rfl
def ay8:aY 199=false:=rfl
def ay7:aY 200=false:=rfl
def ay6:aY 201=false:=rfl
def ay5:aY 202=false:=rfl
def ay4:aY 203=false:=rfl
def ay3:aY 204=false:=rfl
def ay2:aY 205=false:=rfl
def ay1:aY 206=false:=rfl
def ay0:aY 208=false:=rfl
def ayZ:aY 210=false:=rfl
def ayY:aY 211=false:=rfl
def ayX:aY 212=false:=rfl
def ayW:aY 213=false:=rfl
def ayV:aY 214=false:=rfl
def ayU:aY 215=false:=rfl
def ayT:aY 216=false:=rfl
def ayS:aY 217=false:=rfl
def ayR:aY 218=false:=rfl
def ayQ:aY 219=false:=rfl
def ayP:aY 220=false:=rfl
def ayO:aY 221=false:=rfl
def aqN:aY 222=true:=rfl
def ayN:aY 225=false:=rfl
def ayM:aY 229=false:=rfl
def ayL:aY 230=false:=rfl
def ayK:aY 231=false:=rfl
def ayJ:aY 232=false:=rfl
def ayI:aY 233=false:=rfl
def ayH:aY 234=false:=rfl
def ayG:aY 235=false:=rfl
def ayF:aY 236=false:=rfl
def ayE:aY 237=false:=rfl
def ayD:aY 238=false:=rfl
def ayC:aY 239=false:=rfl
def ayB:aY 240=false:=rfl
def ayA:aY 241=false:=rfl
def ayz:aY 242=false:=rfl
def ayy:aY 243=false:=rfl
def ayx:aY 244=false:=rfl
def ayw:aY 245=false:=rfl
def ayv:aY 247=false:=rfl
def ayu:aY 248=false:=rfl
def ayt:aY 249=false:=rfl
def ays:aY 250=false:=rfl
def ayr:aY 251=false:=rfl
def ayq:aY 252=false:=rfl
def ayp:aY 253=false:=rfl
def ayo:aY 260=false:=rfl
def ayn:aY 261=false:=rfl
def aym:aY 262=false:=rfl
def mixed:Tryz.prog.follows .mixedOrders=true:=by kernel_rfl
end Go.Proofs.YtemdljoideegeaaGreatDoor
