/-
  The facts of this seat's translation that the evaluator wants: its types, its functions' bodies. Written by program. Conditions: none.
-/
import Derived.Test.YtjajlmjfddohfaaGreatDoorPa6
import Derived.Test.YtjajlmjfddohfaaGreatDoorProg
import Derived.KernelRfl
set_option linter.defProp false
set_option linter.unusedSectionVars false
set_option maxRecDepth 100000
set_option maxHeartbeats 32000000
namespace Go.Proofs.YtjajlmjfddohfaaGreatDoor
open Go Go.Pe
def FnI (P:Program) (f:Nat) (fn:Func):Prop:=azJ P f=true∧P.funcs[f]?=some fn
def aD (f:Nat):Bool:=[168,74,98].contains f
def tkF (f:Nat):Bool:=[].contains f
theorem frG {T:TT} {t:Nat} {d:TD} (h:T t=some d) (j o z:Nat) (g:d.fields[j]?=some (o,z+1)) (cs:List C):gL T t j (.of (.ref cs))=Pe.out (.of (.ref (cs.drop o))):=by simp only [gL,aek,h,Option.bind_some,g];rfl
theorem faG {T:TT} {t:Nat} {d:TD} (h:T t=some d) (j o z:Nat) (g:d.fields[j]?=some (o,z+1)) (r a:Nat):gL T t j (.ptr r a)=Pe.out (.ptr r (a+o)):=by simp only [gL,aek,h,Option.bind_some,g];rfl
theorem fxG {T:TT} {t:Nat} {d:TD} (h:T t=some d) (j o z u:Nat) (g:d.fields[j]?=some (o,z)) (k:ai8 d.und j=some u) (xs:List X):aaN T t j (.agg xs)=bB (cw T u (xs.drop o)):=by simp only [aaN,h,g,k]
theorem fcG {T:TT} {t:Nat} {d:TD} (h:T t=some d) (j o z u:Nat) (g:d.fields[j]?=some (o,z)) (k:ai8 d.und j=some u) (cs:List C):aaN T t j (.of (.agg cs))=bB ((aY T u (cs.drop o)).map .of):=by simp only [aaN,h,g,k]
theorem EG {T:TT} {t e a b:Nat} {f:Bool} {z:List Value} {q:List (Nat×Nat)} {d:TD} (h:T t=some ⟨.slice e,a,b,f,z,q⟩) (g:T e=some d):Pe.elemOf T t=some (e,d):=by simp only [Pe.elemOf,h,g,Option.map_some]
theorem UG {T:TT} {t a b:Nat} {y:TypeDesc} {f:Bool} {z:List Value} {q:List (Nat×Nat)} (h:T t=some ⟨y,a,b,f,z,q⟩):(T t).map (·.und)=some y:=by rw[h];rfl
theorem T3:TT.of Tryz.prog 3=some ⟨.int .i64,1,8,false,[.int .i64 0],[]⟩:=by kernel_rfl
theorem T4:TT.of Tryz.prog 4=some ⟨.bool,1,1,false,[.bool false],[]⟩:=by kernel_rfl
theorem T5:TT.of Tryz.prog 5=some ⟨.int .u8,1,1,false,[.int .u8 0],[]⟩:=by kernel_rfl
theorem T9:TT.of Tryz.prog 9=some ⟨.string,1,16,false,[.string ⟨#[]⟩],[]⟩:=by kernel_rfl
theorem T22:TT.of Tryz.prog 22=some ⟨.slice 38,1,24,false,[.slice none 0 0],[]⟩:=by kernel_rfl
theorem T24:TT.of Tryz.prog 24=some ⟨.slice 48,1,24,false,[.slice none 0 0],[]⟩:=by kernel_rfl
theorem T25:TT.of Tryz.prog 25=some ⟨.slice 60,1,24,false,[.slice none 0 0],[]⟩:=by kernel_rfl
theorem T27:TT.of Tryz.prog 27=some ⟨.struct #[⟨ "Tables",24,0,false,"","",0⟩,⟨ "Indexes",25,1,false,"","",24⟩,⟨ "Next",3,2,false,"","",48⟩],3,56,true,[.slice none 0 0,.slice none 0 0,.int .i64 0],[(0,1),(1,1),(2,1)]⟩:=by kernel_rfl
theorem T29:TT.of Tryz.prog 29=some ⟨.slice 53,1,24,false,[.slice none 0 0],[]⟩:=by kernel_rfl
theorem T30:TT.of Tryz.prog 30=some ⟨.slice 9,1,24,false,[.slice none 0 0],[]⟩:=by kernel_rfl
theorem T31:TT.of Tryz.prog 31=some ⟨.slice 55,1,24,false,[.slice none 0 0],[]⟩:=by kernel_rfl
theorem T32:TT.of Tryz.prog 32=some ⟨.slice 97,1,24,false,[.slice none 0 0],[]⟩:=by kernel_rfl
theorem T33:TT.of Tryz.prog 33=some ⟨.slice 88,1,24,false,[.slice none 0 0],[]⟩:=by kernel_rfl
theorem T34:TT.of Tryz.prog 34=some ⟨.slice 33,1,24,false,[.slice none 0 0],[]⟩:=by kernel_rfl
theorem T35:TT.of Tryz.prog 35=some ⟨.slice 143,1,24,false,[.slice none 0 0],[]⟩:=by kernel_rfl
theorem T36:TT.of Tryz.prog 36=some ⟨.slice 168,1,24,false,[.slice none 0 0],[]⟩:=by kernel_rfl
theorem T38:TT.of Tryz.prog 38=some ⟨.struct #[⟨ "Kind",3,0,false,"","",0⟩,⟨ "Table",9,1,false,"","",8⟩,⟨ "Name",9,2,false,"","",24⟩,⟨ "Cols",29,3,false,"","",40⟩,⟨ "Names",30,4,false,"","",64⟩,⟨ "Unique",4,5,false,"","",88⟩,⟨ "Keys",31,6,false,"","",96⟩,⟨ "Refs",32,7,false,"","",120⟩,⟨ "Checks",33,8,false,"","",144⟩,⟨ "Rows",34,9,false,"","",168⟩,⟨ "Sets",35,10,false,"","",192⟩,⟨ "Where",33,11,false,"","",216⟩,⟨ "Q",36,12,false,"","",240⟩],13,264,true,[.int .i64 0,.string ⟨#[]⟩,.string ⟨#[]⟩,.slice none 0 0,.slice none 0 0,.bool false,.slice none 0 0,.slice none 0 0,.slice none 0 0,.slice none 0 0,.slice none 0 0,.slice none 0 0,.slice none 0 0],[(0,1),(1,1),(2,1),(3,1),(4,1),(5,1),(6,1),(7,1),(8,1),(9,1),(10,1),(11,1),(12,1)]⟩:=by kernel_rfl
theorem T39:TT.of Tryz.prog 39=some ⟨.int .i64,1,8,false,[.int .i64 0],[]⟩:=by kernel_rfl
theorem T45:TT.of Tryz.prog 45=some ⟨.slice 93,1,24,false,[.slice none 0 0],[]⟩:=by kernel_rfl
theorem T46:TT.of Tryz.prog 46=some ⟨.slice 99,1,24,false,[.slice none 0 0],[]⟩:=by kernel_rfl
theorem T48:TT.of Tryz.prog 48=some ⟨.struct #[⟨ "Name",9,0,false,"","",0⟩,⟨ "Id",3,1,false,"","",16⟩,⟨ "Cols",29,2,false,"","",24⟩,⟨ "Keys",45,3,false,"","",48⟩,⟨ "Refs",46,4,false,"","",72⟩,⟨ "Checks",33,5,false,"","",96⟩],6,120,true,[.string ⟨#[]⟩,.int .i64 0,.slice none 0 0,.slice none 0 0,.slice none 0 0,.slice none 0 0],[(0,1),(1,1),(2,1),(3,1),(4,1),(5,1)]⟩:=by kernel_rfl
theorem T53:TT.of Tryz.prog 53=some ⟨.struct #[⟨ "Name",9,0,false,"","",0⟩,⟨ "Type",3,1,false,"","",16⟩,⟨ "NotNull",4,2,false,"","",24⟩],3,32,true,[.string ⟨#[]⟩,.int .i64 0,.bool false],[(0,1),(1,1),(2,1)]⟩:=by kernel_rfl
theorem T55:TT.of Tryz.prog 55=some ⟨.struct #[⟨ "Primary",4,0,false,"","",0⟩,⟨ "Names",30,1,false,"","",8⟩],2,32,true,[.bool false,.slice none 0 0],[(0,1),(1,1)]⟩:=by kernel_rfl
theorem T58:TT.of Tryz.prog 58=some ⟨.slice 3,1,24,false,[.slice none 0 0],[]⟩:=by kernel_rfl
theorem T60:TT.of Tryz.prog 60=some ⟨.struct #[⟨ "Name",9,0,false,"","",0⟩,⟨ "Id",3,1,false,"","",16⟩,⟨ "Table",9,2,false,"","",24⟩,⟨ "Cols",58,3,false,"","",40⟩,⟨ "Unique",4,4,false,"","",64⟩],5,72,true,[.string ⟨#[]⟩,.int .i64 0,.string ⟨#[]⟩,.slice none 0 0,.bool false],[(0,1),(1,1),(2,1),(3,1),(4,1)]⟩:=by kernel_rfl
theorem T74:TT.of Tryz.prog 74=some ⟨.func #[9] #[4] false,1,8,false,[.nilFunc],[]⟩:=by kernel_rfl
theorem T77:TT.of Tryz.prog 77=some ⟨.func #[33] #[4] false,1,8,false,[.nilFunc],[]⟩:=by kernel_rfl
theorem T86:TT.of Tryz.prog 86=some ⟨.struct #[⟨ "Kind",3,0,false,"","",0⟩,⟨ "N",3,1,false,"","",8⟩,⟨ "S",9,2,false,"","",16⟩],3,32,true,[.int .i64 0,.int .i64 0,.string ⟨#[]⟩],[(0,1),(1,1),(2,1)]⟩:=by kernel_rfl
theorem T88:TT.of Tryz.prog 88=some ⟨.struct #[⟨ "Op",3,0,false,"","",0⟩,⟨ "V",86,1,false,"","",8⟩,⟨ "Table",9,4,false,"","",40⟩,⟨ "Name",9,5,false,"","",56⟩,⟨ "Distinct",4,6,false,"","",72⟩,⟨ "Kids",33,7,false,"","",80⟩,⟨ "Sub",36,8,false,"","",104⟩],9,128,true,[.int .i64 0,.int .i64 0,.int .i64 0,.string ⟨#[]⟩,.string ⟨#[]⟩,.string ⟨#[]⟩,.bool false,.slice none 0 0,.slice none 0 0],[(0,1),(1,3),(4,1),(5,1),(6,1),(7,1),(8,1)]⟩:=by kernel_rfl
theorem T93:TT.of Tryz.prog 93=some ⟨.struct #[⟨ "Primary",4,0,false,"","",0⟩,⟨ "Cols",58,1,false,"","",8⟩,⟨ "Index",3,2,false,"","",32⟩],3,40,true,[.bool false,.slice none 0 0,.int .i64 0],[(0,1),(1,1),(2,1)]⟩:=by kernel_rfl
theorem T97:TT.of Tryz.prog 97=some ⟨.struct #[⟨ "Names",30,0,false,"","",0⟩,⟨ "Table",9,1,false,"","",24⟩,⟨ "To",30,2,false,"","",40⟩],3,64,true,[.slice none 0 0,.string ⟨#[]⟩,.slice none 0 0],[(0,1),(1,1),(2,1)]⟩:=by kernel_rfl
theorem T99:TT.of Tryz.prog 99=some ⟨.struct #[⟨ "Cols",58,0,false,"","",0⟩,⟨ "Table",9,1,false,"","",24⟩,⟨ "To",58,2,false,"","",40⟩],3,64,true,[.slice none 0 0,.string ⟨#[]⟩,.slice none 0 0],[(0,1),(1,1),(2,1)]⟩:=by kernel_rfl
theorem asq:TT.of Tryz.prog 103=some ⟨.struct #[⟨ "Nodes",3,0,false,"","",0⟩,⟨ "Deep",3,1,false,"","",8⟩],2,16,true,[.int .i64 0,.int .i64 0],[(0,1),(1,1)]⟩:=by kernel_rfl
theorem aUF:TT.of Tryz.prog 114=some ⟨.slice 58,1,24,false,[.slice none 0 0],[]⟩:=by kernel_rfl
theorem aUE:TT.of Tryz.prog 120=some ⟨.func #[88] #[4] false,1,8,false,[.nilFunc],[]⟩:=by kernel_rfl
theorem asp:TT.of Tryz.prog 126=some ⟨.struct #[⟨ "nodes",3,0,false,"","tabellion/syntax",0⟩,⟨ "depth",3,1,false,"","tabellion/syntax",8⟩],2,16,true,[.int .i64 0,.int .i64 0],[(0,1),(1,1)]⟩:=by kernel_rfl
theorem aUD:TT.of Tryz.prog 132=some ⟨.slice 25,1,24,false,[.slice none 0 0],[]⟩:=by kernel_rfl
theorem aUC:TT.of Tryz.prog 135=some ⟨.func #[97] #[4] false,1,8,false,[.nilFunc],[]⟩:=by kernel_rfl
theorem aUB:TT.of Tryz.prog 137=some ⟨.func #[53] #[4] false,1,8,false,[.nilFunc],[]⟩:=by kernel_rfl
theorem aso:TT.of Tryz.prog 143=some ⟨.struct #[⟨ "Name",9,0,false,"","",0⟩,⟨ "E",88,1,false,"","",16⟩],10,144,true,[.string ⟨#[]⟩,.int .i64 0,.int .i64 0,.int .i64 0,.string ⟨#[]⟩,.string ⟨#[]⟩,.string ⟨#[]⟩,.bool false,.slice none 0 0,.slice none 0 0],[(0,1),(1,9)]⟩:=by kernel_rfl
theorem aHD:TT.of Tryz.prog 156=some ⟨.slice 5,1,24,false,[.slice none 0 0],[]⟩:=by kernel_rfl
theorem aHC:TT.of Tryz.prog 164=some ⟨.slice 188,1,24,false,[.slice none 0 0],[]⟩:=by kernel_rfl
theorem aHB:TT.of Tryz.prog 165=some ⟨.slice 210,1,24,false,[.slice none 0 0],[]⟩:=by kernel_rfl
theorem aHA:TT.of Tryz.prog 166=some ⟨.slice 219,1,24,false,[.slice none 0 0],[]⟩:=by kernel_rfl
theorem abL:TT.of Tryz.prog 168=some ⟨.struct #[⟨ "Op",3,0,false,"","",0⟩,⟨ "All",4,1,false,"","",8⟩,⟨ "Kids",36,2,false,"","",16⟩,⟨ "Distinct",4,3,false,"","",40⟩,⟨ "Items",164,4,false,"","",48⟩,⟨ "From",165,5,false,"","",72⟩,⟨ "Where",33,6,false,"","",96⟩,⟨ "Group",33,7,false,"","",120⟩,⟨ "Having",33,8,false,"","",144⟩,⟨ "Order",166,9,false,"","",168⟩,⟨ "Limit",3,10,false,"","",192⟩,⟨ "Skip",3,11,false,"","",200⟩],12,208,true,[.int .i64 0,.bool false,.slice none 0 0,.bool false,.slice none 0 0,.slice none 0 0,.slice none 0 0,.slice none 0 0,.slice none 0 0,.slice none 0 0,.int .i64 0,.int .i64 0],[(0,1),(1,1),(2,1),(3,1),(4,1),(5,1),(6,1),(7,1),(8,1),(9,1),(10,1),(11,1)]⟩:=by kernel_rfl
theorem aUA:TT.of Tryz.prog 172=some ⟨.func #[55] #[4] false,1,8,false,[.nilFunc],[]⟩:=by kernel_rfl
theorem aUz:TT.of Tryz.prog 177=some ⟨.func #[168] #[4] false,1,8,false,[.nilFunc],[]⟩:=by kernel_rfl
theorem aUy:TT.of Tryz.prog 180=some ⟨.func #[143] #[4] false,1,8,false,[.nilFunc],[]⟩:=by kernel_rfl
theorem akr:TT.of Tryz.prog 188=some ⟨.struct #[⟨ "Star",4,0,false,"","",0⟩,⟨ "Table",9,1,false,"","",8⟩,⟨ "E",88,2,false,"","",24⟩,⟨ "As",9,11,false,"","",152⟩],12,168,true,[.bool false,.string ⟨#[]⟩,.int .i64 0,.int .i64 0,.int .i64 0,.string ⟨#[]⟩,.string ⟨#[]⟩,.string ⟨#[]⟩,.bool false,.slice none 0 0,.slice none 0 0,.string ⟨#[]⟩],[(0,1),(1,1),(2,9),(11,1)]⟩:=by kernel_rfl
theorem aAD:TT.of Tryz.prog 198=some ⟨.struct #[⟨ "least",3,0,false,"","tabellion/syntax",0⟩,⟨ "most",3,1,false,"","tabellion/syntax",8⟩,⟨ "subs",3,2,false,"","tabellion/syntax",16⟩],3,24,true,[.int .i64 0,.int .i64 0,.int .i64 0],[(0,1),(1,1),(2,1)]⟩:=by kernel_rfl
theorem a2t:TT.of Tryz.prog 200=some ⟨.map 3 198,1,8,false,[.map none],[]⟩:=by kernel_rfl
theorem agT:TT.of Tryz.prog 210=some ⟨.struct #[⟨ "Kind",3,0,false,"","",0⟩,⟨ "Name",9,1,false,"","",8⟩,⟨ "As",9,2,false,"","",24⟩,⟨ "Sub",36,3,false,"","",40⟩,⟨ "Kids",165,4,false,"","",64⟩,⟨ "On",33,5,false,"","",88⟩],6,112,true,[.int .i64 0,.string ⟨#[]⟩,.string ⟨#[]⟩,.slice none 0 0,.slice none 0 0,.slice none 0 0],[(0,1),(1,1),(2,1),(3,1),(4,1),(5,1)]⟩:=by kernel_rfl
theorem anp:TT.of Tryz.prog 219=some ⟨.struct #[⟨ "Name",9,0,false,"","",0⟩,⟨ "At",3,1,false,"","",16⟩,⟨ "Down",4,2,false,"","",24⟩],3,32,true,[.string ⟨#[]⟩,.int .i64 0,.bool false],[(0,1),(1,1),(2,1)]⟩:=by kernel_rfl
theorem aUx:TT.of Tryz.prog 220=some ⟨.func #[219] #[4] false,1,8,false,[.nilFunc],[]⟩:=by kernel_rfl
theorem aUw:TT.of Tryz.prog 222=some ⟨.func #[188] #[4] false,1,8,false,[.nilFunc],[]⟩:=by kernel_rfl
theorem aUv:TT.of Tryz.prog 224=some ⟨.func #[210] #[4] false,1,8,false,[.nilFunc],[]⟩:=by kernel_rfl
theorem aAC:TT.of Tryz.prog 238=some ⟨.slice 4,1,24,false,[.slice none 0 0],[]⟩:=by kernel_rfl
def U3:=UG T3
theorem P3 (x:X) (xs:List X):cw (TT.of Tryz.prog) 3 (x::xs)=some x:=by simp only[cw,T3];rfl
theorem Q3 (x:C) (xs:List C):aY (TT.of Tryz.prog) 3 (x::xs)=some x:=by simp only[aY,T3];rfl
theorem Q4 (x:C) (xs:List C):aY (TT.of Tryz.prog) 4 (x::xs)=some x:=by simp only[aY,T4];rfl
theorem Q5 (x:C) (xs:List C):aY (TT.of Tryz.prog) 5 (x::xs)=some x:=by simp only[aY,T5];rfl
def U9:=UG T9
theorem Q9 (x:C) (xs:List C):aY (TT.of Tryz.prog) 9 (x::xs)=some x:=by simp only[aY,T9];rfl
theorem P24 (x:X) (xs:List X):cw (TT.of Tryz.prog) 24 (x::xs)=some x:=by simp only[cw,T24];rfl
theorem Q24 (x:C) (xs:List C):aY (TT.of Tryz.prog) 24 (x::xs)=some x:=by simp only[aY,T24];rfl
theorem P25 (x:X) (xs:List X):cw (TT.of Tryz.prog) 25 (x::xs)=some x:=by simp only[cw,T25];rfl
theorem Q25 (x:C) (xs:List C):aY (TT.of Tryz.prog) 25 (x::xs)=some x:=by simp only[aY,T25];rfl
theorem P27 (x0 x1 x2:X) (xs:List X):cw (TT.of Tryz.prog) 27 (x0::x1::x2::xs)=some (.agg [x0,x1,x2]):=by simp only[cw,T27];rfl
theorem Q27 (x0 x1 x2:C) (xs:List C):aY (TT.of Tryz.prog) 27 (x0::x1::x2::xs)=some (.agg [x0,x1,x2]):=by simp only[aY,T27];rfl
def aTy:=faG T27 0 0 0 rfl
def aRP:=frG T27 0 0 0 rfl
def aTx:=faG T27 1 1 0 rfl
def aRO:=frG T27 1 1 0 rfl
def aTw:=faG T27 2 2 0 rfl
def aRN:=frG T27 2 2 0 rfl
theorem P29 (x:X) (xs:List X):cw (TT.of Tryz.prog) 29 (x::xs)=some x:=by simp only[cw,T29];rfl
theorem Q29 (x:C) (xs:List C):aY (TT.of Tryz.prog) 29 (x::xs)=some x:=by simp only[aY,T29];rfl
theorem Q30 (x:C) (xs:List C):aY (TT.of Tryz.prog) 30 (x::xs)=some x:=by simp only[aY,T30];rfl
theorem Q31 (x:C) (xs:List C):aY (TT.of Tryz.prog) 31 (x::xs)=some x:=by simp only[aY,T31];rfl
theorem Q32 (x:C) (xs:List C):aY (TT.of Tryz.prog) 32 (x::xs)=some x:=by simp only[aY,T32];rfl
theorem Q33 (x:C) (xs:List C):aY (TT.of Tryz.prog) 33 (x::xs)=some x:=by simp only[aY,T33];rfl
theorem Q34 (x:C) (xs:List C):aY (TT.of Tryz.prog) 34 (x::xs)=some x:=by simp only[aY,T34];rfl
theorem Q35 (x:C) (xs:List C):aY (TT.of Tryz.prog) 35 (x::xs)=some x:=by simp only[aY,T35];rfl
theorem Q36 (x:C) (xs:List C):aY (TT.of Tryz.prog) 36 (x::xs)=some x:=by simp only[aY,T36];rfl
theorem P38 (x0 x1 x2 x3 x4 x5 x6 x7 x8 x9 x10 x11 x12:X) (xs:List X):cw (TT.of Tryz.prog) 38 (x0::x1::x2::x3::x4::x5::x6::x7::x8::x9::x10::x11::x12::xs)=some (.agg [x0,x1,x2,x3,x4,x5,x6,x7,x8,x9,x10,x11,x12]):=by simp only[cw,T38];rfl
theorem Q38 (x0 x1 x2 x3 x4 x5 x6 x7 x8 x9 x10 x11 x12:C) (xs:List C):aY (TT.of Tryz.prog) 38 (x0::x1::x2::x3::x4::x5::x6::x7::x8::x9::x10::x11::x12::xs)=some (.agg [x0,x1,x2,x3,x4,x5,x6,x7,x8,x9,x10,x11,x12]):=by simp only[aY,T38];rfl
def aTv:=faG T38 0 0 0 rfl
def aRM:=frG T38 0 0 0 rfl
def aTu:=faG T38 1 1 0 rfl
def aRL:=frG T38 1 1 0 rfl
def aTt:=faG T38 2 2 0 rfl
def aRK:=frG T38 2 2 0 rfl
def aTs:=faG T38 3 3 0 rfl
def aRJ:=frG T38 3 3 0 rfl
def aTr:=faG T38 4 4 0 rfl
def aRI:=frG T38 4 4 0 rfl
def aTq:=faG T38 5 5 0 rfl
def aRH:=frG T38 5 5 0 rfl
def aTp:=faG T38 6 6 0 rfl
def aRF:=frG T38 6 6 0 rfl
def aTo:=faG T38 7 7 0 rfl
def aRE:=frG T38 7 7 0 rfl
def aTn:=faG T38 8 8 0 rfl
def aRD:=frG T38 8 8 0 rfl
def aTm:=faG T38 9 9 0 rfl
def aRC:=frG T38 9 9 0 rfl
def aM0:=faG T38 10 10 0 rfl
def aMo:=frG T38 10 10 0 rfl
def aMZ:=faG T38 11 11 0 rfl
def aMn:=frG T38 11 11 0 rfl
def aMY:=faG T38 12 12 0 rfl
def aMm:=frG T38 12 12 0 rfl
theorem P45 (x:X) (xs:List X):cw (TT.of Tryz.prog) 45 (x::xs)=some x:=by simp only[cw,T45];rfl
theorem Q45 (x:C) (xs:List C):aY (TT.of Tryz.prog) 45 (x::xs)=some x:=by simp only[aY,T45];rfl
theorem P46 (x:X) (xs:List X):cw (TT.of Tryz.prog) 46 (x::xs)=some x:=by simp only[cw,T46];rfl
theorem Q46 (x:C) (xs:List C):aY (TT.of Tryz.prog) 46 (x::xs)=some x:=by simp only[aY,T46];rfl
theorem P48 (x0 x1 x2 x3 x4 x5:X) (xs:List X):cw (TT.of Tryz.prog) 48 (x0::x1::x2::x3::x4::x5::xs)=some (.agg [x0,x1,x2,x3,x4,x5]):=by simp only[cw,T48];rfl
theorem Q48 (x0 x1 x2 x3 x4 x5:C) (xs:List C):aY (TT.of Tryz.prog) 48 (x0::x1::x2::x3::x4::x5::xs)=some (.agg [x0,x1,x2,x3,x4,x5]):=by simp only[aY,T48];rfl
def aRB:=frG T48 0 0 0 rfl
def aRA:=frG T48 1 1 0 rfl
def aTl:=faG T48 2 2 0 rfl
def aRz:=frG T48 2 2 0 rfl
def aTk:=faG T48 3 3 0 rfl
def aRy:=frG T48 3 3 0 rfl
def aTj:=faG T48 4 4 0 rfl
def aRx:=frG T48 4 4 0 rfl
def aRw:=frG T48 5 5 0 rfl
theorem Q53 (x0 x1 x2:C) (xs:List C):aY (TT.of Tryz.prog) 53 (x0::x1::x2::xs)=some (.agg [x0,x1,x2]):=by simp only[aY,T53];rfl
def aRv:=frG T53 0 0 0 rfl
def aRu:=frG T53 1 1 0 rfl
theorem Q55 (x0 x1:C) (xs:List C):aY (TT.of Tryz.prog) 55 (x0::x1::xs)=some (.agg [x0,x1]):=by simp only[aY,T55];rfl
def aRt:=frG T55 0 0 0 rfl
def aRs:=frG T55 1 1 0 rfl
theorem Q58 (x:C) (xs:List C):aY (TT.of Tryz.prog) 58 (x::xs)=some x:=by simp only[aY,T58];rfl
theorem P60 (x0 x1 x2 x3 x4:X) (xs:List X):cw (TT.of Tryz.prog) 60 (x0::x1::x2::x3::x4::xs)=some (.agg [x0,x1,x2,x3,x4]):=by simp only[cw,T60];rfl
theorem Q60 (x0 x1 x2 x3 x4:C) (xs:List C):aY (TT.of Tryz.prog) 60 (x0::x1::x2::x3::x4::xs)=some (.agg [x0,x1,x2,x3,x4]):=by simp only[aY,T60];rfl
def aRr:=frG T60 0 0 0 rfl
def aRq:=frG T60 1 1 0 rfl
def aRp:=frG T60 2 2 0 rfl
def aRo:=frG T60 3 3 0 rfl
def aRn:=frG T60 4 4 0 rfl
theorem Q74 (x:C) (xs:List C):aY (TT.of Tryz.prog) 74 (x::xs)=some x:=by simp only[aY,T74];rfl
theorem Q77 (x:C) (xs:List C):aY (TT.of Tryz.prog) 77 (x::xs)=some x:=by simp only[aY,T77];rfl
theorem Q86 (x0 x1 x2:C) (xs:List C):aY (TT.of Tryz.prog) 86 (x0::x1::x2::xs)=some (.agg [x0,x1,x2]):=by simp only[aY,T86];rfl
def aRm:=frG T86 0 0 0 rfl
def aRl:=frG T86 1 1 0 rfl
def aRk:=frG T86 2 2 0 rfl
theorem P88 (x0 x1 x2 x3 x4 x5 x6 x7 x8:X) (xs:List X):cw (TT.of Tryz.prog) 88 (x0::x1::x2::x3::x4::x5::x6::x7::x8::xs)=some (.agg [x0,x1,x2,x3,x4,x5,x6,x7,x8]):=by simp only[cw,T88];rfl
theorem Q88 (x0 x1 x2 x3 x4 x5 x6 x7 x8:C) (xs:List C):aY (TT.of Tryz.prog) 88 (x0::x1::x2::x3::x4::x5::x6::x7::x8::xs)=some (.agg [x0,x1,x2,x3,x4,x5,x6,x7,x8]):=by simp only[aY,T88];rfl
def aTi:=faG T88 0 0 0 rfl
def aRj:=frG T88 0 0 0 rfl
def aTh:=faG T88 1 1 2 rfl
def aRi:=frG T88 1 1 2 rfl
def aTg:=faG T88 2 4 0 rfl
def aRh:=frG T88 2 4 0 rfl
def aTf:=faG T88 3 5 0 rfl
def aRf:=frG T88 3 5 0 rfl
def aTe:=faG T88 4 6 0 rfl
def aRe:=frG T88 4 6 0 rfl
def aTd:=faG T88 5 7 0 rfl
def aRd:=frG T88 5 7 0 rfl
def aTc:=faG T88 6 8 0 rfl
def aRc:=frG T88 6 8 0 rfl
theorem Q93 (x0 x1 x2:C) (xs:List C):aY (TT.of Tryz.prog) 93 (x0::x1::x2::xs)=some (.agg [x0,x1,x2]):=by simp only[aY,T93];rfl
def aRb:=frG T93 0 0 0 rfl
def aRa:=frG T93 1 1 0 rfl
def aQ9:=frG T93 2 2 0 rfl
theorem Q97 (x0 x1 x2:C) (xs:List C):aY (TT.of Tryz.prog) 97 (x0::x1::x2::xs)=some (.agg [x0,x1,x2]):=by simp only[aY,T97];rfl
def aQ8:=frG T97 0 0 0 rfl
def aQ7:=frG T97 1 1 0 rfl
def aQ6:=frG T97 2 2 0 rfl
theorem P99 (x0 x1 x2:X) (xs:List X):cw (TT.of Tryz.prog) 99 (x0::x1::x2::xs)=some (.agg [x0,x1,x2]):=by simp only[cw,T99];rfl
theorem Q99 (x0 x1 x2:C) (xs:List C):aY (TT.of Tryz.prog) 99 (x0::x1::x2::xs)=some (.agg [x0,x1,x2]):=by simp only[aY,T99];rfl
def aQ5:=frG T99 0 0 0 rfl
def aQ4:=frG T99 1 1 0 rfl
def aQ3:=frG T99 2 2 0 rfl
theorem a2E (x0 x1:X) (xs:List X):cw (TT.of Tryz.prog) 103 (x0::x1::xs)=some (.agg [x0,x1]):=by simp only[cw,asq];rfl
def aMT:=frG asq 0 0 0 rfl
def aMX:=fcG asq 0 0 1 3 rfl rfl
def aMS:=frG asq 1 1 0 rfl
theorem aUR (x:C) (xs:List C):aY (TT.of Tryz.prog) 120 (x::xs)=some x:=by simp only[aY,aUE];rfl
theorem a2D (x0 x1:X) (xs:List X):cw (TT.of Tryz.prog) 126 (x0::x1::xs)=some (.agg [x0,x1]):=by simp only[cw,asp];rfl
theorem a2C (x0 x1:C) (xs:List C):aY (TT.of Tryz.prog) 126 (x0::x1::xs)=some (.agg [x0,x1]):=by simp only[aY,asp];rfl
def aMR:=frG asp 0 0 0 rfl
def aMQ:=frG asp 1 1 0 rfl
theorem aUQ (x:C) (xs:List C):aY (TT.of Tryz.prog) 135 (x::xs)=some x:=by simp only[aY,aUC];rfl
theorem aUP (x:C) (xs:List C):aY (TT.of Tryz.prog) 137 (x::xs)=some x:=by simp only[aY,aUB];rfl
theorem a2B (x0 x1 x2 x3 x4 x5 x6 x7 x8 x9:C) (xs:List C):aY (TT.of Tryz.prog) 143 (x0::x1::x2::x3::x4::x5::x6::x7::x8::x9::xs)=some (.agg [x0,x1,x2,x3,x4,x5,x6,x7,x8,x9]):=by simp only[aY,aso];rfl
def aMP:=frG aso 0 0 0 rfl
def aMO:=frG aso 1 1 8 rfl
def aUs:=UG aHD
theorem a2A (x:C) (xs:List C):aY (TT.of Tryz.prog) 164 (x::xs)=some x:=by simp only[aY,aHC];rfl
theorem a2z (x:C) (xs:List C):aY (TT.of Tryz.prog) 165 (x::xs)=some x:=by simp only[aY,aHB];rfl
theorem a2y (x:C) (xs:List C):aY (TT.of Tryz.prog) 166 (x::xs)=some x:=by simp only[aY,aHA];rfl
theorem a2x (x0 x1 x2 x3 x4 x5 x6 x7 x8 x9 x10 x11:C) (xs:List C):aY (TT.of Tryz.prog) 168 (x0::x1::x2::x3::x4::x5::x6::x7::x8::x9::x10::x11::xs)=some (.agg [x0,x1,x2,x3,x4,x5,x6,x7,x8,x9,x10,x11]):=by simp only[aY,abL];rfl
def aMN:=frG abL 0 0 0 rfl
def aMM:=frG abL 1 1 0 rfl
def aML:=frG abL 2 2 0 rfl
def aMK:=frG abL 3 3 0 rfl
def aMJ:=frG abL 4 4 0 rfl
def aMI:=frG abL 5 5 0 rfl
def aMH:=frG abL 6 6 0 rfl
def aMG:=frG abL 7 7 0 rfl
def aMF:=frG abL 8 8 0 rfl
def aME:=frG abL 9 9 0 rfl
def aGT:=frG abL 10 10 0 rfl
def aGS:=frG abL 11 11 0 rfl
theorem aUO (x:C) (xs:List C):aY (TT.of Tryz.prog) 172 (x::xs)=some x:=by simp only[aY,aUA];rfl
theorem aUN (x:C) (xs:List C):aY (TT.of Tryz.prog) 177 (x::xs)=some x:=by simp only[aY,aUz];rfl
theorem aUM (x:C) (xs:List C):aY (TT.of Tryz.prog) 180 (x::xs)=some x:=by simp only[aY,aUy];rfl
theorem a2w (x0 x1 x2 x3 x4 x5 x6 x7 x8 x9 x10 x11:C) (xs:List C):aY (TT.of Tryz.prog) 188 (x0::x1::x2::x3::x4::x5::x6::x7::x8::x9::x10::x11::xs)=some (.agg [x0,x1,x2,x3,x4,x5,x6,x7,x8,x9,x10,x11]):=by simp only[aY,akr];rfl
def aMD:=frG akr 0 0 0 rfl
def aMC:=frG akr 1 1 0 rfl
def aMB:=frG akr 2 2 8 rfl
def aMA:=frG akr 3 11 0 rfl
def aMz:=frG aAD 0 0 0 rfl
def aMy:=frG aAD 1 1 0 rfl
def aMx:=frG aAD 2 2 0 rfl
theorem a2v (x0 x1 x2 x3 x4 x5:C) (xs:List C):aY (TT.of Tryz.prog) 210 (x0::x1::x2::x3::x4::x5::xs)=some (.agg [x0,x1,x2,x3,x4,x5]):=by simp only[aY,agT];rfl
def aMw:=frG agT 0 0 0 rfl
def aMv:=frG agT 1 1 0 rfl
def aMu:=frG agT 2 2 0 rfl
def aMt:=frG agT 3 3 0 rfl
def aMs:=frG agT 4 4 0 rfl
def aMr:=frG agT 5 5 0 rfl
theorem a2u (x0 x1 x2:C) (xs:List C):aY (TT.of Tryz.prog) 219 (x0::x1::x2::xs)=some (.agg [x0,x1,x2]):=by simp only[aY,anp];rfl
def aMq:=frG anp 0 0 0 rfl
def aMp:=frG anp 1 1 0 rfl
theorem aUL (x:C) (xs:List C):aY (TT.of Tryz.prog) 220 (x::xs)=some x:=by simp only[aY,aUx];rfl
theorem aUK (x:C) (xs:List C):aY (TT.of Tryz.prog) 222 (x::xs)=some x:=by simp only[aY,aUw];rfl
theorem aUJ (x:C) (xs:List C):aY (TT.of Tryz.prog) 224 (x::xs)=some x:=by simp only[aY,aUv];rfl
def aHz:=UG aAC
def E22:=EG T22 T38
def E24:=EG T24 T48
def E25:=EG T25 T60
def E29:=EG T29 T53
def E30:=EG T30 T9
def E31:=EG T31 T55
def E32:=EG T32 T97
def E33:=EG T33 T88
def E34:=EG T34 T33
def E35:=EG T35 aso
def E36:=EG T36 abL
def E45:=EG T45 T93
def E46:=EG T46 T99
def E58:=EG T58 T3
def aUW:=EG aUF T58
def aUV:=EG aUD T25
def a2K:=EG aHD T5
def a2J:=EG aHC akr
def a2I:=EG aHB agT
def a2H:=EG aHA anp
theorem akw:abC (TT.of Tryz.prog) 200=some (.int .i64,198):=by simp only[abC,a2t,T3];rfl
def aAZ:=EG aAC T4
theorem fi3:FnI Tryz.prog 3 Tryz.f3:=⟨by kernel_rfl,Tryz.func3⟩
theorem fi4:FnI Tryz.prog 4 Tryz.f4:=⟨by kernel_rfl,Tryz.func4⟩
theorem fi5:FnI Tryz.prog 5 Tryz.f5:=⟨by kernel_rfl,Tryz.func5⟩
theorem fi6:FnI Tryz.prog 6 Tryz.f6:=⟨by kernel_rfl,Tryz.func6⟩
theorem aAg:ab Tryz.prog 6=true:=by kernel_rfl
theorem fi7:FnI Tryz.prog 7 Tryz.f7:=⟨by kernel_rfl,Tryz.func7⟩
theorem apO:ab Tryz.prog 7=true:=by kernel_rfl
theorem fi8:FnI Tryz.prog 8 Tryz.f8:=⟨by kernel_rfl,Tryz.func8⟩
theorem aAf:ab Tryz.prog 8=true:=by kernel_rfl
theorem fi9:FnI Tryz.prog 9 Tryz.f9:=⟨by kernel_rfl,Tryz.func9⟩
theorem aAe:ab Tryz.prog 9=true:=by kernel_rfl
theorem aTa:FnI Tryz.prog 10 Tryz.f10:=⟨by kernel_rfl,Tryz.func10⟩
theorem ase:ab Tryz.prog 10=true:=by kernel_rfl
theorem aS9:FnI Tryz.prog 11 Tryz.f11:=⟨by kernel_rfl,Tryz.func11⟩
theorem afH:ab Tryz.prog 11=true:=by kernel_rfl
theorem aS8:FnI Tryz.prog 12 Tryz.f12:=⟨by kernel_rfl,Tryz.func12⟩
theorem al5:ab Tryz.prog 12=true:=by kernel_rfl
theorem aS7:FnI Tryz.prog 13 Tryz.f13:=⟨by kernel_rfl,Tryz.func13⟩
theorem aUl:ab Tryz.prog 13=true:=by kernel_rfl
theorem aS6:FnI Tryz.prog 14 Tryz.f14:=⟨by kernel_rfl,Tryz.func14⟩
theorem asd:ab Tryz.prog 14=true:=by kernel_rfl
theorem aS5:FnI Tryz.prog 15 Tryz.f15:=⟨by kernel_rfl,Tryz.func15⟩
theorem aE9:ab Tryz.prog 15=true:=by kernel_rfl
theorem aS4:FnI Tryz.prog 16 Tryz.f16:=⟨by kernel_rfl,Tryz.func16⟩
theorem aeq:ab Tryz.prog 16=true:=by kernel_rfl
theorem aS3:FnI Tryz.prog 17 Tryz.f17:=⟨by kernel_rfl,Tryz.func17⟩
theorem aUk:ab Tryz.prog 17=true:=by kernel_rfl
theorem aS2:FnI Tryz.prog 18 Tryz.f18:=⟨by kernel_rfl,Tryz.func18⟩
theorem aUj:ab Tryz.prog 18=true:=by kernel_rfl
theorem aS1:FnI Tryz.prog 19 Tryz.f19:=⟨by kernel_rfl,Tryz.func19⟩
theorem aUi:ab Tryz.prog 19=true:=by kernel_rfl
theorem aS0:FnI Tryz.prog 20 Tryz.f20:=⟨by kernel_rfl,Tryz.func20⟩
theorem aUh:ab Tryz.prog 20=true:=by kernel_rfl
theorem aSZ:FnI Tryz.prog 21 Tryz.f21:=⟨by kernel_rfl,Tryz.func21⟩
theorem aUg:ab Tryz.prog 21=true:=by kernel_rfl
theorem aSY:FnI Tryz.prog 22 Tryz.f22:=⟨by kernel_rfl,Tryz.func22⟩
theorem aUf:ab Tryz.prog 22=true:=by kernel_rfl
theorem aSX:FnI Tryz.prog 23 Tryz.f23:=⟨by kernel_rfl,Tryz.func23⟩
theorem aUe:ab Tryz.prog 23=true:=by kernel_rfl
theorem aSW:FnI Tryz.prog 24 Tryz.f24:=⟨by kernel_rfl,Tryz.func24⟩
theorem aif:ab Tryz.prog 24=true:=by kernel_rfl
theorem aSV:FnI Tryz.prog 25 Tryz.f25:=⟨by kernel_rfl,Tryz.func25⟩
theorem aE8:ab Tryz.prog 25=true:=by kernel_rfl
theorem aSU:FnI Tryz.prog 26 Tryz.f26:=⟨by kernel_rfl,Tryz.func26⟩
theorem aUd:ab Tryz.prog 26=true:=by kernel_rfl
theorem aST:FnI Tryz.prog 27 Tryz.f27:=⟨by kernel_rfl,Tryz.func27⟩
theorem aUc:ab Tryz.prog 27=true:=by kernel_rfl
theorem aSS:FnI Tryz.prog 28 Tryz.f28:=⟨by kernel_rfl,Tryz.func28⟩
theorem aE7:ab Tryz.prog 28=true:=by kernel_rfl
theorem aSR:FnI Tryz.prog 29 Tryz.f29:=⟨by kernel_rfl,Tryz.func29⟩
theorem aE6:ab Tryz.prog 29=true:=by kernel_rfl
theorem aSQ:FnI Tryz.prog 30 Tryz.f30:=⟨by kernel_rfl,Tryz.func30⟩
theorem aUb:ab Tryz.prog 30=true:=by kernel_rfl
theorem aSP:FnI Tryz.prog 31 Tryz.f31:=⟨by kernel_rfl,Tryz.func31⟩
theorem aE5:ab Tryz.prog 31=true:=by kernel_rfl
theorem aSO:FnI Tryz.prog 32 Tryz.f32:=⟨by kernel_rfl,Tryz.func32⟩
theorem aE4:ab Tryz.prog 32=true:=by kernel_rfl
theorem aSN:FnI Tryz.prog 33 Tryz.f33:=⟨by kernel_rfl,Tryz.func33⟩
theorem aUa:ab Tryz.prog 33=true:=by kernel_rfl
theorem aSM:FnI Tryz.prog 34 Tryz.f34:=⟨by kernel_rfl,Tryz.func34⟩
theorem aT9:ab Tryz.prog 34=true:=by kernel_rfl
theorem aSL:FnI Tryz.prog 35 Tryz.f35:=⟨by kernel_rfl,Tryz.func35⟩
theorem aT8:ab Tryz.prog 35=true:=by kernel_rfl
theorem aSK:FnI Tryz.prog 36 Tryz.f36:=⟨by kernel_rfl,Tryz.func36⟩
theorem aaQ:ab Tryz.prog 36=true:=by kernel_rfl
theorem aSJ:FnI Tryz.prog 37 Tryz.f37:=⟨by kernel_rfl,Tryz.func37⟩
theorem aep:ab Tryz.prog 37=true:=by kernel_rfl
theorem aSI:FnI Tryz.prog 38 Tryz.f38:=⟨by kernel_rfl,Tryz.func38⟩
theorem aT7:ab Tryz.prog 38=true:=by kernel_rfl
theorem aSH:FnI Tryz.prog 39 Tryz.f39:=⟨by kernel_rfl,Tryz.func39⟩
theorem aT6:ab Tryz.prog 39=true:=by kernel_rfl
theorem aSG:FnI Tryz.prog 40 Tryz.f40:=⟨by kernel_rfl,Tryz.func40⟩
theorem aT5:ab Tryz.prog 40=true:=by kernel_rfl
theorem aSF:FnI Tryz.prog 41 Tryz.f41:=⟨by kernel_rfl,Tryz.func41⟩
theorem aT4:ab Tryz.prog 41=true:=by kernel_rfl
theorem aSE:FnI Tryz.prog 42 Tryz.f42:=⟨by kernel_rfl,Tryz.func42⟩
theorem asc:ab Tryz.prog 42=true:=by kernel_rfl
theorem aSD:FnI Tryz.prog 43 Tryz.f43:=⟨by kernel_rfl,Tryz.func43⟩
theorem aT3:ab Tryz.prog 43=true:=by kernel_rfl
theorem aSC:FnI Tryz.prog 44 Tryz.f44:=⟨by kernel_rfl,Tryz.func44⟩
theorem asa:ab Tryz.prog 44=true:=by kernel_rfl
theorem aSB:FnI Tryz.prog 45 Tryz.f45:=⟨by kernel_rfl,Tryz.func45⟩
theorem aE3:ab Tryz.prog 45=true:=by kernel_rfl
theorem aSA:FnI Tryz.prog 46 Tryz.f46:=⟨by kernel_rfl,Tryz.func46⟩
theorem aE2:ab Tryz.prog 46=true:=by kernel_rfl
theorem ar9:ab Tryz.prog 47=true:=by kernel_rfl
theorem aSz:FnI Tryz.prog 48 Tryz.f48:=⟨by kernel_rfl,Tryz.func48⟩
theorem aT2:ab Tryz.prog 48=true:=by kernel_rfl
theorem aSy:FnI Tryz.prog 49 Tryz.f49:=⟨by kernel_rfl,Tryz.func49⟩
theorem aT1:ab Tryz.prog 49=true:=by kernel_rfl
theorem aT0:ab Tryz.prog 50=true:=by kernel_rfl
theorem aTZ:ab Tryz.prog 51=true:=by kernel_rfl
theorem aE1:ab Tryz.prog 52=true:=by kernel_rfl
theorem aSx:FnI Tryz.prog 53 Tryz.f53:=⟨by kernel_rfl,Tryz.func53⟩
theorem ar8:ab Tryz.prog 53=true:=by kernel_rfl
theorem aSw:FnI Tryz.prog 54 Tryz.f54:=⟨by kernel_rfl,Tryz.func54⟩
theorem ar7:ab Tryz.prog 54=true:=by kernel_rfl
theorem aTY:ab Tryz.prog 55=true:=by kernel_rfl
theorem aSv:FnI Tryz.prog 56 Tryz.f56:=⟨by kernel_rfl,Tryz.func56⟩
theorem aTX:ab Tryz.prog 56=true:=by kernel_rfl
theorem aSu:FnI Tryz.prog 57 Tryz.f57:=⟨by kernel_rfl,Tryz.func57⟩
theorem aE0:ab Tryz.prog 57=true:=by kernel_rfl
theorem aSt:FnI Tryz.prog 58 Tryz.f58:=⟨by kernel_rfl,Tryz.func58⟩
theorem aEZ:ab Tryz.prog 58=true:=by kernel_rfl
theorem aSs:FnI Tryz.prog 59 Tryz.f59:=⟨by kernel_rfl,Tryz.func59⟩
theorem ar6:ab Tryz.prog 59=true:=by kernel_rfl
theorem aSr:FnI Tryz.prog 60 Tryz.f60:=⟨by kernel_rfl,Tryz.func60⟩
theorem aTW:ab Tryz.prog 60=true:=by kernel_rfl
theorem aSq:FnI Tryz.prog 61 Tryz.f61:=⟨by kernel_rfl,Tryz.func61⟩
theorem aTV:ab Tryz.prog 61=true:=by kernel_rfl
theorem aSp:FnI Tryz.prog 62 Tryz.f62:=⟨by kernel_rfl,Tryz.func62⟩
theorem aTU:ab Tryz.prog 62=true:=by kernel_rfl
theorem aSo:FnI Tryz.prog 63 Tryz.f63:=⟨by kernel_rfl,Tryz.func63⟩
theorem ar5:ab Tryz.prog 63=true:=by kernel_rfl
theorem aSn:FnI Tryz.prog 64 Tryz.f64:=⟨by kernel_rfl,Tryz.func64⟩
theorem al4:ab Tryz.prog 64=true:=by kernel_rfl
theorem aSm:FnI Tryz.prog 65 Tryz.f65:=⟨by kernel_rfl,Tryz.func65⟩
theorem aEY:ab Tryz.prog 65=true:=by kernel_rfl
theorem aSl:FnI Tryz.prog 66 Tryz.f66:=⟨by kernel_rfl,Tryz.func66⟩
theorem ar4:ab Tryz.prog 66=true:=by kernel_rfl
theorem aSk:FnI Tryz.prog 67 Tryz.f67:=⟨by kernel_rfl,Tryz.func67⟩
theorem aTT:ab Tryz.prog 67=true:=by kernel_rfl
theorem aSj:FnI Tryz.prog 68 Tryz.f68:=⟨by kernel_rfl,Tryz.func68⟩
theorem aTS:ab Tryz.prog 68=true:=by kernel_rfl
theorem aSi:FnI Tryz.prog 69 Tryz.f69:=⟨by kernel_rfl,Tryz.func69⟩
theorem aEX:ab Tryz.prog 69=true:=by kernel_rfl
theorem aSh:FnI Tryz.prog 70 Tryz.f70:=⟨by kernel_rfl,Tryz.func70⟩
theorem al3:ab Tryz.prog 70=true:=by kernel_rfl
theorem aG0:FnI Tryz.prog 71 Tryz.f71:=⟨by kernel_rfl,Tryz.func71⟩
theorem al2:ab Tryz.prog 71=true:=by kernel_rfl
theorem aSg:FnI Tryz.prog 72 Tryz.f72:=⟨by kernel_rfl,Tryz.func72⟩
theorem aEW:ab Tryz.prog 72=true:=by kernel_rfl
theorem aSf:FnI Tryz.prog 73 Tryz.f73:=⟨by kernel_rfl,Tryz.func73⟩
theorem aTR:ab Tryz.prog 73=true:=by kernel_rfl
theorem aTQ:ab Tryz.prog 74=true:=by kernel_rfl
theorem aSe:FnI Tryz.prog 75 Tryz.f75:=⟨by kernel_rfl,Tryz.func75⟩
theorem aTP:ab Tryz.prog 75=true:=by kernel_rfl
theorem aSd:FnI Tryz.prog 76 Tryz.f76:=⟨by kernel_rfl,Tryz.func76⟩
theorem aTO:ab Tryz.prog 76=true:=by kernel_rfl
theorem aSc:FnI Tryz.prog 77 Tryz.f77:=⟨by kernel_rfl,Tryz.func77⟩
theorem aTN:ab Tryz.prog 77=true:=by kernel_rfl
theorem aSb:FnI Tryz.prog 78 Tryz.f78:=⟨by kernel_rfl,Tryz.func78⟩
theorem aTM:ab Tryz.prog 78=true:=by kernel_rfl
theorem aSa:FnI Tryz.prog 79 Tryz.f79:=⟨by kernel_rfl,Tryz.func79⟩
theorem aEV:ab Tryz.prog 79=true:=by kernel_rfl
theorem aR9:FnI Tryz.prog 80 Tryz.f80:=⟨by kernel_rfl,Tryz.func80⟩
theorem aEU:ab Tryz.prog 80=true:=by kernel_rfl
theorem aR8:FnI Tryz.prog 81 Tryz.f81:=⟨by kernel_rfl,Tryz.func81⟩
theorem aTL:ab Tryz.prog 81=true:=by kernel_rfl
theorem aR7:FnI Tryz.prog 82 Tryz.f82:=⟨by kernel_rfl,Tryz.func82⟩
theorem ar3:ab Tryz.prog 82=true:=by kernel_rfl
theorem aR6:FnI Tryz.prog 83 Tryz.f83:=⟨by kernel_rfl,Tryz.func83⟩
theorem aET:ab Tryz.prog 83=true:=by kernel_rfl
theorem aR5:FnI Tryz.prog 84 Tryz.f84:=⟨by kernel_rfl,Tryz.func84⟩
theorem ar2:ab Tryz.prog 84=true:=by kernel_rfl
theorem aR4:FnI Tryz.prog 85 Tryz.f85:=⟨by kernel_rfl,Tryz.func85⟩
theorem aES:ab Tryz.prog 85=true:=by kernel_rfl
theorem aR3:FnI Tryz.prog 86 Tryz.f86:=⟨by kernel_rfl,Tryz.func86⟩
theorem aTK:ab Tryz.prog 86=true:=by kernel_rfl
theorem aR2:FnI Tryz.prog 87 Tryz.f87:=⟨by kernel_rfl,Tryz.func87⟩
theorem aER:ab Tryz.prog 87=true:=by kernel_rfl
theorem aR1:FnI Tryz.prog 88 Tryz.f88:=⟨by kernel_rfl,Tryz.func88⟩
theorem aEQ:ab Tryz.prog 88=true:=by kernel_rfl
theorem aR0:FnI Tryz.prog 89 Tryz.f89:=⟨by kernel_rfl,Tryz.func89⟩
theorem aTJ:ab Tryz.prog 89=true:=by kernel_rfl
theorem aRZ:FnI Tryz.prog 90 Tryz.f90:=⟨by kernel_rfl,Tryz.func90⟩
theorem aTI:ab Tryz.prog 90=true:=by kernel_rfl
theorem aRY:FnI Tryz.prog 91 Tryz.f91:=⟨by kernel_rfl,Tryz.func91⟩
theorem aEP:ab Tryz.prog 91=true:=by kernel_rfl
theorem aa8:FnI Tryz.prog 92 Tryz.f92:=⟨by kernel_rfl,Tryz.func92⟩
theorem aTH:ab Tryz.prog 92=true:=by kernel_rfl
theorem aRX:FnI Tryz.prog 93 Tryz.f93:=⟨by kernel_rfl,Tryz.func93⟩
theorem aTG:ab Tryz.prog 93=true:=by kernel_rfl
theorem aRW:FnI Tryz.prog 94 Tryz.f94:=⟨by kernel_rfl,Tryz.func94⟩
theorem aEO:ab Tryz.prog 94=true:=by kernel_rfl
theorem aRV:FnI Tryz.prog 95 Tryz.f95:=⟨by kernel_rfl,Tryz.func95⟩
theorem aEN:ab Tryz.prog 95=true:=by kernel_rfl
theorem aRU:FnI Tryz.prog 96 Tryz.f96:=⟨by kernel_rfl,Tryz.func96⟩
theorem ar1:ab Tryz.prog 96=true:=by kernel_rfl
theorem aRT:FnI Tryz.prog 97 Tryz.f97:=⟨by kernel_rfl,Tryz.func97⟩
theorem aEM:ab Tryz.prog 97=true:=by kernel_rfl
theorem aTF:ab Tryz.prog 98=true:=by kernel_rfl
theorem aRS:FnI Tryz.prog 99 Tryz.f99:=⟨by kernel_rfl,Tryz.func99⟩
theorem aEL:ab Tryz.prog 99=true:=by kernel_rfl
theorem aLa:FnI Tryz.prog 100 Tryz.f100:=⟨by kernel_rfl,Tryz.func100⟩
theorem ax1:ab Tryz.prog 100=true:=by kernel_rfl
theorem aK9:FnI Tryz.prog 101 Tryz.f101:=⟨by kernel_rfl,Tryz.func101⟩
theorem ax0:ab Tryz.prog 101=true:=by kernel_rfl
theorem aK8:FnI Tryz.prog 102 Tryz.f102:=⟨by kernel_rfl,Tryz.func102⟩
theorem axZ:ab Tryz.prog 102=true:=by kernel_rfl
theorem aK7:FnI Tryz.prog 103 Tryz.f103:=⟨by kernel_rfl,Tryz.func103⟩
theorem aOl:ab Tryz.prog 103=true:=by kernel_rfl
theorem aK6:FnI Tryz.prog 104 Tryz.f104:=⟨by kernel_rfl,Tryz.func104⟩
theorem ani:ab Tryz.prog 104=true:=by kernel_rfl
theorem aK5:FnI Tryz.prog 105 Tryz.f105:=⟨by kernel_rfl,Tryz.func105⟩
theorem anh:ab Tryz.prog 105=true:=by kernel_rfl
theorem aK4:FnI Tryz.prog 106 Tryz.f106:=⟨by kernel_rfl,Tryz.func106⟩
theorem ajk:ab Tryz.prog 106=true:=by kernel_rfl
theorem aK3:FnI Tryz.prog 107 Tryz.f107:=⟨by kernel_rfl,Tryz.func107⟩
theorem afI:ab Tryz.prog 107=true:=by kernel_rfl
theorem aK2:FnI Tryz.prog 108 Tryz.f108:=⟨by kernel_rfl,Tryz.func108⟩
theorem ajj:ab Tryz.prog 108=true:=by kernel_rfl
theorem aK1:FnI Tryz.prog 109 Tryz.f109:=⟨by kernel_rfl,Tryz.func109⟩
theorem axY:ab Tryz.prog 109=true:=by kernel_rfl
theorem j7:FnI Tryz.prog 110 Tryz.f110:=⟨by kernel_rfl,Tryz.func110⟩
theorem aOk:ab Tryz.prog 110=true:=by kernel_rfl
theorem aK0:FnI Tryz.prog 111 Tryz.f111:=⟨by kernel_rfl,Tryz.func111⟩
theorem axX:ab Tryz.prog 111=true:=by kernel_rfl
theorem aKZ:FnI Tryz.prog 112 Tryz.f112:=⟨by kernel_rfl,Tryz.func112⟩
theorem aOj:ab Tryz.prog 112=true:=by kernel_rfl
theorem azR:FnI Tryz.prog 113 Tryz.f113:=⟨by kernel_rfl,Tryz.func113⟩
theorem axW:ab Tryz.prog 113=true:=by kernel_rfl
theorem azQ:FnI Tryz.prog 114 Tryz.f114:=⟨by kernel_rfl,Tryz.func114⟩
theorem ang:ab Tryz.prog 114=true:=by kernel_rfl
theorem azP:FnI Tryz.prog 115 Tryz.f115:=⟨by kernel_rfl,Tryz.func115⟩
theorem anf:ab Tryz.prog 115=true:=by kernel_rfl
theorem aKY:FnI Tryz.prog 116 Tryz.f116:=⟨by kernel_rfl,Tryz.func116⟩
theorem aOi:ab Tryz.prog 116=true:=by kernel_rfl
theorem aKX:FnI Tryz.prog 117 Tryz.f117:=⟨by kernel_rfl,Tryz.func117⟩
theorem aOh:ab Tryz.prog 117=true:=by kernel_rfl
theorem aKW:FnI Tryz.prog 118 Tryz.f118:=⟨by kernel_rfl,Tryz.func118⟩
theorem aOg:ab Tryz.prog 118=true:=by kernel_rfl
theorem aKV:FnI Tryz.prog 119 Tryz.f119:=⟨by kernel_rfl,Tryz.func119⟩
theorem axV:ab Tryz.prog 119=true:=by kernel_rfl
theorem aKU:FnI Tryz.prog 120 Tryz.f120:=⟨by kernel_rfl,Tryz.func120⟩
theorem aOf:ab Tryz.prog 120=true:=by kernel_rfl
theorem aKT:FnI Tryz.prog 121 Tryz.f121:=⟨by kernel_rfl,Tryz.func121⟩
theorem aa5:ab Tryz.prog 121=true:=by kernel_rfl
theorem aKS:FnI Tryz.prog 122 Tryz.f122:=⟨by kernel_rfl,Tryz.func122⟩
theorem aau:ab Tryz.prog 122=true:=by kernel_rfl
theorem aKR:FnI Tryz.prog 123 Tryz.f123:=⟨by kernel_rfl,Tryz.func123⟩
theorem aOe:ab Tryz.prog 123=true:=by kernel_rfl
theorem aKQ:FnI Tryz.prog 124 Tryz.f124:=⟨by kernel_rfl,Tryz.func124⟩
theorem axU:ab Tryz.prog 124=true:=by kernel_rfl
theorem aKP:FnI Tryz.prog 125 Tryz.f125:=⟨by kernel_rfl,Tryz.func125⟩
theorem aji:ab Tryz.prog 125=true:=by kernel_rfl
theorem aKO:FnI Tryz.prog 126 Tryz.f126:=⟨by kernel_rfl,Tryz.func126⟩
theorem aOd:ab Tryz.prog 126=true:=by kernel_rfl
theorem aKN:FnI Tryz.prog 127 Tryz.f127:=⟨by kernel_rfl,Tryz.func127⟩
theorem axT:ab Tryz.prog 127=true:=by kernel_rfl
theorem aKM:FnI Tryz.prog 128 Tryz.f128:=⟨by kernel_rfl,Tryz.func128⟩
theorem afG:ab Tryz.prog 128=true:=by kernel_rfl
theorem aKL:FnI Tryz.prog 129 Tryz.f129:=⟨by kernel_rfl,Tryz.func129⟩
theorem aOc:ab Tryz.prog 129=true:=by kernel_rfl
theorem aKK:FnI Tryz.prog 130 Tryz.f130:=⟨by kernel_rfl,Tryz.func130⟩
theorem axS:ab Tryz.prog 130=true:=by kernel_rfl
theorem aKJ:FnI Tryz.prog 131 Tryz.f131:=⟨by kernel_rfl,Tryz.func131⟩
theorem aat:ab Tryz.prog 131=true:=by kernel_rfl
theorem aKI:FnI Tryz.prog 132 Tryz.f132:=⟨by kernel_rfl,Tryz.func132⟩
theorem ajh:ab Tryz.prog 132=true:=by kernel_rfl
theorem aKH:FnI Tryz.prog 133 Tryz.f133:=⟨by kernel_rfl,Tryz.func133⟩
theorem afF:ab Tryz.prog 133=true:=by kernel_rfl
theorem aKG:FnI Tryz.prog 134 Tryz.f134:=⟨by kernel_rfl,Tryz.func134⟩
theorem aas:ab Tryz.prog 134=true:=by kernel_rfl
theorem aKF:FnI Tryz.prog 135 Tryz.f135:=⟨by kernel_rfl,Tryz.func135⟩
theorem aOb:ab Tryz.prog 135=true:=by kernel_rfl
theorem aKE:FnI Tryz.prog 136 Tryz.f136:=⟨by kernel_rfl,Tryz.func136⟩
theorem axR:ab Tryz.prog 136=true:=by kernel_rfl
theorem aKD:FnI Tryz.prog 137 Tryz.f137:=⟨by kernel_rfl,Tryz.func137⟩
theorem aOa:ab Tryz.prog 137=true:=by kernel_rfl
theorem aKC:FnI Tryz.prog 138 Tryz.f138:=⟨by kernel_rfl,Tryz.func138⟩
theorem axQ:ab Tryz.prog 138=true:=by kernel_rfl
theorem aKB:FnI Tryz.prog 139 Tryz.f139:=⟨by kernel_rfl,Tryz.func139⟩
theorem aN9:ab Tryz.prog 139=true:=by kernel_rfl
theorem aKA:FnI Tryz.prog 140 Tryz.f140:=⟨by kernel_rfl,Tryz.func140⟩
theorem axP:ab Tryz.prog 140=true:=by kernel_rfl
theorem aKz:FnI Tryz.prog 141 Tryz.f141:=⟨by kernel_rfl,Tryz.func141⟩
theorem adT:ab Tryz.prog 141=true:=by kernel_rfl
theorem aKy:FnI Tryz.prog 142 Tryz.f142:=⟨by kernel_rfl,Tryz.func142⟩
theorem ane:ab Tryz.prog 142=true:=by kernel_rfl
theorem aKx:FnI Tryz.prog 143 Tryz.f143:=⟨by kernel_rfl,Tryz.func143⟩
theorem ajg:ab Tryz.prog 143=true:=by kernel_rfl
theorem aKw:FnI Tryz.prog 144 Tryz.f144:=⟨by kernel_rfl,Tryz.func144⟩
theorem afE:ab Tryz.prog 144=true:=by kernel_rfl
theorem aKv:FnI Tryz.prog 145 Tryz.f145:=⟨by kernel_rfl,Tryz.func145⟩
theorem aN8:ab Tryz.prog 145=true:=by kernel_rfl
theorem aKu:FnI Tryz.prog 146 Tryz.f146:=⟨by kernel_rfl,Tryz.func146⟩
theorem axO:ab Tryz.prog 146=true:=by kernel_rfl
theorem aKt:FnI Tryz.prog 147 Tryz.f147:=⟨by kernel_rfl,Tryz.func147⟩
theorem aN7:ab Tryz.prog 147=true:=by kernel_rfl
theorem aKs:FnI Tryz.prog 148 Tryz.f148:=⟨by kernel_rfl,Tryz.func148⟩
theorem axN:ab Tryz.prog 148=true:=by kernel_rfl
theorem aKr:FnI Tryz.prog 149 Tryz.f149:=⟨by kernel_rfl,Tryz.func149⟩
theorem axM:ab Tryz.prog 149=true:=by kernel_rfl
theorem aKq:FnI Tryz.prog 150 Tryz.f150:=⟨by kernel_rfl,Tryz.func150⟩
theorem aN6:ab Tryz.prog 150=true:=by kernel_rfl
theorem aKp:FnI Tryz.prog 151 Tryz.f151:=⟨by kernel_rfl,Tryz.func151⟩
theorem aN5:ab Tryz.prog 151=true:=by kernel_rfl
theorem aKo:FnI Tryz.prog 152 Tryz.f152:=⟨by kernel_rfl,Tryz.func152⟩
theorem aN4:ab Tryz.prog 152=true:=by kernel_rfl
theorem aKn:FnI Tryz.prog 153 Tryz.f153:=⟨by kernel_rfl,Tryz.func153⟩
theorem aN3:ab Tryz.prog 153=true:=by kernel_rfl
theorem aN2:ab Tryz.prog 154=true:=by kernel_rfl
theorem aKm:FnI Tryz.prog 155 Tryz.f155:=⟨by kernel_rfl,Tryz.func155⟩
theorem anc:ab Tryz.prog 155=true:=by kernel_rfl
theorem aKl:FnI Tryz.prog 156 Tryz.f156:=⟨by kernel_rfl,Tryz.func156⟩
theorem axL:ab Tryz.prog 156=true:=by kernel_rfl
theorem aKk:FnI Tryz.prog 157 Tryz.f157:=⟨by kernel_rfl,Tryz.func157⟩
theorem aN1:ab Tryz.prog 157=true:=by kernel_rfl
theorem aKj:FnI Tryz.prog 158 Tryz.f158:=⟨by kernel_rfl,Tryz.func158⟩
theorem aN0:ab Tryz.prog 158=true:=by kernel_rfl
theorem aKi:FnI Tryz.prog 159 Tryz.f159:=⟨by kernel_rfl,Tryz.func159⟩
theorem aNZ:ab Tryz.prog 159=true:=by kernel_rfl
theorem aKh:FnI Tryz.prog 160 Tryz.f160:=⟨by kernel_rfl,Tryz.func160⟩
theorem axK:ab Tryz.prog 160=true:=by kernel_rfl
theorem aKg:FnI Tryz.prog 161 Tryz.f161:=⟨by kernel_rfl,Tryz.func161⟩
theorem aNX:ab Tryz.prog 161=true:=by kernel_rfl
theorem aKf:FnI Tryz.prog 162 Tryz.f162:=⟨by kernel_rfl,Tryz.func162⟩
theorem ajf:ab Tryz.prog 162=true:=by kernel_rfl
theorem aKe:FnI Tryz.prog 163 Tryz.f163:=⟨by kernel_rfl,Tryz.func163⟩
theorem aNW:ab Tryz.prog 163=true:=by kernel_rfl
theorem aKd:FnI Tryz.prog 164 Tryz.f164:=⟨by kernel_rfl,Tryz.func164⟩
theorem adS:ab Tryz.prog 164=true:=by kernel_rfl
theorem aKc:FnI Tryz.prog 165 Tryz.f165:=⟨by kernel_rfl,Tryz.func165⟩
theorem aNV:ab Tryz.prog 165=true:=by kernel_rfl
theorem aKb:FnI Tryz.prog 166 Tryz.f166:=⟨by kernel_rfl,Tryz.func166⟩
theorem axJ:ab Tryz.prog 166=true:=by kernel_rfl
theorem aKa:FnI Tryz.prog 167 Tryz.f167:=⟨by kernel_rfl,Tryz.func167⟩
theorem anb:ab Tryz.prog 167=true:=by kernel_rfl
theorem aJ9:FnI Tryz.prog 168 Tryz.f168:=⟨by kernel_rfl,Tryz.func168⟩
theorem fk:ab Tryz.prog 168=true:=by kernel_rfl
theorem aJ8:FnI Tryz.prog 169 Tryz.f169:=⟨by kernel_rfl,Tryz.func169⟩
theorem aNU:ab Tryz.prog 169=true:=by kernel_rfl
theorem aJ7:FnI Tryz.prog 170 Tryz.f170:=⟨by kernel_rfl,Tryz.func170⟩
theorem ana:ab Tryz.prog 170=true:=by kernel_rfl
theorem aJ6:FnI Tryz.prog 171 Tryz.f171:=⟨by kernel_rfl,Tryz.func171⟩
theorem aNT:ab Tryz.prog 171=true:=by kernel_rfl
theorem aJ5:FnI Tryz.prog 172 Tryz.f172:=⟨by kernel_rfl,Tryz.func172⟩
theorem aa4:ab Tryz.prog 172=true:=by kernel_rfl
theorem aJ4:FnI Tryz.prog 173 Tryz.f173:=⟨by kernel_rfl,Tryz.func173⟩
theorem aNS:ab Tryz.prog 173=true:=by kernel_rfl
theorem azO:FnI Tryz.prog 174 Tryz.f174:=⟨by kernel_rfl,Tryz.func174⟩
theorem aNR:ab Tryz.prog 174=true:=by kernel_rfl
theorem aJ3:FnI Tryz.prog 175 Tryz.f175:=⟨by kernel_rfl,Tryz.func175⟩
theorem aNQ:ab Tryz.prog 175=true:=by kernel_rfl
theorem aJ2:FnI Tryz.prog 176 Tryz.f176:=⟨by kernel_rfl,Tryz.func176⟩
theorem aNP:ab Tryz.prog 176=true:=by kernel_rfl
theorem aJ1:FnI Tryz.prog 177 Tryz.f177:=⟨by kernel_rfl,Tryz.func177⟩
theorem axI:ab Tryz.prog 177=true:=by kernel_rfl
theorem aJ0:FnI Tryz.prog 178 Tryz.f178:=⟨by kernel_rfl,Tryz.func178⟩
theorem axH:ab Tryz.prog 178=true:=by kernel_rfl
theorem aJZ:FnI Tryz.prog 179 Tryz.f179:=⟨by kernel_rfl,Tryz.func179⟩
theorem am9:ab Tryz.prog 179=true:=by kernel_rfl
theorem aJY:FnI Tryz.prog 180 Tryz.f180:=⟨by kernel_rfl,Tryz.func180⟩
theorem aNO:ab Tryz.prog 180=true:=by kernel_rfl
theorem aJX:FnI Tryz.prog 181 Tryz.f181:=⟨by kernel_rfl,Tryz.func181⟩
theorem aNN:ab Tryz.prog 181=true:=by kernel_rfl
theorem aJW:FnI Tryz.prog 182 Tryz.f182:=⟨by kernel_rfl,Tryz.func182⟩
theorem axG:ab Tryz.prog 182=true:=by kernel_rfl
theorem aJV:FnI Tryz.prog 183 Tryz.f183:=⟨by kernel_rfl,Tryz.func183⟩
theorem aNM:ab Tryz.prog 183=true:=by kernel_rfl
theorem aJU:FnI Tryz.prog 184 Tryz.f184:=⟨by kernel_rfl,Tryz.func184⟩
theorem axF:ab Tryz.prog 184=true:=by kernel_rfl
theorem aJT:FnI Tryz.prog 185 Tryz.f185:=⟨by kernel_rfl,Tryz.func185⟩
theorem axE:ab Tryz.prog 185=true:=by kernel_rfl
theorem aJS:FnI Tryz.prog 186 Tryz.f186:=⟨by kernel_rfl,Tryz.func186⟩
theorem axD:ab Tryz.prog 186=true:=by kernel_rfl
theorem aJR:FnI Tryz.prog 187 Tryz.f187:=⟨by kernel_rfl,Tryz.func187⟩
theorem aNL:ab Tryz.prog 187=true:=by kernel_rfl
theorem aJQ:FnI Tryz.prog 188 Tryz.f188:=⟨by kernel_rfl,Tryz.func188⟩
theorem aNK:ab Tryz.prog 188=true:=by kernel_rfl
theorem aJP:FnI Tryz.prog 189 Tryz.f189:=⟨by kernel_rfl,Tryz.func189⟩
theorem axC:ab Tryz.prog 189=true:=by kernel_rfl
theorem aJO:FnI Tryz.prog 190 Tryz.f190:=⟨by kernel_rfl,Tryz.func190⟩
theorem aNJ:ab Tryz.prog 190=true:=by kernel_rfl
theorem aJN:FnI Tryz.prog 191 Tryz.f191:=⟨by kernel_rfl,Tryz.func191⟩
theorem axB:ab Tryz.prog 191=true:=by kernel_rfl
theorem aJM:FnI Tryz.prog 192 Tryz.f192:=⟨by kernel_rfl,Tryz.func192⟩
theorem aNI:ab Tryz.prog 192=true:=by kernel_rfl
theorem aJL:FnI Tryz.prog 193 Tryz.f193:=⟨by kernel_rfl,Tryz.func193⟩
theorem axA:ab Tryz.prog 193=true:=by kernel_rfl
theorem aJK:FnI Tryz.prog 194 Tryz.f194:=⟨by kernel_rfl,Tryz.func194⟩
theorem axz:ab Tryz.prog 194=true:=by kernel_rfl
theorem aJJ:FnI Tryz.prog 195 Tryz.f195:=⟨by kernel_rfl,Tryz.func195⟩
theorem axy:ab Tryz.prog 195=true:=by kernel_rfl
theorem aJI:FnI Tryz.prog 196 Tryz.f196:=⟨by kernel_rfl,Tryz.func196⟩
theorem aNH:ab Tryz.prog 196=true:=by kernel_rfl
theorem aJH:FnI Tryz.prog 197 Tryz.f197:=⟨by kernel_rfl,Tryz.func197⟩
theorem axx:ab Tryz.prog 197=true:=by kernel_rfl
theorem aJG:FnI Tryz.prog 198 Tryz.f198:=⟨by kernel_rfl,Tryz.func198⟩
theorem aNG:ab Tryz.prog 198=true:=by kernel_rfl
theorem aJF:FnI Tryz.prog 199 Tryz.f199:=⟨by kernel_rfl,Tryz.func199⟩
theorem axw:ab Tryz.prog 199=true:=by kernel_rfl
theorem aJE:FnI Tryz.prog 200 Tryz.f200:=⟨by kernel_rfl,Tryz.func200⟩
theorem axv:ab Tryz.prog 200=true:=by kernel_rfl
theorem aJD:FnI Tryz.prog 201 Tryz.f201:=⟨by kernel_rfl,Tryz.func201⟩
theorem am8:ab Tryz.prog 201=true:=by kernel_rfl
theorem aJC:FnI Tryz.prog 202 Tryz.f202:=⟨by kernel_rfl,Tryz.func202⟩
theorem axu:ab Tryz.prog 202=true:=by kernel_rfl
theorem aJB:FnI Tryz.prog 203 Tryz.f203:=⟨by kernel_rfl,Tryz.func203⟩
theorem axt:ab Tryz.prog 203=true:=by kernel_rfl
theorem aJA:FnI Tryz.prog 204 Tryz.f204:=⟨by kernel_rfl,Tryz.func204⟩
theorem aje:ab Tryz.prog 204=true:=by kernel_rfl
theorem aJz:FnI Tryz.prog 205 Tryz.f205:=⟨by kernel_rfl,Tryz.func205⟩
theorem axs:ab Tryz.prog 205=true:=by kernel_rfl
theorem aJy:FnI Tryz.prog 206 Tryz.f206:=⟨by kernel_rfl,Tryz.func206⟩
theorem aNF:ab Tryz.prog 206=true:=by kernel_rfl
theorem aJx:FnI Tryz.prog 207 Tryz.f207:=⟨by kernel_rfl,Tryz.func207⟩
theorem aNE:ab Tryz.prog 207=true:=by kernel_rfl
theorem aJw:FnI Tryz.prog 208 Tryz.f208:=⟨by kernel_rfl,Tryz.func208⟩
theorem aNC:ab Tryz.prog 208=true:=by kernel_rfl
theorem aJv:FnI Tryz.prog 209 Tryz.f209:=⟨by kernel_rfl,Tryz.func209⟩
theorem aNB:ab Tryz.prog 209=true:=by kernel_rfl
theorem aJu:FnI Tryz.prog 210 Tryz.f210:=⟨by kernel_rfl,Tryz.func210⟩
theorem aNA:ab Tryz.prog 210=true:=by kernel_rfl
theorem aJt:FnI Tryz.prog 211 Tryz.f211:=⟨by kernel_rfl,Tryz.func211⟩
theorem ajd:ab Tryz.prog 211=true:=by kernel_rfl
theorem aJs:FnI Tryz.prog 212 Tryz.f212:=⟨by kernel_rfl,Tryz.func212⟩
theorem afD:ab Tryz.prog 212=true:=by kernel_rfl
theorem aJr:FnI Tryz.prog 214 Tryz.f214:=⟨by kernel_rfl,Tryz.func214⟩
theorem aNz:ab Tryz.prog 214=true:=by kernel_rfl
theorem aJq:FnI Tryz.prog 215 Tryz.f215:=⟨by kernel_rfl,Tryz.func215⟩
theorem aNx:ab Tryz.prog 215=true:=by kernel_rfl
theorem aJp:FnI Tryz.prog 216 Tryz.f216:=⟨by kernel_rfl,Tryz.func216⟩
theorem axr:ab Tryz.prog 216=true:=by kernel_rfl
theorem aJo:FnI Tryz.prog 217 Tryz.f217:=⟨by kernel_rfl,Tryz.func217⟩
theorem aNw:ab Tryz.prog 217=true:=by kernel_rfl
theorem aNv:ab Tryz.prog 218=true:=by kernel_rfl
theorem aJn:FnI Tryz.prog 220 Tryz.f220:=⟨by kernel_rfl,Tryz.func220⟩
theorem aNu:ab Tryz.prog 220=true:=by kernel_rfl
theorem aJm:FnI Tryz.prog 221 Tryz.f221:=⟨by kernel_rfl,Tryz.func221⟩
theorem aNt:ab Tryz.prog 221=true:=by kernel_rfl
theorem aJl:FnI Tryz.prog 222 Tryz.f222:=⟨by kernel_rfl,Tryz.func222⟩
theorem am7:ab Tryz.prog 222=true:=by kernel_rfl
theorem aJk:FnI Tryz.prog 223 Tryz.f223:=⟨by kernel_rfl,Tryz.func223⟩
theorem aNs:ab Tryz.prog 223=true:=by kernel_rfl
theorem aJj:FnI Tryz.prog 224 Tryz.f224:=⟨by kernel_rfl,Tryz.func224⟩
theorem aNr:ab Tryz.prog 224=true:=by kernel_rfl
theorem aJi:FnI Tryz.prog 225 Tryz.f225:=⟨by kernel_rfl,Tryz.func225⟩
theorem aNq:ab Tryz.prog 225=true:=by kernel_rfl
theorem aJh:FnI Tryz.prog 226 Tryz.f226:=⟨by kernel_rfl,Tryz.func226⟩
theorem aNp:ab Tryz.prog 226=true:=by kernel_rfl
theorem aJg:FnI Tryz.prog 227 Tryz.f227:=⟨by kernel_rfl,Tryz.func227⟩
theorem axq:ab Tryz.prog 227=true:=by kernel_rfl
theorem aJf:FnI Tryz.prog 228 Tryz.f228:=⟨by kernel_rfl,Tryz.func228⟩
theorem aNo:ab Tryz.prog 228=true:=by kernel_rfl
theorem aJe:FnI Tryz.prog 229 Tryz.f229:=⟨by kernel_rfl,Tryz.func229⟩
theorem aNn:ab Tryz.prog 229=true:=by kernel_rfl
theorem aJd:FnI Tryz.prog 230 Tryz.f230:=⟨by kernel_rfl,Tryz.func230⟩
theorem axp:ab Tryz.prog 230=true:=by kernel_rfl
theorem aJc:FnI Tryz.prog 231 Tryz.f231:=⟨by kernel_rfl,Tryz.func231⟩
theorem aNm:ab Tryz.prog 231=true:=by kernel_rfl
theorem aJb:FnI Tryz.prog 232 Tryz.f232:=⟨by kernel_rfl,Tryz.func232⟩
theorem axo:ab Tryz.prog 232=true:=by kernel_rfl
theorem aJa:FnI Tryz.prog 233 Tryz.f233:=⟨by kernel_rfl,Tryz.func233⟩
theorem aNl:ab Tryz.prog 233=true:=by kernel_rfl
theorem aI9:FnI Tryz.prog 234 Tryz.f234:=⟨by kernel_rfl,Tryz.func234⟩
theorem axn:ab Tryz.prog 234=true:=by kernel_rfl
theorem aI8:FnI Tryz.prog 235 Tryz.f235:=⟨by kernel_rfl,Tryz.func235⟩
theorem am6:ab Tryz.prog 235=true:=by kernel_rfl
theorem aI7:FnI Tryz.prog 236 Tryz.f236:=⟨by kernel_rfl,Tryz.func236⟩
theorem axm:ab Tryz.prog 236=true:=by kernel_rfl
theorem aI6:FnI Tryz.prog 237 Tryz.f237:=⟨by kernel_rfl,Tryz.func237⟩
theorem aNk:ab Tryz.prog 237=true:=by kernel_rfl
theorem aI5:FnI Tryz.prog 238 Tryz.f238:=⟨by kernel_rfl,Tryz.func238⟩
theorem aNj:ab Tryz.prog 238=true:=by kernel_rfl
theorem aI4:FnI Tryz.prog 239 Tryz.f239:=⟨by kernel_rfl,Tryz.func239⟩
theorem aNi:ab Tryz.prog 239=true:=by kernel_rfl
theorem aI3:FnI Tryz.prog 240 Tryz.f240:=⟨by kernel_rfl,Tryz.func240⟩
theorem aNh:ab Tryz.prog 240=true:=by kernel_rfl
theorem aI2:FnI Tryz.prog 241 Tryz.f241:=⟨by kernel_rfl,Tryz.func241⟩
theorem axl:ab Tryz.prog 241=true:=by kernel_rfl
theorem aI1:FnI Tryz.prog 242 Tryz.f242:=⟨by kernel_rfl,Tryz.func242⟩
theorem axk:ab Tryz.prog 242=true:=by kernel_rfl
theorem aI0:FnI Tryz.prog 243 Tryz.f243:=⟨by kernel_rfl,Tryz.func243⟩
theorem am5:ab Tryz.prog 243=true:=by kernel_rfl
theorem aIZ:FnI Tryz.prog 245 Tryz.f245:=⟨by kernel_rfl,Tryz.func245⟩
theorem aNg:ab Tryz.prog 245=true:=by kernel_rfl
theorem aIY:FnI Tryz.prog 246 Tryz.f246:=⟨by kernel_rfl,Tryz.func246⟩
theorem aNf:ab Tryz.prog 246=true:=by kernel_rfl
theorem aIX:FnI Tryz.prog 247 Tryz.f247:=⟨by kernel_rfl,Tryz.func247⟩
theorem aNe:ab Tryz.prog 247=true:=by kernel_rfl
theorem aIW:FnI Tryz.prog 248 Tryz.f248:=⟨by kernel_rfl,Tryz.func248⟩
theorem axj:ab Tryz.prog 248=true:=by kernel_rfl
theorem aIV:FnI Tryz.prog 249 Tryz.f249:=⟨by kernel_rfl,Tryz.func249⟩
theorem axi:ab Tryz.prog 249=true:=by kernel_rfl
theorem aIU:FnI Tryz.prog 251 Tryz.f251:=⟨by kernel_rfl,Tryz.func251⟩
theorem aNc:ab Tryz.prog 251=true:=by kernel_rfl
theorem aIT:FnI Tryz.prog 252 Tryz.f252:=⟨by kernel_rfl,Tryz.func252⟩
theorem aNb:ab Tryz.prog 252=true:=by kernel_rfl
theorem aIS:FnI Tryz.prog 253 Tryz.f253:=⟨by kernel_rfl,Tryz.func253⟩
theorem aNa:ab Tryz.prog 253=true:=by kernel_rfl
theorem aIR:FnI Tryz.prog 254 Tryz.f254:=⟨by kernel_rfl,Tryz.func254⟩
theorem aM9:ab Tryz.prog 254=true:=by kernel_rfl
theorem aIQ:FnI Tryz.prog 255 Tryz.f255:=⟨by kernel_rfl,Tryz.func255⟩
theorem aM8:ab Tryz.prog 255=true:=by kernel_rfl
theorem aIP:FnI Tryz.prog 256 Tryz.f256:=⟨by kernel_rfl,Tryz.func256⟩
theorem aM7:ab Tryz.prog 256=true:=by kernel_rfl
theorem aGm:aD 6=false:=rfl
theorem ayY:aD 7=false:=rfl
theorem aGl:aD 8=false:=rfl
theorem aGk:aD 9=false:=rfl
theorem ay8:aD 10=false:=rfl
theorem aiW:aD 11=false:=rfl
theorem apG:aD 12=false:=rfl
theorem aW0:aD 13=false:=rfl
theorem ay7:aD 14=false:=rfl
theorem aIF:aD 15=false:=rfl
theorem agu:aD 16=false:=rfl
theorem aWZ:aD 17=false:=rfl
theorem aWY:aD 18=false:=rfl
theorem aWX:aD 19=false:=rfl
theorem aWW:aD 20=false:=rfl
theorem aWV:aD 21=false:=rfl
theorem aWU:aD 22=false:=rfl
theorem aWT:aD 23=false:=rfl
theorem ak9:aD 24=false:=rfl
theorem aIE:aD 25=false:=rfl
theorem aWS:aD 26=false:=rfl
theorem aWR:aD 27=false:=rfl
theorem aID:aD 28=false:=rfl
theorem aIC:aD 29=false:=rfl
theorem aWQ:aD 30=false:=rfl
theorem aIB:aD 31=false:=rfl
theorem aIA:aD 32=false:=rfl
theorem aWP:aD 33=false:=rfl
theorem aWO:aD 34=false:=rfl
theorem aWN:aD 35=false:=rfl
theorem ab8:aD 36=false:=rfl
theorem agt:aD 37=false:=rfl
theorem aWM:aD 38=false:=rfl
theorem aWL:aD 39=false:=rfl
theorem aWK:aD 40=false:=rfl
theorem aWJ:aD 41=false:=rfl
theorem ay6:aD 42=false:=rfl
theorem aWI:aD 43=false:=rfl
theorem ay5:aD 44=false:=rfl
theorem aIz:aD 45=false:=rfl
theorem aIy:aD 46=false:=rfl
theorem ay4:aD 47=false:=rfl
theorem aWH:aD 48=false:=rfl
theorem aWG:aD 49=false:=rfl
theorem aWF:aD 50=false:=rfl
theorem aWE:aD 51=false:=rfl
theorem aIx:aD 52=false:=rfl
theorem ay3:aD 53=false:=rfl
theorem ay2:aD 54=false:=rfl
theorem aWD:aD 55=false:=rfl
theorem aWC:aD 56=false:=rfl
theorem aIw:aD 57=false:=rfl
theorem aIv:aD 58=false:=rfl
theorem ay1:aD 59=false:=rfl
theorem aWB:aD 60=false:=rfl
theorem aWA:aD 61=false:=rfl
theorem aWz:aD 62=false:=rfl
theorem ay0:aD 63=false:=rfl
theorem apF:aD 64=false:=rfl
theorem aIu:aD 65=false:=rfl
theorem ayZ:aD 66=false:=rfl
theorem aWy:aD 67=false:=rfl
theorem aWx:aD 68=false:=rfl
theorem aIt:aD 69=false:=rfl
theorem apE:aD 70=false:=rfl
theorem apD:aD 71=false:=rfl
theorem aIs:aD 72=false:=rfl
theorem aWw:aD 73=false:=rfl
theorem aWv:aD 74=true:=rfl
theorem aWu:aD 75=false:=rfl
theorem aWt:aD 76=false:=rfl
theorem aWs:aD 77=false:=rfl
theorem aWr:aD 78=false:=rfl
theorem aIr:aD 79=false:=rfl
theorem aIq:aD 80=false:=rfl
theorem aWq:aD 81=false:=rfl
theorem ayX:aD 82=false:=rfl
theorem aIp:aD 83=false:=rfl
theorem ayW:aD 84=false:=rfl
theorem aIo:aD 85=false:=rfl
theorem aWp:aD 86=false:=rfl
theorem aIn:aD 87=false:=rfl
theorem aIm:aD 88=false:=rfl
theorem aWo:aD 89=false:=rfl
theorem aWn:aD 90=false:=rfl
theorem aIl:aD 91=false:=rfl
theorem aWm:aD 92=false:=rfl
theorem aWl:aD 93=false:=rfl
theorem aIk:aD 94=false:=rfl
theorem aIj:aD 95=false:=rfl
theorem ayV:aD 96=false:=rfl
theorem aIi:aD 97=false:=rfl
theorem aWk:aD 98=true:=rfl
theorem aIh:aD 99=false:=rfl
theorem aCB:aD 100=false:=rfl
theorem aCA:aD 101=false:=rfl
theorem aCz:aD 102=false:=rfl
theorem aQH:aD 103=false:=rfl
theorem aq8:aD 104=false:=rfl
theorem aq7:aD 105=false:=rfl
theorem alj:aD 106=false:=rfl
theorem ahH:aD 107=false:=rfl
theorem alh:aD 108=false:=rfl
theorem aCy:aD 109=false:=rfl
theorem aQG:aD 110=false:=rfl
theorem aCx:aD 111=false:=rfl
theorem aQF:aD 112=false:=rfl
theorem aCw:aD 113=false:=rfl
theorem aq6:aD 114=false:=rfl
theorem aq5:aD 115=false:=rfl
theorem aQE:aD 116=false:=rfl
theorem aQD:aD 117=false:=rfl
theorem aQC:aD 118=false:=rfl
theorem aCv:aD 119=false:=rfl
theorem aQB:aD 120=false:=rfl
theorem aca:aD 121=false:=rfl
theorem abk:aD 122=false:=rfl
theorem aQA:aD 123=false:=rfl
theorem aCu:aD 124=false:=rfl
theorem alg:aD 125=false:=rfl
theorem aQz:aD 126=false:=rfl
theorem aCt:aD 127=false:=rfl
theorem ahG:aD 128=false:=rfl
theorem aQy:aD 129=false:=rfl
theorem aCs:aD 130=false:=rfl
theorem abj:aD 131=false:=rfl
theorem alf:aD 132=false:=rfl
theorem ahF:aD 133=false:=rfl
theorem abi:aD 134=false:=rfl
theorem aQx:aD 135=false:=rfl
theorem aCr:aD 136=false:=rfl
theorem aQw:aD 137=false:=rfl
theorem aCq:aD 138=false:=rfl
theorem aQv:aD 139=false:=rfl
theorem aCp:aD 140=false:=rfl
theorem afu:aD 141=false:=rfl
theorem aq4:aD 142=false:=rfl
theorem ald:aD 143=false:=rfl
theorem ahE:aD 144=false:=rfl
theorem aQu:aD 145=false:=rfl
theorem aCo:aD 146=false:=rfl
theorem aQt:aD 147=false:=rfl
theorem aCn:aD 148=false:=rfl
theorem aCm:aD 149=false:=rfl
theorem aQs:aD 150=false:=rfl
theorem aQr:aD 151=false:=rfl
theorem aQq:aD 152=false:=rfl
theorem aQp:aD 153=false:=rfl
theorem aQo:aD 154=false:=rfl
theorem aq3:aD 155=false:=rfl
theorem aCl:aD 156=false:=rfl
theorem aQn:aD 157=false:=rfl
theorem aQm:aD 158=false:=rfl
theorem aQl:aD 159=false:=rfl
theorem aCk:aD 160=false:=rfl
theorem aQk:aD 161=false:=rfl
theorem alc:aD 162=false:=rfl
theorem aQj:aD 163=false:=rfl
theorem aft:aD 164=false:=rfl
theorem aQi:aD 165=false:=rfl
theorem aCj:aD 166=false:=rfl
theorem aq2:aD 167=false:=rfl
theorem gf:aD 168=true:=rfl
theorem aQh:aD 169=false:=rfl
theorem aq1:aD 170=false:=rfl
theorem aQg:aD 171=false:=rfl
theorem ab9:aD 172=false:=rfl
theorem aQf:aD 173=false:=rfl
theorem aQe:aD 174=false:=rfl
theorem aQd:aD 175=false:=rfl
theorem aQc:aD 176=false:=rfl
theorem aCi:aD 177=false:=rfl
theorem aCh:aD 178=false:=rfl
theorem aq0:aD 179=false:=rfl
theorem aQb:aD 180=false:=rfl
theorem aQa:aD 181=false:=rfl
theorem aCg:aD 182=false:=rfl
theorem aP9:aD 183=false:=rfl
theorem aCf:aD 184=false:=rfl
theorem aCe:aD 185=false:=rfl
theorem aCd:aD 186=false:=rfl
theorem aP8:aD 187=false:=rfl
theorem aP7:aD 188=false:=rfl
theorem aCc:aD 189=false:=rfl
theorem aP6:aD 190=false:=rfl
theorem aCb:aD 191=false:=rfl
theorem aP5:aD 192=false:=rfl
theorem aCa:aD 193=false:=rfl
theorem aB9:aD 194=false:=rfl
theorem aB8:aD 195=false:=rfl
theorem aP4:aD 196=false:=rfl
theorem aB7:aD 197=false:=rfl
theorem aP3:aD 198=false:=rfl
theorem aB6:aD 199=false:=rfl
theorem aB5:aD 200=false:=rfl
theorem aqZ:aD 201=false:=rfl
theorem aB4:aD 202=false:=rfl
theorem aB3:aD 203=false:=rfl
theorem alb:aD 204=false:=rfl
theorem aB2:aD 205=false:=rfl
theorem aP2:aD 206=false:=rfl
theorem aP1:aD 207=false:=rfl
theorem aP0:aD 208=false:=rfl
theorem aPZ:aD 209=false:=rfl
theorem aPY:aD 210=false:=rfl
theorem ala:aD 211=false:=rfl
theorem ahD:aD 212=false:=rfl
theorem aPX:aD 214=false:=rfl
theorem aPW:aD 215=false:=rfl
theorem aB1:aD 216=false:=rfl
theorem aPV:aD 217=false:=rfl
theorem aPU:aD 218=false:=rfl
theorem aPT:aD 220=false:=rfl
theorem aPS:aD 221=false:=rfl
theorem aqY:aD 222=false:=rfl
theorem aPR:aD 223=false:=rfl
theorem aPQ:aD 224=false:=rfl
theorem aPP:aD 225=false:=rfl
theorem aPO:aD 226=false:=rfl
theorem aB0:aD 227=false:=rfl
theorem aPN:aD 228=false:=rfl
theorem aPM:aD 229=false:=rfl
theorem aBZ:aD 230=false:=rfl
theorem aPL:aD 231=false:=rfl
theorem aBY:aD 232=false:=rfl
theorem aPK:aD 233=false:=rfl
theorem aBX:aD 234=false:=rfl
theorem aqX:aD 235=false:=rfl
theorem aBW:aD 236=false:=rfl
theorem aPJ:aD 237=false:=rfl
theorem aPI:aD 238=false:=rfl
theorem aPH:aD 239=false:=rfl
theorem aPG:aD 240=false:=rfl
theorem aBV:aD 241=false:=rfl
theorem aBU:aD 242=false:=rfl
theorem aqW:aD 243=false:=rfl
theorem aPF:aD 245=false:=rfl
theorem aPE:aD 246=false:=rfl
theorem aPD:aD 247=false:=rfl
theorem aBT:aD 248=false:=rfl
theorem aBS:aD 249=false:=rfl
theorem aPC:aD 251=false:=rfl
theorem aPB:aD 252=false:=rfl
theorem aPA:aD 253=false:=rfl
theorem aPz:aD 254=false:=rfl
theorem aPy:aD 255=false:=rfl
theorem aPx:aD 256=false:=rfl
def mtL:List (String×Nat):=[("law.go:157",8),("law.go:161",9),("law.go:22",4),("law.go:40",3),("law.go:41",4),("law.go:72",2),("law.go:73",3),("ref.go:281",13),("ref.go:304",4),("ref.go:307",2),("ref.go:308",4),("ref.go:310",2),("ref.go:311",3),("ref.go:318",2),("ref.go:319",3),("ref.go:326",2),("ref.go:326",9),("ref.go:327",3),("ref.go:330",6),("ref.go:337",4),("ref.go:343",2),("ref.go:344",3),("ref.go:355",9),("ref.go:374",6),("ref.go:375",7),("ref.go:390",4),("ref.go:490",4),("schema.go:193",6),("schema.go:198",10),("schema.go:223",4),("schema.go:232",6),("schema.go:233",7),("schema.go:255",4),("schema.go:269",10),("schema.go:275",4),("schema.go:279",8),("schema.go:298",4),("schema.go:316",4),("schema.go:56",4),("syntax.go:174",3),("syntax.go:211",4),("syntax.go:214",2),("syntax.go:217",4),("syntax.go:218",5),("syntax.go:226",2),("syntax.go:229",2),("syntax.go:237",2),("syntax.go:242",2),("syntax.go:248",2),("syntax.go:249",2),("syntax.go:250",2),("syntax.go:63",5)]
def mtF (po:String):Option Nat→Bool
 | some d=>mtL.any fun p=>p.2 == d&&p.1 == po
 | none=>false
def au (f:Nat):Bool:=[47,52,50,51,55,74,98].contains f
theorem mt0:mtF "law.go:14" (some 1)=false:=by kernel_rfl
theorem mt1:mtF "law.go:148" (some 3)=false:=by kernel_rfl
theorem mt2:mtF "law.go:15" (some 2)=false:=by kernel_rfl
theorem mt3:mtF "law.go:152" (some 5)=false:=by kernel_rfl
theorem mt4:mtF "law.go:153" (some 6)=false:=by kernel_rfl
theorem mt5:mtF "law.go:157" (some 8)=true:=by kernel_rfl
theorem mt6:mtF "law.go:16" (some 4)=false:=by kernel_rfl
theorem mt7:mtF "law.go:161" (some 9)=true:=by kernel_rfl
theorem mt8:mtF "law.go:17" (some 6)=false:=by kernel_rfl
theorem mt9:mtF "law.go:22" (some 2)=false:=by kernel_rfl
theorem a2c:mtF "law.go:22" (some 3)=false:=by kernel_rfl
theorem a2b:mtF "law.go:22" (some 4)=true:=by kernel_rfl
theorem a2a:mtF "law.go:33" (some 1)=false:=by kernel_rfl
theorem a19:mtF "law.go:40" (some 3)=true:=by kernel_rfl
theorem a18:mtF "law.go:41" (some 4)=true:=by kernel_rfl
theorem a17:mtF "law.go:46" (some 6)=false:=by kernel_rfl
theorem a16:mtF "law.go:47" (some 8)=false:=by kernel_rfl
theorem a15:mtF "law.go:57" (some 2)=false:=by kernel_rfl
theorem a14:mtF "law.go:57" (some 3)=false:=by kernel_rfl
theorem a13:mtF "law.go:66" (some 6)=false:=by kernel_rfl
theorem a1Z:mtF "law.go:67" (some 8)=false:=by kernel_rfl
theorem a1Y:mtF "law.go:72" (some 2)=true:=by kernel_rfl
theorem a1X:mtF "law.go:73" (some 3)=true:=by kernel_rfl
theorem a1W:mtF "ref.go:105" (some 3)=false:=by kernel_rfl
theorem a1V:mtF "ref.go:105" (some 4)=false:=by kernel_rfl
theorem a1U:mtF "ref.go:107" (some 8)=false:=by kernel_rfl
theorem a1T:mtF "ref.go:116" (some 2)=false:=by kernel_rfl
theorem a1S:mtF "ref.go:116" (some 3)=false:=by kernel_rfl
theorem a1R:mtF "ref.go:119" (some 1)=false:=by kernel_rfl
theorem a1Q:mtF "ref.go:125" (some 1)=false:=by kernel_rfl
theorem a1P:mtF "ref.go:133" (some 1)=false:=by kernel_rfl
theorem a1O:mtF "ref.go:145" (some 1)=false:=by kernel_rfl
theorem a1N:mtF "ref.go:150" (some 2)=false:=by kernel_rfl
theorem a1M:mtF "ref.go:150" (some 3)=false:=by kernel_rfl
theorem a1L:mtF "ref.go:152" (some 6)=false:=by kernel_rfl
theorem a1K:mtF "ref.go:172" (some 1)=false:=by kernel_rfl
theorem a1J:mtF "ref.go:177" (some 1)=false:=by kernel_rfl
theorem a1I:mtF "ref.go:182" (some 1)=false:=by kernel_rfl
theorem a1H:mtF "ref.go:194" (some 2)=false:=by kernel_rfl
theorem a1G:mtF "ref.go:194" (some 3)=false:=by kernel_rfl
theorem aQM:mtF "ref.go:206" (some 1)=false:=by kernel_rfl
theorem a1F:mtF "ref.go:208" (some 4)=false:=by kernel_rfl
theorem a1E:mtF "ref.go:218" (some 1)=false:=by kernel_rfl
theorem a1D:mtF "ref.go:218" (some 6)=false:=by kernel_rfl
theorem a1C:mtF "ref.go:223" (some 4)=false:=by kernel_rfl
theorem a1B:mtF "ref.go:241" (some 2)=false:=by kernel_rfl
theorem a1A:mtF "ref.go:241" (some 3)=false:=by kernel_rfl
theorem a1z:mtF "ref.go:247" (some 1)=false:=by kernel_rfl
theorem a1y:mtF "ref.go:260" (some 2)=false:=by kernel_rfl
theorem a1x:mtF "ref.go:273" (some 3)=false:=by kernel_rfl
theorem a1w:mtF "ref.go:273" (some 4)=false:=by kernel_rfl
theorem a1v:mtF "ref.go:274" (some 1)=false:=by kernel_rfl
theorem a1u:mtF "ref.go:276" (some 10)=false:=by kernel_rfl
theorem a1t:mtF "ref.go:281" (some 13)=true:=by kernel_rfl
theorem a1s:mtF "ref.go:304" (some 2)=false:=by kernel_rfl
theorem a1r:mtF "ref.go:304" (some 3)=false:=by kernel_rfl
theorem a1q:mtF "ref.go:304" (some 4)=true:=by kernel_rfl
theorem a1p:mtF "ref.go:307" (some 1)=false:=by kernel_rfl
theorem a1o:mtF "ref.go:307" (some 2)=true:=by kernel_rfl
theorem a1n:mtF "ref.go:308" (some 2)=false:=by kernel_rfl
theorem a1m:mtF "ref.go:308" (some 3)=false:=by kernel_rfl
theorem a1l:mtF "ref.go:308" (some 4)=true:=by kernel_rfl
theorem a1k:mtF "ref.go:310" (some 2)=true:=by kernel_rfl
theorem a1j:mtF "ref.go:311" (some 3)=true:=by kernel_rfl
theorem a1i:mtF "ref.go:318" (some 2)=true:=by kernel_rfl
theorem a1h:mtF "ref.go:319" (some 3)=true:=by kernel_rfl
theorem a1g:mtF "ref.go:32" (some 1)=false:=by kernel_rfl
theorem a1f:mtF "ref.go:326" (some 2)=true:=by kernel_rfl
theorem a1e:mtF "ref.go:326" (some 9)=true:=by kernel_rfl
theorem a1d:mtF "ref.go:327" (some 3)=true:=by kernel_rfl
theorem a1c:mtF "ref.go:329" (some 5)=false:=by kernel_rfl
theorem a1b:mtF "ref.go:330" (some 6)=true:=by kernel_rfl
theorem a1a:mtF "ref.go:337" (some 2)=false:=by kernel_rfl
theorem aQL:mtF "ref.go:337" (some 3)=false:=by kernel_rfl
theorem a09:mtF "ref.go:337" (some 4)=true:=by kernel_rfl
theorem a08:mtF "ref.go:343" (some 1)=false:=by kernel_rfl
theorem a07:mtF "ref.go:343" (some 2)=true:=by kernel_rfl
theorem a06:mtF "ref.go:344" (some 3)=true:=by kernel_rfl
theorem a05:mtF "ref.go:355" (some 9)=true:=by kernel_rfl
theorem a04:mtF "ref.go:362" (some 2)=false:=by kernel_rfl
theorem a03:mtF "ref.go:374" (some 3)=false:=by kernel_rfl
theorem a02:mtF "ref.go:374" (some 6)=true:=by kernel_rfl
theorem a01:mtF "ref.go:375" (some 7)=true:=by kernel_rfl
theorem a00:mtF "ref.go:390" (some 2)=false:=by kernel_rfl
theorem a0Z:mtF "ref.go:390" (some 3)=false:=by kernel_rfl
theorem a0Y:mtF "ref.go:390" (some 4)=true:=by kernel_rfl
theorem a0X:mtF "ref.go:399" (some 1)=false:=by kernel_rfl
theorem a0W:mtF "ref.go:402" (some 1)=false:=by kernel_rfl
theorem a0V:mtF "ref.go:406" (some 1)=false:=by kernel_rfl
theorem a0U:mtF "ref.go:409" (some 1)=false:=by kernel_rfl
theorem a0T:mtF "ref.go:412" (some 2)=false:=by kernel_rfl
theorem a0S:mtF "ref.go:412" (some 3)=false:=by kernel_rfl
theorem a0R:mtF "ref.go:42" (some 1)=false:=by kernel_rfl
theorem a0Q:mtF "ref.go:439" (some 6)=false:=by kernel_rfl
theorem a0P:mtF "ref.go:439" (some 7)=false:=by kernel_rfl
theorem a0O:mtF "ref.go:466" (some 2)=false:=by kernel_rfl
theorem a0N:mtF "ref.go:466" (some 3)=false:=by kernel_rfl
theorem a0M:mtF "ref.go:490" (some 2)=false:=by kernel_rfl
theorem a0L:mtF "ref.go:490" (some 3)=false:=by kernel_rfl
theorem a0K:mtF "ref.go:490" (some 4)=true:=by kernel_rfl
theorem aZn:mtF "ref.go:501" (some 2)=false:=by kernel_rfl
theorem aZm:mtF "ref.go:501" (some 3)=false:=by kernel_rfl
theorem aZl:mtF "ref.go:511" (some 7)=false:=by kernel_rfl
theorem aZk:mtF "ref.go:511" (some 8)=false:=by kernel_rfl
theorem aZj:mtF "ref.go:517" (some 10)=false:=by kernel_rfl
theorem aZi:mtF "ref.go:517" (some 11)=false:=by kernel_rfl
theorem aZh:mtF "ref.go:531" (some 2)=false:=by kernel_rfl
theorem aZg:mtF "ref.go:531" (some 3)=false:=by kernel_rfl
theorem aZf:mtF "ref.go:546" (some 6)=false:=by kernel_rfl
theorem aZe:mtF "ref.go:546" (some 7)=false:=by kernel_rfl
theorem aZd:mtF "ref.go:57" (some 2)=false:=by kernel_rfl
theorem aZc:mtF "ref.go:67" (some 2)=false:=by kernel_rfl
theorem aZb:mtF "ref.go:71" (some 1)=false:=by kernel_rfl
theorem aZa:mtF "schema.go:102" (some 7)=false:=by kernel_rfl
theorem aY9:mtF "schema.go:110" (some 9)=false:=by kernel_rfl
theorem aY8:mtF "schema.go:115" (some 1)=false:=by kernel_rfl
theorem aY7:mtF "schema.go:119" (some 2)=false:=by kernel_rfl
theorem aY6:mtF "schema.go:119" (some 3)=false:=by kernel_rfl
theorem aY5:mtF "schema.go:120" (some 2)=false:=by kernel_rfl
theorem aY4:mtF "schema.go:121" (some 2)=false:=by kernel_rfl
theorem aY3:mtF "schema.go:126" (some 2)=false:=by kernel_rfl
theorem aY2:mtF "schema.go:126" (some 3)=false:=by kernel_rfl
theorem aY1:mtF "schema.go:127" (some 5)=false:=by kernel_rfl
theorem aY0:mtF "schema.go:132" (some 1)=false:=by kernel_rfl
theorem aYZ:mtF "schema.go:138" (some 8)=false:=by kernel_rfl
theorem aYY:mtF "schema.go:141" (some 10)=false:=by kernel_rfl
theorem aIG:mtF "schema.go:147" (some 2)=false:=by kernel_rfl
theorem aYX:mtF "schema.go:153" (some 8)=false:=by kernel_rfl
theorem aYW:mtF "schema.go:154" (some 2)=false:=by kernel_rfl
theorem aYV:mtF "schema.go:164" (some 2)=false:=by kernel_rfl
theorem aYU:mtF "schema.go:164" (some 3)=false:=by kernel_rfl
theorem aYT:mtF "schema.go:165" (some 5)=false:=by kernel_rfl
theorem aYS:mtF "schema.go:169" (some 9)=false:=by kernel_rfl
theorem aYR:mtF "schema.go:176" (some 12)=false:=by kernel_rfl
theorem aYQ:mtF "schema.go:184" (some 1)=false:=by kernel_rfl
theorem aYP:mtF "schema.go:188" (some 2)=false:=by kernel_rfl
theorem aYO:mtF "schema.go:188" (some 3)=false:=by kernel_rfl
theorem aYN:mtF "schema.go:189" (some 2)=false:=by kernel_rfl
theorem aYM:mtF "schema.go:193" (some 3)=false:=by kernel_rfl
theorem aYL:mtF "schema.go:193" (some 4)=false:=by kernel_rfl
theorem aYK:mtF "schema.go:193" (some 5)=false:=by kernel_rfl
theorem aYJ:mtF "schema.go:193" (some 6)=true:=by kernel_rfl
theorem aYI:mtF "schema.go:198" (some 10)=true:=by kernel_rfl
theorem aYH:mtF "schema.go:205" (some 12)=false:=by kernel_rfl
theorem aYG:mtF "schema.go:211" (some 2)=false:=by kernel_rfl
theorem aYF:mtF "schema.go:223" (some 2)=false:=by kernel_rfl
theorem aYE:mtF "schema.go:223" (some 3)=false:=by kernel_rfl
theorem aYD:mtF "schema.go:223" (some 4)=true:=by kernel_rfl
theorem aYC:mtF "schema.go:232" (some 6)=true:=by kernel_rfl
theorem aYB:mtF "schema.go:233" (some 7)=true:=by kernel_rfl
theorem aYA:mtF "schema.go:234" (some 9)=false:=by kernel_rfl
theorem aYz:mtF "schema.go:243" (some 13)=false:=by kernel_rfl
theorem aYy:mtF "schema.go:244" (some 14)=false:=by kernel_rfl
theorem aYx:mtF "schema.go:255" (some 2)=false:=by kernel_rfl
theorem aYw:mtF "schema.go:255" (some 3)=false:=by kernel_rfl
theorem aYv:mtF "schema.go:255" (some 4)=true:=by kernel_rfl
theorem aYu:mtF "schema.go:264" (some 6)=false:=by kernel_rfl
theorem aYt:mtF "schema.go:269" (some 10)=true:=by kernel_rfl
theorem aYs:mtF "schema.go:275" (some 2)=false:=by kernel_rfl
theorem aYr:mtF "schema.go:275" (some 3)=false:=by kernel_rfl
theorem aYq:mtF "schema.go:275" (some 4)=true:=by kernel_rfl
theorem aYp:mtF "schema.go:276" (some 6)=false:=by kernel_rfl
theorem aYo:mtF "schema.go:279" (some 8)=true:=by kernel_rfl
theorem aYn:mtF "schema.go:280" (some 10)=false:=by kernel_rfl
theorem aYm:mtF "schema.go:284" (some 2)=false:=by kernel_rfl
theorem aYl:mtF "schema.go:289" (some 12)=false:=by kernel_rfl
theorem aYk:mtF "schema.go:298" (some 2)=false:=by kernel_rfl
theorem aYj:mtF "schema.go:298" (some 3)=false:=by kernel_rfl
theorem aYi:mtF "schema.go:298" (some 4)=true:=by kernel_rfl
theorem aYh:mtF "schema.go:305" (some 2)=false:=by kernel_rfl
theorem aYg:mtF "schema.go:316" (some 2)=false:=by kernel_rfl
theorem aYf:mtF "schema.go:316" (some 4)=true:=by kernel_rfl
theorem aYe:mtF "schema.go:317" (some 7)=false:=by kernel_rfl
theorem aYd:mtF "schema.go:38" (some 3)=false:=by kernel_rfl
theorem aYc:mtF "schema.go:56" (some 2)=false:=by kernel_rfl
theorem aYb:mtF "schema.go:56" (some 3)=false:=by kernel_rfl
theorem aYa:mtF "schema.go:56" (some 4)=true:=by kernel_rfl
theorem aX9:mtF "schema.go:57" (some 2)=false:=by kernel_rfl
theorem aX8:mtF "schema.go:65" (some 4)=false:=by kernel_rfl
theorem aX7:mtF "schema.go:65" (some 5)=false:=by kernel_rfl
theorem aX6:mtF "schema.go:65" (some 6)=false:=by kernel_rfl
theorem aX5:mtF "schema.go:66" (some 9)=false:=by kernel_rfl
theorem aX4:mtF "schema.go:71" (some 3)=false:=by kernel_rfl
theorem aX3:mtF "schema.go:71" (some 4)=false:=by kernel_rfl
theorem aX2:mtF "schema.go:71" (some 5)=false:=by kernel_rfl
theorem aX1:mtF "schema.go:72" (some 7)=false:=by kernel_rfl
theorem aX0:mtF "schema.go:73" (some 2)=false:=by kernel_rfl
theorem aXZ:mtF "schema.go:85" (some 1)=false:=by kernel_rfl
theorem aXY:mtF "schema.go:87" (some 5)=false:=by kernel_rfl
theorem aXX:mtF "schema.go:97" (some 2)=false:=by kernel_rfl
theorem aXW:mtF "schema.go:97" (some 3)=false:=by kernel_rfl
theorem agw:mtF "slices.go:41" (some 8)=false:=by kernel_rfl
theorem agv:mtF "slices.go:42" (some 9)=false:=by kernel_rfl
theorem aXV:mtF "syntax.go:102" (some 1)=false:=by kernel_rfl
theorem aXU:mtF "syntax.go:107" (some 5)=false:=by kernel_rfl
theorem aXT:mtF "syntax.go:114" (some 1)=false:=by kernel_rfl
theorem aXS:mtF "syntax.go:131" (some 1)=false:=by kernel_rfl
theorem aXR:mtF "syntax.go:134" (some 1)=false:=by kernel_rfl
theorem aXQ:mtF "syntax.go:142" (some 1)=false:=by kernel_rfl
theorem aXP:mtF "syntax.go:156" (some 1)=false:=by kernel_rfl
theorem aXO:mtF "syntax.go:159" (some 1)=false:=by kernel_rfl
theorem aXN:mtF "syntax.go:162" (some 1)=false:=by kernel_rfl
theorem aXM:mtF "syntax.go:167" (some 1)=false:=by kernel_rfl
theorem aXL:mtF "syntax.go:173" (some 1)=false:=by kernel_rfl
theorem aXK:mtF "syntax.go:174" (some 3)=true:=by kernel_rfl
theorem aXJ:mtF "syntax.go:211" (some 2)=false:=by kernel_rfl
theorem aXI:mtF "syntax.go:211" (some 3)=false:=by kernel_rfl
theorem aXH:mtF "syntax.go:211" (some 4)=true:=by kernel_rfl
theorem aXG:mtF "syntax.go:214" (some 1)=false:=by kernel_rfl
theorem aXF:mtF "syntax.go:214" (some 2)=true:=by kernel_rfl
theorem aiZ:mtF "syntax.go:217" (some 4)=true:=by kernel_rfl
theorem aiY:mtF "syntax.go:218" (some 5)=true:=by kernel_rfl
theorem alo:mtF "syntax.go:219" (some 7)=false:=by kernel_rfl
theorem aXE:mtF "syntax.go:226" (some 1)=false:=by kernel_rfl
theorem aXD:mtF "syntax.go:226" (some 2)=true:=by kernel_rfl
theorem aXC:mtF "syntax.go:229" (some 1)=false:=by kernel_rfl
theorem aXB:mtF "syntax.go:229" (some 2)=true:=by kernel_rfl
theorem aXA:mtF "syntax.go:237" (some 1)=false:=by kernel_rfl
theorem aXz:mtF "syntax.go:237" (some 2)=true:=by kernel_rfl
theorem aXy:mtF "syntax.go:242" (some 1)=false:=by kernel_rfl
theorem aXx:mtF "syntax.go:242" (some 2)=true:=by kernel_rfl
theorem aXw:mtF "syntax.go:243" (some 3)=false:=by kernel_rfl
theorem aXv:mtF "syntax.go:248" (some 1)=false:=by kernel_rfl
theorem aXu:mtF "syntax.go:248" (some 2)=true:=by kernel_rfl
theorem aXt:mtF "syntax.go:249" (some 2)=true:=by kernel_rfl
theorem aXs:mtF "syntax.go:249" (some 3)=false:=by kernel_rfl
theorem aXr:mtF "syntax.go:250" (some 1)=false:=by kernel_rfl
theorem aXq:mtF "syntax.go:250" (some 2)=true:=by kernel_rfl
theorem aXp:mtF "syntax.go:250" (some 4)=false:=by kernel_rfl
theorem aXo:mtF "syntax.go:255" (some 1)=false:=by kernel_rfl
theorem aXn:mtF "syntax.go:258" (some 1)=false:=by kernel_rfl
theorem aXm:mtF "syntax.go:264" (some 1)=false:=by kernel_rfl
theorem aXl:mtF "syntax.go:270" (some 2)=false:=by kernel_rfl
theorem aXk:mtF "syntax.go:270" (some 3)=false:=by kernel_rfl
theorem aXj:mtF "syntax.go:275" (some 2)=false:=by kernel_rfl
theorem aXi:mtF "syntax.go:275" (some 3)=false:=by kernel_rfl
theorem aXh:mtF "syntax.go:280" (some 2)=false:=by kernel_rfl
theorem aXg:mtF "syntax.go:280" (some 3)=false:=by kernel_rfl
theorem aXf:mtF "syntax.go:285" (some 2)=false:=by kernel_rfl
theorem aXe:mtF "syntax.go:285" (some 3)=false:=by kernel_rfl
theorem aXd:mtF "syntax.go:290" (some 2)=false:=by kernel_rfl
theorem aXc:mtF "syntax.go:290" (some 3)=false:=by kernel_rfl
theorem aXb:mtF "syntax.go:291" (some 2)=false:=by kernel_rfl
theorem aXa:mtF "syntax.go:291" (some 3)=false:=by kernel_rfl
theorem aW9:mtF "syntax.go:292" (some 2)=false:=by kernel_rfl
theorem aW8:mtF "syntax.go:292" (some 3)=false:=by kernel_rfl
theorem aW7:mtF "syntax.go:296" (some 2)=false:=by kernel_rfl
theorem aW6:mtF "syntax.go:296" (some 3)=false:=by kernel_rfl
theorem acg:mtF "syntax.go:34" (some 7)=false:=by kernel_rfl
theorem adC:mtF "syntax.go:35" (some 2)=false:=by kernel_rfl
theorem aW5:mtF "syntax.go:58" (some 1)=false:=by kernel_rfl
theorem aW4:mtF "syntax.go:59" (some 3)=false:=by kernel_rfl
theorem aW3:mtF "syntax.go:63" (some 5)=true:=by kernel_rfl
theorem aW2:mtF "syntax.go:94" (some 1)=false:=by kernel_rfl
theorem aW1:mtF "value.go:33" (some 1)=false:=by kernel_rfl
theorem aIN:au 3=false:=rfl
theorem aIM:au 4=false:=rfl
theorem aIL:au 5=false:=rfl
theorem aIK:au 6=false:=rfl
theorem aIJ:au 7=false:=rfl
theorem aII:au 8=false:=rfl
theorem aIH:au 9=false:=rfl
theorem aEd:au 10=false:=rfl
theorem aEc:au 11=false:=rfl
theorem aEb:au 12=false:=rfl
theorem aEa:au 13=false:=rfl
theorem aD9:au 14=false:=rfl
theorem aD8:au 15=false:=rfl
theorem aD7:au 16=false:=rfl
theorem aD6:au 17=false:=rfl
theorem aD5:au 18=false:=rfl
theorem aD4:au 19=false:=rfl
theorem aD3:au 20=false:=rfl
theorem aD2:au 21=false:=rfl
theorem aD1:au 22=false:=rfl
theorem aD0:au 23=false:=rfl
theorem aDZ:au 24=false:=rfl
theorem aDY:au 25=false:=rfl
theorem aDX:au 26=false:=rfl
theorem aDW:au 27=false:=rfl
theorem aDV:au 28=false:=rfl
theorem aDU:au 29=false:=rfl
theorem aDT:au 30=false:=rfl
theorem aDS:au 31=false:=rfl
theorem aDR:au 32=false:=rfl
theorem aDQ:au 33=false:=rfl
theorem aDP:au 34=false:=rfl
theorem aDO:au 35=false:=rfl
theorem aDN:au 36=false:=rfl
theorem aDM:au 37=false:=rfl
theorem aDL:au 38=false:=rfl
theorem aDK:au 39=false:=rfl
theorem aDJ:au 40=false:=rfl
theorem aDI:au 41=false:=rfl
theorem aDH:au 42=false:=rfl
theorem aDG:au 43=false:=rfl
theorem aDF:au 44=false:=rfl
theorem aDE:au 45=false:=rfl
theorem aDC:au 46=false:=rfl
theorem aDB:au 48=false:=rfl
theorem aDA:au 49=false:=rfl
theorem aDz:au 53=false:=rfl
theorem aDy:au 54=false:=rfl
theorem aDx:au 56=false:=rfl
theorem aDw:au 57=false:=rfl
theorem aDv:au 58=false:=rfl
theorem aDu:au 59=false:=rfl
theorem aDt:au 60=false:=rfl
theorem aDs:au 61=false:=rfl
theorem aDr:au 62=false:=rfl
theorem aDq:au 63=false:=rfl
theorem aDp:au 64=false:=rfl
theorem aDo:au 65=false:=rfl
theorem aDn:au 66=false:=rfl
theorem aDm:au 67=false:=rfl
theorem aDl:au 68=false:=rfl
theorem aDk:au 69=false:=rfl
theorem aDj:au 70=false:=rfl
theorem ars:au 71=false:=rfl
theorem aDi:au 72=false:=rfl
theorem aDh:au 73=false:=rfl
theorem aDg:au 75=false:=rfl
theorem aDf:au 76=false:=rfl
theorem aDe:au 77=false:=rfl
theorem aDc:au 78=false:=rfl
theorem aDb:au 79=false:=rfl
theorem aDa:au 80=false:=rfl
theorem aC9:au 81=false:=rfl
theorem aC8:au 82=false:=rfl
theorem aC7:au 83=false:=rfl
theorem aC6:au 84=false:=rfl
theorem aC5:au 85=false:=rfl
theorem aC4:au 86=false:=rfl
theorem aC3:au 87=false:=rfl
theorem aC2:au 88=false:=rfl
theorem aC1:au 89=false:=rfl
theorem aC0:au 90=false:=rfl
theorem aCZ:au 91=false:=rfl
theorem iK:au 92=false:=rfl
theorem aCY:au 93=false:=rfl
theorem aCX:au 94=false:=rfl
theorem aCW:au 95=false:=rfl
theorem aCV:au 96=false:=rfl
theorem aCU:au 97=false:=rfl
theorem aCT:au 99=false:=rfl
theorem aw2:au 100=false:=rfl
theorem aw1:au 101=false:=rfl
theorem aw0:au 102=false:=rfl
theorem awZ:au 103=false:=rfl
theorem awY:au 104=false:=rfl
theorem awX:au 105=false:=rfl
theorem awW:au 106=false:=rfl
theorem awV:au 107=false:=rfl
theorem awU:au 108=false:=rfl
theorem awT:au 109=false:=rfl
theorem gQ:au 110=false:=rfl
theorem awS:au 111=false:=rfl
theorem awR:au 112=false:=rfl
theorem amX:au 113=false:=rfl
theorem amW:au 114=false:=rfl
theorem amV:au 115=false:=rfl
theorem awQ:au 116=false:=rfl
theorem awP:au 117=false:=rfl
theorem awO:au 118=false:=rfl
theorem awN:au 119=false:=rfl
theorem awM:au 120=false:=rfl
theorem awL:au 121=false:=rfl
theorem awK:au 122=false:=rfl
theorem awJ:au 123=false:=rfl
theorem awI:au 124=false:=rfl
theorem awH:au 125=false:=rfl
theorem awG:au 126=false:=rfl
theorem awF:au 127=false:=rfl
theorem awE:au 128=false:=rfl
theorem awD:au 129=false:=rfl
theorem awC:au 130=false:=rfl
theorem awB:au 131=false:=rfl
theorem awA:au 132=false:=rfl
theorem awz:au 133=false:=rfl
theorem awy:au 134=false:=rfl
theorem awx:au 135=false:=rfl
theorem aww:au 136=false:=rfl
theorem awv:au 137=false:=rfl
theorem awu:au 138=false:=rfl
theorem awt:au 139=false:=rfl
theorem aws:au 140=false:=rfl
theorem awr:au 141=false:=rfl
theorem awq:au 142=false:=rfl
theorem awp:au 143=false:=rfl
theorem awo:au 144=false:=rfl
theorem awn:au 145=false:=rfl
theorem awm:au 146=false:=rfl
theorem awl:au 147=false:=rfl
theorem awk:au 148=false:=rfl
theorem awj:au 149=false:=rfl
theorem awi:au 150=false:=rfl
theorem awg:au 151=false:=rfl
theorem awf:au 152=false:=rfl
theorem awe:au 153=false:=rfl
theorem awd:au 155=false:=rfl
theorem awc:au 156=false:=rfl
theorem awb:au 157=false:=rfl
theorem awa:au 158=false:=rfl
theorem av9:au 159=false:=rfl
theorem av8:au 160=false:=rfl
theorem av7:au 161=false:=rfl
theorem av6:au 162=false:=rfl
theorem av5:au 163=false:=rfl
theorem av4:au 164=false:=rfl
theorem av3:au 165=false:=rfl
theorem av2:au 166=false:=rfl
theorem av1:au 167=false:=rfl
theorem av0:au 168=false:=rfl
theorem avZ:au 169=false:=rfl
theorem avY:au 170=false:=rfl
theorem avX:au 171=false:=rfl
theorem avW:au 172=false:=rfl
theorem avV:au 173=false:=rfl
theorem amU:au 174=false:=rfl
theorem avU:au 175=false:=rfl
theorem avT:au 176=false:=rfl
theorem avS:au 177=false:=rfl
theorem avR:au 178=false:=rfl
theorem avQ:au 179=false:=rfl
theorem avP:au 180=false:=rfl
theorem avO:au 181=false:=rfl
theorem avN:au 182=false:=rfl
theorem avM:au 183=false:=rfl
theorem avL:au 184=false:=rfl
theorem avK:au 185=false:=rfl
theorem avJ:au 186=false:=rfl
theorem avI:au 187=false:=rfl
theorem avH:au 188=false:=rfl
theorem avG:au 189=false:=rfl
theorem avF:au 190=false:=rfl
theorem avE:au 191=false:=rfl
theorem avD:au 192=false:=rfl
theorem avC:au 193=false:=rfl
theorem avB:au 194=false:=rfl
theorem avA:au 195=false:=rfl
theorem avz:au 196=false:=rfl
theorem avy:au 197=false:=rfl
theorem avx:au 198=false:=rfl
theorem avw:au 199=false:=rfl
theorem avv:au 200=false:=rfl
theorem avu:au 201=false:=rfl
theorem avt:au 202=false:=rfl
theorem avr:au 203=false:=rfl
theorem avq:au 204=false:=rfl
theorem avp:au 205=false:=rfl
theorem avo:au 206=false:=rfl
theorem avm:au 207=false:=rfl
theorem avl:au 208=false:=rfl
theorem avj:au 209=false:=rfl
theorem avi:au 210=false:=rfl
theorem avh:au 211=false:=rfl
theorem avg:au 212=false:=rfl
theorem avf:au 214=false:=rfl
theorem ave:au 215=false:=rfl
theorem avd:au 216=false:=rfl
theorem avc:au 217=false:=rfl
theorem avb:au 220=false:=rfl
theorem ava:au 221=false:=rfl
theorem au9:au 222=false:=rfl
theorem au8:au 223=false:=rfl
theorem au7:au 224=false:=rfl
theorem au6:au 225=false:=rfl
theorem au5:au 226=false:=rfl
theorem au4:au 227=false:=rfl
theorem au3:au 228=false:=rfl
theorem au2:au 229=false:=rfl
theorem au1:au 230=false:=rfl
theorem au0:au 231=false:=rfl
theorem auZ:au 232=false:=rfl
theorem auY:au 233=false:=rfl
theorem auX:au 234=false:=rfl
theorem auW:au 235=false:=rfl
theorem auV:au 236=false:=rfl
theorem auU:au 237=false:=rfl
theorem auT:au 238=false:=rfl
theorem auS:au 239=false:=rfl
theorem auR:au 240=false:=rfl
theorem auQ:au 241=false:=rfl
theorem auP:au 242=false:=rfl
theorem auO:au 243=false:=rfl
theorem auN:au 245=false:=rfl
theorem auM:au 246=false:=rfl
theorem auL:au 247=false:=rfl
theorem auK:au 248=false:=rfl
theorem auJ:au 249=false:=rfl
theorem auI:au 251=false:=rfl
theorem auH:au 252=false:=rfl
theorem auG:au 253=false:=rfl
theorem auF:au 254=false:=rfl
theorem auE:au 255=false:=rfl
theorem auD:au 256=false:=rfl
theorem mixed:Tryz.prog.follows .mixedOrders=true:=by kernel_rfl
end Go.Proofs.YtjajlmjfddohfaaGreatDoor
