/- A part. Conditions: none. -/
import Derived.Test.YtghkmcffifpkeaaGreatPa7
set_option linter.all false
set_option maxRecDepth 100000
set_option maxHeartbeats 64000000
namespace Go.Proofs.YtghkmcffifpkeaaGreat
open Pe
def mtL:List (String×Nat):=[("law.go:15",2),("law.go:17",6),("lex.go:102",4),("lex.go:118",4),("lex.go:144",4),("lex.go:176",4),("lex.go:70",4),("lex.go:72",7),("lex.go:77",8),("lex.go:89",4),("parse.go:118",8),("parse.go:119",9),("parse.go:132",2),("parse.go:134",2),("parse.go:136",2),("parse.go:138",2),("parse.go:142",2),("parse.go:147",2),("parse.go:149",2),("parse.go:157",2),("parse.go:165",2),("parse.go:186",4),("parse.go:194",4),("parse.go:226",2),("parse.go:239",2),("parse.go:246",3),("parse.go:261",2),("parse.go:269",4),("parse.go:275",2),("parse.go:308",2),("parse.go:316",4),("parse.go:334",2),("parse.go:335",3),("parse.go:35",4),("parse.go:350",8),("parse.go:356",2),("parse.go:357",3),("parse.go:386",2),("parse.go:387",3),("parse.go:403",2),("parse.go:404",3),("parse.go:412",2),("parse.go:427",2),("parse.go:429",3),("parse.go:451",2),("parse.go:459",5),("parse.go:473",2),("parse.go:474",3),("parse.go:482",2),("parse.go:483",3),("parse.go:505",2),("parse.go:512",3),("parse.go:528",2),("parse.go:535",5),("parse.go:549",2),("parse.go:567",3),("parse.go:593",2),("parse.go:595",3),("parse.go:604",4),("parse.go:615",4),("parse.go:642",4),("parse.go:657",2),("parse.go:659",3),("parse.go:679",2),("parse.go:680",3),("parse.go:683",5),("parse.go:693",6),("parse.go:693",7),("parse.go:693",8),("parse.go:698",29),("parse.go:708",6),("parse.go:722",2),("parse.go:725",2),("parse.go:728",2),("parse.go:740",4),("ref.go:10",2),("ref.go:1024",2),("ref.go:103",4),("ref.go:1038",2),("ref.go:1052",2),("ref.go:110",6),("ref.go:114",6),("ref.go:119",4),("ref.go:12",2),("ref.go:14",2),("ref.go:144",4),("ref.go:161",4),("ref.go:173",4),("ref.go:181",6),("ref.go:216",2),("ref.go:229",4),("ref.go:238",13),("ref.go:255",4),("ref.go:264",6),("ref.go:276",4),("ref.go:290",4),("ref.go:304",4),("ref.go:307",2),("ref.go:310",2),("ref.go:311",3),("ref.go:318",2),("ref.go:319",3),("ref.go:323",7),("ref.go:326",2),("ref.go:327",3),("ref.go:330",6),("ref.go:343",2),("ref.go:344",3),("ref.go:355",6),("ref.go:356",9),("ref.go:399",9),("ref.go:440",9),("ref.go:462",8),("ref.go:466",11),("ref.go:468",13),("ref.go:487",6),("ref.go:506",4),("ref.go:542",4),("ref.go:543",7),("ref.go:591",6),("ref.go:592",9),("ref.go:60",4),("ref.go:601",9),("ref.go:63",4),("ref.go:632",16),("ref.go:647",6),("ref.go:655",4),("ref.go:66",6),("ref.go:672",4),("ref.go:682",4),("ref.go:69",4),("ref.go:699",18),("ref.go:732",9),("ref.go:755",5),("ref.go:755",6),("ref.go:763",12),("ref.go:796",4),("ref.go:797",7),("ref.go:819",4),("ref.go:820",7),("ref.go:84",4),("ref.go:844",4),("ref.go:845",7),("ref.go:87",8),("ref.go:873",7),("ref.go:887",4),("ref.go:888",7),("ref.go:932",4),("ref.go:933",7),("ref.go:94",11),("ref.go:965",4),("syntax.go:174",3),("syntax.go:211",4),("syntax.go:214",2),("syntax.go:217",4),("syntax.go:218",5),("syntax.go:226",2),("syntax.go:229",2),("syntax.go:237",2),("syntax.go:242",2),("syntax.go:248",2),("syntax.go:249",2),("syntax.go:250",2),("syntax.go:63",5),("value.go:15",2)]
def mtP:List String:=["parse.go:124","parse.go:170","parse.go:197","parse.go:201","parse.go:250","parse.go:256","parse.go:31","parse.go:338","parse.go:340","parse.go:343","parse.go:352","parse.go:373","parse.go:432","parse.go:476","parse.go:496","parse.go:516","parse.go:521","parse.go:523","parse.go:545","parse.go:637","parse.go:639","parse.go:649","parse.go:672"]
def mtF(po:String):Option Nat->Bool
 | some d=>mtL.any λp=>p.2 == d&&p.1 == po
 | none=>mtP.contains po
def amf(f:Nat):Bool:=[187].contains f
def FnI(P:Program)(f:Nat)(fn:Func):Prop:=asq mtF P f=true/\P.funcs[f]?=some fn
def ad7(f:Nat):Bool:=[241,242,109,31,39,46,52,53,65,66,67,74,75,76,77,78,79,80,81,91,92,93,94,95,152,172,173,174,182,183,184,185,246,257,284,286,296,297,304,305,311,312,316,317,319,325,326,330,332,333,334,335,187].contains f
def tkF(f:Nat):Bool:=[187].contains f
noncomputable abbrev tP:TT:=TT.of Tryz.prog
def cA(f:Nat)(h:fh Tryz.prog f=true:=by kernel_rfl):fh Tryz.prog f=true:=h
def oT(f:Nat)(h:ad7 f=true:=by exact rfl):ad7 f=true:=h
def oF(f:Nat)(h:ad7 f=false:=by exact rfl):ad7 f=false:=h
def tF(f:Nat)(h:tkF f=false:=by exact rfl):tkF f=false:=h
def cT(f:Nat)(a:ad7 f=true:=by exact rfl)(b:fh Tryz.prog f=true:=by kernel_rfl)(c:tkF f=false:=by exact rfl):ad7 f=true/\fh Tryz.prog f=true/\tkF f=false:=⟨a,b,c⟩
def cF(f:Nat)(a:ad7 f=false:=by exact rfl)(b:fh Tryz.prog f=true:=by kernel_rfl)(c:tkF f=false:=by exact rfl):ad7 f=false/\fh Tryz.prog f=true/\tkF f=false:=⟨a,b,c⟩
def mQ(s:String)(d:Nat)(h:mtF s (some d)=false:=by kernel_rfl):mtF s (some d)=false:=h
def mR(s:String)(d:Nat)(h:mtF s (some d)=true:=by kernel_rfl):mtF s (some d)=true:=h
def mN(s:String)(h:mtF s none=false:=by kernel_rfl):mtF s none=false:=h
def mM(s:String)(h:mtF s none=true:=by kernel_rfl):mtF s none=true:=h
def fA{f:Nat}{fn:Func}(g:Tryz.prog.funcs[f]?=some fn)(h:asq mtF Tryz.prog f=true:=by kernel_rfl):FnI Tryz.prog f fn:=⟨h,g⟩
def frG{T:TT}{t:Nat}{d:TD}(h:T t=some d)(j o z:Nat)(g:d.fields[j]?=some (o,z+1))(cs:List C):gu T t j (.of (.ref cs))=Pe.out (.of (.ref (cs.drop o))):=by simp only [gu,aie,h,dE,g];rfl
def faG{T:TT}{t:Nat}{d:TD}(h:T t=some d)(j o z:Nat)(g:d.fields[j]?=some (o,z+1))(r a:Nat):gu T t j (.ptr r a)=Pe.out (.ptr r (a+o)):=by simp only [gu,aie,h,dE,g];rfl
def fxG{T:TT}{t:Nat}{d:TD}(h:T t=some d)(j o z u:Nat)(g:d.fields[j]?=some (o,z))(k:aoC d.und j=some u)(xs:List X):agv T t j (.agg xs)=bX (dP T u (xs.drop o)):=by simp only [agv,h,g,k]
def fcG{T:TT}{t:Nat}{d:TD}(h:T t=some d)(j o z u:Nat)(g:d.fields[j]?=some (o,z))(k:aoC d.und j=some u)(cs:List C):agv T t j (.of (.agg cs))=bX ((dQ T u (cs.drop o)).map .of):=by simp only [agv,h,g,k]
def EG{T:TT}{t e a b:Nat}{f:Bool}{z:List Value}{q:List (Nat×Nat)}{d:TD}(h:T t=some ⟨.slice e,a,b,f,z,q⟩)(g:T e=some d):Pe.elemOf T t=some (e,d):=by simp only [Pe.elemOf,h,g,aP]
def UG{T:TT}{t a b:Nat}{y:TypeDesc}{f:Bool}{z:List Value}{q:List (Nat×Nat)}(h:T t=some ⟨y,a,b,f,z,q⟩):(T t).map (·.und)=some y:=by rw[h];rfl
def T2:tP 2=some ⟨.int .i64,1,8,false,[.int .i64 0],[]⟩:=by kernel_rfl
def T3:tP 3=some ⟨.int .i64,1,8,false,[.int .i64 0],[]⟩:=by kernel_rfl
def T4:tP 4=some ⟨.bool,1,1,false,[.bool false],[]⟩:=by kernel_rfl
def T5:tP 5=some ⟨.int .u8,1,1,false,[.int .u8 0],[]⟩:=by kernel_rfl
def T9:tP 9=some ⟨.string,1,16,false,[.string ⟨#[]⟩],[]⟩:=by kernel_rfl
def T24:tP 24=some ⟨.struct #[⟨ "Kind",3,0,false,"","",0⟩,⟨ "N",3,1,false,"","",8⟩,⟨ "S",9,2,false,"","",16⟩],3,32,true,[.int .i64 0,.int .i64 0,.string ⟨#[]⟩],[(0,1),(1,1),(2,1)]⟩:=by kernel_rfl
def T25:tP 25=some ⟨.slice 28,1,24,false,[.slice none 0 0],[]⟩:=by kernel_rfl
def T26:tP 26=some ⟨.slice 38,1,24,false,[.slice none 0 0],[]⟩:=by kernel_rfl
def T28:tP 28=some ⟨.struct #[⟨ "Op",3,0,false,"","",0⟩,⟨ "V",24,1,false,"","",8⟩,⟨ "Table",9,4,false,"","",40⟩,⟨ "Name",9,5,false,"","",56⟩,⟨ "Distinct",4,6,false,"","",72⟩,⟨ "Kids",25,7,false,"","",80⟩,⟨ "Sub",26,8,false,"","",104⟩],9,128,true,[.int .i64 0,.int .i64 0,.int .i64 0,.string ⟨#[]⟩,.string ⟨#[]⟩,.string ⟨#[]⟩,.bool false,.slice none 0 0,.slice none 0 0],[(0,1),(1,3),(4,1),(5,1),(6,1),(7,1),(8,1)]⟩:=by kernel_rfl
def T29:tP 29=some ⟨.int .i64,1,8,false,[.int .i64 0],[]⟩:=by kernel_rfl
def T34:tP 34=some ⟨.slice 138,1,24,false,[.slice none 0 0],[]⟩:=by kernel_rfl
def T35:tP 35=some ⟨.slice 140,1,24,false,[.slice none 0 0],[]⟩:=by kernel_rfl
def T36:tP 36=some ⟨.slice 126,1,24,false,[.slice none 0 0],[]⟩:=by kernel_rfl
def T38:tP 38=some ⟨.struct #[⟨ "Op",3,0,false,"","",0⟩,⟨ "All",4,1,false,"","",8⟩,⟨ "Kids",26,2,false,"","",16⟩,⟨ "Distinct",4,3,false,"","",40⟩,⟨ "Items",34,4,false,"","",48⟩,⟨ "From",35,5,false,"","",72⟩,⟨ "Where",25,6,false,"","",96⟩,⟨ "Group",25,7,false,"","",120⟩,⟨ "Having",25,8,false,"","",144⟩,⟨ "Order",36,9,false,"","",168⟩,⟨ "Limit",3,10,false,"","",192⟩,⟨ "Skip",3,11,false,"","",200⟩],12,208,true,[.int .i64 0,.bool false,.slice none 0 0,.bool false,.slice none 0 0,.slice none 0 0,.slice none 0 0,.slice none 0 0,.slice none 0 0,.slice none 0 0,.int .i64 0,.int .i64 0],[(0,1),(1,1),(2,1),(3,1),(4,1),(5,1),(6,1),(7,1),(8,1),(9,1),(10,1),(11,1)]⟩:=by kernel_rfl
def T43:tP 43=some ⟨.slice 9,1,24,false,[.slice none 0 0],[]⟩:=by kernel_rfl
def T59:tP 59=some ⟨.slice 63,1,24,false,[.slice none 0 0],[]⟩:=by kernel_rfl
def T63:tP 63=some ⟨.struct #[⟨ "Kind",3,0,false,"","",0⟩,⟨ "At",3,1,false,"","",8⟩,⟨ "Size",3,2,false,"","",16⟩,⟨ "N",3,3,false,"","",24⟩,⟨ "S",9,4,false,"","",32⟩],5,48,true,[.int .i64 0,.int .i64 0,.int .i64 0,.int .i64 0,.string ⟨#[]⟩],[(0,1),(1,1),(2,1),(3,1),(4,1)]⟩:=by kernel_rfl
def T64:tP 64=some ⟨.slice 5,1,24,false,[.slice none 0 0],[]⟩:=by kernel_rfl
def T66:tP 66=some ⟨.slice 3,1,24,false,[.slice none 0 0],[]⟩:=by kernel_rfl
def T94:tP 94=some ⟨.slice 101,1,24,false,[.slice none 0 0],[]⟩:=by kernel_rfl
def aZk:tP 114=some ⟨.struct #[⟨ "at",3,0,false,"","tabellion/parse",0⟩,⟨ "e",29,1,false,"","tabellion/parse",8⟩],2,16,true,[.int .i64 0,.int .i64 0],[(0,1),(1,1)]⟩:=by kernel_rfl
def aDL:tP 120=some ⟨.struct #[⟨ "Nodes",3,0,false,"","",0⟩,⟨ "Deep",3,1,false,"","",8⟩],2,16,true,[.int .i64 0,.int .i64 0],[(0,1),(1,1)]⟩:=by kernel_rfl
def ak5:tP 126=some ⟨.struct #[⟨ "Name",9,0,false,"","",0⟩,⟨ "At",3,1,false,"","",16⟩,⟨ "Down",4,2,false,"","",24⟩],3,32,true,[.string ⟨#[]⟩,.int .i64 0,.bool false],[(0,1),(1,1),(2,1)]⟩:=by kernel_rfl
def anP:tP 138=some ⟨.struct #[⟨ "Star",4,0,false,"","",0⟩,⟨ "Table",9,1,false,"","",8⟩,⟨ "E",28,2,false,"","",24⟩,⟨ "As",9,11,false,"","",152⟩],12,168,true,[.bool false,.string ⟨#[]⟩,.int .i64 0,.int .i64 0,.int .i64 0,.string ⟨#[]⟩,.string ⟨#[]⟩,.string ⟨#[]⟩,.bool false,.slice none 0 0,.slice none 0 0,.string ⟨#[]⟩],[(0,1),(1,1),(2,9),(11,1)]⟩:=by kernel_rfl
def ai0:tP 140=some ⟨.struct #[⟨ "Kind",3,0,false,"","",0⟩,⟨ "Name",9,1,false,"","",8⟩,⟨ "As",9,2,false,"","",24⟩,⟨ "Sub",26,3,false,"","",40⟩,⟨ "Kids",35,4,false,"","",64⟩,⟨ "On",25,5,false,"","",88⟩],6,112,true,[.int .i64 0,.string ⟨#[]⟩,.string ⟨#[]⟩,.slice none 0 0,.slice none 0 0,.slice none 0 0],[(0,1),(1,1),(2,1),(3,1),(4,1),(5,1)]⟩:=by kernel_rfl
def aZj:tP 161=some ⟨.map 3 159,1,8,false,[.map none],[]⟩:=by kernel_rfl
def afk:tP 283=some ⟨.struct #[⟨ "Query",4,0,false,"","",0⟩,⟨ "Wrapped",4,1,false,"","",1⟩,⟨ "Q",38,2,false,"","",8⟩,⟨ "E",28,14,false,"","",216⟩,⟨ "F",140,23,false,"","",344⟩],29,456,true,[.bool false,.bool false,.int .i64 0,.bool false,.slice none 0 0,.bool false,.slice none 0 0,.slice none 0 0,.slice none 0 0,.slice none 0 0,.slice none 0 0,.slice none 0 0,.int .i64 0,.int .i64 0,.int .i64 0,.int .i64 0,.int .i64 0,.string ⟨#[]⟩,.string ⟨#[]⟩,.string ⟨#[]⟩,.bool false,.slice none 0 0,.slice none 0 0,.int .i64 0,.string ⟨#[]⟩,.string ⟨#[]⟩,.slice none 0 0,.slice none 0 0,.slice none 0 0],[(0,1),(1,1),(2,12),(14,9),(23,6)]⟩:=by kernel_rfl
def U3:=UG T3
def P3(x:X)(xs:List X):dP tP 3 (x::xs)=some x:=by simp only[dP,T3];rfl
def Q3(x:C)(xs:List C):dQ tP 3 (x::xs)=some x:=by simp only[dQ,T3];rfl
def P4(x:X)(xs:List X):dP tP 4 (x::xs)=some x:=by simp only[dP,T4];rfl
def Q4(x:C)(xs:List C):dQ tP 4 (x::xs)=some x:=by simp only[dQ,T4];rfl
def U9:=UG T9
def Q9(x:C)(xs:List C):dQ tP 9 (x::xs)=some x:=by simp only[dQ,T9];rfl
def P24(x0 x1 x2:X)(xs:List X):dP tP 24 (x0::x1::x2::xs)=some (.agg [x0,x1,x2]):=by simp only[dP,T24];rfl
def Q24(x0 x1 x2:C)(xs:List C):dQ tP 24 (x0::x1::x2::xs)=some (.agg [x0,x1,x2]):=by simp only[dQ,T24];rfl
def aSa:=frG T24 0 0 0 rfl
def aR9:=frG T24 1 1 0 rfl
def aR8:=frG T24 2 2 0 rfl
def P25(x:X)(xs:List X):dP tP 25 (x::xs)=some x:=by simp only[dP,T25];rfl
def Q25(x:C)(xs:List C):dQ tP 25 (x::xs)=some x:=by simp only[dQ,T25];rfl
def Q26(x:C)(xs:List C):dQ tP 26 (x::xs)=some x:=by simp only[dQ,T26];rfl
def P28(x0 x1 x2 x3 x4 x5 x6 x7 x8:X)(xs:List X):dP tP 28 (x0::x1::x2::x3::x4::x5::x6::x7::x8::xs)=some (.agg [x0,x1,x2,x3,x4,x5,x6,x7,x8]):=by simp only[dP,T28];rfl
def Q28(x0 x1 x2 x3 x4 x5 x6 x7 x8:C)(xs:List C):dQ tP 28 (x0::x1::x2::x3::x4::x5::x6::x7::x8::xs)=some (.agg [x0,x1,x2,x3,x4,x5,x6,x7,x8]):=by simp only[dQ,T28];rfl
def aSP:=faG T28 0 0 0 rfl
def aR7:=frG T28 0 0 0 rfl
def aR6:=frG T28 1 1 2 rfl
def aR5:=frG T28 2 4 0 rfl
def aR4:=frG T28 3 5 0 rfl
def aSO:=faG T28 4 6 0 rfl
def aR3:=frG T28 4 6 0 rfl
def aSN:=faG T28 5 7 0 rfl
def aR2:=frG T28 5 7 0 rfl
def aR1:=frG T28 6 8 0 rfl
def P34(x:X)(xs:List X):dP tP 34 (x::xs)=some x:=by simp only[dP,T34];rfl
def Q34(x:C)(xs:List C):dQ tP 34 (x::xs)=some x:=by simp only[dQ,T34];rfl
def Q35(x:C)(xs:List C):dQ tP 35 (x::xs)=some x:=by simp only[dQ,T35];rfl
def P36(x:X)(xs:List X):dP tP 36 (x::xs)=some x:=by simp only[dP,T36];rfl
def Q36(x:C)(xs:List C):dQ tP 36 (x::xs)=some x:=by simp only[dQ,T36];rfl
def P38(x0 x1 x2 x3 x4 x5 x6 x7 x8 x9 x10 x11:X)(xs:List X):dP tP 38 (x0::x1::x2::x3::x4::x5::x6::x7::x8::x9::x10::x11::xs)=some (.agg [x0,x1,x2,x3,x4,x5,x6,x7,x8,x9,x10,x11]):=by simp only[dP,T38];rfl
def Q38(x0 x1 x2 x3 x4 x5 x6 x7 x8 x9 x10 x11:C)(xs:List C):dQ tP 38 (x0::x1::x2::x3::x4::x5::x6::x7::x8::x9::x10::x11::xs)=some (.agg [x0,x1,x2,x3,x4,x5,x6,x7,x8,x9,x10,x11]):=by simp only[dQ,T38];rfl
def aSM:=faG T38 0 0 0 rfl
def aR0:=frG T38 0 0 0 rfl
def aSL:=faG T38 1 1 0 rfl
def aRZ:=frG T38 1 1 0 rfl
def aSK:=faG T38 2 2 0 rfl
def aRY:=frG T38 2 2 0 rfl
def aSJ:=faG T38 3 3 0 rfl
def aRX:=frG T38 3 3 0 rfl
def aSI:=faG T38 4 4 0 rfl
def aRW:=frG T38 4 4 0 rfl
def aSH:=faG T38 5 5 0 rfl
def aRV:=frG T38 5 5 0 rfl
def aSG:=faG T38 6 6 0 rfl
def aRU:=frG T38 6 6 0 rfl
def aSF:=faG T38 7 7 0 rfl
def aRT:=frG T38 7 7 0 rfl
def aSE:=faG T38 8 8 0 rfl
def aRS:=frG T38 8 8 0 rfl
def aSD:=faG T38 9 9 0 rfl
def aRR:=frG T38 9 9 0 rfl
def aO3:=faG T38 10 10 0 rfl
def aOL:=frG T38 10 10 0 rfl
def aO2:=faG T38 11 11 0 rfl
def aOK:=frG T38 11 11 0 rfl
def P63(x0 x1 x2 x3 x4:X)(xs:List X):dP tP 63 (x0::x1::x2::x3::x4::xs)=some (.agg [x0,x1,x2,x3,x4]):=by simp only[dP,T63];rfl
def Q63(x0 x1 x2 x3 x4:C)(xs:List C):dQ tP 63 (x0::x1::x2::x3::x4::xs)=some (.agg [x0,x1,x2,x3,x4]):=by simp only[dQ,T63];rfl
def aRQ:=frG T63 0 0 0 rfl
def aRP:=frG T63 1 1 0 rfl
def aRO:=frG T63 2 2 0 rfl
def aRN:=frG T63 3 3 0 rfl
def aRM:=frG T63 4 4 0 rfl
def P94(x:X)(xs:List X):dP tP 94 (x::xs)=some x:=by simp only[dP,T94];rfl
def aZq(x0 x1:X)(xs:List X):dP tP 120 (x0::x1::xs)=some (.agg [x0,x1]):=by simp only[dP,aDL];rfl
def aOZ:=frG aDL 0 0 0 rfl
def aOY:=frG aDL 1 1 0 rfl
def aZp(x0 x1 x2:X)(xs:List X):dP tP 126 (x0::x1::x2::xs)=some (.agg [x0,x1,x2]):=by simp only[dP,ak5];rfl
def aZm(x0 x1 x2:C)(xs:List C):dQ tP 126 (x0::x1::x2::xs)=some (.agg [x0,x1,x2]):=by simp only[dQ,ak5];rfl
def aO7:=faG ak5 0 0 0 rfl
def aOX:=frG ak5 0 0 0 rfl
def aO6:=faG ak5 1 1 0 rfl
def aOW:=frG ak5 1 1 0 rfl
def aO5:=faG ak5 2 2 0 rfl
def aZo(x0 x1 x2 x3 x4 x5 x6 x7 x8 x9 x10 x11:X)(xs:List X):dP tP 138 (x0::x1::x2::x3::x4::x5::x6::x7::x8::x9::x10::x11::xs)=some (.agg [x0,x1,x2,x3,x4,x5,x6,x7,x8,x9,x10,x11]):=by simp only[dP,anP];rfl
def aZl(x0 x1 x2 x3 x4 x5 x6 x7 x8 x9 x10 x11:C)(xs:List C):dQ tP 138 (x0::x1::x2::x3::x4::x5::x6::x7::x8::x9::x10::x11::xs)=some (.agg [x0,x1,x2,x3,x4,x5,x6,x7,x8,x9,x10,x11]):=by simp only[dQ,anP];rfl
def aOV:=frG anP 0 0 0 rfl
def aOU:=frG anP 1 1 0 rfl
def aOT:=frG anP 2 2 8 rfl
def aOS:=frG anP 3 11 0 rfl
def aZn(x0 x1 x2 x3 x4 x5:X)(xs:List X):dP tP 140 (x0::x1::x2::x3::x4::x5::xs)=some (.agg [x0,x1,x2,x3,x4,x5]):=by simp only[dP,ai0];rfl
def aTz(x0 x1 x2 x3 x4 x5:C)(xs:List C):dQ tP 140 (x0::x1::x2::x3::x4::x5::xs)=some (.agg [x0,x1,x2,x3,x4,x5]):=by simp only[dQ,ai0];rfl
def aOR:=frG ai0 0 0 0 rfl
def aOQ:=frG ai0 1 1 0 rfl
def aOP:=frG ai0 2 2 0 rfl
def aOO:=frG ai0 3 3 0 rfl
def aON:=frG ai0 4 4 0 rfl
def aO4:=faG ai0 5 5 0 rfl
def aOM:=frG ai0 5 5 0 rfl
def anR(x0 x1 x2 x3 x4 x5 x6 x7 x8 x9 x10 x11 x12 x13 x14 x15 x16 x17 x18 x19 x20 x21 x22 x23 x24 x25 x26 x27 x28:X)(xs:List X):dP tP 283 (x0::x1::x2::x3::x4::x5::x6::x7::x8::x9::x10::x11::x12::x13::x14::x15::x16::x17::x18::x19::x20::x21::x22::x23::x24::x25::x26::x27::x28::xs)=some (.agg [x0,x1,x2,x3,x4,x5,x6,x7,x8,x9,x10,x11,x12,x13,x14,x15,x16,x17,x18,x19,x20,x21,x22,x23,x24,x25,x26,x27,x28]):=by simp only[dP,afk];rfl
def anQ(x0 x1 x2 x3 x4 x5 x6 x7 x8 x9 x10 x11 x12 x13 x14 x15 x16 x17 x18 x19 x20 x21 x22 x23 x24 x25 x26 x27 x28:C)(xs:List C):dQ tP 283 (x0::x1::x2::x3::x4::x5::x6::x7::x8::x9::x10::x11::x12::x13::x14::x15::x16::x17::x18::x19::x20::x21::x22::x23::x24::x25::x26::x27::x28::xs)=some (.agg [x0,x1,x2,x3,x4,x5,x6,x7,x8,x9,x10,x11,x12,x13,x14,x15,x16,x17,x18,x19,x20,x21,x22,x23,x24,x25,x26,x27,x28]):=by simp only[dQ,afk];rfl
def ahf:=faG afk 0 0 0 rfl
def ahc:=frG afk 0 0 0 rfl
def ahe:=faG afk 1 1 0 rfl
def ahb:=frG afk 1 1 0 rfl
def ahd:=faG afk 2 2 11 rfl
def aha:=frG afk 2 2 11 rfl
def ag9:=frG afk 3 14 8 rfl
def ag8:=frG afk 4 23 5 rfl
def E25:=EG T25 T28
def E26:=EG T26 T38
def E34:=EG T34 anP
def E35:=EG T35 ai0
def E36:=EG T36 ak5
def E43:=EG T43 T9
def E59:=EG T59 T63
def E64:=EG T64 T5
def E66:=EG T66 T3
def aKc:agG tP 161=some (.int .i64,159):=by simp only[agG,aZj,T3];rfl
def fi3:=fA Tryz.func3
def fi4:=fA Tryz.func4
def aSB:=fA Tryz.func11
def aCQ:=fA Tryz.func12
def aJv:=fA Tryz.func13
def aSA:=fA Tryz.func14
def aCP:=fA Tryz.func15
def aSz:=fA Tryz.func16
def aSy:=fA Tryz.func22
def aGe:=cA 22
def aSx:=fA Tryz.func23
def aGd:=cA 23
def aTi:=cA 24
def aJu:=fA Tryz.func25
def aJt:=fA Tryz.func31
def aGc:=cA 31
def aJs:=fA Tryz.func32
def aJr:=fA Tryz.func33
def axl:=fA Tryz.func34
def aSw:=fA Tryz.func35
def aJq:=fA Tryz.func36
def aJp:=fA Tryz.func37
def axk:=fA Tryz.func39
def aGb:=cA 39
def aSv:=fA Tryz.func40
def aSu:=fA Tryz.func41
def aSt:=fA Tryz.func42
def aSs:=fA Tryz.func43
def aSr:=fA Tryz.func44
def aTh:=cA 46
def aTg:=cA 52
def aTf:=cA 53
def aJo:=fA Tryz.func54
def aJn:=fA Tryz.func55
def aSq:=fA Tryz.func56
def aTe:=cA 56
def aSp:=fA Tryz.func57
def aSo:=fA Tryz.func58
def aTd:=cA 58
def aSn:=fA Tryz.func59
def aTc:=cA 59
def aSm:=fA Tryz.func60
def aTb:=cA 60
def apV:=fA Tryz.func63
def aJm:=fA Tryz.func65
def axj:=fA Tryz.func66
def aJl:=fA Tryz.func67
def aGa:=cA 67
def anw:=fA Tryz.func68
def apU:=fA Tryz.func69
def aSl:=fA Tryz.func70
def aSk:=fA Tryz.func71
def aSj:=fA Tryz.func72
def axi:=fA Tryz.func74
def arq:=cA 74
def aSi:=fA Tryz.func75
def aSh:=fA Tryz.func76
def aJk:=fA Tryz.func77
def aJj:=fA Tryz.func78
def aSg:=fA Tryz.func79
def aSf:=fA Tryz.func80
def aJi:=fA Tryz.func81
def apT:=fA Tryz.func82
def aSe:=fA Tryz.func83
def aJh:=fA Tryz.func84
def aJg:=fA Tryz.func85
def aJf:=fA Tryz.func86
def aJe:=fA Tryz.func87
def aSd:=fA Tryz.func88
def aSc:=fA Tryz.func89
def aJd:=fA Tryz.func92
def aCS:=fA Tryz.func100
def aCR:=fA Tryz.func101
def aNv:=fA Tryz.func105
def aNu:=fA Tryz.func106
def aNt:=fA Tryz.func107
def aNs:=fA Tryz.func108
def aNr:=fA Tryz.func109
def aa6:=cA 109
def aNq:=fA Tryz.func110
def aNp:=fA Tryz.func111
def aNo:=fA Tryz.func112
def aNn:=fA Tryz.func113
def aNm:=fA Tryz.func114
def aNl:=fA Tryz.func115
def aNk:=fA Tryz.func116
def aPp:=cA 116
def aNj:=fA Tryz.func117
def aNi:=fA Tryz.func118
def aPo:=cA 118
def aNh:=fA Tryz.func119
def aNg:=fA Tryz.func120
def aPn:=cA 120
def aNf:=fA Tryz.func121
def aNe:=fA Tryz.func122
def aPm:=cA 122
def aNc:=fA Tryz.func123
def aNb:=fA Tryz.func124
def aPl:=cA 124
def aNa:=fA Tryz.func125
def aM9:=fA Tryz.func126
def aPk:=cA 126
def aM8:=fA Tryz.func127
def aM7:=fA Tryz.func144
def aM6:=fA Tryz.func145
def aM5:=fA Tryz.func146
def aM4:=fA Tryz.func147
def aM3:=fA Tryz.func148
def ari:=fA Tryz.func149
def aM2:=fA Tryz.func150
def gQ:=fA Tryz.func151
def aCO:=fA Tryz.func152
def aAC:=cA 152
def aM1:=fA Tryz.func153
def aM0:=fA Tryz.func154
def aMZ:=fA Tryz.func155
def aMY:=fA Tryz.func156
def aMX:=fA Tryz.func157
def aMW:=fA Tryz.func158
def aMV:=fA Tryz.func159
def aMU:=fA Tryz.func160
def aMT:=fA Tryz.func161
def aCN:=fA Tryz.func162
def aCM:=fA Tryz.func163
def aoF:=fA Tryz.func164
def aMS:=fA Tryz.func165
def aCL:=fA Tryz.func166
def aMR:=fA Tryz.func167
def aMQ:=fA Tryz.func168
def aMP:=fA Tryz.func169
def aMO:=fA Tryz.func170
def aMN:=fA Tryz.func171
def aCK:=fA Tryz.func172
def aAB:=cA 172
def aMM:=fA Tryz.func173
def aML:=fA Tryz.func174
def aCJ:=fA Tryz.func175
def aMK:=fA Tryz.func176
def aMJ:=fA Tryz.func177
def aMI:=fA Tryz.func178
def aMH:=fA Tryz.func179
def aMG:=fA Tryz.func180
def aMF:=fA Tryz.func181
def aCI:=fA Tryz.func185
def aCH:=fA Tryz.func189
def aME:=fA Tryz.func192
def aMD:=fA Tryz.func197
def aMC:=fA Tryz.func198
def aPj:=cA 198
def aMB:=fA Tryz.func199
def aMA:=fA Tryz.func200
def aPi:=cA 200
def aMz:=fA Tryz.func203
def aMy:=fA Tryz.func204
def aMx:=fA Tryz.func205
def aMw:=fA Tryz.func206
def aMv:=fA Tryz.func207
def aMu:=fA Tryz.func208
def aPh:=cA 208
def aMt:=fA Tryz.func209
def aMs:=fA Tryz.func210
def aPg:=cA 210
def aMr:=fA Tryz.func211
def aMq:=fA Tryz.func212
def aPf:=cA 212
def aMp:=fA Tryz.func213
def aMo:=fA Tryz.func214
def aPe:=cA 214
def aMn:=fA Tryz.func215
def aPd:=cA 215
def aMm:=fA Tryz.func216
def aCG:=fA Tryz.func240
def aMl:=fA Tryz.func243
def aCF:=fA Tryz.func245
def arh:=fA Tryz.func246
def aMk:=fA Tryz.func247
def aMj:=fA Tryz.func248
def aMi:=fA Tryz.func249
def aMh:=fA Tryz.func250
def aMg:=fA Tryz.func251
def aCE:=fA Tryz.func252
def aMf:=fA Tryz.func253
def aMe:=fA Tryz.func254
def aMd:=fA Tryz.func255
def aMc:=fA Tryz.func256
def aoE:=fA Tryz.func257
def aCD:=fA Tryz.func258
def aMb:=fA Tryz.func261
def aMa:=fA Tryz.func262
def aL9:=fA Tryz.func264
def aL8:=fA Tryz.func265
def aL7:=fA Tryz.func266
def aL6:=fA Tryz.func267
def aPc:=cA 267
def aL5:=fA Tryz.func268
def aL4:=fA Tryz.func269
def aPb:=cA 269
def aL3:=fA Tryz.func270
def aL2:=fA Tryz.func271
def aL1:=fA Tryz.func272
def aCC:=fA Tryz.func284
def au2:=fA Tryz.func285
def aoD:=fA Tryz.func286
def aCB:=fA Tryz.func287
def au1:=fA Tryz.func288
def amp:=fA Tryz.func289
def aL0:=fA Tryz.func290
def aLZ:=fA Tryz.func291
def aCA:=fA Tryz.func292
def aLY:=fA Tryz.func293
def aLX:=fA Tryz.func294
def aLW:=fA Tryz.func295
def aLV:=fA Tryz.func296
def arf:=fA Tryz.func297
def aLU:=fA Tryz.func298
def aLT:=fA Tryz.func299
def aCz:=fA Tryz.func304
def aAA:=cA 304
def aLS:=fA Tryz.func305
def aLR:=fA Tryz.func306
def aLQ:=fA Tryz.func307
def aLP:=fA Tryz.func308
def aLO:=fA Tryz.func309
def aCy:=fA Tryz.func310
def aCx:=fA Tryz.func311
def au0:=fA Tryz.func312
def auZ:=fA Tryz.func313
def aCw:=fA Tryz.func314
def aCv:=fA Tryz.func316
def aAz:=cA 316
def aLN:=fA Tryz.func317
def aLM:=fA Tryz.func318
def aCu:=fA Tryz.func319
def aLK:=fA Tryz.func320
def aLJ:=fA Tryz.func321
def aCt:=fA Tryz.func325
def aAy:=cA 325
def aCs:=fA Tryz.func326
def aLI:=fA Tryz.func327
def aCr:=fA Tryz.func328
def aCq:=fA Tryz.func330
def auY:=fA Tryz.func331
def aLH:=fA Tryz.func332
def aLG:=fA Tryz.func333
def aLF:=fA Tryz.func334
def aCp:=fA Tryz.func335
def aLA:=oF 22
def aLz:=oF 23
def aVm:=oF 24
def aLy:=oT 31
def aQh:=tF 31
def aLx:=oT 39
def aQg:=tF 39
def aVl:=oT 46
def aYx:=tF 46
def aVk:=oT 52
def aYw:=tF 52
def aVj:=oT 53
def aYv:=tF 53
def aVi:=oF 56
def aVh:=oF 58
def aVg:=oF 59
def aVf:=oF 60
def aLw:=oT 67
def aQf:=tF 67
def auO:=oT 74
def aA8:=tF 74
def abW:=oT 109
def aRd:=oF 116
def aRc:=oF 118
def aRb:=oF 120
def aRa:=oF 122
def aQ9:=oF 124
def aQ8:=oF 126
def aE4:=oT 152
def aKZ:=tF 152
def aE3:=oT 172
def aKY:=tF 172
def aQ7:=oF 198
def aQ6:=oF 200
def aQ5:=oF 208
def aQ4:=oF 210
def aQ3:=oF 212
def aQ2:=oF 214
def aQ1:=oF 215
def aQ0:=oF 267
def aQZ:=oF 269
def aE2:=oT 304
def aKX:=tF 304
def aE1:=oT 316
def aKW:=tF 316
def aE0:=oT 325
def aKV:=tF 325
def aY3:=mN "ref.go:147"
def aY2:=mN "ref.go:153"
def aY1:=mN "ref.go:167"
def aY0:=mN "ref.go:194"
def aYZ:=mN "ref.go:195"
def aYY:=mN "ref.go:313"
def aYX:=mN "ref.go:321"
def aYW:=mN "ref.go:325"
def aYV:=mN "ref.go:330"
def aYU:=mN "ref.go:333"
def aYT:=mN "ref.go:336"
def aYS:=mN "ref.go:337"
def aYR:=mN "ref.go:417"
def aYQ:=mN "ref.go:421"
def aYP:=mN "ref.go:424"
def aYO:=mN "ref.go:430"
def aYN:=mN "ref.go:439"
def aYM:=mN "ref.go:449"
def aYL:=mN "ref.go:458"
def aYK:=mN "ref.go:635"
def aYJ:=mQ "law.go:35" 3
def aYI:=mQ "law.go:36" 6
def aYH:=mQ "law.go:45" 3
def aYG:=mQ "law.go:46" 6
def aXy:=mR "parse.go:722" 2
def aXx:=mR "parse.go:725" 2
def aXw:=mR "ref.go:10" 2
def aXv:=mR "ref.go:1024" 2
def aXu:=mQ "ref.go:1029" 8
def aXt:=mR "ref.go:103" 4
def aXs:=mQ "ref.go:103" 17
def aXr:=mR "ref.go:1038" 2
def aXq:=mQ "ref.go:1043" 8
def aXp:=mR "ref.go:110" 6
def aXo:=mR "ref.go:114" 6
def aXn:=mQ "ref.go:116" 9
def aXm:=mQ "ref.go:119" 1
def aXl:=mR "ref.go:119" 4
def aXk:=mQ "ref.go:119" 12
def aXj:=mR "ref.go:12" 2
def aXi:=mQ "ref.go:125" 1
def aXh:=mQ "ref.go:127" 5
def aXg:=mQ "ref.go:127" 6
def aXf:=mQ "ref.go:131" 11
def aXe:=mQ "ref.go:133" 1
def aXd:=mR "ref.go:14" 2
def aXc:=mR "ref.go:144" 4
def aXb:=mQ "ref.go:145" 1
def aXa:=mQ "ref.go:148" 18
def aW9:=mQ "ref.go:152" 21
def aW8:=mQ "ref.go:159" 24
def aW7:=mR "ref.go:161" 4
def aW6:=mQ "ref.go:163" 27
def aW5:=mQ "ref.go:173" 3
def aW4:=mR "ref.go:173" 4
def aW3:=mQ "ref.go:177" 1
def aW2:=mQ "ref.go:181" 5
def aW1:=mR "ref.go:181" 6
def aW0:=mQ "ref.go:182" 1
def aWZ:=mQ "ref.go:186" 10
def aWY:=mQ "ref.go:193" 7
def aWX:=mQ "ref.go:196" 12
def aWW:=mQ "ref.go:216" 1
def aWV:=mR "ref.go:216" 2
def aWU:=mR "ref.go:229" 4
def aWT:=mQ "ref.go:231" 7
def aWS:=mQ "ref.go:235" 10
def aWR:=mR "ref.go:238" 13
def aWQ:=mQ "ref.go:243" 15
def aWP:=mQ "ref.go:250" 18
def aWO:=mR "ref.go:255" 4
def aWN:=mQ "ref.go:256" 7
def aWM:=mR "ref.go:264" 6
def aWL:=mQ "ref.go:269" 9
def aWK:=mR "ref.go:276" 4
def aWJ:=mR "ref.go:290" 4
def aWI:=mQ "ref.go:291" 7
def aWH:=mQ "ref.go:296" 9
def aWG:=mQ "ref.go:304" 2
def aWF:=mQ "ref.go:304" 3
def aWE:=mR "ref.go:304" 4
def aWD:=mQ "ref.go:305" 14
def aWC:=mQ "ref.go:307" 1
def aWB:=mR "ref.go:307" 2
def aWA:=mR "ref.go:310" 2
def aWz:=mR "ref.go:311" 3
def aWy:=mR "ref.go:318" 2
def aWx:=mR "ref.go:319" 3
def aWw:=mQ "ref.go:32" 1
def aWv:=mQ "ref.go:322" 4
def aWu:=mR "ref.go:323" 7
def aWt:=mR "ref.go:326" 2
def aWs:=mR "ref.go:327" 3
def aWr:=mQ "ref.go:328" 8
def aWq:=mQ "ref.go:329" 5
def aWp:=mR "ref.go:330" 6
def aWo:=mQ "ref.go:335" 11
def aWn:=mQ "ref.go:343" 12
def aWm:=mR "ref.go:355" 6
def aWl:=mR "ref.go:356" 9
def aWk:=mQ "ref.go:367" 12
def aWj:=mQ "ref.go:387" 7
def aWi:=mQ "ref.go:390" 10
def aWh:=mQ "ref.go:398" 6
def aWg:=mQ "ref.go:399" 1
def aWf:=mR "ref.go:399" 9
def aWe:=mQ "ref.go:402" 1
def aWd:=mQ "ref.go:404" 1
def aWc:=mQ "ref.go:412" 2
def aWb:=mQ "ref.go:412" 3
def aWa:=mQ "ref.go:42" 1
def aV9:=mQ "ref.go:439" 6
def aV8:=mQ "ref.go:439" 7
def aV7:=mR "ref.go:440" 9
def aV6:=mR "ref.go:462" 8
def aV5:=mQ "ref.go:466" 2
def aV4:=mQ "ref.go:466" 3
def aV3:=mR "ref.go:466" 11
def aV2:=mR "ref.go:468" 13
def aV1:=mQ "ref.go:480" 14
def aV0:=mR "ref.go:487" 6
def aVZ:=mQ "ref.go:492" 9
def aVY:=mR "ref.go:506" 4
def aVX:=mQ "ref.go:513" 7
def aVW:=mQ "ref.go:537" 9
def aVV:=mR "ref.go:542" 4
def aVU:=mR "ref.go:543" 7
def aVT:=mQ "ref.go:549" 8
def aVS:=mQ "ref.go:561" 11
def aVR:=mR "ref.go:591" 6
def aVQ:=mR "ref.go:592" 9
def aVP:=mQ "ref.go:594" 11
def aVO:=mR "ref.go:60" 4
def aVN:=mQ "ref.go:600" 6
def aVM:=mR "ref.go:601" 9
def aVL:=mQ "ref.go:628" 15
def aVK:=mR "ref.go:63" 4
def aVJ:=mR "ref.go:632" 16
def aVI:=mQ "ref.go:647" 5
def aVH:=mR "ref.go:647" 6
def aVG:=mR "ref.go:655" 4
def aVF:=mQ "ref.go:657" 7
def aVE:=mQ "ref.go:66" 4
def aVD:=mQ "ref.go:66" 5
def aVC:=mR "ref.go:66" 6
def aVB:=mR "ref.go:672" 4
def aVA:=mQ "ref.go:673" 7
def aVz:=mR "ref.go:682" 4
def aVy:=mQ "ref.go:684" 7
def aVx:=mQ "ref.go:688" 10
def aVw:=mQ "ref.go:69" 3
def aVv:=mR "ref.go:69" 4
def aVu:=mQ "ref.go:691" 13
def aVt:=mQ "ref.go:696" 15
def aVs:=mR "ref.go:699" 18
def aVr:=mQ "ref.go:706" 19
def aVq:=mQ "ref.go:71" 1
def aVp:=mR "ref.go:84" 4
def aVo:=mR "ref.go:87" 8
def aVn:=mR "ref.go:94" 11
def mixed:Tryz.prog.follows .mixedOrders=true:=by kernel_rfl
