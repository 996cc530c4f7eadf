/- A part. Conditions: none. -/
import Derived.Test.YtghkmcffifpkeaaGreatPa4
set_option linter.all false
set_option maxRecDepth 100000
set_option maxHeartbeats 64000000
namespace Go.Proofs.YtghkmcffifpkeaaGreat
open Pe
def mtL:List (String×Nat):=[("law.go:15",2),("law.go:17",6),("lex.go:102",4),("lex.go:118",4),("lex.go:144",4),("lex.go:176",4),("lex.go:70",4),("lex.go:72",7),("lex.go:77",8),("lex.go:89",4),("parse.go:118",8),("parse.go:119",9),("parse.go:132",2),("parse.go:134",2),("parse.go:136",2),("parse.go:138",2),("parse.go:142",2),("parse.go:147",2),("parse.go:149",2),("parse.go:157",2),("parse.go:165",2),("parse.go:186",4),("parse.go:194",4),("parse.go:226",2),("parse.go:239",2),("parse.go:246",3),("parse.go:261",2),("parse.go:269",4),("parse.go:275",2),("parse.go:308",2),("parse.go:316",4),("parse.go:334",2),("parse.go:335",3),("parse.go:35",4),("parse.go:350",8),("parse.go:356",2),("parse.go:357",3),("parse.go:386",2),("parse.go:387",3),("parse.go:403",2),("parse.go:404",3),("parse.go:412",2),("parse.go:427",2),("parse.go:429",3),("parse.go:451",2),("parse.go:459",5),("parse.go:473",2),("parse.go:474",3),("parse.go:482",2),("parse.go:483",3),("parse.go:505",2),("parse.go:512",3),("parse.go:528",2),("parse.go:535",5),("parse.go:549",2),("parse.go:567",3),("parse.go:593",2),("parse.go:595",3),("parse.go:604",4),("parse.go:615",4),("parse.go:642",4),("parse.go:657",2),("parse.go:659",3),("parse.go:679",2),("parse.go:680",3),("parse.go:683",5),("parse.go:693",6),("parse.go:693",7),("parse.go:693",8),("parse.go:698",29),("parse.go:708",6),("parse.go:722",2),("parse.go:725",2),("parse.go:728",2),("parse.go:740",4),("ref.go:10",2),("ref.go:1024",2),("ref.go:103",4),("ref.go:1038",2),("ref.go:1052",2),("ref.go:110",6),("ref.go:114",6),("ref.go:119",4),("ref.go:12",2),("ref.go:14",2),("ref.go:144",4),("ref.go:161",4),("ref.go:173",4),("ref.go:181",6),("ref.go:216",2),("ref.go:229",4),("ref.go:238",13),("ref.go:255",4),("ref.go:264",6),("ref.go:276",4),("ref.go:290",4),("ref.go:304",4),("ref.go:307",2),("ref.go:310",2),("ref.go:311",3),("ref.go:318",2),("ref.go:319",3),("ref.go:323",7),("ref.go:326",2),("ref.go:327",3),("ref.go:330",6),("ref.go:343",2),("ref.go:344",3),("ref.go:355",6),("ref.go:356",9),("ref.go:399",9),("ref.go:440",9),("ref.go:462",8),("ref.go:466",11),("ref.go:468",13),("ref.go:487",6),("ref.go:506",4),("ref.go:542",4),("ref.go:543",7),("ref.go:591",6),("ref.go:592",9),("ref.go:60",4),("ref.go:601",9),("ref.go:63",4),("ref.go:632",16),("ref.go:647",6),("ref.go:655",4),("ref.go:66",6),("ref.go:672",4),("ref.go:682",4),("ref.go:69",4),("ref.go:699",18),("ref.go:732",9),("ref.go:755",5),("ref.go:755",6),("ref.go:763",12),("ref.go:796",4),("ref.go:797",7),("ref.go:819",4),("ref.go:820",7),("ref.go:84",4),("ref.go:844",4),("ref.go:845",7),("ref.go:87",8),("ref.go:873",7),("ref.go:887",4),("ref.go:888",7),("ref.go:932",4),("ref.go:933",7),("ref.go:94",11),("ref.go:965",4),("syntax.go:174",3),("syntax.go:211",4),("syntax.go:214",2),("syntax.go:217",4),("syntax.go:218",5),("syntax.go:226",2),("syntax.go:229",2),("syntax.go:237",2),("syntax.go:242",2),("syntax.go:248",2),("syntax.go:249",2),("syntax.go:250",2),("syntax.go:63",5),("value.go:15",2)]
def mtP:List String:=["parse.go:124","parse.go:170","parse.go:197","parse.go:201","parse.go:250","parse.go:256","parse.go:31","parse.go:338","parse.go:340","parse.go:343","parse.go:352","parse.go:373","parse.go:432","parse.go:476","parse.go:496","parse.go:516","parse.go:521","parse.go:523","parse.go:545","parse.go:637","parse.go:639","parse.go:649","parse.go:672"]
def mtF(po:String):Option Nat->Bool
 | some d=>mtL.any λp=>p.2 == d&&p.1 == po
 | none=>mtP.contains po
def afY(f:Nat):Bool:=[187].contains f
def FnI(P:Program)(f:Nat)(fn:Func):Prop:=at4 mtF P f=true/\P.funcs[f]?=some fn
def ade(f:Nat):Bool:=[241,242,109,31,39,46,52,53,65,66,67,74,75,76,77,78,79,80,81,91,92,93,94,95,152,172,173,174,182,183,184,185,246,257,284,286,296,297,304,305,311,312,316,317,319,325,326,330,332,333,334,335,187].contains f
def tkF(f:Nat):Bool:=[187].contains f
noncomputable abbrev tP:TT:=TT.of Tryz.prog
def cA(f:Nat)(h:ew Tryz.prog f=true:=by kernel_rfl):ew Tryz.prog f=true:=h
def oT(f:Nat)(h:ade f=true:=by exact rfl):ade f=true:=h
def oF(f:Nat)(h:ade f=false:=by exact rfl):ade f=false:=h
def tF(f:Nat)(h:tkF f=false:=by exact rfl):tkF f=false:=h
def cT(f:Nat)(a:ade f=true:=by exact rfl)(b:ew Tryz.prog f=true:=by kernel_rfl)(c:tkF f=false:=by exact rfl):ade f=true/\ew Tryz.prog f=true/\tkF f=false:=⟨a,b,c⟩
def cF(f:Nat)(a:ade f=false:=by exact rfl)(b:ew Tryz.prog f=true:=by kernel_rfl)(c:tkF f=false:=by exact rfl):ade f=false/\ew Tryz.prog f=true/\tkF f=false:=⟨a,b,c⟩
def mQ(s:String)(d:Nat)(h:mtF s (some d)=false:=by kernel_rfl):mtF s (some d)=false:=h
def mR(s:String)(d:Nat)(h:mtF s (some d)=true:=by kernel_rfl):mtF s (some d)=true:=h
def mN(s:String)(h:mtF s none=false:=by kernel_rfl):mtF s none=false:=h
def mM(s:String)(h:mtF s none=true:=by kernel_rfl):mtF s none=true:=h
def fA{f:Nat}{fn:Func}(g:Tryz.prog.funcs[f]?=some fn)(h:at4 mtF Tryz.prog f=true:=by kernel_rfl):FnI Tryz.prog f fn:=⟨h,g⟩
def rgC(n:Nat):Code->Option (Array Oper)
 | .skip=>none
 | .region k o _=>bif k==n then some o else none
 | .seq a b=>(rgC n a).or (rgC n b)
 | .cond _ a b=>(rgC n a).or (rgC n b)
 | .block _ b=>rgC n b
 | .loop b=>rgC n b
 | .rangeFunc _ _ _ _=>none
 | .exit _=>none
 | .scope b=>rgC n b
 | .label _=>none
 | .goto _=>none
 | .ret=>none
 | .refuse _=>none
def plA(n:Nat)(f:Func)(p:Pn)(h:(rgC n (f.body.getD .skip)).map (ajA ade)=some (some p):=by kernel_rfl):(rgC n (f.body.getD .skip)).map (ajA ade)=some (some p):=h
def zpl:=And.intro (And.intro @Option.getD_some.{0} @Option.none_or.{0}) (And.intro (And.intro @Option.some_or.{0} @Option.or_none.{0}) (And.intro (And.intro @cond_true.{1} @cond_false.{1}) (And.intro @Option.map_some.{0,0} @Option.some.injEq.{0})))
def frG{T:TT}{t:Nat}{d:TD}(h:T t=some d)(j o z:Nat)(g:d.fields[j]?=some (o,z+1))(cs:List C):fP T t j (.of (.ref cs))=Pe.out (.of (.ref (cs.drop o))):=by simp only [fP,ai0,h,dh,g];rfl
def faG{T:TT}{t:Nat}{d:TD}(h:T t=some d)(j o z:Nat)(g:d.fields[j]?=some (o,z+1))(r a:Nat):fP T t j (.ptr r a)=Pe.out (.ptr r (a+o)):=by simp only [fP,ai0,h,dh,g];rfl
def fxG{T:TT}{t:Nat}{d:TD}(h:T t=some d)(j o z u:Nat)(g:d.fields[j]?=some (o,z))(k:apE d.und j=some u)(xs:List X):ago T t j (.agg xs)=bJ (bC T u (xs.drop o)):=by simp only [ago,h,g,k]
def fcG{T:TT}{t:Nat}{d:TD}(h:T t=some d)(j o z u:Nat)(g:d.fields[j]?=some (o,z))(k:apE d.und j=some u)(cs:List C):ago T t j (.of (.agg cs))=bJ ((bm T u (cs.drop o)).map .of):=by simp only [ago,h,g,k]
def EG{T:TT}{t e a b:Nat}{f:Bool}{z:List Value}{q:List (Nat×Nat)}{d:TD}(h:T t=some ⟨.slice e,a,b,f,z,q⟩)(g:T e=some d):Pe.elemOf T t=some (e,d):=by simp only [Pe.elemOf,h,g,aG]
def UG{T:TT}{t a b:Nat}{y:TypeDesc}{f:Bool}{z:List Value}{q:List (Nat×Nat)}(h:T t=some ⟨y,a,b,f,z,q⟩):(T t).map (·.und)=some y:=by rw[h];rfl
def T2:tP 2=some ⟨.int .i64,1,8,false,[.int .i64 0],[]⟩:=by kernel_rfl
def T3:tP 3=some ⟨.int .i64,1,8,false,[.int .i64 0],[]⟩:=by kernel_rfl
def T4:tP 4=some ⟨.bool,1,1,false,[.bool false],[]⟩:=by kernel_rfl
def T5:tP 5=some ⟨.int .u8,1,1,false,[.int .u8 0],[]⟩:=by kernel_rfl
def T6:tP 6=some ⟨.int .u8,1,1,false,[.int .u8 0],[]⟩:=by kernel_rfl
def T9:tP 9=some ⟨.string,1,16,false,[.string ⟨#[]⟩],[]⟩:=by kernel_rfl
def T24:tP 24=some ⟨.struct #[⟨ "Kind",3,0,false,"","",0⟩,⟨ "N",3,1,false,"","",8⟩,⟨ "S",9,2,false,"","",16⟩],3,32,true,[.int .i64 0,.int .i64 0,.string ⟨#[]⟩],[(0,1),(1,1),(2,1)]⟩:=by kernel_rfl
def T25:tP 25=some ⟨.slice 28,1,24,false,[.slice none 0 0],[]⟩:=by kernel_rfl
def T26:tP 26=some ⟨.slice 38,1,24,false,[.slice none 0 0],[]⟩:=by kernel_rfl
def T28:tP 28=some ⟨.struct #[⟨ "Op",3,0,false,"","",0⟩,⟨ "V",24,1,false,"","",8⟩,⟨ "Table",9,4,false,"","",40⟩,⟨ "Name",9,5,false,"","",56⟩,⟨ "Distinct",4,6,false,"","",72⟩,⟨ "Kids",25,7,false,"","",80⟩,⟨ "Sub",26,8,false,"","",104⟩],9,128,true,[.int .i64 0,.int .i64 0,.int .i64 0,.string ⟨#[]⟩,.string ⟨#[]⟩,.string ⟨#[]⟩,.bool false,.slice none 0 0,.slice none 0 0],[(0,1),(1,3),(4,1),(5,1),(6,1),(7,1),(8,1)]⟩:=by kernel_rfl
def T29:tP 29=some ⟨.int .i64,1,8,false,[.int .i64 0],[]⟩:=by kernel_rfl
def T33:tP 33=some ⟨.func #[9] #[4] false,1,8,false,[.nilFunc],[]⟩:=by kernel_rfl
def T34:tP 34=some ⟨.slice 138,1,24,false,[.slice none 0 0],[]⟩:=by kernel_rfl
def T35:tP 35=some ⟨.slice 140,1,24,false,[.slice none 0 0],[]⟩:=by kernel_rfl
def T36:tP 36=some ⟨.slice 126,1,24,false,[.slice none 0 0],[]⟩:=by kernel_rfl
def T38:tP 38=some ⟨.struct #[⟨ "Op",3,0,false,"","",0⟩,⟨ "All",4,1,false,"","",8⟩,⟨ "Kids",26,2,false,"","",16⟩,⟨ "Distinct",4,3,false,"","",40⟩,⟨ "Items",34,4,false,"","",48⟩,⟨ "From",35,5,false,"","",72⟩,⟨ "Where",25,6,false,"","",96⟩,⟨ "Group",25,7,false,"","",120⟩,⟨ "Having",25,8,false,"","",144⟩,⟨ "Order",36,9,false,"","",168⟩,⟨ "Limit",3,10,false,"","",192⟩,⟨ "Skip",3,11,false,"","",200⟩],12,208,true,[.int .i64 0,.bool false,.slice none 0 0,.bool false,.slice none 0 0,.slice none 0 0,.slice none 0 0,.slice none 0 0,.slice none 0 0,.slice none 0 0,.int .i64 0,.int .i64 0],[(0,1),(1,1),(2,1),(3,1),(4,1),(5,1),(6,1),(7,1),(8,1),(9,1),(10,1),(11,1)]⟩:=by kernel_rfl
def T42:tP 42=some ⟨.slice 149,1,24,false,[.slice none 0 0],[]⟩:=by kernel_rfl
def T43:tP 43=some ⟨.slice 9,1,24,false,[.slice none 0 0],[]⟩:=by kernel_rfl
def T44:tP 44=some ⟨.slice 151,1,24,false,[.slice none 0 0],[]⟩:=by kernel_rfl
def T45:tP 45=some ⟨.slice 153,1,24,false,[.slice none 0 0],[]⟩:=by kernel_rfl
def T46:tP 46=some ⟨.slice 25,1,24,false,[.slice none 0 0],[]⟩:=by kernel_rfl
def T47:tP 47=some ⟨.slice 93,1,24,false,[.slice none 0 0],[]⟩:=by kernel_rfl
def T49:tP 49=some ⟨.struct #[⟨ "Kind",3,0,false,"","",0⟩,⟨ "Table",9,1,false,"","",8⟩,⟨ "Name",9,2,false,"","",24⟩,⟨ "Cols",42,3,false,"","",40⟩,⟨ "Names",43,4,false,"","",64⟩,⟨ "Unique",4,5,false,"","",88⟩,⟨ "Keys",44,6,false,"","",96⟩,⟨ "Refs",45,7,false,"","",120⟩,⟨ "Checks",25,8,false,"","",144⟩,⟨ "Rows",46,9,false,"","",168⟩,⟨ "Sets",47,10,false,"","",192⟩,⟨ "Where",25,11,false,"","",216⟩,⟨ "Q",26,12,false,"","",240⟩],13,264,true,[.int .i64 0,.string ⟨#[]⟩,.string ⟨#[]⟩,.slice none 0 0,.slice none 0 0,.bool false,.slice none 0 0,.slice none 0 0,.slice none 0 0,.slice none 0 0,.slice none 0 0,.slice none 0 0,.slice none 0 0],[(0,1),(1,1),(2,1),(3,1),(4,1),(5,1),(6,1),(7,1),(8,1),(9,1),(10,1),(11,1),(12,1)]⟩:=by kernel_rfl
def T53:tP 53=some ⟨.slice 49,1,24,false,[.slice none 0 0],[]⟩:=by kernel_rfl
def T56:tP 56=some ⟨.func #[28] #[4] false,1,8,false,[.nilFunc],[]⟩:=by kernel_rfl
def T57:tP 57=some ⟨.func #[38] #[4] false,1,8,false,[.nilFunc],[]⟩:=by kernel_rfl
def T59:tP 59=some ⟨.slice 63,1,24,false,[.slice none 0 0],[]⟩:=by kernel_rfl
def T63:tP 63=some ⟨.struct #[⟨ "Kind",3,0,false,"","",0⟩,⟨ "At",3,1,false,"","",8⟩,⟨ "Size",3,2,false,"","",16⟩,⟨ "N",3,3,false,"","",24⟩,⟨ "S",9,4,false,"","",32⟩],5,48,true,[.int .i64 0,.int .i64 0,.int .i64 0,.int .i64 0,.string ⟨#[]⟩],[(0,1),(1,1),(2,1),(3,1),(4,1)]⟩:=by kernel_rfl
def T64:tP 64=some ⟨.slice 5,1,24,false,[.slice none 0 0],[]⟩:=by kernel_rfl
def T66:tP 66=some ⟨.slice 3,1,24,false,[.slice none 0 0],[]⟩:=by kernel_rfl
def T93:tP 93=some ⟨.struct #[⟨ "Name",9,0,false,"","",0⟩,⟨ "E",28,1,false,"","",16⟩],10,144,true,[.string ⟨#[]⟩,.int .i64 0,.int .i64 0,.int .i64 0,.string ⟨#[]⟩,.string ⟨#[]⟩,.string ⟨#[]⟩,.bool false,.slice none 0 0,.slice none 0 0],[(0,1),(1,9)]⟩:=by kernel_rfl
def T94:tP 94=some ⟨.slice 101,1,24,false,[.slice none 0 0],[]⟩:=by kernel_rfl
def aoX:tP 101=some ⟨.struct #[⟨ "at",3,0,false,"","tabellion/parse",0⟩,⟨ "s",49,1,false,"","tabellion/parse",8⟩],14,272,true,[.int .i64 0,.int .i64 0,.string ⟨#[]⟩,.string ⟨#[]⟩,.slice none 0 0,.slice none 0 0,.bool false,.slice none 0 0,.slice none 0 0,.slice none 0 0,.slice none 0 0,.slice none 0 0,.slice none 0 0,.slice none 0 0],[(0,1),(1,13)]⟩:=by kernel_rfl
def azY:tP 105=some ⟨.struct #[⟨ "nodes",3,0,false,"","tabellion/syntax",0⟩,⟨ "depth",3,1,false,"","tabellion/syntax",8⟩],2,16,true,[.int .i64 0,.int .i64 0],[(0,1),(1,1)]⟩:=by kernel_rfl
def acI:tP 112=some ⟨.struct #[⟨ "l",59,0,false,"","tabellion/parse",0⟩,⟨ "at",3,1,false,"","tabellion/parse",24⟩,⟨ "end",3,2,false,"","tabellion/parse",32⟩,⟨ "prims",25,3,false,"","tabellion/parse",40⟩,⟨ "parts",26,4,false,"","tabellion/parse",64⟩,⟨ "srcs",35,5,false,"","tabellion/parse",88⟩],6,112,true,[.slice none 0 0,.int .i64 0,.int .i64 0,.slice none 0 0,.slice none 0 0,.slice none 0 0],[(0,1),(1,1),(2,1),(3,1),(4,1),(5,1)]⟩:=by kernel_rfl
def aoW:tP 114=some ⟨.struct #[⟨ "at",3,0,false,"","tabellion/parse",0⟩,⟨ "e",29,1,false,"","tabellion/parse",8⟩],2,16,true,[.int .i64 0,.int .i64 0],[(0,1),(1,1)]⟩:=by kernel_rfl
def al2:tP 126=some ⟨.struct #[⟨ "Name",9,0,false,"","",0⟩,⟨ "At",3,1,false,"","",16⟩,⟨ "Down",4,2,false,"","",24⟩],3,32,true,[.string ⟨#[]⟩,.int .i64 0,.bool false],[(0,1),(1,1),(2,1)]⟩:=by kernel_rfl
def anW:tP 138=some ⟨.struct #[⟨ "Star",4,0,false,"","",0⟩,⟨ "Table",9,1,false,"","",8⟩,⟨ "E",28,2,false,"","",24⟩,⟨ "As",9,11,false,"","",152⟩],12,168,true,[.bool false,.string ⟨#[]⟩,.int .i64 0,.int .i64 0,.int .i64 0,.string ⟨#[]⟩,.string ⟨#[]⟩,.string ⟨#[]⟩,.bool false,.slice none 0 0,.slice none 0 0,.string ⟨#[]⟩],[(0,1),(1,1),(2,9),(11,1)]⟩:=by kernel_rfl
def ai8:tP 140=some ⟨.struct #[⟨ "Kind",3,0,false,"","",0⟩,⟨ "Name",9,1,false,"","",8⟩,⟨ "As",9,2,false,"","",24⟩,⟨ "Sub",26,3,false,"","",40⟩,⟨ "Kids",35,4,false,"","",64⟩,⟨ "On",25,5,false,"","",88⟩],6,112,true,[.int .i64 0,.string ⟨#[]⟩,.string ⟨#[]⟩,.slice none 0 0,.slice none 0 0,.slice none 0 0],[(0,1),(1,1),(2,1),(3,1),(4,1),(5,1)]⟩:=by kernel_rfl
def anV:tP 149=some ⟨.struct #[⟨ "Name",9,0,false,"","",0⟩,⟨ "Type",3,1,false,"","",16⟩,⟨ "NotNull",4,2,false,"","",24⟩],3,32,true,[.string ⟨#[]⟩,.int .i64 0,.bool false],[(0,1),(1,1),(2,1)]⟩:=by kernel_rfl
def azX:tP 151=some ⟨.struct #[⟨ "Primary",4,0,false,"","",0⟩,⟨ "Names",43,1,false,"","",8⟩],2,32,true,[.bool false,.slice none 0 0],[(0,1),(1,1)]⟩:=by kernel_rfl
def anU:tP 153=some ⟨.struct #[⟨ "Names",43,0,false,"","",0⟩,⟨ "Table",9,1,false,"","",24⟩,⟨ "To",43,2,false,"","",40⟩],3,64,true,[.slice none 0 0,.string ⟨#[]⟩,.slice none 0 0],[(0,1),(1,1),(2,1)]⟩:=by kernel_rfl
def aGU:tP 159=some ⟨.struct #[⟨ "least",3,0,false,"","tabellion/syntax",0⟩,⟨ "most",3,1,false,"","tabellion/syntax",8⟩,⟨ "subs",3,2,false,"","tabellion/syntax",16⟩],3,24,true,[.int .i64 0,.int .i64 0,.int .i64 0],[(0,1),(1,1),(2,1)]⟩:=by kernel_rfl
def bec:tP 161=some ⟨.map 3 159,1,8,false,[.map none],[]⟩:=by kernel_rfl
def a3a:tP 171=some ⟨.func #[126] #[4] false,1,8,false,[.nilFunc],[]⟩:=by kernel_rfl
def a24:tP 173=some ⟨.func #[138] #[4] false,1,8,false,[.nilFunc],[]⟩:=by kernel_rfl
def a2Z:tP 175=some ⟨.func #[140] #[4] false,1,8,false,[.nilFunc],[]⟩:=by kernel_rfl
def a2Y:tP 176=some ⟨.func #[25] #[4] false,1,8,false,[.nilFunc],[]⟩:=by kernel_rfl
def a2X:tP 182=some ⟨.func #[149] #[4] false,1,8,false,[.nilFunc],[]⟩:=by kernel_rfl
def a2W:tP 184=some ⟨.func #[151] #[4] false,1,8,false,[.nilFunc],[]⟩:=by kernel_rfl
def a2V:tP 186=some ⟨.func #[153] #[4] false,1,8,false,[.nilFunc],[]⟩:=by kernel_rfl
def a2U:tP 190=some ⟨.func #[93] #[4] false,1,8,false,[.nilFunc],[]⟩:=by kernel_rfl
def beb:tP 245=some ⟨.struct #[⟨ "addr",243,0,false,"","strings",0⟩,⟨ "buf",64,1,false,"","strings",8⟩],2,32,true,[.pointer none,.slice none 0 0],[(0,1),(1,1)]⟩:=by kernel_rfl
def aj0:tP 298=some ⟨.struct #[⟨ "query",4,0,false,"","tabellion/parse",0⟩,⟨ "wrapped",4,1,false,"","tabellion/parse",1⟩,⟨ "q",38,2,false,"","tabellion/parse",8⟩,⟨ "e",28,14,false,"","tabellion/parse",216⟩,⟨ "f",140,23,false,"","tabellion/parse",344⟩],29,456,true,[.bool false,.bool false,.int .i64 0,.bool false,.slice none 0 0,.bool false,.slice none 0 0,.slice none 0 0,.slice none 0 0,.slice none 0 0,.slice none 0 0,.slice none 0 0,.int .i64 0,.int .i64 0,.int .i64 0,.int .i64 0,.int .i64 0,.string ⟨#[]⟩,.string ⟨#[]⟩,.string ⟨#[]⟩,.bool false,.slice none 0 0,.slice none 0 0,.int .i64 0,.string ⟨#[]⟩,.string ⟨#[]⟩,.slice none 0 0,.slice none 0 0,.slice none 0 0],[(0,1),(1,1),(2,12),(14,9),(23,6)]⟩:=by kernel_rfl
def P2(x:X)(xs:List X):bC tP 2 (x::xs)=some x:=by simp only[bC,T2];rfl
def U3:=UG T3
def P3(x:X)(xs:List X):bC tP 3 (x::xs)=some x:=by simp only[bC,T3];rfl
def Q3(x:C)(xs:List C):bm tP 3 (x::xs)=some x:=by simp only[bm,T3];rfl
def P4(x:X)(xs:List X):bC tP 4 (x::xs)=some x:=by simp only[bC,T4];rfl
def Q4(x:C)(xs:List C):bm tP 4 (x::xs)=some x:=by simp only[bm,T4];rfl
def Q5(x:C)(xs:List C):bm tP 5 (x::xs)=some x:=by simp only[bm,T5];rfl
def P6(x:X)(xs:List X):bC tP 6 (x::xs)=some x:=by simp only[bC,T6];rfl
def U9:=UG T9
def P9(x:X)(xs:List X):bC tP 9 (x::xs)=some x:=by simp only[bC,T9];rfl
def Q9(x:C)(xs:List C):bm tP 9 (x::xs)=some x:=by simp only[bm,T9];rfl
def P24(x0 x1 x2:X)(xs:List X):bC tP 24 (x0::x1::x2::xs)=some (.agg [x0,x1,x2]):=by simp only[bC,T24];rfl
def Q24(x0 x1 x2:C)(xs:List C):bm tP 24 (x0::x1::x2::xs)=some (.agg [x0,x1,x2]):=by simp only[bm,T24];rfl
def a0D:=frG T24 0 0 0 rfl
def a0C:=frG T24 1 1 0 rfl
def a0B:=frG T24 2 2 0 rfl
def P25(x:X)(xs:List X):bC tP 25 (x::xs)=some x:=by simp only[bC,T25];rfl
def Q25(x:C)(xs:List C):bm tP 25 (x::xs)=some x:=by simp only[bm,T25];rfl
def P26(x:X)(xs:List X):bC tP 26 (x::xs)=some x:=by simp only[bC,T26];rfl
def Q26(x:C)(xs:List C):bm tP 26 (x::xs)=some x:=by simp only[bm,T26];rfl
def P28(x0 x1 x2 x3 x4 x5 x6 x7 x8:X)(xs:List X):bC tP 28 (x0::x1::x2::x3::x4::x5::x6::x7::x8::xs)=some (.agg [x0,x1,x2,x3,x4,x5,x6,x7,x8]):=by simp only[bC,T28];rfl
def Q28(x0 x1 x2 x3 x4 x5 x6 x7 x8:C)(xs:List C):bm tP 28 (x0::x1::x2::x3::x4::x5::x6::x7::x8::xs)=some (.agg [x0,x1,x2,x3,x4,x5,x6,x7,x8]):=by simp only[bm,T28];rfl
def a1G:=faG T28 0 0 0 rfl
def a0A:=frG T28 0 0 0 rfl
def a1F:=faG T28 1 1 2 rfl
def a0z:=frG T28 1 1 2 rfl
def a1E:=faG T28 2 4 0 rfl
def a0y:=frG T28 2 4 0 rfl
def a1D:=faG T28 3 5 0 rfl
def a0x:=frG T28 3 5 0 rfl
def a1C:=faG T28 4 6 0 rfl
def a0w:=frG T28 4 6 0 rfl
def a1B:=faG T28 5 7 0 rfl
def a0v:=frG T28 5 7 0 rfl
def a1A:=faG T28 6 8 0 rfl
def a0u:=frG T28 6 8 0 rfl
def P29(x:X)(xs:List X):bC tP 29 (x::xs)=some x:=by simp only[bC,T29];rfl
def Q29(x:C)(xs:List C):bm tP 29 (x::xs)=some x:=by simp only[bm,T29];rfl
def Q33(x:C)(xs:List C):bm tP 33 (x::xs)=some x:=by simp only[bm,T33];rfl
def P34(x:X)(xs:List X):bC tP 34 (x::xs)=some x:=by simp only[bC,T34];rfl
def Q34(x:C)(xs:List C):bm tP 34 (x::xs)=some x:=by simp only[bm,T34];rfl
def P35(x:X)(xs:List X):bC tP 35 (x::xs)=some x:=by simp only[bC,T35];rfl
def Q35(x:C)(xs:List C):bm tP 35 (x::xs)=some x:=by simp only[bm,T35];rfl
def P36(x:X)(xs:List X):bC tP 36 (x::xs)=some x:=by simp only[bC,T36];rfl
def Q36(x:C)(xs:List C):bm tP 36 (x::xs)=some x:=by simp only[bm,T36];rfl
def P38(x0 x1 x2 x3 x4 x5 x6 x7 x8 x9 x10 x11:X)(xs:List X):bC tP 38 (x0::x1::x2::x3::x4::x5::x6::x7::x8::x9::x10::x11::xs)=some (.agg [x0,x1,x2,x3,x4,x5,x6,x7,x8,x9,x10,x11]):=by simp only[bC,T38];rfl
def Q38(x0 x1 x2 x3 x4 x5 x6 x7 x8 x9 x10 x11:C)(xs:List C):bm tP 38 (x0::x1::x2::x3::x4::x5::x6::x7::x8::x9::x10::x11::xs)=some (.agg [x0,x1,x2,x3,x4,x5,x6,x7,x8,x9,x10,x11]):=by simp only[bm,T38];rfl
def a0t:=frG T38 0 0 0 rfl
def a0s:=frG T38 1 1 0 rfl
def a0r:=frG T38 2 2 0 rfl
def a0q:=frG T38 3 3 0 rfl
def a1z:=faG T38 4 4 0 rfl
def a0p:=frG T38 4 4 0 rfl
def a1y:=faG T38 5 5 0 rfl
def a0o:=frG T38 5 5 0 rfl
def a1x:=faG T38 6 6 0 rfl
def a0n:=frG T38 6 6 0 rfl
def a1w:=faG T38 7 7 0 rfl
def a0m:=frG T38 7 7 0 rfl
def a1v:=faG T38 8 8 0 rfl
def a0l:=frG T38 8 8 0 rfl
def a1u:=faG T38 9 9 0 rfl
def a0k:=frG T38 9 9 0 rfl
def aVt:=faG T38 10 10 0 rfl
def aUT:=frG T38 10 10 0 rfl
def aVs:=faG T38 11 11 0 rfl
def aUS:=frG T38 11 11 0 rfl
def P42(x:X)(xs:List X):bC tP 42 (x::xs)=some x:=by simp only[bC,T42];rfl
def Q42(x:C)(xs:List C):bm tP 42 (x::xs)=some x:=by simp only[bm,T42];rfl
def Q43(x:C)(xs:List C):bm tP 43 (x::xs)=some x:=by simp only[bm,T43];rfl
def P44(x:X)(xs:List X):bC tP 44 (x::xs)=some x:=by simp only[bC,T44];rfl
def Q44(x:C)(xs:List C):bm tP 44 (x::xs)=some x:=by simp only[bm,T44];rfl
def P45(x:X)(xs:List X):bC tP 45 (x::xs)=some x:=by simp only[bC,T45];rfl
def Q45(x:C)(xs:List C):bm tP 45 (x::xs)=some x:=by simp only[bm,T45];rfl
def P46(x:X)(xs:List X):bC tP 46 (x::xs)=some x:=by simp only[bC,T46];rfl
def Q46(x:C)(xs:List C):bm tP 46 (x::xs)=some x:=by simp only[bm,T46];rfl
def P47(x:X)(xs:List X):bC tP 47 (x::xs)=some x:=by simp only[bC,T47];rfl
def Q47(x:C)(xs:List C):bm tP 47 (x::xs)=some x:=by simp only[bm,T47];rfl
def P49(x0 x1 x2 x3 x4 x5 x6 x7 x8 x9 x10 x11 x12:X)(xs:List X):bC tP 49 (x0::x1::x2::x3::x4::x5::x6::x7::x8::x9::x10::x11::x12::xs)=some (.agg [x0,x1,x2,x3,x4,x5,x6,x7,x8,x9,x10,x11,x12]):=by simp only[bC,T49];rfl
def Q49(x0 x1 x2 x3 x4 x5 x6 x7 x8 x9 x10 x11 x12:C)(xs:List C):bm tP 49 (x0::x1::x2::x3::x4::x5::x6::x7::x8::x9::x10::x11::x12::xs)=some (.agg [x0,x1,x2,x3,x4,x5,x6,x7,x8,x9,x10,x11,x12]):=by simp only[bm,T49];rfl
def a1t:=faG T49 0 0 0 rfl
def a0j:=frG T49 0 0 0 rfl
def a1s:=faG T49 1 1 0 rfl
def a0i:=frG T49 1 1 0 rfl
def a1r:=faG T49 2 2 0 rfl
def a0h:=frG T49 2 2 0 rfl
def a1q:=faG T49 3 3 0 rfl
def a0g:=frG T49 3 3 0 rfl
def a1p:=faG T49 4 4 0 rfl
def a0f:=frG T49 4 4 0 rfl
def a1o:=faG T49 5 5 0 rfl
def a0e:=frG T49 5 5 0 rfl
def a1n:=faG T49 6 6 0 rfl
def a0d:=frG T49 6 6 0 rfl
def a1m:=faG T49 7 7 0 rfl
def a0c:=frG T49 7 7 0 rfl
def a1l:=faG T49 8 8 0 rfl
def a0b:=frG T49 8 8 0 rfl
def a1k:=faG T49 9 9 0 rfl
def a0a:=frG T49 9 9 0 rfl
def aVr:=faG T49 10 10 0 rfl
def aUR:=frG T49 10 10 0 rfl
def aVq:=faG T49 11 11 0 rfl
def aUQ:=frG T49 11 11 0 rfl
def aVp:=faG T49 12 12 0 rfl
def aUP:=frG T49 12 12 0 rfl
def Q56(x:C)(xs:List C):bm tP 56 (x::xs)=some x:=by simp only[bm,T56];rfl
def Q57(x:C)(xs:List C):bm tP 57 (x::xs)=some x:=by simp only[bm,T57];rfl
def P59(x:X)(xs:List X):bC tP 59 (x::xs)=some x:=by simp only[bC,T59];rfl
def P63(x0 x1 x2 x3 x4:X)(xs:List X):bC tP 63 (x0::x1::x2::x3::x4::xs)=some (.agg [x0,x1,x2,x3,x4]):=by simp only[bC,T63];rfl
def Q63(x0 x1 x2 x3 x4:C)(xs:List C):bm tP 63 (x0::x1::x2::x3::x4::xs)=some (.agg [x0,x1,x2,x3,x4]):=by simp only[bm,T63];rfl
def a1j:=faG T63 0 0 0 rfl
def aZ8:=frG T63 0 0 0 rfl
def a1g:=fcG T63 0 0 1 3 rfl rfl
def aZ7:=frG T63 1 1 0 rfl
def aZ6:=frG T63 2 2 0 rfl
def aZ5:=frG T63 3 3 0 rfl
def a1f:=fcG T63 3 3 1 3 rfl rfl
def a1i:=faG T63 4 4 0 rfl
def aZ4:=frG T63 4 4 0 rfl
def U64:=UG T64
def P93(x0 x1 x2 x3 x4 x5 x6 x7 x8 x9:X)(xs:List X):bC tP 93 (x0::x1::x2::x3::x4::x5::x6::x7::x8::x9::xs)=some (.agg [x0,x1,x2,x3,x4,x5,x6,x7,x8,x9]):=by simp only[bC,T93];rfl
def Q93(x0 x1 x2 x3 x4 x5 x6 x7 x8 x9:C)(xs:List C):bm tP 93 (x0::x1::x2::x3::x4::x5::x6::x7::x8::x9::xs)=some (.agg [x0,x1,x2,x3,x4,x5,x6,x7,x8,x9]):=by simp only[bm,T93];rfl
def aZ3:=frG T93 0 0 0 rfl
def a1h:=faG T93 1 1 8 rfl
def aZ2:=frG T93 1 1 8 rfl
def P94(x:X)(xs:List X):bC tP 94 (x::xs)=some x:=by simp only[bC,T94];rfl
def a3q(x0 x1 x2 x3 x4 x5 x6 x7 x8 x9 x10 x11 x12 x13:X)(xs:List X):bC tP 101 (x0::x1::x2::x3::x4::x5::x6::x7::x8::x9::x10::x11::x12::x13::xs)=some (.agg [x0,x1,x2,x3,x4,x5,x6,x7,x8,x9,x10,x11,x12,x13]):=by simp only[bC,aoX];rfl
def a3o(x0 x1 x2 x3 x4 x5 x6 x7 x8 x9 x10 x11 x12 x13:C)(xs:List C):bm tP 101 (x0::x1::x2::x3::x4::x5::x6::x7::x8::x9::x10::x11::x12::x13::xs)=some (.agg [x0,x1,x2,x3,x4,x5,x6,x7,x8,x9,x10,x11,x12,x13]):=by simp only[bm,aoX];rfl
def aCU:=frG aoX 0 0 0 rfl
def aCX:=faG aoX 1 1 12 rfl
def aCT:=frG aoX 1 1 12 rfl
def ber(x0 x1:X)(xs:List X):bC tP 105 (x0::x1::xs)=some (.agg [x0,x1]):=by simp only[bC,azY];rfl
def bej(x0 x1:C)(xs:List C):bm tP 105 (x0::x1::xs)=some (.agg [x0,x1]):=by simp only[bm,azY];rfl
def aVm:=frG azY 0 0 0 rfl
def aVl:=frG azY 1 1 0 rfl
def abb:=faG acI 0 0 0 rfl
def aba:=faG acI 1 1 0 rfl
def aa9:=faG acI 2 2 0 rfl
def aa8:=faG acI 3 3 0 rfl
def aa7:=faG acI 4 4 0 rfl
def aa6:=faG acI 5 5 0 rfl
def amD:=frG aoW 0 0 0 rfl
def amC:=frG aoW 1 1 0 rfl
def beq(x0 x1 x2:X)(xs:List X):bC tP 126 (x0::x1::x2::xs)=some (.agg [x0,x1,x2]):=by simp only[bC,al2];rfl
def bei(x0 x1 x2:C)(xs:List C):bm tP 126 (x0::x1::x2::xs)=some (.agg [x0,x1,x2]):=by simp only[bm,al2];rfl
def aVH:=faG al2 0 0 0 rfl
def aVk:=frG al2 0 0 0 rfl
def aVG:=faG al2 1 1 0 rfl
def aVj:=frG al2 1 1 0 rfl
def aVF:=faG al2 2 2 0 rfl
def bep(x0 x1 x2 x3 x4 x5 x6 x7 x8 x9 x10 x11:X)(xs:List X):bC tP 138 (x0::x1::x2::x3::x4::x5::x6::x7::x8::x9::x10::x11::xs)=some (.agg [x0,x1,x2,x3,x4,x5,x6,x7,x8,x9,x10,x11]):=by simp only[bC,anW];rfl
def beh(x0 x1 x2 x3 x4 x5 x6 x7 x8 x9 x10 x11:C)(xs:List C):bm tP 138 (x0::x1::x2::x3::x4::x5::x6::x7::x8::x9::x10::x11::xs)=some (.agg [x0,x1,x2,x3,x4,x5,x6,x7,x8,x9,x10,x11]):=by simp only[bm,anW];rfl
def aVi:=frG anW 0 0 0 rfl
def aVh:=frG anW 1 1 0 rfl
def aVg:=frG anW 2 2 8 rfl
def aVE:=faG anW 3 11 0 rfl
def aVf:=frG anW 3 11 0 rfl
def beo(x0 x1 x2 x3 x4 x5:X)(xs:List X):bC tP 140 (x0::x1::x2::x3::x4::x5::xs)=some (.agg [x0,x1,x2,x3,x4,x5]):=by simp only[bC,ai8];rfl
def a3n(x0 x1 x2 x3 x4 x5:C)(xs:List C):bm tP 140 (x0::x1::x2::x3::x4::x5::xs)=some (.agg [x0,x1,x2,x3,x4,x5]):=by simp only[bm,ai8];rfl
def aVe:=frG ai8 0 0 0 rfl
def aVd:=frG ai8 1 1 0 rfl
def aVD:=faG ai8 2 2 0 rfl
def aVc:=frG ai8 2 2 0 rfl
def aVb:=frG ai8 3 3 0 rfl
def aVa:=frG ai8 4 4 0 rfl
def aVC:=faG ai8 5 5 0 rfl
def aU9:=frG ai8 5 5 0 rfl
def ben(x0 x1 x2:X)(xs:List X):bC tP 149 (x0::x1::x2::xs)=some (.agg [x0,x1,x2]):=by simp only[bC,anV];rfl
def beg(x0 x1 x2:C)(xs:List C):bm tP 149 (x0::x1::x2::xs)=some (.agg [x0,x1,x2]):=by simp only[bm,anV];rfl
def aU8:=frG anV 0 0 0 rfl
def aVB:=faG anV 1 1 0 rfl
def aU7:=frG anV 1 1 0 rfl
def aVA:=faG anV 2 2 0 rfl
def bef(x0 x1:C)(xs:List C):bm tP 151 (x0::x1::xs)=some (.agg [x0,x1]):=by simp only[bm,azX];rfl
def aU6:=frG azX 0 0 0 rfl
def aU5:=frG azX 1 1 0 rfl
def bem(x0 x1 x2:X)(xs:List X):bC tP 153 (x0::x1::x2::xs)=some (.agg [x0,x1,x2]):=by simp only[bC,anU];rfl
def bee(x0 x1 x2:C)(xs:List C):bm tP 153 (x0::x1::x2::xs)=some (.agg [x0,x1,x2]):=by simp only[bm,anU];rfl
def aU4:=frG anU 0 0 0 rfl
def aVz:=faG anU 1 1 0 rfl
def aU3:=frG anU 1 1 0 rfl
def aVy:=faG anU 2 2 0 rfl
def aU2:=frG anU 2 2 0 rfl
def aU1:=frG aGU 0 0 0 rfl
def aU0:=frG aGU 1 1 0 rfl
def aUZ:=frG aGU 2 2 0 rfl
def a3m(x:C)(xs:List C):bm tP 171 (x::xs)=some x:=by simp only[bm,a3a];rfl
def a3l(x:C)(xs:List C):bm tP 173 (x::xs)=some x:=by simp only[bm,a24];rfl
def a3k(x:C)(xs:List C):bm tP 175 (x::xs)=some x:=by simp only[bm,a2Z];rfl
def a3j(x:C)(xs:List C):bm tP 176 (x::xs)=some x:=by simp only[bm,a2Y];rfl
def a3i(x:C)(xs:List C):bm tP 182 (x::xs)=some x:=by simp only[bm,a2X];rfl
def a3h(x:C)(xs:List C):bm tP 184 (x::xs)=some x:=by simp only[bm,a2W];rfl
def a3g(x:C)(xs:List C):bm tP 186 (x::xs)=some x:=by simp only[bm,a2V];rfl
def a3f(x:C)(xs:List C):bm tP 190 (x::xs)=some x:=by simp only[bm,a2U];rfl
def bek(x0 x1 x2 x3 x4 x5 x6 x7 x8 x9 x10 x11 x12 x13 x14 x15 x16 x17 x18 x19 x20 x21 x22 x23 x24 x25 x26 x27 x28:X)(xs:List X):bC tP 298 (x0::x1::x2::x3::x4::x5::x6::x7::x8::x9::x10::x11::x12::x13::x14::x15::x16::x17::x18::x19::x20::x21::x22::x23::x24::x25::x26::x27::x28::xs)=some (.agg [x0,x1,x2,x3,x4,x5,x6,x7,x8,x9,x10,x11,x12,x13,x14,x15,x16,x17,x18,x19,x20,x21,x22,x23,x24,x25,x26,x27,x28]):=by simp only[bC,aj0];rfl
def bed(x0 x1 x2 x3 x4 x5 x6 x7 x8 x9 x10 x11 x12 x13 x14 x15 x16 x17 x18 x19 x20 x21 x22 x23 x24 x25 x26 x27 x28:C)(xs:List C):bm tP 298 (x0::x1::x2::x3::x4::x5::x6::x7::x8::x9::x10::x11::x12::x13::x14::x15::x16::x17::x18::x19::x20::x21::x22::x23::x24::x25::x26::x27::x28::xs)=some (.agg [x0,x1,x2,x3,x4,x5,x6,x7,x8,x9,x10,x11,x12,x13,x14,x15,x16,x17,x18,x19,x20,x21,x22,x23,x24,x25,x26,x27,x28]):=by simp only[bm,aj0];rfl
def aVx:=faG aj0 0 0 0 rfl
def aUY:=frG aj0 0 0 0 rfl
def aVw:=faG aj0 1 1 0 rfl
def aUX:=frG aj0 1 1 0 rfl
def aVv:=faG aj0 2 2 11 rfl
def aUW:=frG aj0 2 2 11 rfl
def aUV:=frG aj0 3 14 8 rfl
def aVu:=faG aj0 4 23 5 rfl
def aUU:=frG aj0 4 23 5 rfl
def E25:=EG T25 T28
def E26:=EG T26 T38
def E34:=EG T34 anW
def E35:=EG T35 ai8
def E36:=EG T36 al2
def E42:=EG T42 anV
def E43:=EG T43 T9
def E44:=EG T44 azX
def E45:=EG T45 anU
def E46:=EG T46 T25
def E47:=EG T47 T93
def E53:=EG T53 T49
def E59:=EG T59 T63
def E64:=EG T64 T5
def E66:=EG T66 T3
def E94:=EG T94 aoX
def az4:ahf tP 161=some (.int .i64,159):=by simp only[ahf,bec,T3];rfl
def fi6:=fA Tryz.func6
def fi7:=fA Tryz.func7
def a1d:=fA Tryz.func10
def a1c:=fA Tryz.func11
def a1b:=fA Tryz.func13
def a1a:=fA Tryz.func14
def a09:=fA Tryz.func16
def a08:=fA Tryz.func17
def a07:=fA Tryz.func19
def aN5:=fA Tryz.func20
def a06:=fA Tryz.func22
def aKb:=cA 22
def a05:=fA Tryz.func23
def aKa:=cA 23
def a04:=fA Tryz.func24
def aJ9:=cA 24
def aN4:=fA Tryz.func25
def a03:=fA Tryz.func26
def a02:=fA Tryz.func27
def a01:=fA Tryz.func28
def a00:=fA Tryz.func29
def aN3:=fA Tryz.func31
def aJ8:=cA 31
def a0Z:=fA Tryz.func36
def a0Y:=fA Tryz.func37
def ay1:=fA Tryz.func39
def aJ7:=cA 39
def a0X:=fA Tryz.func42
def a0W:=fA Tryz.func43
def a0V:=fA Tryz.func44
def aN2:=fA Tryz.func46
def aJ6:=cA 46
def a0U:=fA Tryz.func49
def a0T:=fA Tryz.func50
def a0S:=fA Tryz.func52
def aJ5:=cA 52
def a0R:=fA Tryz.func53
def aJ4:=cA 53
def a0Q:=fA Tryz.func56
def a2y:=cA 56
def a0P:=fA Tryz.func57
def a0O:=fA Tryz.func58
def a2x:=cA 58
def a0N:=fA Tryz.func59
def a2w:=cA 59
def a0M:=fA Tryz.func60
def a2v:=cA 60
def a0L:=fA Tryz.func61
def agX:=fA Tryz.func62
def aqW:=fA Tryz.func63
def aN1:=fA Tryz.func65
def ay0:=fA Tryz.func66
def aN0:=fA Tryz.func67
def aJ3:=cA 67
def ayZ:=fA Tryz.func74
def asK:=cA 74
def a0K:=fA Tryz.func75
def a0J:=fA Tryz.func76
def aNZ:=fA Tryz.func77
def aNX:=fA Tryz.func78
def a0I:=fA Tryz.func79
def a0H:=fA Tryz.func80
def aNW:=fA Tryz.func81
def aFt:=fA Tryz.func91
def aNV:=fA Tryz.func92
def at6:=fA Tryz.func93
def aNU:=fA Tryz.func94
def a0G:=fA Tryz.func95
def aSl:=fA Tryz.func105
def aSk:=fA Tryz.func106
def aSj:=fA Tryz.func107
def aSi:=fA Tryz.func108
def aSh:=fA Tryz.func109
def abx:=cA 109
def aSg:=fA Tryz.func110
def aSf:=fA Tryz.func111
def aSe:=fA Tryz.func112
def aSd:=fA Tryz.func113
def aWt:=cA 113
def aSc:=fA Tryz.func114
def aSb:=fA Tryz.func115
def aSa:=fA Tryz.func116
def aWs:=cA 116
def aR9:=fA Tryz.func117
def aR8:=fA Tryz.func118
def aWr:=cA 118
def aR7:=fA Tryz.func119
def aR6:=fA Tryz.func120
def aWq:=cA 120
def aR5:=fA Tryz.func121
def aR4:=fA Tryz.func122
def aWp:=cA 122
def aR3:=fA Tryz.func123
def aR2:=fA Tryz.func124
def aWo:=cA 124
def aR1:=fA Tryz.func125
def aR0:=fA Tryz.func126
def aWn:=cA 126
def aRZ:=fA Tryz.func127
def aRY:=fA Tryz.func128
def aRX:=fA Tryz.func129
def aWm:=cA 129
def aRW:=fA Tryz.func130
def aRV:=fA Tryz.func131
def aWl:=cA 131
def aRU:=fA Tryz.func132
def aRT:=fA Tryz.func133
def aWk:=cA 133
def aRS:=fA Tryz.func134
def aRR:=fA Tryz.func135
def aWj:=cA 135
def aRQ:=fA Tryz.func136
def aRP:=fA Tryz.func137
def aWi:=cA 137
def aRO:=fA Tryz.func138
def aRN:=fA Tryz.func139
def aRM:=fA Tryz.func140
def aWh:=cA 140
def aRL:=fA Tryz.func141
def aRK:=fA Tryz.func142
def aWg:=cA 142
def aRJ:=fA Tryz.func143
def aRI:=fA Tryz.func144
def aRH:=fA Tryz.func145
def aRF:=fA Tryz.func146
def aRE:=fA Tryz.func147
def aRD:=fA Tryz.func148
def ass:=fA Tryz.func149
def aRC:=fA Tryz.func150
def aai:=fA Tryz.func151
def aFH:=fA Tryz.func152
def aDe:=cA 152
def aFG:=fA Tryz.func172
def aDc:=cA 172
def aRB:=fA Tryz.func173
def aRA:=fA Tryz.func174
def aRz:=fA Tryz.func182
def aef:=fA Tryz.func183
def awN:=fA Tryz.func184
def aFF:=fA Tryz.func185
def aRy:=fA Tryz.func197
def aRx:=fA Tryz.func198
def aWf:=cA 198
def aRw:=fA Tryz.func199
def aRv:=fA Tryz.func200
def aWe:=cA 200
def aRu:=fA Tryz.func203
def aRt:=fA Tryz.func204
def aRs:=fA Tryz.func205
def aRr:=fA Tryz.func206
def aRq:=fA Tryz.func207
def aRp:=fA Tryz.func208
def aWd:=cA 208
def aRo:=fA Tryz.func209
def aRn:=fA Tryz.func210
def aWc:=cA 210
def aRm:=fA Tryz.func211
def aRl:=fA Tryz.func212
def aWb:=cA 212
def aRk:=fA Tryz.func213
def aRj:=fA Tryz.func214
def aWa:=cA 214
def aRi:=fA Tryz.func215
def aV9:=cA 215
def aRh:=fA Tryz.func216
def aRf:=fA Tryz.func217
def aRe:=fA Tryz.func218
def aV8:=cA 218
def aRd:=fA Tryz.func219
def aRc:=fA Tryz.func220
def aV7:=cA 220
def aRb:=fA Tryz.func221
def aRa:=fA Tryz.func222
def aV6:=cA 222
def aQ9:=fA Tryz.func223
def aQ8:=fA Tryz.func224
def aQ7:=fA Tryz.func225
def aV5:=cA 225
def aQ6:=fA Tryz.func226
def aQ5:=fA Tryz.func227
def aV4:=cA 227
def aQ4:=fA Tryz.func228
def aV3:=cA 228
def aQ3:=fA Tryz.func229
def aQ2:=fA Tryz.func230
def aV2:=cA 230
def aQ1:=fA Tryz.func231
def aV1:=cA 231
def aQ0:=fA Tryz.func232
def aV0:=cA 232
def aQZ:=fA Tryz.func233
def aQY:=fA Tryz.func234
def aQX:=fA Tryz.func235
def aQW:=fA Tryz.func236
def aQV:=fA Tryz.func237
def aFE:=fA Tryz.func240
def aQU:=fA Tryz.func243
def aFD:=fA Tryz.func245
def asr:=fA Tryz.func246
def apG:=fA Tryz.func257
def aQT:=fA Tryz.func261
def aQS:=fA Tryz.func262
def aQR:=fA Tryz.func264
def aQQ:=fA Tryz.func265
def aQP:=fA Tryz.func266
def aQO:=fA Tryz.func267
def aVZ:=cA 267
def aQN:=fA Tryz.func268
def aQM:=fA Tryz.func269
def aVY:=cA 269
def aQL:=fA Tryz.func270
def aQK:=fA Tryz.func271
def aQJ:=fA Tryz.func272
def aQI:=fA Tryz.func273
def aQH:=fA Tryz.func274
def aQG:=fA Tryz.func275
def aQF:=fA Tryz.func276
def aQE:=fA Tryz.func277
def aVX:=cA 277
def aQD:=fA Tryz.func278
def aQC:=fA Tryz.func279
def aFC:=fA Tryz.func284
def awM:=fA Tryz.func285
def apF:=fA Tryz.func286
def aQB:=fA Tryz.func296
def asq:=fA Tryz.func297
def aQA:=fA Tryz.func300
def aFB:=fA Tryz.func304
def aDb:=cA 304
def aQz:=fA Tryz.func305
def aQy:=fA Tryz.func306
def aFA:=fA Tryz.func311
def awL:=fA Tryz.func312
def aFz:=fA Tryz.func316
def aDa:=cA 316
def aQx:=fA Tryz.func317
def aFy:=fA Tryz.func319
def aFx:=fA Tryz.func325
def aC9:=cA 325
def aFw:=fA Tryz.func326
def aFv:=fA Tryz.func330
def aQw:=fA Tryz.func332
def aQv:=fA Tryz.func333
def aQu:=fA Tryz.func334
def aFu:=fA Tryz.func335
def aQl:=oF 22
def aQk:=oF 23
def aQj:=oF 24
def aQi:=oT 31
def aXr:=tF 31
def aQh:=oT 39
def aXq:=tF 39
def aQg:=oT 46
def aXp:=tF 46
def aQf:=oT 52
def aXo:=tF 52
def aQe:=oT 53
def aXn:=tF 53
def a5L:=oF 56
def a5K:=oF 58
def a5J:=oF 59
def a5I:=oF 60
def aQd:=oT 67
def aXm:=tF 67
def awA:=oT 74
def aDU:=tF 74
def acd:=oT 109
def aZd:=oF 113
def aZc:=oF 116
def aZb:=oF 118
def aZa:=oF 120
def aY9:=oF 122
def aY8:=oF 124
def aY7:=oF 126
def aY6:=oF 129
def aY5:=oF 131
def aY4:=oF 133
def aY3:=oF 135
def aY2:=oF 137
def aY1:=oF 140
def aY0:=oF 142
def aIv:=oT 152
def aPE:=tF 152
def aIu:=oT 172
def aPD:=tF 172
def aYZ:=oF 198
def aYY:=oF 200
def aYX:=oF 208
def aYW:=oF 210
def aYV:=oF 212
def aYU:=oF 214
def aYT:=oF 215
def aYS:=oF 218
def aYR:=oF 220
def aYQ:=oF 222
def aYP:=oF 225
def aYO:=oF 227
def aYN:=oF 228
def aYM:=oF 230
def aYL:=oF 231
def aYK:=oF 232
def aYJ:=oF 267
def aYI:=oF 269
def aYH:=oF 277
def aIt:=oT 304
def aPC:=tF 304
def aIs:=oT 316
def aPB:=tF 316
def aIr:=oT 325
def aPA:=tF 325
def mp1:=mN "law.go:113"
def mp2:=mN "law.go:116"
def mp4:=mN "law.go:27"
def mp6:=mN "law.go:85"
def mp7:=mN "law.go:88"
def mp8:=mN "lex.go:206"
def mp9:=mM "parse.go:124"
def bdd:=mM "parse.go:170"
def bdc:=mM "parse.go:197"
def bdb:=mM "parse.go:201"
def bda:=mN "parse.go:209"
def bc9:=mM "parse.go:250"
def bc8:=mM "parse.go:256"
def bc7:=mN "parse.go:28"
def bc6:=mM "parse.go:31"
def bc5:=mM "parse.go:338"
def bc4:=mM "parse.go:340"
def bc3:=mM "parse.go:343"
def bc2:=mM "parse.go:352"
def bc1:=mN "parse.go:36"
def bc0:=mM "parse.go:373"
def bcZ:=mN "parse.go:39"
def bcY:=mM "parse.go:432"
def bcX:=mN "parse.go:457"
def bcW:=mM "parse.go:476"
def bcV:=mM "parse.go:496"
def bcU:=mM "parse.go:516"
def bcT:=mM "parse.go:521"
def bcS:=mM "parse.go:523"
def bcR:=mM "parse.go:545"
def bcQ:=mN "parse.go:629"
def bcP:=mM "parse.go:637"
def bcO:=mM "parse.go:639"
def bcN:=mN "parse.go:646"
def bcM:=mM "parse.go:649"
def bcL:=mM "parse.go:672"
def aEN:=mN "parse.go:712"
def bcK:=mN "parse.go:739"
def bcJ:=mN "parse.go:740"
def bcI:=mN "parse.go:757"
def bcH:=mN "parse.go:85"
def bcG:=mN "parse.go:94"
def bcF:=mN "ref.go:421"
def bcE:=mN "ref.go:430"
def bcD:=mN "ref.go:439"
def bcC:=mN "ref.go:449"
def bcB:=mN "ref.go:458"
def bcA:=mN "ref.go:479"
def bcz:=mN "ref.go:492"
def bcy:=mN "ref.go:497"
def bcx:=mN "ref.go:502"
def bcw:=mN "ref.go:519"
def bcv:=mN "ref.go:524"
def aMB:=mN "slices.go:25"
def atO:=mN "syntax.go:220"
def bcu:=mN "syntax.go:226"
def bct:=mN "syntax.go:238"
def bcs:=mN "syntax.go:243"
def bcr:=mN "syntax.go:244"
def bcq:=mN "syntax.go:251"
def bcp:=mN "syntax.go:59"
def aTF:=by have h:=plA 14 Tryz.f39 ⟨some 3,[(0,false),(1,false),(2,true)],[(4,true),(5,true),(6,true)],7,false⟩;simp only [rgC,zpl,Nat.reduceBEq,Tryz.f39] at h;exact h
def aYi:=by have h:=plA 2 Tryz.f65 ⟨none,[(0,true),(1,true),(2,true),(3,true),(4,true),(5,true),(6,true),(7,true),(8,true),(9,true),(10,true),(11,true),(12,true)],[],13,false⟩;simp only [rgC,zpl,Nat.reduceBEq,Tryz.f65] at h;exact h
def aYh:=by have h:=plA 6 Tryz.f66 ⟨some 6,[(0,false),(1,false),(2,false),(3,false),(4,false),(5,true)],[(7,true),(8,true)],9,false⟩;simp only [rgC,zpl,Nat.reduceBEq,Tryz.f66] at h;exact h
def aYg:=by have h:=plA 2 Tryz.f77 ⟨some 4,[(0,false),(1,false),(2,false),(3,true)],[(5,true),(6,true)],7,false⟩;simp only [rgC,zpl,Nat.reduceBEq,Tryz.f77] at h;exact h
def aTE:=by have h:=plA 14 Tryz.f93 ⟨some 3,[(0,false),(1,false),(2,true)],[(4,true),(5,true),(6,true)],7,false⟩;simp only [rgC,zpl,Nat.reduceBEq,Tryz.f93] at h;exact h
def aTQ:=by have h:=plA 3 Tryz.f183 ⟨some 6,[(0,false),(1,false),(2,false),(3,false),(4,false),(5,true)],[(7,true),(8,true),(9,true),(10,true),(11,true)],12,false⟩;simp only [rgC,zpl,Nat.reduceBEq,Tryz.f183] at h;exact h
def aTP:=by have h:=plA 5 Tryz.f183 ⟨some 6,[(0,false),(1,false),(2,false),(3,false),(4,false),(5,true)],[(7,true),(8,true),(9,true),(10,true),(11,true)],12,false⟩;simp only [rgC,zpl,Nat.reduceBEq,Tryz.f183] at h;exact h
def aLJ:=by have h:=plA 15 Tryz.f183 ⟨some 5,[(0,false),(1,false),(2,false),(3,false),(4,true),(6,false),(7,false)],[],8,true⟩;simp only [rgC,zpl,Nat.reduceBEq,Tryz.f183] at h;exact h
def aTO:=by have h:=plA 7 Tryz.f246 ⟨some 4,[(0,false),(1,false),(2,false),(3,true)],[(5,true),(6,true)],7,false⟩;simp only [rgC,zpl,Nat.reduceBEq,Tryz.f246] at h;exact h
def aTN:=by have h:=plA 5 Tryz.f257 ⟨some 3,[(0,false),(1,false),(2,true)],[(4,true),(5,true),(6,true)],7,false⟩;simp only [rgC,zpl,Nat.reduceBEq,Tryz.f257] at h;exact h
def aTM:=by have h:=plA 2 Tryz.f286 ⟨some 2,[(0,false),(1,true)],[(3,true),(4,true)],5,false⟩;simp only [rgC,zpl,Nat.reduceBEq,Tryz.f286] at h;exact h
def aTL:=by have h:=plA 6 Tryz.f286 ⟨some 3,[(0,false),(1,false),(2,true)],[(4,true),(5,true)],6,false⟩;simp only [rgC,zpl,Nat.reduceBEq,Tryz.f286] at h;exact h
def aTK:=by have h:=plA 3 Tryz.f297 ⟨some 2,[(0,false),(1,true)],[(3,true),(4,true)],5,false⟩;simp only [rgC,zpl,Nat.reduceBEq,Tryz.f297] at h;exact h
def aTJ:=by have h:=plA 8 Tryz.f305 ⟨none,[(0,true),(1,true),(2,true),(3,true),(4,true),(5,true),(6,true),(7,true)],[],8,true⟩;simp only [rgC,zpl,Nat.reduceBEq,Tryz.f305] at h;exact h
def aLI:=by have h:=plA 13 Tryz.f305 ⟨none,[(0,true),(1,true),(2,true),(3,true),(4,true),(5,true),(6,true),(7,true)],[],8,true⟩;simp only [rgC,zpl,Nat.reduceBEq,Tryz.f305] at h;exact h
def aLH:=by have h:=plA 11 Tryz.f312 ⟨some 3,[(0,false),(1,false),(2,true)],[(4,true),(5,true)],6,false⟩;simp only [rgC,zpl,Nat.reduceBEq,Tryz.f312] at h;exact h
def aLG:=by have h:=plA 15 Tryz.f319 ⟨some 4,[(0,false),(1,false),(2,false),(3,true)],[(5,true)],6,false⟩;simp only [rgC,zpl,Nat.reduceBEq,Tryz.f319] at h;exact h
def aTI:=by have h:=plA 8 Tryz.f326 ⟨none,[(0,true),(1,true),(2,true),(3,true),(4,true),(5,true),(6,true),(7,true)],[],8,true⟩;simp only [rgC,zpl,Nat.reduceBEq,Tryz.f326] at h;exact h
def aLF:=by have h:=plA 13 Tryz.f326 ⟨some 4,[(0,false),(1,false),(2,false),(3,true)],[(5,true),(6,true)],7,false⟩;simp only [rgC,zpl,Nat.reduceBEq,Tryz.f326] at h;exact h
def aLE:=by have h:=plA 14 Tryz.f326 ⟨none,[(0,true),(1,true),(2,true),(3,true),(4,true),(5,true),(6,true),(7,true)],[],8,true⟩;simp only [rgC,zpl,Nat.reduceBEq,Tryz.f326] at h;exact h
def aTH:=by have h:=plA 6 Tryz.f335 ⟨some 3,[(0,false),(1,false),(2,true)],[(4,true),(5,true),(6,true)],7,false⟩;simp only [rgC,zpl,Nat.reduceBEq,Tryz.f335] at h;exact h
def aTG:=by have h:=plA 8 Tryz.f335 ⟨some 3,[(0,false),(1,false),(2,true)],[(4,true),(5,true),(6,true)],7,false⟩;simp only [rgC,zpl,Nat.reduceBEq,Tryz.f335] at h;exact h
def aLD:=by have h:=plA 10 Tryz.f335 ⟨some 3,[(0,false),(1,false),(2,true)],[(4,true),(5,true),(6,true)],7,false⟩;simp only [rgC,zpl,Nat.reduceBEq,Tryz.f335] at h;exact h
def mt0:=mQ "law.go:121" 11
def mt1:=mQ "law.go:122" 14
def mt2:=mQ "law.go:135" 19
def mt3:=mQ "law.go:136" 22
def mt7:=mR "law.go:15" 2
def bco:=mQ "law.go:17" 4
def bcn:=mQ "law.go:17" 5
def bcm:=mR "law.go:17" 6
def bcl:=mQ "law.go:21" 1
def bck:=mQ "law.go:22" 4
def bcj:=mQ "law.go:23" 7
def bci:=mQ "law.go:24" 10
def bch:=mQ "law.go:25" 11
def bcg:=mQ "law.go:78" 3
def bcf:=mQ "law.go:79" 6
def bce:=mQ "law.go:80" 9
def bcd:=mR "lex.go:102" 4
def bcc:=mR "lex.go:118" 4
def bcb:=mR "lex.go:144" 4
def bca:=mR "lex.go:176" 4
def bb9:=mQ "lex.go:204" 7
def bb8:=mR "lex.go:70" 4
def bb7:=mR "lex.go:72" 7
def bb6:=mR "lex.go:77" 8
def bb5:=mR "lex.go:89" 4
def bb4:=mR "parse.go:118" 8
def bb3:=mR "parse.go:119" 9
def bb2:=mR "parse.go:132" 2
def bb1:=mR "parse.go:134" 2
def bb0:=mR "parse.go:136" 2
def bbZ:=mR "parse.go:138" 2
def bbY:=mR "parse.go:142" 2
def bbX:=mQ "parse.go:147" 1
def bbW:=mR "parse.go:147" 2
def bbV:=mR "parse.go:149" 2
def bbU:=mR "parse.go:157" 2
def bbT:=mR "parse.go:165" 2
def bbS:=mQ "parse.go:166" 3
def bbR:=mQ "parse.go:186" 2
def bbQ:=mR "parse.go:186" 4
def bbP:=mQ "parse.go:194" 3
def bbO:=mR "parse.go:194" 4
def bbN:=mQ "parse.go:199" 5
def bbM:=mQ "parse.go:204" 6
def bbL:=mQ "parse.go:226" 1
def bbK:=mR "parse.go:226" 2
def bbJ:=mR "parse.go:239" 2
def bbI:=mR "parse.go:246" 3
def bbH:=mR "parse.go:261" 2
def bbG:=mQ "parse.go:263" 4
def bbF:=mQ "parse.go:269" 3
def bbE:=mR "parse.go:269" 4
def bbD:=mR "parse.go:275" 2
def bbC:=mQ "parse.go:279" 3
def bbB:=mQ "parse.go:297" 4
def bbA:=mQ "parse.go:302" 5
def bbz:=mR "parse.go:308" 2
def bby:=mR "parse.go:316" 4
def bbx:=mR "parse.go:334" 2
def bbw:=mR "parse.go:335" 3
def bbv:=mR "parse.go:35" 4
def bbu:=mQ "parse.go:350" 6
def bbt:=mR "parse.go:350" 8
def bbs:=mR "parse.go:356" 2
def bbr:=mR "parse.go:357" 3
def bbq:=mR "parse.go:386" 2
def bbp:=mR "parse.go:387" 3
def bbo:=mR "parse.go:403" 2
def bbn:=mR "parse.go:404" 3
def bbm:=mR "parse.go:412" 2
def bbl:=mQ "parse.go:414" 4
def bbk:=mQ "parse.go:419" 5
def bbj:=mR "parse.go:427" 2
def bbi:=mR "parse.go:429" 3
def bbh:=mQ "parse.go:44" 5
def bbg:=mR "parse.go:451" 2
def bbf:=mQ "parse.go:455" 3
def bbe:=mQ "parse.go:455" 4
def bbd:=mR "parse.go:459" 5
def bbc:=mR "parse.go:473" 2
def bbb:=mR "parse.go:474" 3
def bba:=mR "parse.go:482" 2
def ba9:=mR "parse.go:483" 3
def ba8:=mR "parse.go:505" 2
def ba7:=mR "parse.go:512" 3
def ba6:=mR "parse.go:528" 2
def a7g:=mQ "parse.go:530" 4
def a7f:=mR "parse.go:535" 5
def a7e:=mQ "parse.go:540" 6
def a7d:=mR "parse.go:549" 2
def a7c:=mR "parse.go:567" 3
def a7b:=mR "parse.go:593" 2
def a7a:=mR "parse.go:595" 3
def a69:=mR "parse.go:604" 4
def a68:=mR "parse.go:615" 4
def a67:=mR "parse.go:642" 4
def a66:=mR "parse.go:657" 2
def a65:=mR "parse.go:659" 3
def a64:=mR "parse.go:679" 2
def a63:=mR "parse.go:680" 3
def a62:=mR "parse.go:683" 5
def awG:=mR "parse.go:693" 6
def awF:=mR "parse.go:693" 7
def awE:=mR "parse.go:693" 8
def awD:=mR "parse.go:698" 29
def awC:=mQ "parse.go:704" 4
def aEM:=mR "parse.go:708" 6
def aEL:=mQ "parse.go:711" 13
def a61:=mR "parse.go:722" 2
def a60:=mR "parse.go:725" 2
def a6Z:=mR "parse.go:728" 2
def a6Y:=mR "parse.go:740" 4
def a6X:=mQ "parse.go:755" 10
def a6W:=mQ "ref.go:412" 2
def a6V:=mQ "ref.go:412" 3
def a6U:=mQ "ref.go:439" 6
def a6T:=mQ "ref.go:439" 7
def a6S:=mQ "ref.go:466" 2
def a6R:=mQ "ref.go:466" 3
def a6Q:=mQ "ref.go:487" 2
def a6P:=mQ "ref.go:487" 3
def a6O:=mQ "ref.go:502" 8
def a6N:=mQ "ref.go:502" 9
def a6M:=mQ "ref.go:511" 2
def a6L:=mQ "ref.go:511" 3
def anr:=mQ "slices.go:41" 8
def anq:=mQ "slices.go:42" 9
def a6K:=mQ "syntax.go:102" 1
def a6J:=mQ "syntax.go:107" 5
def a6I:=mQ "syntax.go:114" 1
def a6H:=mQ "syntax.go:131" 1
def a6G:=mQ "syntax.go:134" 1
def a6F:=mQ "syntax.go:142" 1
def a6E:=mQ "syntax.go:156" 1
def a6D:=mQ "syntax.go:159" 1
def a6C:=mQ "syntax.go:162" 1
def a6B:=mQ "syntax.go:167" 1
def a6A:=mQ "syntax.go:173" 1
def a6z:=mR "syntax.go:174" 3
def a6y:=mQ "syntax.go:211" 2
def a6x:=mQ "syntax.go:211" 3
def a6w:=mR "syntax.go:211" 4
def a6v:=mQ "syntax.go:214" 1
def a6u:=mR "syntax.go:214" 2
def apy:=mR "syntax.go:217" 4
def apx:=mR "syntax.go:218" 5
def arV:=mQ "syntax.go:219" 7
def a6t:=mQ "syntax.go:226" 1
def a6s:=mR "syntax.go:226" 2
def a6r:=mQ "syntax.go:229" 1
def a6q:=mR "syntax.go:229" 2
def a6p:=mQ "syntax.go:237" 1
def a6o:=mR "syntax.go:237" 2
def a6n:=mQ "syntax.go:242" 1
def a6m:=mR "syntax.go:242" 2
def a6l:=mQ "syntax.go:243" 3
def a6k:=mQ "syntax.go:248" 1
def a6j:=mR "syntax.go:248" 2
def a6i:=mR "syntax.go:249" 2
def a6h:=mQ "syntax.go:249" 3
def a6g:=mQ "syntax.go:250" 1
def a6f:=mR "syntax.go:250" 2
def a6e:=mQ "syntax.go:250" 4
def a6d:=mQ "syntax.go:255" 1
def a6c:=mQ "syntax.go:258" 1
def a6b:=mQ "syntax.go:261" 1
def a6a:=mQ "syntax.go:264" 1
def a59:=mQ "syntax.go:270" 2
def a58:=mQ "syntax.go:270" 3
def a57:=mQ "syntax.go:275" 2
def a56:=mQ "syntax.go:275" 3
def a55:=mQ "syntax.go:280" 2
def a54:=mQ "syntax.go:280" 3
def a53:=mQ "syntax.go:285" 2
def a52:=mQ "syntax.go:285" 3
def a50:=mQ "syntax.go:290" 2
def a5Z:=mQ "syntax.go:290" 3
def a5Y:=mQ "syntax.go:291" 2
def a5X:=mQ "syntax.go:291" 3
def a5W:=mQ "syntax.go:292" 2
def a5V:=mQ "syntax.go:292" 3
def a5U:=mQ "syntax.go:296" 2
def a5T:=mQ "syntax.go:296" 3
def aih:=mQ "syntax.go:34" 7
def akf:=mQ "syntax.go:35" 2
def a5S:=mQ "syntax.go:58" 1
def a5R:=mQ "syntax.go:59" 3
def a5Q:=mR "syntax.go:63" 5
def a5P:=mQ "syntax.go:94" 1
def a5O:=mR "value.go:15" 2
def a5N:=mQ "value.go:33" 1
def aZA:afY 30=false:=rfl
def aZz:afY 38=false:=rfl
def aZy:afY 45=false:=rfl
def aZx:afY 51=false:=rfl
def mixed:Tryz.prog.follows .mixedOrders=true:=by kernel_rfl
