/- A part. Conditions: none. -/
import Derived.Test.YtghkmcffifpkeaaGreatPa4
import Derived.Test.YtghkmcffifpkeaaGreatProg
import Derived.KernelRfl
set_option linter.all false
set_option maxRecDepth 100000
set_option maxHeartbeats 64000000
namespace Go.Proofs.YtghkmcffifpkeaaGreat
open Pe
def mtL:List (String×Nat):=[("law.go:15",2),("law.go:17",6),("lex.go:102",4),("lex.go:118",4),("lex.go:144",4),("lex.go:176",4),("lex.go:70",4),("lex.go:72",7),("lex.go:77",8),("lex.go:89",4),("parse.go:118",8),("parse.go:119",9),("parse.go:132",2),("parse.go:134",2),("parse.go:136",2),("parse.go:138",2),("parse.go:142",2),("parse.go:147",2),("parse.go:149",2),("parse.go:157",2),("parse.go:165",2),("parse.go:186",4),("parse.go:194",4),("parse.go:226",2),("parse.go:239",2),("parse.go:246",3),("parse.go:261",2),("parse.go:269",4),("parse.go:275",2),("parse.go:308",2),("parse.go:316",4),("parse.go:334",2),("parse.go:335",3),("parse.go:35",4),("parse.go:350",8),("parse.go:356",2),("parse.go:357",3),("parse.go:386",2),("parse.go:387",3),("parse.go:403",2),("parse.go:404",3),("parse.go:412",2),("parse.go:427",2),("parse.go:429",3),("parse.go:451",2),("parse.go:459",5),("parse.go:473",2),("parse.go:474",3),("parse.go:482",2),("parse.go:483",3),("parse.go:505",2),("parse.go:512",3),("parse.go:528",2),("parse.go:535",5),("parse.go:549",2),("parse.go:567",3),("parse.go:593",2),("parse.go:595",3),("parse.go:604",4),("parse.go:615",4),("parse.go:642",4),("parse.go:657",2),("parse.go:659",3),("parse.go:679",2),("parse.go:680",3),("parse.go:683",5),("parse.go:693",6),("parse.go:693",7),("parse.go:693",8),("parse.go:698",29),("parse.go:708",6),("parse.go:722",2),("parse.go:725",2),("parse.go:728",2),("parse.go:740",4),("ref.go:10",2),("ref.go:1024",2),("ref.go:103",4),("ref.go:1038",2),("ref.go:1052",2),("ref.go:110",6),("ref.go:114",6),("ref.go:119",4),("ref.go:12",2),("ref.go:14",2),("ref.go:144",4),("ref.go:161",4),("ref.go:173",4),("ref.go:181",6),("ref.go:216",2),("ref.go:229",4),("ref.go:238",13),("ref.go:255",4),("ref.go:264",6),("ref.go:276",4),("ref.go:290",4),("ref.go:304",4),("ref.go:307",2),("ref.go:310",2),("ref.go:311",3),("ref.go:318",2),("ref.go:319",3),("ref.go:323",7),("ref.go:326",2),("ref.go:327",3),("ref.go:330",6),("ref.go:343",2),("ref.go:344",3),("ref.go:355",6),("ref.go:356",9),("ref.go:399",9),("ref.go:440",9),("ref.go:462",8),("ref.go:466",11),("ref.go:468",13),("ref.go:487",6),("ref.go:506",4),("ref.go:542",4),("ref.go:543",7),("ref.go:591",6),("ref.go:592",9),("ref.go:60",4),("ref.go:601",9),("ref.go:63",4),("ref.go:632",16),("ref.go:647",6),("ref.go:655",4),("ref.go:66",6),("ref.go:672",4),("ref.go:682",4),("ref.go:69",4),("ref.go:699",18),("ref.go:732",9),("ref.go:755",5),("ref.go:755",6),("ref.go:763",12),("ref.go:796",4),("ref.go:797",7),("ref.go:819",4),("ref.go:820",7),("ref.go:84",4),("ref.go:844",4),("ref.go:845",7),("ref.go:87",8),("ref.go:873",7),("ref.go:887",4),("ref.go:888",7),("ref.go:932",4),("ref.go:933",7),("ref.go:94",11),("ref.go:965",4),("syntax.go:174",3),("syntax.go:211",4),("syntax.go:214",2),("syntax.go:217",4),("syntax.go:218",5),("syntax.go:226",2),("syntax.go:229",2),("syntax.go:237",2),("syntax.go:242",2),("syntax.go:248",2),("syntax.go:249",2),("syntax.go:250",2),("syntax.go:63",5),("value.go:15",2)]
def mtP:List String:=["parse.go:124","parse.go:170","parse.go:197","parse.go:201","parse.go:250","parse.go:256","parse.go:31","parse.go:338","parse.go:340","parse.go:343","parse.go:352","parse.go:373","parse.go:432","parse.go:476","parse.go:496","parse.go:516","parse.go:521","parse.go:523","parse.go:545","parse.go:637","parse.go:639","parse.go:649","parse.go:672"]
def mtF(po:String):Option Nat->Bool
 | some d=>mtL.any λp=>p.2 == d&&p.1 == po
 | none=>mtP.contains po
def afl(f:Nat):Bool:=[187].contains f
def FnI(P:Program)(f:Nat)(fn:Func):Prop:=as5 mtF P f=true/\P.funcs[f]?=some fn
def acW(f:Nat):Bool:=[241,242,109,31,39,46,52,53,65,66,67,74,75,76,77,78,79,80,81,91,92,93,94,95,152,172,173,174,182,183,184,185,246,257,284,286,296,297,304,305,311,312,316,317,319,325,326,330,332,333,334,335,187].contains f
def tkF(f:Nat):Bool:=[187].contains f
noncomputable abbrev tP:TT:=TT.of Tryz.prog
def cA(f:Nat)(h:d9 Tryz.prog f=true:=by kernel_rfl):d9 Tryz.prog f=true:=h
def oT(f:Nat)(h:acW f=true:=by exact rfl):acW f=true:=h
def oF(f:Nat)(h:acW f=false:=by exact rfl):acW f=false:=h
def tF(f:Nat)(h:tkF f=false:=by exact rfl):tkF f=false:=h
def cT(f:Nat)(a:acW f=true:=by exact rfl)(b:d9 Tryz.prog f=true:=by kernel_rfl)(c:tkF f=false:=by exact rfl):acW f=true/\d9 Tryz.prog f=true/\tkF f=false:=⟨a,b,c⟩
def cF(f:Nat)(a:acW f=false:=by exact rfl)(b:d9 Tryz.prog f=true:=by kernel_rfl)(c:tkF f=false:=by exact rfl):acW f=false/\d9 Tryz.prog f=true/\tkF f=false:=⟨a,b,c⟩
def mQ(s:String)(d:Nat)(h:mtF s (some d)=false:=by kernel_rfl):mtF s (some d)=false:=h
def mR(s:String)(d:Nat)(h:mtF s (some d)=true:=by kernel_rfl):mtF s (some d)=true:=h
def mN(s:String)(h:mtF s none=false:=by kernel_rfl):mtF s none=false:=h
def mM(s:String)(h:mtF s none=true:=by kernel_rfl):mtF s none=true:=h
def fA{f:Nat}{fn:Func}(g:Tryz.prog.funcs[f]?=some fn)(h:as5 mtF Tryz.prog f=true:=by kernel_rfl):FnI Tryz.prog f fn:=⟨h,g⟩
def rgC(n:Nat):Code->Option (Array Oper)
 | .skip=>none
 | .region k o _=>bif k==n then some o else none
 | .seq a b=>(rgC n a).or (rgC n b)
 | .cond _ a b=>(rgC n a).or (rgC n b)
 | .block _ b=>rgC n b
 | .loop b=>rgC n b
 | .rangeFunc _ _ _ _=>none
 | .exit _=>none
 | .scope b=>rgC n b
 | .label _=>none
 | .goto _=>none
 | .ret=>none
 | .refuse _=>none
def plA(n:Nat)(f:Func)(p:Pn)(h:(rgC n (f.body.getD .skip)).map (aiP acW)=some (some p):=by kernel_rfl):(rgC n (f.body.getD .skip)).map (aiP acW)=some (some p):=h
def zpl:=And.intro (And.intro @Option.getD_some.{0} @Option.none_or.{0}) (And.intro (And.intro @Option.some_or.{0} @Option.or_none.{0}) (And.intro (And.intro @cond_true.{1} @cond_false.{1}) (And.intro @Option.map_some.{0,0} @Option.some.injEq.{0})))
def frG{T:TT}{t:Nat}{d:TD}(h:T t=some d)(j o z:Nat)(g:d.fields[j]?=some (o,z+1))(cs:List C):fF T t j (.of (.ref cs))=Pe.out (.of (.ref (cs.drop o))):=by simp only [fF,aig,h,db,g];rfl
def faG{T:TT}{t:Nat}{d:TD}(h:T t=some d)(j o z:Nat)(g:d.fields[j]?=some (o,z+1))(r a:Nat):fF T t j (.ptr r a)=Pe.out (.ptr r (a+o)):=by simp only [fF,aig,h,db,g];rfl
def fxG{T:TT}{t:Nat}{d:TD}(h:T t=some d)(j o z u:Nat)(g:d.fields[j]?=some (o,z))(k:aoT d.und j=some u)(xs:List X):afO T t j (.agg xs)=bE (bx T u (xs.drop o)):=by simp only [afO,h,g,k]
def fcG{T:TT}{t:Nat}{d:TD}(h:T t=some d)(j o z u:Nat)(g:d.fields[j]?=some (o,z))(k:aoT d.und j=some u)(cs:List C):afO T t j (.of (.agg cs))=bE ((bi T u (cs.drop o)).map .of):=by simp only [afO,h,g,k]
def EG{T:TT}{t e a b:Nat}{f:Bool}{z:List Value}{q:List (Nat×Nat)}{d:TD}(h:T t=some ⟨.slice e,a,b,f,z,q⟩)(g:T e=some d):Pe.elemOf T t=some (e,d):=by simp only [Pe.elemOf,h,g,aJ]
def UG{T:TT}{t a b:Nat}{y:TypeDesc}{f:Bool}{z:List Value}{q:List (Nat×Nat)}(h:T t=some ⟨y,a,b,f,z,q⟩):(T t).map (·.und)=some y:=by rw[h];rfl
def T2:tP 2=some ⟨.int .i64,1,8,false,[.int .i64 0],[]⟩:=by kernel_rfl
def T3:tP 3=some ⟨.int .i64,1,8,false,[.int .i64 0],[]⟩:=by kernel_rfl
def T4:tP 4=some ⟨.bool,1,1,false,[.bool false],[]⟩:=by kernel_rfl
def T5:tP 5=some ⟨.int .u8,1,1,false,[.int .u8 0],[]⟩:=by kernel_rfl
def T6:tP 6=some ⟨.int .u8,1,1,false,[.int .u8 0],[]⟩:=by kernel_rfl
def T9:tP 9=some ⟨.string,1,16,false,[.string ⟨#[]⟩],[]⟩:=by kernel_rfl
def T24:tP 24=some ⟨.struct #[⟨ "Kind",3,0,false,"","",0⟩,⟨ "N",3,1,false,"","",8⟩,⟨ "S",9,2,false,"","",16⟩],3,32,true,[.int .i64 0,.int .i64 0,.string ⟨#[]⟩],[(0,1),(1,1),(2,1)]⟩:=by kernel_rfl
def T25:tP 25=some ⟨.slice 28,1,24,false,[.slice none 0 0],[]⟩:=by kernel_rfl
def T26:tP 26=some ⟨.slice 38,1,24,false,[.slice none 0 0],[]⟩:=by kernel_rfl
def T28:tP 28=some ⟨.struct #[⟨ "Op",3,0,false,"","",0⟩,⟨ "V",24,1,false,"","",8⟩,⟨ "Table",9,4,false,"","",40⟩,⟨ "Name",9,5,false,"","",56⟩,⟨ "Distinct",4,6,false,"","",72⟩,⟨ "Kids",25,7,false,"","",80⟩,⟨ "Sub",26,8,false,"","",104⟩],9,128,true,[.int .i64 0,.int .i64 0,.int .i64 0,.string ⟨#[]⟩,.string ⟨#[]⟩,.string ⟨#[]⟩,.bool false,.slice none 0 0,.slice none 0 0],[(0,1),(1,3),(4,1),(5,1),(6,1),(7,1),(8,1)]⟩:=by kernel_rfl
def T29:tP 29=some ⟨.int .i64,1,8,false,[.int .i64 0],[]⟩:=by kernel_rfl
def T33:tP 33=some ⟨.func #[9] #[4] false,1,8,false,[.nilFunc],[]⟩:=by kernel_rfl
def T34:tP 34=some ⟨.slice 138,1,24,false,[.slice none 0 0],[]⟩:=by kernel_rfl
def T35:tP 35=some ⟨.slice 140,1,24,false,[.slice none 0 0],[]⟩:=by kernel_rfl
def T36:tP 36=some ⟨.slice 126,1,24,false,[.slice none 0 0],[]⟩:=by kernel_rfl
def T38:tP 38=some ⟨.struct #[⟨ "Op",3,0,false,"","",0⟩,⟨ "All",4,1,false,"","",8⟩,⟨ "Kids",26,2,false,"","",16⟩,⟨ "Distinct",4,3,false,"","",40⟩,⟨ "Items",34,4,false,"","",48⟩,⟨ "From",35,5,false,"","",72⟩,⟨ "Where",25,6,false,"","",96⟩,⟨ "Group",25,7,false,"","",120⟩,⟨ "Having",25,8,false,"","",144⟩,⟨ "Order",36,9,false,"","",168⟩,⟨ "Limit",3,10,false,"","",192⟩,⟨ "Skip",3,11,false,"","",200⟩],12,208,true,[.int .i64 0,.bool false,.slice none 0 0,.bool false,.slice none 0 0,.slice none 0 0,.slice none 0 0,.slice none 0 0,.slice none 0 0,.slice none 0 0,.int .i64 0,.int .i64 0],[(0,1),(1,1),(2,1),(3,1),(4,1),(5,1),(6,1),(7,1),(8,1),(9,1),(10,1),(11,1)]⟩:=by kernel_rfl
def T42:tP 42=some ⟨.slice 149,1,24,false,[.slice none 0 0],[]⟩:=by kernel_rfl
def T43:tP 43=some ⟨.slice 9,1,24,false,[.slice none 0 0],[]⟩:=by kernel_rfl
def T44:tP 44=some ⟨.slice 151,1,24,false,[.slice none 0 0],[]⟩:=by kernel_rfl
def T45:tP 45=some ⟨.slice 153,1,24,false,[.slice none 0 0],[]⟩:=by kernel_rfl
def T46:tP 46=some ⟨.slice 25,1,24,false,[.slice none 0 0],[]⟩:=by kernel_rfl
def T47:tP 47=some ⟨.slice 93,1,24,false,[.slice none 0 0],[]⟩:=by kernel_rfl
def T49:tP 49=some ⟨.struct #[⟨ "Kind",3,0,false,"","",0⟩,⟨ "Table",9,1,false,"","",8⟩,⟨ "Name",9,2,false,"","",24⟩,⟨ "Cols",42,3,false,"","",40⟩,⟨ "Names",43,4,false,"","",64⟩,⟨ "Unique",4,5,false,"","",88⟩,⟨ "Keys",44,6,false,"","",96⟩,⟨ "Refs",45,7,false,"","",120⟩,⟨ "Checks",25,8,false,"","",144⟩,⟨ "Rows",46,9,false,"","",168⟩,⟨ "Sets",47,10,false,"","",192⟩,⟨ "Where",25,11,false,"","",216⟩,⟨ "Q",26,12,false,"","",240⟩],13,264,true,[.int .i64 0,.string ⟨#[]⟩,.string ⟨#[]⟩,.slice none 0 0,.slice none 0 0,.bool false,.slice none 0 0,.slice none 0 0,.slice none 0 0,.slice none 0 0,.slice none 0 0,.slice none 0 0,.slice none 0 0],[(0,1),(1,1),(2,1),(3,1),(4,1),(5,1),(6,1),(7,1),(8,1),(9,1),(10,1),(11,1),(12,1)]⟩:=by kernel_rfl
def T53:tP 53=some ⟨.slice 49,1,24,false,[.slice none 0 0],[]⟩:=by kernel_rfl
def T56:tP 56=some ⟨.func #[28] #[4] false,1,8,false,[.nilFunc],[]⟩:=by kernel_rfl
def T57:tP 57=some ⟨.func #[38] #[4] false,1,8,false,[.nilFunc],[]⟩:=by kernel_rfl
def T59:tP 59=some ⟨.slice 63,1,24,false,[.slice none 0 0],[]⟩:=by kernel_rfl
def T63:tP 63=some ⟨.struct #[⟨ "Kind",3,0,false,"","",0⟩,⟨ "At",3,1,false,"","",8⟩,⟨ "Size",3,2,false,"","",16⟩,⟨ "N",3,3,false,"","",24⟩,⟨ "S",9,4,false,"","",32⟩],5,48,true,[.int .i64 0,.int .i64 0,.int .i64 0,.int .i64 0,.string ⟨#[]⟩],[(0,1),(1,1),(2,1),(3,1),(4,1)]⟩:=by kernel_rfl
def T64:tP 64=some ⟨.slice 5,1,24,false,[.slice none 0 0],[]⟩:=by kernel_rfl
def T66:tP 66=some ⟨.slice 3,1,24,false,[.slice none 0 0],[]⟩:=by kernel_rfl
def T93:tP 93=some ⟨.struct #[⟨ "Name",9,0,false,"","",0⟩,⟨ "E",28,1,false,"","",16⟩],10,144,true,[.string ⟨#[]⟩,.int .i64 0,.int .i64 0,.int .i64 0,.string ⟨#[]⟩,.string ⟨#[]⟩,.string ⟨#[]⟩,.bool false,.slice none 0 0,.slice none 0 0],[(0,1),(1,9)]⟩:=by kernel_rfl
def T94:tP 94=some ⟨.slice 101,1,24,false,[.slice none 0 0],[]⟩:=by kernel_rfl
def an8:tP 101=some ⟨.struct #[⟨ "at",3,0,false,"","tabellion/parse",0⟩,⟨ "s",49,1,false,"","tabellion/parse",8⟩],14,272,true,[.int .i64 0,.int .i64 0,.string ⟨#[]⟩,.string ⟨#[]⟩,.slice none 0 0,.slice none 0 0,.bool false,.slice none 0 0,.slice none 0 0,.slice none 0 0,.slice none 0 0,.slice none 0 0,.slice none 0 0,.slice none 0 0],[(0,1),(1,13)]⟩:=by kernel_rfl
def ayV:tP 105=some ⟨.struct #[⟨ "nodes",3,0,false,"","tabellion/syntax",0⟩,⟨ "depth",3,1,false,"","tabellion/syntax",8⟩],2,16,true,[.int .i64 0,.int .i64 0],[(0,1),(1,1)]⟩:=by kernel_rfl
def acu:tP 112=some ⟨.struct #[⟨ "l",59,0,false,"","tabellion/parse",0⟩,⟨ "at",3,1,false,"","tabellion/parse",24⟩,⟨ "end",3,2,false,"","tabellion/parse",32⟩,⟨ "prims",25,3,false,"","tabellion/parse",40⟩,⟨ "parts",26,4,false,"","tabellion/parse",64⟩,⟨ "srcs",35,5,false,"","tabellion/parse",88⟩],6,112,true,[.slice none 0 0,.int .i64 0,.int .i64 0,.slice none 0 0,.slice none 0 0,.slice none 0 0],[(0,1),(1,1),(2,1),(3,1),(4,1),(5,1)]⟩:=by kernel_rfl
def an7:tP 114=some ⟨.struct #[⟨ "at",3,0,false,"","tabellion/parse",0⟩,⟨ "e",29,1,false,"","tabellion/parse",8⟩],2,16,true,[.int .i64 0,.int .i64 0],[(0,1),(1,1)]⟩:=by kernel_rfl
def alo:tP 126=some ⟨.struct #[⟨ "Name",9,0,false,"","",0⟩,⟨ "At",3,1,false,"","",16⟩,⟨ "Down",4,2,false,"","",24⟩],3,32,true,[.string ⟨#[]⟩,.int .i64 0,.bool false],[(0,1),(1,1),(2,1)]⟩:=by kernel_rfl
def am4:tP 138=some ⟨.struct #[⟨ "Star",4,0,false,"","",0⟩,⟨ "Table",9,1,false,"","",8⟩,⟨ "E",28,2,false,"","",24⟩,⟨ "As",9,11,false,"","",152⟩],12,168,true,[.bool false,.string ⟨#[]⟩,.int .i64 0,.int .i64 0,.int .i64 0,.string ⟨#[]⟩,.string ⟨#[]⟩,.string ⟨#[]⟩,.bool false,.slice none 0 0,.slice none 0 0,.string ⟨#[]⟩],[(0,1),(1,1),(2,9),(11,1)]⟩:=by kernel_rfl
def aio:tP 140=some ⟨.struct #[⟨ "Kind",3,0,false,"","",0⟩,⟨ "Name",9,1,false,"","",8⟩,⟨ "As",9,2,false,"","",24⟩,⟨ "Sub",26,3,false,"","",40⟩,⟨ "Kids",35,4,false,"","",64⟩,⟨ "On",25,5,false,"","",88⟩],6,112,true,[.int .i64 0,.string ⟨#[]⟩,.string ⟨#[]⟩,.slice none 0 0,.slice none 0 0,.slice none 0 0],[(0,1),(1,1),(2,1),(3,1),(4,1),(5,1)]⟩:=by kernel_rfl
def am3:tP 149=some ⟨.struct #[⟨ "Name",9,0,false,"","",0⟩,⟨ "Type",3,1,false,"","",16⟩,⟨ "NotNull",4,2,false,"","",24⟩],3,32,true,[.string ⟨#[]⟩,.int .i64 0,.bool false],[(0,1),(1,1),(2,1)]⟩:=by kernel_rfl
def ayU:tP 151=some ⟨.struct #[⟨ "Primary",4,0,false,"","",0⟩,⟨ "Names",43,1,false,"","",8⟩],2,32,true,[.bool false,.slice none 0 0],[(0,1),(1,1)]⟩:=by kernel_rfl
def am2:tP 153=some ⟨.struct #[⟨ "Names",43,0,false,"","",0⟩,⟨ "Table",9,1,false,"","",24⟩,⟨ "To",43,2,false,"","",40⟩],3,64,true,[.slice none 0 0,.string ⟨#[]⟩,.slice none 0 0],[(0,1),(1,1),(2,1)]⟩:=by kernel_rfl
def aFI:tP 159=some ⟨.struct #[⟨ "least",3,0,false,"","tabellion/syntax",0⟩,⟨ "most",3,1,false,"","tabellion/syntax",8⟩,⟨ "subs",3,2,false,"","tabellion/syntax",16⟩],3,24,true,[.int .i64 0,.int .i64 0,.int .i64 0],[(0,1),(1,1),(2,1)]⟩:=by kernel_rfl
def bce:tP 161=some ⟨.map 3 159,1,8,false,[.map none],[]⟩:=by kernel_rfl
def a04:tP 171=some ⟨.func #[126] #[4] false,1,8,false,[.nilFunc],[]⟩:=by kernel_rfl
def a03:tP 173=some ⟨.func #[138] #[4] false,1,8,false,[.nilFunc],[]⟩:=by kernel_rfl
def a02:tP 175=some ⟨.func #[140] #[4] false,1,8,false,[.nilFunc],[]⟩:=by kernel_rfl
def a01:tP 176=some ⟨.func #[25] #[4] false,1,8,false,[.nilFunc],[]⟩:=by kernel_rfl
def a00:tP 182=some ⟨.func #[149] #[4] false,1,8,false,[.nilFunc],[]⟩:=by kernel_rfl
def a0Z:tP 184=some ⟨.func #[151] #[4] false,1,8,false,[.nilFunc],[]⟩:=by kernel_rfl
def a0Y:tP 186=some ⟨.func #[153] #[4] false,1,8,false,[.nilFunc],[]⟩:=by kernel_rfl
def a0X:tP 190=some ⟨.func #[93] #[4] false,1,8,false,[.nilFunc],[]⟩:=by kernel_rfl
def bcd:tP 245=some ⟨.struct #[⟨ "addr",243,0,false,"","strings",0⟩,⟨ "buf",64,1,false,"","strings",8⟩],2,32,true,[.pointer none,.slice none 0 0],[(0,1),(1,1)]⟩:=by kernel_rfl
def aji:tP 298=some ⟨.struct #[⟨ "query",4,0,false,"","tabellion/parse",0⟩,⟨ "wrapped",4,1,false,"","tabellion/parse",1⟩,⟨ "q",38,2,false,"","tabellion/parse",8⟩,⟨ "e",28,14,false,"","tabellion/parse",216⟩,⟨ "f",140,23,false,"","tabellion/parse",344⟩],29,456,true,[.bool false,.bool false,.int .i64 0,.bool false,.slice none 0 0,.bool false,.slice none 0 0,.slice none 0 0,.slice none 0 0,.slice none 0 0,.slice none 0 0,.slice none 0 0,.int .i64 0,.int .i64 0,.int .i64 0,.int .i64 0,.int .i64 0,.string ⟨#[]⟩,.string ⟨#[]⟩,.string ⟨#[]⟩,.bool false,.slice none 0 0,.slice none 0 0,.int .i64 0,.string ⟨#[]⟩,.string ⟨#[]⟩,.slice none 0 0,.slice none 0 0,.slice none 0 0],[(0,1),(1,1),(2,12),(14,9),(23,6)]⟩:=by kernel_rfl
def P2(x:X)(xs:List X):bx tP 2 (x::xs)=some x:=by simp only[bx,T2];rfl
def U3:=UG T3
def P3(x:X)(xs:List X):bx tP 3 (x::xs)=some x:=by simp only[bx,T3];rfl
def Q3(x:C)(xs:List C):bi tP 3 (x::xs)=some x:=by simp only[bi,T3];rfl
def P4(x:X)(xs:List X):bx tP 4 (x::xs)=some x:=by simp only[bx,T4];rfl
def Q4(x:C)(xs:List C):bi tP 4 (x::xs)=some x:=by simp only[bi,T4];rfl
def Q5(x:C)(xs:List C):bi tP 5 (x::xs)=some x:=by simp only[bi,T5];rfl
def P6(x:X)(xs:List X):bx tP 6 (x::xs)=some x:=by simp only[bx,T6];rfl
def U9:=UG T9
def P9(x:X)(xs:List X):bx tP 9 (x::xs)=some x:=by simp only[bx,T9];rfl
def Q9(x:C)(xs:List C):bi tP 9 (x::xs)=some x:=by simp only[bi,T9];rfl
def P24(x0 x1 x2:X)(xs:List X):bx tP 24 (x0::x1::x2::xs)=some (.agg [x0,x1,x2]):=by simp only[bx,T24];rfl
def Q24(x0 x1 x2:C)(xs:List C):bi tP 24 (x0::x1::x2::xs)=some (.agg [x0,x1,x2]):=by simp only[bi,T24];rfl
def aY1:=frG T24 0 0 0 rfl
def aY0:=frG T24 1 1 0 rfl
def aYZ:=frG T24 2 2 0 rfl
def P25(x:X)(xs:List X):bx tP 25 (x::xs)=some x:=by simp only[bx,T25];rfl
def Q25(x:C)(xs:List C):bi tP 25 (x::xs)=some x:=by simp only[bi,T25];rfl
def P26(x:X)(xs:List X):bx tP 26 (x::xs)=some x:=by simp only[bx,T26];rfl
def Q26(x:C)(xs:List C):bi tP 26 (x::xs)=some x:=by simp only[bi,T26];rfl
def P28(x0 x1 x2 x3 x4 x5 x6 x7 x8:X)(xs:List X):bx tP 28 (x0::x1::x2::x3::x4::x5::x6::x7::x8::xs)=some (.agg [x0,x1,x2,x3,x4,x5,x6,x7,x8]):=by simp only[bx,T28];rfl
def Q28(x0 x1 x2 x3 x4 x5 x6 x7 x8:C)(xs:List C):bi tP 28 (x0::x1::x2::x3::x4::x5::x6::x7::x8::xs)=some (.agg [x0,x1,x2,x3,x4,x5,x6,x7,x8]):=by simp only[bi,T28];rfl
def aZ0:=faG T28 0 0 0 rfl
def aYY:=frG T28 0 0 0 rfl
def aZZ:=faG T28 1 1 2 rfl
def aYX:=frG T28 1 1 2 rfl
def aZY:=faG T28 2 4 0 rfl
def aYW:=frG T28 2 4 0 rfl
def aZX:=faG T28 3 5 0 rfl
def aYV:=frG T28 3 5 0 rfl
def aZW:=faG T28 4 6 0 rfl
def aYU:=frG T28 4 6 0 rfl
def aZV:=faG T28 5 7 0 rfl
def aYT:=frG T28 5 7 0 rfl
def aZU:=faG T28 6 8 0 rfl
def aYS:=frG T28 6 8 0 rfl
def P29(x:X)(xs:List X):bx tP 29 (x::xs)=some x:=by simp only[bx,T29];rfl
def Q29(x:C)(xs:List C):bi tP 29 (x::xs)=some x:=by simp only[bi,T29];rfl
def Q33(x:C)(xs:List C):bi tP 33 (x::xs)=some x:=by simp only[bi,T33];rfl
def P34(x:X)(xs:List X):bx tP 34 (x::xs)=some x:=by simp only[bx,T34];rfl
def Q34(x:C)(xs:List C):bi tP 34 (x::xs)=some x:=by simp only[bi,T34];rfl
def P35(x:X)(xs:List X):bx tP 35 (x::xs)=some x:=by simp only[bx,T35];rfl
def Q35(x:C)(xs:List C):bi tP 35 (x::xs)=some x:=by simp only[bi,T35];rfl
def P36(x:X)(xs:List X):bx tP 36 (x::xs)=some x:=by simp only[bx,T36];rfl
def Q36(x:C)(xs:List C):bi tP 36 (x::xs)=some x:=by simp only[bi,T36];rfl
def P38(x0 x1 x2 x3 x4 x5 x6 x7 x8 x9 x10 x11:X)(xs:List X):bx tP 38 (x0::x1::x2::x3::x4::x5::x6::x7::x8::x9::x10::x11::xs)=some (.agg [x0,x1,x2,x3,x4,x5,x6,x7,x8,x9,x10,x11]):=by simp only[bx,T38];rfl
def Q38(x0 x1 x2 x3 x4 x5 x6 x7 x8 x9 x10 x11:C)(xs:List C):bi tP 38 (x0::x1::x2::x3::x4::x5::x6::x7::x8::x9::x10::x11::xs)=some (.agg [x0,x1,x2,x3,x4,x5,x6,x7,x8,x9,x10,x11]):=by simp only[bi,T38];rfl
def aYR:=frG T38 0 0 0 rfl
def aYQ:=frG T38 1 1 0 rfl
def aYP:=frG T38 2 2 0 rfl
def aYO:=frG T38 3 3 0 rfl
def aZT:=faG T38 4 4 0 rfl
def aYN:=frG T38 4 4 0 rfl
def aZS:=faG T38 5 5 0 rfl
def aYM:=frG T38 5 5 0 rfl
def aZR:=faG T38 6 6 0 rfl
def aYL:=frG T38 6 6 0 rfl
def aZQ:=faG T38 7 7 0 rfl
def aYK:=frG T38 7 7 0 rfl
def aZP:=faG T38 8 8 0 rfl
def aYJ:=frG T38 8 8 0 rfl
def aZO:=faG T38 9 9 0 rfl
def aYI:=frG T38 9 9 0 rfl
def aT2:=faG T38 10 10 0 rfl
def aTs:=frG T38 10 10 0 rfl
def aT1:=faG T38 11 11 0 rfl
def aTr:=frG T38 11 11 0 rfl
def P42(x:X)(xs:List X):bx tP 42 (x::xs)=some x:=by simp only[bx,T42];rfl
def Q42(x:C)(xs:List C):bi tP 42 (x::xs)=some x:=by simp only[bi,T42];rfl
def Q43(x:C)(xs:List C):bi tP 43 (x::xs)=some x:=by simp only[bi,T43];rfl
def P44(x:X)(xs:List X):bx tP 44 (x::xs)=some x:=by simp only[bx,T44];rfl
def Q44(x:C)(xs:List C):bi tP 44 (x::xs)=some x:=by simp only[bi,T44];rfl
def P45(x:X)(xs:List X):bx tP 45 (x::xs)=some x:=by simp only[bx,T45];rfl
def Q45(x:C)(xs:List C):bi tP 45 (x::xs)=some x:=by simp only[bi,T45];rfl
def P46(x:X)(xs:List X):bx tP 46 (x::xs)=some x:=by simp only[bx,T46];rfl
def Q46(x:C)(xs:List C):bi tP 46 (x::xs)=some x:=by simp only[bi,T46];rfl
def P47(x:X)(xs:List X):bx tP 47 (x::xs)=some x:=by simp only[bx,T47];rfl
def Q47(x:C)(xs:List C):bi tP 47 (x::xs)=some x:=by simp only[bi,T47];rfl
def P49(x0 x1 x2 x3 x4 x5 x6 x7 x8 x9 x10 x11 x12:X)(xs:List X):bx tP 49 (x0::x1::x2::x3::x4::x5::x6::x7::x8::x9::x10::x11::x12::xs)=some (.agg [x0,x1,x2,x3,x4,x5,x6,x7,x8,x9,x10,x11,x12]):=by simp only[bx,T49];rfl
def Q49(x0 x1 x2 x3 x4 x5 x6 x7 x8 x9 x10 x11 x12:C)(xs:List C):bi tP 49 (x0::x1::x2::x3::x4::x5::x6::x7::x8::x9::x10::x11::x12::xs)=some (.agg [x0,x1,x2,x3,x4,x5,x6,x7,x8,x9,x10,x11,x12]):=by simp only[bi,T49];rfl
def aZN:=faG T49 0 0 0 rfl
def aYH:=frG T49 0 0 0 rfl
def aZM:=faG T49 1 1 0 rfl
def aYG:=frG T49 1 1 0 rfl
def aZL:=faG T49 2 2 0 rfl
def aYF:=frG T49 2 2 0 rfl
def aZK:=faG T49 3 3 0 rfl
def aYE:=frG T49 3 3 0 rfl
def aZJ:=faG T49 4 4 0 rfl
def aYD:=frG T49 4 4 0 rfl
def aZI:=faG T49 5 5 0 rfl
def aYC:=frG T49 5 5 0 rfl
def aZH:=faG T49 6 6 0 rfl
def aYB:=frG T49 6 6 0 rfl
def aZG:=faG T49 7 7 0 rfl
def aYA:=frG T49 7 7 0 rfl
def aZF:=faG T49 8 8 0 rfl
def aYz:=frG T49 8 8 0 rfl
def aZE:=faG T49 9 9 0 rfl
def aYy:=frG T49 9 9 0 rfl
def aT0:=faG T49 10 10 0 rfl
def aTq:=frG T49 10 10 0 rfl
def aTZ:=faG T49 11 11 0 rfl
def aTp:=frG T49 11 11 0 rfl
def aTY:=faG T49 12 12 0 rfl
def aTo:=frG T49 12 12 0 rfl
def Q56(x:C)(xs:List C):bi tP 56 (x::xs)=some x:=by simp only[bi,T56];rfl
def Q57(x:C)(xs:List C):bi tP 57 (x::xs)=some x:=by simp only[bi,T57];rfl
def P59(x:X)(xs:List X):bx tP 59 (x::xs)=some x:=by simp only[bx,T59];rfl
def P63(x0 x1 x2 x3 x4:X)(xs:List X):bx tP 63 (x0::x1::x2::x3::x4::xs)=some (.agg [x0,x1,x2,x3,x4]):=by simp only[bx,T63];rfl
def Q63(x0 x1 x2 x3 x4:C)(xs:List C):bi tP 63 (x0::x1::x2::x3::x4::xs)=some (.agg [x0,x1,x2,x3,x4]):=by simp only[bi,T63];rfl
def aZD:=faG T63 0 0 0 rfl
def aYw:=frG T63 0 0 0 rfl
def aZA:=fcG T63 0 0 1 3 rfl rfl
def aYv:=frG T63 1 1 0 rfl
def aYu:=frG T63 2 2 0 rfl
def aYt:=frG T63 3 3 0 rfl
def aZz:=fcG T63 3 3 1 3 rfl rfl
def aZC:=faG T63 4 4 0 rfl
def aYs:=frG T63 4 4 0 rfl
def U64:=UG T64
def P93(x0 x1 x2 x3 x4 x5 x6 x7 x8 x9:X)(xs:List X):bx tP 93 (x0::x1::x2::x3::x4::x5::x6::x7::x8::x9::xs)=some (.agg [x0,x1,x2,x3,x4,x5,x6,x7,x8,x9]):=by simp only[bx,T93];rfl
def Q93(x0 x1 x2 x3 x4 x5 x6 x7 x8 x9:C)(xs:List C):bi tP 93 (x0::x1::x2::x3::x4::x5::x6::x7::x8::x9::xs)=some (.agg [x0,x1,x2,x3,x4,x5,x6,x7,x8,x9]):=by simp only[bi,T93];rfl
def aYr:=frG T93 0 0 0 rfl
def aZB:=faG T93 1 1 8 rfl
def aYq:=frG T93 1 1 8 rfl
def P94(x:X)(xs:List X):bx tP 94 (x::xs)=some x:=by simp only[bx,T94];rfl
def a1k(x0 x1 x2 x3 x4 x5 x6 x7 x8 x9 x10 x11 x12 x13:X)(xs:List X):bx tP 101 (x0::x1::x2::x3::x4::x5::x6::x7::x8::x9::x10::x11::x12::x13::xs)=some (.agg [x0,x1,x2,x3,x4,x5,x6,x7,x8,x9,x10,x11,x12,x13]):=by simp only[bx,an8];rfl
def a1i(x0 x1 x2 x3 x4 x5 x6 x7 x8 x9 x10 x11 x12 x13:C)(xs:List C):bi tP 101 (x0::x1::x2::x3::x4::x5::x6::x7::x8::x9::x10::x11::x12::x13::xs)=some (.agg [x0,x1,x2,x3,x4,x5,x6,x7,x8,x9,x10,x11,x12,x13]):=by simp only[bi,an8];rfl
def aBI:=frG an8 0 0 0 rfl
def aBL:=faG an8 1 1 12 rfl
def aBH:=frG an8 1 1 12 rfl
def bcs(x0 x1:X)(xs:List X):bx tP 105 (x0::x1::xs)=some (.agg [x0,x1]):=by simp only[bx,ayV];rfl
def bcl(x0 x1:C)(xs:List C):bi tP 105 (x0::x1::xs)=some (.agg [x0,x1]):=by simp only[bi,ayV];rfl
def aTV:=frG ayV 0 0 0 rfl
def aTU:=frG ayV 1 1 0 rfl
def aaO:=faG acu 0 0 0 rfl
def aaN:=faG acu 1 1 0 rfl
def aaM:=faG acu 2 2 0 rfl
def aaL:=faG acu 3 3 0 rfl
def aaK:=faG acu 4 4 0 rfl
def aaJ:=faG acu 5 5 0 rfl
def alV:=frG an7 0 0 0 rfl
def alU:=frG an7 1 1 0 rfl
def bcr(x0 x1 x2:X)(xs:List X):bx tP 126 (x0::x1::x2::xs)=some (.agg [x0,x1,x2]):=by simp only[bx,alo];rfl
def bck(x0 x1 x2:C)(xs:List C):bi tP 126 (x0::x1::x2::xs)=some (.agg [x0,x1,x2]):=by simp only[bi,alo];rfl
def aUg:=faG alo 0 0 0 rfl
def aTT:=frG alo 0 0 0 rfl
def aUf:=faG alo 1 1 0 rfl
def aTS:=frG alo 1 1 0 rfl
def aUe:=faG alo 2 2 0 rfl
def bcq(x0 x1 x2 x3 x4 x5 x6 x7 x8 x9 x10 x11:X)(xs:List X):bx tP 138 (x0::x1::x2::x3::x4::x5::x6::x7::x8::x9::x10::x11::xs)=some (.agg [x0,x1,x2,x3,x4,x5,x6,x7,x8,x9,x10,x11]):=by simp only[bx,am4];rfl
def bcj(x0 x1 x2 x3 x4 x5 x6 x7 x8 x9 x10 x11:C)(xs:List C):bi tP 138 (x0::x1::x2::x3::x4::x5::x6::x7::x8::x9::x10::x11::xs)=some (.agg [x0,x1,x2,x3,x4,x5,x6,x7,x8,x9,x10,x11]):=by simp only[bi,am4];rfl
def aTR:=frG am4 0 0 0 rfl
def aTQ:=frG am4 1 1 0 rfl
def aTP:=frG am4 2 2 8 rfl
def aUd:=faG am4 3 11 0 rfl
def aTO:=frG am4 3 11 0 rfl
def bcp(x0 x1 x2 x3 x4 x5:X)(xs:List X):bx tP 140 (x0::x1::x2::x3::x4::x5::xs)=some (.agg [x0,x1,x2,x3,x4,x5]):=by simp only[bx,aio];rfl
def a1h(x0 x1 x2 x3 x4 x5:C)(xs:List C):bi tP 140 (x0::x1::x2::x3::x4::x5::xs)=some (.agg [x0,x1,x2,x3,x4,x5]):=by simp only[bi,aio];rfl
def aTN:=frG aio 0 0 0 rfl
def aTM:=frG aio 1 1 0 rfl
def aUc:=faG aio 2 2 0 rfl
def aTL:=frG aio 2 2 0 rfl
def aTK:=frG aio 3 3 0 rfl
def aTJ:=frG aio 4 4 0 rfl
def aUb:=faG aio 5 5 0 rfl
def aTI:=frG aio 5 5 0 rfl
def bco(x0 x1 x2:X)(xs:List X):bx tP 149 (x0::x1::x2::xs)=some (.agg [x0,x1,x2]):=by simp only[bx,am3];rfl
def bci(x0 x1 x2:C)(xs:List C):bi tP 149 (x0::x1::x2::xs)=some (.agg [x0,x1,x2]):=by simp only[bi,am3];rfl
def aTH:=frG am3 0 0 0 rfl
def aUa:=faG am3 1 1 0 rfl
def aTG:=frG am3 1 1 0 rfl
def aT9:=faG am3 2 2 0 rfl
def bch(x0 x1:C)(xs:List C):bi tP 151 (x0::x1::xs)=some (.agg [x0,x1]):=by simp only[bi,ayU];rfl
def aTF:=frG ayU 0 0 0 rfl
def aTE:=frG ayU 1 1 0 rfl
def bcn(x0 x1 x2:X)(xs:List X):bx tP 153 (x0::x1::x2::xs)=some (.agg [x0,x1,x2]):=by simp only[bx,am2];rfl
def bcg(x0 x1 x2:C)(xs:List C):bi tP 153 (x0::x1::x2::xs)=some (.agg [x0,x1,x2]):=by simp only[bi,am2];rfl
def aTD:=frG am2 0 0 0 rfl
def aT8:=faG am2 1 1 0 rfl
def aTC:=frG am2 1 1 0 rfl
def aT7:=faG am2 2 2 0 rfl
def aTB:=frG am2 2 2 0 rfl
def aTA:=frG aFI 0 0 0 rfl
def aTz:=frG aFI 1 1 0 rfl
def aTy:=frG aFI 2 2 0 rfl
def a1g(x:C)(xs:List C):bi tP 171 (x::xs)=some x:=by simp only[bi,a04];rfl
def a1f(x:C)(xs:List C):bi tP 173 (x::xs)=some x:=by simp only[bi,a03];rfl
def a1e(x:C)(xs:List C):bi tP 175 (x::xs)=some x:=by simp only[bi,a02];rfl
def a1d(x:C)(xs:List C):bi tP 176 (x::xs)=some x:=by simp only[bi,a01];rfl
def a1c(x:C)(xs:List C):bi tP 182 (x::xs)=some x:=by simp only[bi,a00];rfl
def a1b(x:C)(xs:List C):bi tP 184 (x::xs)=some x:=by simp only[bi,a0Z];rfl
def a1a(x:C)(xs:List C):bi tP 186 (x::xs)=some x:=by simp only[bi,a0Y];rfl
def a09(x:C)(xs:List C):bi tP 190 (x::xs)=some x:=by simp only[bi,a0X];rfl
def bcm(x0 x1 x2 x3 x4 x5 x6 x7 x8 x9 x10 x11 x12 x13 x14 x15 x16 x17 x18 x19 x20 x21 x22 x23 x24 x25 x26 x27 x28:X)(xs:List X):bx tP 298 (x0::x1::x2::x3::x4::x5::x6::x7::x8::x9::x10::x11::x12::x13::x14::x15::x16::x17::x18::x19::x20::x21::x22::x23::x24::x25::x26::x27::x28::xs)=some (.agg [x0,x1,x2,x3,x4,x5,x6,x7,x8,x9,x10,x11,x12,x13,x14,x15,x16,x17,x18,x19,x20,x21,x22,x23,x24,x25,x26,x27,x28]):=by simp only[bx,aji];rfl
def bcf(x0 x1 x2 x3 x4 x5 x6 x7 x8 x9 x10 x11 x12 x13 x14 x15 x16 x17 x18 x19 x20 x21 x22 x23 x24 x25 x26 x27 x28:C)(xs:List C):bi tP 298 (x0::x1::x2::x3::x4::x5::x6::x7::x8::x9::x10::x11::x12::x13::x14::x15::x16::x17::x18::x19::x20::x21::x22::x23::x24::x25::x26::x27::x28::xs)=some (.agg [x0,x1,x2,x3,x4,x5,x6,x7,x8,x9,x10,x11,x12,x13,x14,x15,x16,x17,x18,x19,x20,x21,x22,x23,x24,x25,x26,x27,x28]):=by simp only[bi,aji];rfl
def aT6:=faG aji 0 0 0 rfl
def aTx:=frG aji 0 0 0 rfl
def aT5:=faG aji 1 1 0 rfl
def aTw:=frG aji 1 1 0 rfl
def aT4:=faG aji 2 2 11 rfl
def aTv:=frG aji 2 2 11 rfl
def aTu:=frG aji 3 14 8 rfl
def aT3:=faG aji 4 23 5 rfl
def aTt:=frG aji 4 23 5 rfl
def E25:=EG T25 T28
def E26:=EG T26 T38
def E34:=EG T34 am4
def E35:=EG T35 aio
def E36:=EG T36 alo
def E42:=EG T42 am3
def E43:=EG T43 T9
def E44:=EG T44 ayU
def E45:=EG T45 am2
def E46:=EG T46 T25
def E47:=EG T47 T93
def E53:=EG T53 T49
def E59:=EG T59 T63
def E64:=EG T64 T5
def E66:=EG T66 T3
def E94:=EG T94 an8
def ay2:agD tP 161=some (.int .i64,159):=by simp only[agD,bce,T3];rfl
def fi8:=fA Tryz.func8
def aZx:=fA Tryz.func10
def aZw:=fA Tryz.func11
def aZv:=fA Tryz.func13
def aZu:=fA Tryz.func14
def aZt:=fA Tryz.func16
def aZs:=fA Tryz.func17
def aMM:=fA Tryz.func20
def aZr:=fA Tryz.func22
def aIT:=cA 22
def aZq:=fA Tryz.func23
def aIS:=cA 23
def aZp:=fA Tryz.func24
def aIR:=cA 24
def aML:=fA Tryz.func25
def aZo:=fA Tryz.func27
def aZn:=fA Tryz.func28
def aZm:=fA Tryz.func29
def aMK:=fA Tryz.func31
def aIQ:=cA 31
def aZl:=fA Tryz.func36
def aZk:=fA Tryz.func37
def ax0:=fA Tryz.func39
def aIP:=cA 39
def aZj:=fA Tryz.func42
def aZi:=fA Tryz.func43
def aZh:=fA Tryz.func44
def aMJ:=fA Tryz.func46
def aIO:=cA 46
def aZg:=fA Tryz.func52
def aIN:=cA 52
def aZf:=fA Tryz.func53
def aIM:=cA 53
def aZe:=fA Tryz.func56
def a0B:=cA 56
def aZd:=fA Tryz.func57
def aZc:=fA Tryz.func58
def a0A:=cA 58
def aZb:=fA Tryz.func59
def a0z:=cA 59
def aZa:=fA Tryz.func60
def a0y:=cA 60
def aY9:=fA Tryz.func61
def ago:=fA Tryz.func62
def ap7:=fA Tryz.func63
def aMI:=fA Tryz.func65
def axZ:=fA Tryz.func66
def aMH:=fA Tryz.func67
def aIL:=cA 67
def axY:=fA Tryz.func74
def arJ:=cA 74
def aY8:=fA Tryz.func75
def aY7:=fA Tryz.func76
def aMG:=fA Tryz.func77
def aMF:=fA Tryz.func78
def aY6:=fA Tryz.func79
def aY5:=fA Tryz.func80
def aME:=fA Tryz.func81
def aEh:=fA Tryz.func91
def aMD:=fA Tryz.func92
def as7:=fA Tryz.func93
def aMC:=fA Tryz.func94
def aY4:=fA Tryz.func95
def aQ1:=fA Tryz.func105
def aQ0:=fA Tryz.func106
def aQZ:=fA Tryz.func107
def aQY:=fA Tryz.func108
def aQX:=fA Tryz.func109
def aa7:=cA 109
def aQW:=fA Tryz.func110
def aQV:=fA Tryz.func111
def aQU:=fA Tryz.func112
def aQT:=fA Tryz.func113
def aU1:=cA 113
def aQS:=fA Tryz.func114
def aQR:=fA Tryz.func115
def aQQ:=fA Tryz.func116
def aU0:=cA 116
def aQP:=fA Tryz.func117
def aQO:=fA Tryz.func118
def aUZ:=cA 118
def aQN:=fA Tryz.func119
def aQM:=fA Tryz.func120
def aUY:=cA 120
def aQL:=fA Tryz.func121
def aQK:=fA Tryz.func122
def aUX:=cA 122
def aQJ:=fA Tryz.func123
def aQI:=fA Tryz.func124
def aUW:=cA 124
def aQH:=fA Tryz.func125
def aQG:=fA Tryz.func126
def aUV:=cA 126
def aQF:=fA Tryz.func127
def aQE:=fA Tryz.func128
def aQD:=fA Tryz.func129
def aUU:=cA 129
def aQC:=fA Tryz.func130
def aQB:=fA Tryz.func131
def aUT:=cA 131
def aQA:=fA Tryz.func132
def aQz:=fA Tryz.func133
def aUS:=cA 133
def aQy:=fA Tryz.func134
def aQx:=fA Tryz.func135
def aUR:=cA 135
def aQw:=fA Tryz.func136
def aQv:=fA Tryz.func137
def aUQ:=cA 137
def aQu:=fA Tryz.func138
def aQt:=fA Tryz.func139
def aQs:=fA Tryz.func140
def aUP:=cA 140
def aQr:=fA Tryz.func141
def aQq:=fA Tryz.func142
def aUO:=cA 142
def aQp:=fA Tryz.func143
def aQo:=fA Tryz.func144
def aQn:=fA Tryz.func145
def aQm:=fA Tryz.func146
def aQl:=fA Tryz.func147
def aQk:=fA Tryz.func148
def arw:=fA Tryz.func149
def aQj:=fA Tryz.func150
def fW:=fA Tryz.func151
def aEv:=fA Tryz.func152
def aBZ:=cA 152
def aEu:=fA Tryz.func172
def aBY:=cA 172
def aQi:=fA Tryz.func173
def aQh:=fA Tryz.func174
def aQg:=fA Tryz.func182
def adT:=fA Tryz.func183
def avU:=fA Tryz.func184
def aEt:=fA Tryz.func185
def aQf:=fA Tryz.func197
def aQe:=fA Tryz.func198
def aUN:=cA 198
def aQd:=fA Tryz.func199
def aQc:=fA Tryz.func200
def aUM:=cA 200
def aQb:=fA Tryz.func203
def aQa:=fA Tryz.func204
def aP9:=fA Tryz.func205
def aP8:=fA Tryz.func206
def aP7:=fA Tryz.func207
def aP6:=fA Tryz.func208
def aUL:=cA 208
def aP5:=fA Tryz.func209
def aP4:=fA Tryz.func210
def aUK:=cA 210
def aP3:=fA Tryz.func211
def aP2:=fA Tryz.func212
def aUJ:=cA 212
def aP1:=fA Tryz.func213
def aP0:=fA Tryz.func214
def aUI:=cA 214
def aPZ:=fA Tryz.func215
def aUH:=cA 215
def aPY:=fA Tryz.func216
def aPX:=fA Tryz.func217
def aPW:=fA Tryz.func218
def aUG:=cA 218
def aPV:=fA Tryz.func219
def aPU:=fA Tryz.func220
def aUF:=cA 220
def aPT:=fA Tryz.func221
def aPS:=fA Tryz.func222
def aUE:=cA 222
def aPR:=fA Tryz.func223
def aPQ:=fA Tryz.func224
def aPP:=fA Tryz.func225
def aUD:=cA 225
def aPO:=fA Tryz.func226
def aPN:=fA Tryz.func227
def aUC:=cA 227
def aPM:=fA Tryz.func228
def aUB:=cA 228
def aPL:=fA Tryz.func229
def aPK:=fA Tryz.func230
def aUA:=cA 230
def aPJ:=fA Tryz.func231
def aUz:=cA 231
def aPI:=fA Tryz.func232
def aUy:=cA 232
def aPH:=fA Tryz.func233
def aPG:=fA Tryz.func234
def aPF:=fA Tryz.func235
def aPE:=fA Tryz.func236
def aPD:=fA Tryz.func237
def aEs:=fA Tryz.func240
def aPC:=fA Tryz.func243
def aEr:=fA Tryz.func245
def arv:=fA Tryz.func246
def aoV:=fA Tryz.func257
def aPB:=fA Tryz.func261
def aPA:=fA Tryz.func262
def aPz:=fA Tryz.func264
def aPy:=fA Tryz.func265
def aPx:=fA Tryz.func266
def aPw:=fA Tryz.func267
def aUx:=cA 267
def aPv:=fA Tryz.func268
def aPu:=fA Tryz.func269
def aUw:=cA 269
def aPt:=fA Tryz.func270
def aPs:=fA Tryz.func271
def aPr:=fA Tryz.func272
def aPq:=fA Tryz.func273
def aPp:=fA Tryz.func274
def aPo:=fA Tryz.func275
def aPn:=fA Tryz.func276
def aPm:=fA Tryz.func277
def aUv:=cA 277
def aPl:=fA Tryz.func278
def aPk:=fA Tryz.func279
def aEq:=fA Tryz.func284
def avT:=fA Tryz.func285
def aoU:=fA Tryz.func286
def aPj:=fA Tryz.func296
def aru:=fA Tryz.func297
def aPi:=fA Tryz.func300
def aEp:=fA Tryz.func304
def aBX:=cA 304
def aPh:=fA Tryz.func305
def aPg:=fA Tryz.func306
def aEo:=fA Tryz.func311
def avS:=fA Tryz.func312
def aEn:=fA Tryz.func316
def aBW:=cA 316
def aPf:=fA Tryz.func317
def aEm:=fA Tryz.func319
def aEl:=fA Tryz.func325
def aBV:=cA 325
def aEk:=fA Tryz.func326
def aEj:=fA Tryz.func330
def aPe:=fA Tryz.func332
def aPd:=fA Tryz.func333
def aPc:=fA Tryz.func334
def aEi:=fA Tryz.func335
def aO4:=oF 22
def aO3:=oF 23
def aO2:=oF 24
def aO1:=oT 31
def aVW:=tF 31
def aO0:=oT 39
def aVV:=tF 39
def aOZ:=oT 46
def aVU:=tF 46
def aOY:=oT 52
def aVT:=tF 52
def aOX:=oT 53
def aVS:=tF 53
def a3S:=oF 56
def a3R:=oF 58
def a3Q:=oF 59
def a3P:=oF 60
def aOW:=oT 67
def aVR:=tF 67
def avG:=oT 74
def aCH:=tF 74
def abV:=oT 109
def aXH:=oF 113
def aXG:=oF 116
def aXF:=oF 118
def aXE:=oF 120
def aXD:=oF 122
def aXC:=oF 124
def aXB:=oF 126
def aXA:=oF 129
def aXz:=oF 131
def aXy:=oF 133
def aXx:=oF 135
def aXw:=oF 137
def aXv:=oF 140
def aXu:=oF 142
def aHd:=oT 152
def aOp:=tF 152
def aHc:=oT 172
def aOo:=tF 172
def aXt:=oF 198
def aXs:=oF 200
def aXr:=oF 208
def aXq:=oF 210
def aXp:=oF 212
def aXo:=oF 214
def aXn:=oF 215
def aXm:=oF 218
def aXl:=oF 220
def aXk:=oF 222
def aXj:=oF 225
def aXi:=oF 227
def aXh:=oF 228
def aXg:=oF 230
def aXf:=oF 231
def aXe:=oF 232
def aXd:=oF 267
def aXc:=oF 269
def aXb:=oF 277
def aHb:=oT 304
def aOn:=tF 304
def aHa:=oT 316
def aOm:=tF 316
def aG9:=oT 325
def aOl:=tF 325
def mp3:=mN "law.go:158"
def mp4:=mN "law.go:27"
def mp8:=mN "lex.go:206"
def mp9:=mM "parse.go:124"
def bbe:=mM "parse.go:170"
def bbd:=mM "parse.go:197"
def bbc:=mM "parse.go:201"
def bbb:=mN "parse.go:209"
def bba:=mM "parse.go:250"
def ba9:=mM "parse.go:256"
def ba8:=mN "parse.go:28"
def ba7:=mM "parse.go:31"
def ba6:=mM "parse.go:338"
def ba5:=mM "parse.go:340"
def ba4:=mM "parse.go:343"
def ba3:=mM "parse.go:352"
def ba2:=mN "parse.go:36"
def ba1:=mM "parse.go:373"
def ba0:=mN "parse.go:39"
def baZ:=mM "parse.go:432"
def baY:=mN "parse.go:457"
def baX:=mM "parse.go:476"
def baW:=mM "parse.go:496"
def baV:=mM "parse.go:516"
def baU:=mM "parse.go:521"
def baT:=mM "parse.go:523"
def baS:=mM "parse.go:545"
def baR:=mN "parse.go:629"
def baQ:=mM "parse.go:637"
def baP:=mM "parse.go:639"
def baO:=mN "parse.go:646"
def baN:=mM "parse.go:649"
def baM:=mM "parse.go:672"
def aDy:=mN "parse.go:712"
def baL:=mN "parse.go:739"
def baK:=mN "parse.go:740"
def baJ:=mN "parse.go:757"
def baI:=mN "parse.go:85"
def baH:=mN "parse.go:94"
def baG:=mN "ref.go:421"
def baF:=mN "ref.go:430"
def baE:=mN "ref.go:439"
def baD:=mN "ref.go:449"
def baC:=mN "ref.go:458"
def aLk:=mN "slices.go:25"
def asO:=mN "syntax.go:220"
def baB:=mN "syntax.go:226"
def baA:=mN "syntax.go:238"
def baz:=mN "syntax.go:243"
def bay:=mN "syntax.go:244"
def bax:=mN "syntax.go:251"
def baw:=mN "syntax.go:59"
def aSe:=by have h:=plA 14 Tryz.f39 ⟨some 3,[(0,false),(1,false),(2,true)],[(4,true),(5,true),(6,true)],7,false⟩;simp only [rgC,zpl,Nat.reduceBEq,Tryz.f39] at h;exact h
def aWN:=by have h:=plA 2 Tryz.f65 ⟨none,[(0,true),(1,true),(2,true),(3,true),(4,true),(5,true),(6,true),(7,true),(8,true),(9,true),(10,true),(11,true),(12,true)],[],13,false⟩;simp only [rgC,zpl,Nat.reduceBEq,Tryz.f65] at h;exact h
def aWM:=by have h:=plA 6 Tryz.f66 ⟨some 6,[(0,false),(1,false),(2,false),(3,false),(4,false),(5,true)],[(7,true),(8,true)],9,false⟩;simp only [rgC,zpl,Nat.reduceBEq,Tryz.f66] at h;exact h
def aWL:=by have h:=plA 2 Tryz.f77 ⟨some 4,[(0,false),(1,false),(2,false),(3,true)],[(5,true),(6,true)],7,false⟩;simp only [rgC,zpl,Nat.reduceBEq,Tryz.f77] at h;exact h
def aSd:=by have h:=plA 14 Tryz.f93 ⟨some 3,[(0,false),(1,false),(2,true)],[(4,true),(5,true),(6,true)],7,false⟩;simp only [rgC,zpl,Nat.reduceBEq,Tryz.f93] at h;exact h
def aSp:=by have h:=plA 3 Tryz.f183 ⟨some 6,[(0,false),(1,false),(2,false),(3,false),(4,false),(5,true)],[(7,true),(8,true),(9,true),(10,true),(11,true)],12,false⟩;simp only [rgC,zpl,Nat.reduceBEq,Tryz.f183] at h;exact h
def aSo:=by have h:=plA 5 Tryz.f183 ⟨some 6,[(0,false),(1,false),(2,false),(3,false),(4,false),(5,true)],[(7,true),(8,true),(9,true),(10,true),(11,true)],12,false⟩;simp only [rgC,zpl,Nat.reduceBEq,Tryz.f183] at h;exact h
def aKr:=by have h:=plA 15 Tryz.f183 ⟨some 5,[(0,false),(1,false),(2,false),(3,false),(4,true),(6,false),(7,false)],[],8,true⟩;simp only [rgC,zpl,Nat.reduceBEq,Tryz.f183] at h;exact h
def aSn:=by have h:=plA 7 Tryz.f246 ⟨some 4,[(0,false),(1,false),(2,false),(3,true)],[(5,true),(6,true)],7,false⟩;simp only [rgC,zpl,Nat.reduceBEq,Tryz.f246] at h;exact h
def aSm:=by have h:=plA 5 Tryz.f257 ⟨some 3,[(0,false),(1,false),(2,true)],[(4,true),(5,true),(6,true)],7,false⟩;simp only [rgC,zpl,Nat.reduceBEq,Tryz.f257] at h;exact h
def aSl:=by have h:=plA 2 Tryz.f286 ⟨some 2,[(0,false),(1,true)],[(3,true),(4,true)],5,false⟩;simp only [rgC,zpl,Nat.reduceBEq,Tryz.f286] at h;exact h
def aSk:=by have h:=plA 6 Tryz.f286 ⟨some 3,[(0,false),(1,false),(2,true)],[(4,true),(5,true)],6,false⟩;simp only [rgC,zpl,Nat.reduceBEq,Tryz.f286] at h;exact h
def aSj:=by have h:=plA 3 Tryz.f297 ⟨some 2,[(0,false),(1,true)],[(3,true),(4,true)],5,false⟩;simp only [rgC,zpl,Nat.reduceBEq,Tryz.f297] at h;exact h
def aSi:=by have h:=plA 8 Tryz.f305 ⟨none,[(0,true),(1,true),(2,true),(3,true),(4,true),(5,true),(6,true),(7,true)],[],8,true⟩;simp only [rgC,zpl,Nat.reduceBEq,Tryz.f305] at h;exact h
def aKq:=by have h:=plA 13 Tryz.f305 ⟨none,[(0,true),(1,true),(2,true),(3,true),(4,true),(5,true),(6,true),(7,true)],[],8,true⟩;simp only [rgC,zpl,Nat.reduceBEq,Tryz.f305] at h;exact h
def aKp:=by have h:=plA 11 Tryz.f312 ⟨some 3,[(0,false),(1,false),(2,true)],[(4,true),(5,true)],6,false⟩;simp only [rgC,zpl,Nat.reduceBEq,Tryz.f312] at h;exact h
def aKo:=by have h:=plA 15 Tryz.f319 ⟨some 4,[(0,false),(1,false),(2,false),(3,true)],[(5,true)],6,false⟩;simp only [rgC,zpl,Nat.reduceBEq,Tryz.f319] at h;exact h
def aSh:=by have h:=plA 8 Tryz.f326 ⟨none,[(0,true),(1,true),(2,true),(3,true),(4,true),(5,true),(6,true),(7,true)],[],8,true⟩;simp only [rgC,zpl,Nat.reduceBEq,Tryz.f326] at h;exact h
def aKn:=by have h:=plA 13 Tryz.f326 ⟨some 4,[(0,false),(1,false),(2,false),(3,true)],[(5,true),(6,true)],7,false⟩;simp only [rgC,zpl,Nat.reduceBEq,Tryz.f326] at h;exact h
def aKm:=by have h:=plA 14 Tryz.f326 ⟨none,[(0,true),(1,true),(2,true),(3,true),(4,true),(5,true),(6,true),(7,true)],[],8,true⟩;simp only [rgC,zpl,Nat.reduceBEq,Tryz.f326] at h;exact h
def aSg:=by have h:=plA 6 Tryz.f335 ⟨some 3,[(0,false),(1,false),(2,true)],[(4,true),(5,true),(6,true)],7,false⟩;simp only [rgC,zpl,Nat.reduceBEq,Tryz.f335] at h;exact h
def aSf:=by have h:=plA 8 Tryz.f335 ⟨some 3,[(0,false),(1,false),(2,true)],[(4,true),(5,true),(6,true)],7,false⟩;simp only [rgC,zpl,Nat.reduceBEq,Tryz.f335] at h;exact h
def aKl:=by have h:=plA 10 Tryz.f335 ⟨some 3,[(0,false),(1,false),(2,true)],[(4,true),(5,true),(6,true)],7,false⟩;simp only [rgC,zpl,Nat.reduceBEq,Tryz.f335] at h;exact h
def mt4:=mQ "law.go:145" 7
def mt5:=mQ "law.go:146" 10
def mt6:=mQ "law.go:147" 13
def mt7:=mR "law.go:15" 2
def mt8:=mQ "law.go:157" 19
def mt9:=mQ "law.go:158" 22
def bav:=mQ "law.go:17" 4
def bau:=mQ "law.go:17" 5
def bat:=mR "law.go:17" 6
def bas:=mQ "law.go:21" 1
def bar:=mQ "law.go:22" 4
def baq:=mQ "law.go:23" 7
def bap:=mQ "law.go:24" 10
def bao:=mQ "law.go:25" 11
def ban:=mR "lex.go:102" 4
def bam:=mR "lex.go:118" 4
def bal:=mR "lex.go:144" 4
def bak:=mR "lex.go:176" 4
def baj:=mQ "lex.go:204" 7
def bai:=mR "lex.go:70" 4
def bah:=mR "lex.go:72" 7
def bag:=mR "lex.go:77" 8
def baf:=mR "lex.go:89" 4
def bae:=mR "parse.go:118" 8
def bac:=mR "parse.go:119" 9
def bab:=mR "parse.go:132" 2
def baa:=mR "parse.go:134" 2
def a99:=mR "parse.go:136" 2
def a98:=mR "parse.go:138" 2
def a97:=mR "parse.go:142" 2
def a96:=mQ "parse.go:147" 1
def a95:=mR "parse.go:147" 2
def a94:=mR "parse.go:149" 2
def a93:=mR "parse.go:157" 2
def a92:=mR "parse.go:165" 2
def a91:=mQ "parse.go:166" 3
def a90:=mQ "parse.go:186" 2
def a9Z:=mR "parse.go:186" 4
def a9Y:=mQ "parse.go:194" 3
def a9X:=mR "parse.go:194" 4
def a9W:=mQ "parse.go:199" 5
def a9V:=mQ "parse.go:204" 6
def a9U:=mQ "parse.go:226" 1
def a9T:=mR "parse.go:226" 2
def a9S:=mR "parse.go:239" 2
def a9R:=mR "parse.go:246" 3
def a9Q:=mR "parse.go:261" 2
def a9P:=mQ "parse.go:263" 4
def a9O:=mQ "parse.go:269" 3
def a9N:=mR "parse.go:269" 4
def a9M:=mR "parse.go:275" 2
def a9L:=mQ "parse.go:279" 3
def a9K:=mQ "parse.go:297" 4
def a9J:=mQ "parse.go:302" 5
def a9I:=mR "parse.go:308" 2
def a9H:=mR "parse.go:316" 4
def a9G:=mR "parse.go:334" 2
def a9F:=mR "parse.go:335" 3
def a9E:=mR "parse.go:35" 4
def a9D:=mQ "parse.go:350" 6
def a9C:=mR "parse.go:350" 8
def a9B:=mR "parse.go:356" 2
def a9A:=mR "parse.go:357" 3
def a9z:=mR "parse.go:386" 2
def a9y:=mR "parse.go:387" 3
def a9x:=mR "parse.go:403" 2
def a9w:=mR "parse.go:404" 3
def a9v:=mR "parse.go:412" 2
def a9u:=mQ "parse.go:414" 4
def a9t:=mQ "parse.go:419" 5
def a9s:=mR "parse.go:427" 2
def a9r:=mR "parse.go:429" 3
def a9q:=mQ "parse.go:44" 5
def a9p:=mR "parse.go:451" 2
def a9o:=mQ "parse.go:455" 3
def a9n:=mQ "parse.go:455" 4
def a9m:=mR "parse.go:459" 5
def a9l:=mR "parse.go:473" 2
def a9k:=mR "parse.go:474" 3
def a9j:=mR "parse.go:482" 2
def a9i:=mR "parse.go:483" 3
def a9h:=mR "parse.go:505" 2
def a9g:=mR "parse.go:512" 3
def a9f:=mR "parse.go:528" 2
def a5m:=mQ "parse.go:530" 4
def a5l:=mR "parse.go:535" 5
def a5k:=mQ "parse.go:540" 6
def a5j:=mR "parse.go:549" 2
def a5i:=mR "parse.go:567" 3
def a5h:=mR "parse.go:593" 2
def a5g:=mR "parse.go:595" 3
def a5f:=mR "parse.go:604" 4
def a5e:=mR "parse.go:615" 4
def a5d:=mR "parse.go:642" 4
def a5c:=mR "parse.go:657" 2
def a5b:=mR "parse.go:659" 3
def a5a:=mR "parse.go:679" 2
def a49:=mR "parse.go:680" 3
def a48:=mR "parse.go:683" 5
def avM:=mR "parse.go:693" 6
def avL:=mR "parse.go:693" 7
def avK:=mR "parse.go:693" 8
def avJ:=mR "parse.go:698" 29
def avI:=mQ "parse.go:704" 4
def aDx:=mR "parse.go:708" 6
def aDw:=mQ "parse.go:711" 13
def a47:=mR "parse.go:722" 2
def a45:=mR "parse.go:725" 2
def a44:=mR "parse.go:728" 2
def a43:=mR "parse.go:740" 4
def a42:=mQ "parse.go:755" 10
def a41:=mQ "ref.go:412" 2
def a40:=mQ "ref.go:412" 3
def a4Z:=mQ "ref.go:439" 6
def a4Y:=mQ "ref.go:439" 7
def a4X:=mQ "ref.go:466" 2
def a4W:=mQ "ref.go:466" 3
def amE:=mQ "slices.go:41" 8
def amD:=mQ "slices.go:42" 9
def a4V:=mQ "syntax.go:102" 1
def a4U:=mQ "syntax.go:107" 5
def a4T:=mQ "syntax.go:114" 1
def a4S:=mQ "syntax.go:131" 1
def a4R:=mQ "syntax.go:134" 1
def a4Q:=mQ "syntax.go:142" 1
def a4P:=mQ "syntax.go:156" 1
def a4O:=mQ "syntax.go:159" 1
def a4N:=mQ "syntax.go:162" 1
def a4M:=mQ "syntax.go:167" 1
def a4L:=mQ "syntax.go:173" 1
def a4K:=mR "syntax.go:174" 3
def a4J:=mQ "syntax.go:211" 2
def a4I:=mQ "syntax.go:211" 3
def a4H:=mR "syntax.go:211" 4
def a4G:=mQ "syntax.go:214" 1
def a4F:=mR "syntax.go:214" 2
def aoM:=mR "syntax.go:217" 4
def aoL:=mR "syntax.go:218" 5
def aq0:=mQ "syntax.go:219" 7
def a4E:=mQ "syntax.go:226" 1
def a4D:=mR "syntax.go:226" 2
def a4C:=mQ "syntax.go:229" 1
def a4B:=mR "syntax.go:229" 2
def a4A:=mQ "syntax.go:237" 1
def a4z:=mR "syntax.go:237" 2
def a4y:=mQ "syntax.go:242" 1
def a4x:=mR "syntax.go:242" 2
def a4w:=mQ "syntax.go:243" 3
def a4v:=mQ "syntax.go:248" 1
def a4u:=mR "syntax.go:248" 2
def a4t:=mR "syntax.go:249" 2
def a4s:=mQ "syntax.go:249" 3
def a4r:=mQ "syntax.go:250" 1
def a4q:=mR "syntax.go:250" 2
def a4p:=mQ "syntax.go:250" 4
def a4o:=mQ "syntax.go:255" 1
def a4n:=mQ "syntax.go:258" 1
def a4m:=mQ "syntax.go:261" 1
def a4l:=mQ "syntax.go:264" 1
def a4k:=mQ "syntax.go:270" 2
def a4j:=mQ "syntax.go:270" 3
def a4i:=mQ "syntax.go:275" 2
def a4h:=mQ "syntax.go:275" 3
def a4g:=mQ "syntax.go:280" 2
def a4f:=mQ "syntax.go:280" 3
def a4e:=mQ "syntax.go:285" 2
def a4d:=mQ "syntax.go:285" 3
def a4c:=mQ "syntax.go:290" 2
def a4b:=mQ "syntax.go:290" 3
def a4a:=mQ "syntax.go:291" 2
def a39:=mQ "syntax.go:291" 3
def a38:=mQ "syntax.go:292" 2
def a37:=mQ "syntax.go:292" 3
def a35:=mQ "syntax.go:296" 2
def a33:=mQ "syntax.go:296" 3
def ahE:=mQ "syntax.go:34" 7
def ajx:=mQ "syntax.go:35" 2
def a30:=mQ "syntax.go:58" 1
def a3Z:=mQ "syntax.go:59" 3
def a3Y:=mR "syntax.go:63" 5
def a3X:=mQ "syntax.go:94" 1
def a3W:=mR "value.go:15" 2
def a3V:=mQ "value.go:33" 1
def aX3:afl 30=false:=rfl
def aX2:afl 38=false:=rfl
def aX1:afl 45=false:=rfl
def aX0:afl 51=false:=rfl
def mixed:Tryz.prog.follows .mixedOrders=true:=by kernel_rfl
