/- Texts Dbg0 .. Dbg20: the abstract machine, its laws and contracts of functions: lemmas for the statement. No condition. -/
import Derived.Test.YtifmaamaodjfjaaGreatP4
set_option linter.unusedSimpArgs false
set_option linter.unusedVariables false
namespace Go.Ab
open Go
structure qH where
 N:Int
 S:Int
deriving DecidableEq
def qH.enc(x:qH):AV:=.agg [iI x.N,iI x.S]
theorem qH.isSh:Sh qH.enc 2 (some 2):=⟨λx=>by simp[qH.enc,AV.tree,AV.trees],λ_=>rfl,λ_=>rfl,by decide,λx=>by simp[qH.enc]⟩
section
variable {x:qH}
@[go_sem] theorem qH.tr:x.enc.tree=true:=qH.isSh.tree x
@[go_sem] theorem qH.ln:x.enc.cells.length=2:=nr rfl
@[go_sem] theorem qH.all:x.enc.part 0 (some 2)=some x.enc:=nr rfl
@[go_sem] theorem qH.cs:x.enc.cells=[iI x.N,iI x.S]:=nr rfl
@[go_sem] theorem qH.p0:x.enc.part 0 none=some (iI x.N):=nr rfl
@[go_sem] theorem qH.p1:x.enc.part 1 none=some (iI x.S):=nr rfl
@[go_sem] theorem qH.eqf{y:qH}:jX false [1,1] (some x.enc) (some y.enc)=some (.bool (decide (x=y))):=by
 obtain⟨a0,a1⟩:=x;obtain⟨b0,b1⟩:=y;simp only[jX,qH.enc,lMc,List.map_nil,dig,and_self,if_true,wK,Jk,qH.mk.injEq]
 repeat' (split<;>simp_all)
@[go_sem] theorem qH.eqt{y:qH}:jX true [1,1] (some x.enc) (some y.enc)=some (.bool (!decide (x=y))):=by
 have h:=qH.eqf (x:=x) (y:=y);unfold jX at h|-;split<;>simp_all
end
structure qB where
 K:Int
 L:Int
 V:Int
 D:List Int
 P:List qH
def qB.enc(x:qB):AV:=.agg [iI x.K,iI x.L,iI x.V,lQ x.D,.lst 2 (x.P.map qH.enc) false]
theorem qB.isSh:Sh qB.enc 5 (some 5):=⟨λx=>by simp[qB.enc,AV.tree,AV.trees,qb qH.isSh.tree,qb shI.tree],λ_=>rfl,λ_=>rfl,by decide,λx=>by simp[qB.enc]⟩
section
variable {x:qB}
@[go_sem] theorem qB.tr:x.enc.tree=true:=qB.isSh.tree x
@[go_sem] theorem qB.ln:x.enc.cells.length=5:=nr rfl
@[go_sem] theorem qB.all:x.enc.part 0 (some 5)=some x.enc:=nr rfl
@[go_sem] theorem qB.cs:x.enc.cells=[iI x.K,iI x.L,iI x.V,lQ x.D,.lst 2 (x.P.map qH.enc) false]:=nr rfl
@[go_sem] theorem qB.p0:x.enc.part 0 none=some (iI x.K):=nr rfl
@[go_sem] theorem qB.p1:x.enc.part 1 none=some (iI x.L):=nr rfl
@[go_sem] theorem qB.p2:x.enc.part 2 none=some (iI x.V):=nr rfl
@[go_sem] theorem qB.p3:x.enc.part 3 none=some (lQ x.D):=nr rfl
@[go_sem] theorem qB.p4:x.enc.part 4 none=some (.lst 2 (x.P.map qH.enc) false):=nr rfl
end
def qB.sz(x:qB):Nat:=x.D.length+x.P.length
def qB.bd(x:qB):Prop:=x.D.length<=140737488355328/\x.P.length<=140737488355328
structure qD where
 G:List qB
def qD.enc(x:qD):AV:=.agg [.lst 5 (x.G.map qB.enc) false]
theorem qD.isSh:Sh qD.enc 1 (some 1):=⟨λx=>by simp[qD.enc,AV.tree,AV.trees,qb qB.isSh.tree],λ_=>rfl,λ_=>rfl,by decide,λx=>by simp[qD.enc]⟩
section
variable {x:qD}
@[go_sem] theorem qD.tr:x.enc.tree=true:=qD.isSh.tree x
@[go_sem] theorem qD.ln:x.enc.cells.length=1:=nr rfl
@[go_sem] theorem qD.all:x.enc.part 0 (some 1)=some x.enc:=nr rfl
@[go_sem] theorem qD.cs:x.enc.cells=[.lst 5 (x.G.map qB.enc) false]:=nr rfl
@[go_sem] theorem qD.p0:x.enc.part 0 none=some (.lst 5 (x.G.map qB.enc) false):=nr rfl
@[go_sem] theorem qD.lst1{E:Ev}{t off:Nat}{cs:List AV}{l:List qC}{ks:List Fr1}{s m:qp}{h:List qA}{Q:qi->VSt->Prop}:Lst E t off 1 (some (.agg cs)) (some x.enc) l ks ⟨s,m,h⟩ Q=QM E t (jm cs off (.lst 5 (x.G.map qB.enc) false)) l ks ⟨s,m,h⟩ Q:=Xg rfl
end
def qD.sz(x:qD):Nat:=(x.G.length+zD qB.sz x.G)
def qD.bd(x:qD):Prop:=x.G.length<=140737488355328/\(∀y∈x.G,qB.bd y)
structure zG where
 Step:Int
 Def:Int
 Source:Int
deriving DecidableEq
def zG.enc(x:zG):AV:=.agg [iI x.Step,iI x.Def,iI x.Source]
theorem zG.isSh:Sh zG.enc 3 (some 3):=⟨λx=>by simp[zG.enc,AV.tree,AV.trees],λ_=>rfl,λ_=>rfl,by decide,λx=>by simp[zG.enc]⟩
section
variable {x:zG}
@[go_sem] theorem zG.tr:x.enc.tree=true:=zG.isSh.tree x
@[go_sem] theorem zG.ln:x.enc.cells.length=3:=nr rfl
@[go_sem] theorem zG.all:x.enc.part 0 (some 3)=some x.enc:=nr rfl
@[go_sem] theorem zG.cs:x.enc.cells=[iI x.Step,iI x.Def,iI x.Source]:=nr rfl
@[go_sem] theorem zG.p0:x.enc.part 0 none=some (iI x.Step):=nr rfl
@[go_sem] theorem zG.p1:x.enc.part 1 none=some (iI x.Def):=nr rfl
@[go_sem] theorem zG.p2:x.enc.part 2 none=some (iI x.Source):=nr rfl
@[go_sem] theorem zG.eqf{y:zG}:jX false [1,1,1] (some x.enc) (some y.enc)=some (.bool (decide (x=y))):=by
 obtain⟨a0,a1,a2⟩:=x;obtain⟨b0,b1,b2⟩:=y;simp only[jX,zG.enc,lMc,List.map_nil,dig,and_self,if_true,wK,Jk,zG.mk.injEq]
 repeat' (split<;>simp_all)
@[go_sem] theorem zG.eqt{y:zG}:jX true [1,1,1] (some x.enc) (some y.enc)=some (.bool (!decide (x=y))):=by
 have h:=zG.eqf (x:=x) (y:=y);unfold jX at h|-;split<;>simp_all
end
structure zQ where
 K:Int
 V:Int
deriving DecidableEq
def zQ.enc(x:zQ):AV:=.agg [iI x.K,iI x.V]
theorem zQ.isSh:Sh zQ.enc 2 (some 2):=⟨λx=>by simp[zQ.enc,AV.tree,AV.trees],λ_=>rfl,λ_=>rfl,by decide,λx=>by simp[zQ.enc]⟩
section
variable {x:zQ}
@[go_sem] theorem zQ.tr:x.enc.tree=true:=zQ.isSh.tree x
@[go_sem] theorem zQ.ln:x.enc.cells.length=2:=nr rfl
@[go_sem] theorem zQ.all:x.enc.part 0 (some 2)=some x.enc:=nr rfl
@[go_sem] theorem zQ.cs:x.enc.cells=[iI x.K,iI x.V]:=nr rfl
@[go_sem] theorem zQ.p0:x.enc.part 0 none=some (iI x.K):=nr rfl
@[go_sem] theorem zQ.p1:x.enc.part 1 none=some (iI x.V):=nr rfl
@[go_sem] theorem zQ.eqf{y:zQ}:jX false [1,1] (some x.enc) (some y.enc)=some (.bool (decide (x=y))):=by
 obtain⟨a0,a1⟩:=x;obtain⟨b0,b1⟩:=y;simp only[jX,zQ.enc,lMc,List.map_nil,dig,and_self,if_true,wK,Jk,zQ.mk.injEq]
 repeat' (split<;>simp_all)
@[go_sem] theorem zQ.eqt{y:zQ}:jX true [1,1] (some x.enc) (some y.enc)=some (.bool (!decide (x=y))):=by
 have h:=zQ.eqf (x:=x) (y:=y);unfold jX at h|-;split<;>simp_all
end
structure ze where
 I:Int
 Net:qD
 Origins:List zG
def ze.enc(x:ze):AV:=.agg [iI x.I,.lst 5 (x.Net.G.map qB.enc) false,.lst 3 (x.Origins.map zG.enc) false]
theorem ze.isSh:Sh ze.enc 3 (some 3):=⟨λx=>by simp[ze.enc,AV.tree,AV.trees,qb qB.isSh.tree,qb zG.isSh.tree],λ_=>rfl,λ_=>rfl,by decide,λx=>by simp[ze.enc]⟩
section
variable {x:ze}
@[go_sem] theorem ze.tr:x.enc.tree=true:=ze.isSh.tree x
@[go_sem] theorem ze.ln:x.enc.cells.length=3:=nr rfl
@[go_sem] theorem ze.all:x.enc.part 0 (some 3)=some x.enc:=nr rfl
@[go_sem] theorem ze.cs:x.enc.cells=[iI x.I,.lst 5 (x.Net.G.map qB.enc) false,.lst 3 (x.Origins.map zG.enc) false]:=nr rfl
@[go_sem] theorem ze.p0:x.enc.part 0 none=some (iI x.I):=nr rfl
@[go_sem] theorem ze.p1:x.enc.part 1 none=some (.lst 5 (x.Net.G.map qB.enc) false):=nr rfl
@[go_sem] theorem ze.p2:x.enc.part 2 none=some (.lst 3 (x.Origins.map zG.enc) false):=nr rfl
end
def ze.sz(x:ze):Nat:=qD.sz x.Net+x.Origins.length
def ze.bd(x:ze):Prop:=qD.bd x.Net/\x.Origins.length<=140737488355328
structure zy where
 Y:List qD
 Q:List Int
 Every:Int
 I:Int
 Net:qD
 Origins:List zG
 Breaks:List zQ
 Points:List ze
def zy.enc(x:zy):AV:=.agg [.lst 1 (x.Y.map qD.enc) false,lQ x.Q,iI x.Every,iI x.I,.lst 5 (x.Net.G.map qB.enc) false,.lst 3 (x.Origins.map zG.enc) false,.lst 2 (x.Breaks.map zQ.enc) false,.lst 3 (x.Points.map ze.enc) false]
theorem zy.isSh:Sh zy.enc 8 (some 8):=⟨λx=>by simp[zy.enc,AV.tree,AV.trees,qb qB.isSh.tree,qb zQ.isSh.tree,qb ze.isSh.tree,qb qD.isSh.tree,qb zG.isSh.tree,qb shI.tree],λ_=>rfl,λ_=>rfl,by decide,λx=>by simp[zy.enc]⟩
section
variable {x:zy}
@[go_sem] theorem zy.tr:x.enc.tree=true:=zy.isSh.tree x
@[go_sem] theorem zy.ln:x.enc.cells.length=8:=nr rfl
@[go_sem] theorem zy.all:x.enc.part 0 (some 8)=some x.enc:=nr rfl
@[go_sem] theorem zy.cs:x.enc.cells=[.lst 1 (x.Y.map qD.enc) false,lQ x.Q,iI x.Every,iI x.I,.lst 5 (x.Net.G.map qB.enc) false,.lst 3 (x.Origins.map zG.enc) false,.lst 2 (x.Breaks.map zQ.enc) false,.lst 3 (x.Points.map ze.enc) false]:=nr rfl
@[go_sem] theorem zy.p0:x.enc.part 0 none=some (.lst 1 (x.Y.map qD.enc) false):=nr rfl
@[go_sem] theorem zy.p1:x.enc.part 1 none=some (lQ x.Q):=nr rfl
@[go_sem] theorem zy.p2:x.enc.part 2 none=some (iI x.Every):=nr rfl
@[go_sem] theorem zy.p3:x.enc.part 3 none=some (iI x.I):=nr rfl
@[go_sem] theorem zy.p4:x.enc.part 4 none=some (.lst 5 (x.Net.G.map qB.enc) false):=nr rfl
end
def zy.sz(x:zy):Nat:=(x.Y.length+zD qD.sz x.Y)+x.Q.length+qD.sz x.Net+x.Origins.length+x.Breaks.length+(x.Points.length+zD ze.sz x.Points)
def zy.bd(x:zy):Prop:=x.Y.length<=140737488355328/\(∀y∈x.Y,qD.bd y)/\x.Q.length<=140737488355328/\qD.bd x.Net/\x.Origins.length<=140737488355328/\x.Breaks.length<=140737488355328/\x.Points.length<=140737488355328/\(∀y∈x.Points,ze.bd y)
set_option maxRecDepth 10000
def nx(e:Nat):qC->Nat
 |.mk _ (some d) _ _ _=>d
 | _=>e
def bP:Nat->Nat->List (Nat->Nat->qC)->List qC
 | _,_,[]=>[]
 | i,e,f::l=>f i e::bP (i+1) (nx e (f i e)) l
abbrev bO(e:Nat)(l:List (Nat->Nat->qC)):List qC:=bP 0 e l
@[go_sem] theorem nx_s{a b d:Nat}{g o c}:nx a (.mk b (some d) g o c)=d:=nr rfl
@[go_sem] theorem nx_n{a b:Nat}{g o c}:nx a (.mk b none g o c)=a:=nr rfl
@[go_sem] theorem bP_n{i d:Nat}:bP i d []=[]:=nr rfl
@[go_sem] theorem bP_c{i d:Nat}{f l}:bP i d (f::l)=f i d::bP (i+1) (nx d (f i d)) l:=nr rfl
abbrev sK:qP:=.skip
abbrev cD(k:Nat)(a b:qP):qP:=.cond (.t k) a b
abbrev rg(l:List qC):qP:=.reg true l
abbrev rB(e:Nat)(l:List (Nat->Nat->qC)):qP:=.reg true (bO e l)
abbrev sr(l:List qC)(c:qP):qP:=.seq (.reg true l) c
abbrev sB(e:Nat)(l:List (Nat->Nat->qC))(c:qP):qP:=.seq (.reg true (bO e l)) c
abbrev uA(x:AOp)(i e:Nat):qC:=.mk i (some (e+1)) none x []
abbrev uB(x:AOp)(i _:Nat):qC:=.mk i none none x []
abbrev uC(d:Nat)(f:Nat->Nat->qC)(i _:Nat):qC:=f i d
abbrev uD(i:Nat)(f:Nat->Nat->qC)(_ d:Nat):qC:=f i d
def sG(k:Nat)(b:Bool):qC->qC
 |.mk i d _ o c=>.mk i d (some (k,b)) o c
@[go_sem] theorem sG_q{k b i d g o c}:sG k b (.mk i d g o c)=.mk i d (some (k,b)) o c:=nr rfl
def uE(k:Nat)(f:Nat->Nat->qC)(i d:Nat):qC:=sG k true (f i d)
@[go_sem] theorem uE_q{k f i d}:uE k f i d=sG k true (f i d):=nr rfl
def uF(k:Nat)(f:Nat->Nat->qC)(i d:Nat):qC:=sG k false (f i d)
@[go_sem] theorem uF_q{k f i d}:uF k f i d=sG k false (f i d):=nr rfl
def sC(l:List qC):qC->qC
 |.mk i d g o _=>.mk i d g o l
@[go_sem] theorem sC_q{l i d g o c}:sC l (.mk i d g o c)=.mk i d g o l:=nr rfl
def uG(l:List qC)(f:Nat->Nat->qC)(i d:Nat):qC:=sC l (f i d)
@[go_sem] theorem uG_q{l f i d}:uG l f i d=sC l (f i d):=nr rfl
abbrev uH(d t i _e:Nat):qC:=.mk i (some d) none (.mov (.t t)) []
abbrev wd(x:AOp)(i e:Nat):qC:=.mk i (some (e+1)) none x []
abbrev wn(x:AOp)(i _e:Nat):qC:=.mk i none none x []
abbrev uL(x0:Nat):=wd (.nop x0)
abbrev uM(x0 x1:Nat):=wd (.lload x0 x1 none)
abbrev uI(x0:Nat):=wd (.mov (.t x0))
abbrev uV(x0 x1:Nat)(i e:Nat):=wd (.call x0 [.t x1,.t e]) i e
abbrev uO(x0:Int):=wd (.mov (.c (iI x0)))
abbrev uf(x0 x1:Nat):=wd (.lbox x0 (.t x1))
abbrev uR(i e:Nat):=wd (.mov (.t e)) i e
abbrev ua(x0:Nat)(i e:Nat):=wd (.pick (.t x0) (.t e) (.c (.bool false))) i e
abbrev uY:=wd (.mov (.c (.bool false)))
abbrev uS(i e:Nat):=wd (.len (.t e)) i e
abbrev uT(x0 x1:Nat)(i e:Nat):=wd (.iaddr x0 (.t x1) (.t e)) i e
abbrev uK(x0:Nat)(i e:Nat):=wd (.faddr x0 (.t e)) i e
abbrev uJ(i e:Nat):=wd (.load none (.t e)) i e
abbrev uX(x0:Nat)(x1:Int):=wd (.bin .eql (.t x0) (.c (iI x1)))
abbrev uU(x0:Int)(i e:Nat):=wd (.bin .eql (.t e) (.c (iI x0))) i e
abbrev uN(i e:Nat):=wd (.nilchk (.t e)) i e
abbrev u9:=wd (.mov (.c (.bool true)))
abbrev uP(x0:Nat)(i e:Nat):=wd (.call x0 [.t e]) i e
abbrev uo(x0:Nat)(x1:Int)(i e:Nat):=wd (.iaddr x0 (.t e) (.c (iI x1))) i e
abbrev uj(x0:Nat)(i e:Nat):=wd (.pick (.t x0) (.c (.bool true)) (.t e)) i e
abbrev ug(i e:Nat):=wd (.not (.t e)) i e
abbrev uq(x0:Nat)(i e:Nat):=wd (.bin .lss (.t x0) (.t e)) i e
abbrev uk(x0:Int)(i e:Nat):=wd (.bin .add (.t e) (.c (iI x0))) i e
abbrev vK(x0 x1 x2 x3 x4 x5:Nat):=wd (.build (.agg [iI 0,iI 0]) [(x0,x1,.t x2),(x3,x4,.t x5)])
abbrev ue:=wd (.lalloc (.agg [iI 0,iI 0]))
abbrev uZ(x0 x1 x2 x3:Nat):=wn (.lstore x0 x1 x2 (.t x3))
abbrev uW(x0:Nat)(i e:Nat):=wd (.load (some x0) (.t e)) i e
abbrev uQ(x0 x1 x2:Nat):=wd (.lload x0 x1 (some x2))
abbrev uz(x0 x1 x2 x3:Nat):=wd (.bslice x0 (.agg [iI 0,iI 0]) x1 [(x2,.t x3)])
abbrev un(x0 x1:Nat)(i e:Nat):=wd (.app x0 (.t x1) (.t e)) i e
abbrev vD(x0:Nat):=wd (.mov (.c (.lst x0 [] true)))
abbrev ut:=wd (.mov (.c (.nils)))
abbrev ux(x0 x1 x2:Nat)(i e:Nat):=wd (.call x0 [.t x1,.t x2,.t e]) i e
abbrev uc(x0 x1 x2:Nat)(i e:Nat):=wn (.lstore x0 x1 x2 (.t e)) i e
abbrev uw:=wd (.lalloc (.agg [iI 0,iI 0,iI 0,.nils,.nils]))
abbrev vJ:=wd (.lalloc (.agg [.nils]))
abbrev ui(x0 x1 x2:Nat):=wd (.iaddr x0 (.t x1) (.t x2))
abbrev uv(x0:Nat)(i e:Nat):=wd (.bin .lss (.t e) (.t x0)) i e
abbrev uu(x0:Nat)(x1:Int):=wd (.bin .add (.t x0) (.c (iI x1)))
abbrev ur(x0 x1:Nat):=wd (.faddr x0 (.t x1))
abbrev vI(x0 x1:Nat):=wd (.call x0 [.t x1])
abbrev ub(x0 x1:Nat):=wd (.ext (.t x0) x1)
abbrev vX(x0 x1 x2 x3:Nat):=wd (.bslice x0 (.agg [iI 0,iI 0,iI 0,.nils,.nils]) x1 [(x2,.t x3)])
abbrev vC(x0:Nat):=wd (.nilchk (.t x0))
abbrev ud(x0 x1:Nat)(i e:Nat):=wn (.store x0 (.t e) (.t x1)) i e
abbrev u5(x0 x1 x2 x3 x4 x5:Nat):=wd (.build (.agg [iI 0,iI 0,iI 0,iI 0]) [(x0,x1,.t x2),(x3,x4,.t x5)])
abbrev vE(x0 x1 x2 x3:Nat):=wd (.bslice x0 (.agg [iI 0,iI 0,iI 0,iI 0]) x1 [(x2,.t x3)])
abbrev vZ(x0 x1 x2:Nat):=wd (.build (.agg [iI 0,iI 0,iI 0,.nils,.nils]) [(x0,x1,.t x2)])
abbrev vH:=wd (.build (.agg [.nils,iI 0,iI 0,iI 0,.nils]) [])
abbrev vG:=wd (.lalloc (.agg [.nils,iI 0,iI 0,iI 0,.nils]))
abbrev vO(x0 x1:Nat)(x2:Int):=wd (.build (.agg [iI 0,iI 0,iI 0,.nils,.nils]) [(x0,x1,.c (iI x2))])
abbrev vF(x0 x1:Nat)(x2:Int)(x3 x4 x5:Nat):=wd (.build (.agg [iI 0,iI 0]) [(x0,x1,.c (iI x2)),(x3,x4,.t x5)])
abbrev vY(x0 x1 x2 x3 x4 x5 x6 x7 x8 x9 x10 x11:Nat):=wd (.build (.agg [iI 0,iI 0,iI 0,.nils,.nils]) [(x0,x1,.t x2),(x3,x4,.t x5),(x6,x7,.t x8),(x9,x10,.t x11)])
abbrev vM:=wd (.build (.agg [iI 0,iI 0]) [])
abbrev vN(x0:Nat)(x1:Int)(x2 x3 x4:Nat):=wd (.bslice x0 (iI x1) x2 [(x3,.t x4)])
abbrev ve(x0:Nat):=wd (.halloc x0 (.agg [.nils,iI 0,iI 0,iI 0,.nils]))
abbrev vP(x0 x1:Nat):=wd (.hbox x0 (.t x1))
abbrev vQ(x0 x1 x2 x3 x4 x5 x6 x7 x8 x9 x10 x11 x12 x13 x14:Nat):=wd (.build (.agg [iI 0,iI 0,iI 0,.nils,.nils]) [(x0,x1,.t x2),(x3,x4,.t x5),(x6,x7,.t x8),(x9,x10,.t x11),(x12,x13,.t x14)])
abbrev vV(x0:Nat):=wd (.halloc x0 (.agg [iI 0,iI 0,iI 0,.nils,.nils]))
abbrev vS(x0 x1 x2 x3 x4 x5:Nat):=wd (.bslice x0 (.agg [iI 0,iI 0,iI 0,iI 0]) x1 [(x2,.t x3),(x4,.t x5)])
abbrev vh(x0 x1:Nat)(x2:Int)(x3 x4 x5:Nat):=wd (.build (.agg [iI 0,iI 0,iI 0,.nils,.nils]) [(x0,x1,.c (iI x2)),(x3,x4,.t x5)])
abbrev vT(x0 x1 x2 x3 x4 x5:Nat):=wd (.bslice x0 (.agg [iI 0,iI 0]) x1 [(x2,.t x3),(x4,.t x5)])
abbrev vU(x0 x1:Nat)(x2:Int)(x3 x4 x5 x6 x7 x8:Nat):=wd (.build (.agg [iI 0,iI 0,iI 0,.nils,.nils]) [(x0,x1,.c (iI x2)),(x3,x4,.t x5),(x6,x7,.t x8)])
abbrev vg(x0 x1:Nat)(x2:Int)(x3 x4 x5 x6 x7 x8 x9 x10 x11 x12 x13 x14:Nat):=wd (.build (.agg [iI 0,iI 0,iI 0,.nils,.nils]) [(x0,x1,.c (iI x2)),(x3,x4,.t x5),(x6,x7,.t x8),(x9,x10,.t x11),(x12,x13,.t x14)])
abbrev vR:=wd (.mov (.c (.nilp)))
abbrev uy(x0:Nat):=wd (.load none (.t x0))
abbrev vf(x0:Nat):=wd (.halloc x0 (.agg [.nils]))
abbrev vd(x0 x1:Nat)(x2:Int)(x3 x4:Nat)(x5:Int):=wd (.build (.agg [iI 0,iI 0]) [(x0,x1,.c (iI x2)),(x3,x4,.c (iI x5))])
abbrev vu(x0:Nat)(x1:Int):=wd (.bin .gtr (.t x0) (.c (iI x1)))
abbrev v5(x0:Nat)(x1:Int):=wd (.bin .neq (.t x0) (.c (iI x1)))
abbrev v8(x0:Nat)(x1:Int):=wd (.bin .sub (.t x0) (.c (iI x1)))
abbrev UE(x0 x1 x2 x3 x4:Nat):=wd (.call x0 [.t x1,.t x2,.t x3,.t x4])
abbrev vj(x0 x1:Nat):=wd (.bin .add (.t x0) (.t x1))
abbrev UD(x0 x1:Nat)(x2 x3:Int):=wd (.call x0 [.t x1,.c (iI x2),.c (iI x3)])
abbrev vp(x0:Nat)(x1:Int):=wd (.bin .geq (.t x0) (.c (iI x1)))
abbrev vz(x0:Nat)(x1:Int):=wd (.bin .lss (.t x0) (.c (iI x1)))
abbrev vk(x0 x1:Nat):=wd (.bin .eql (.t x0) (.t x1))
abbrev v7(x0 x1:Nat):=wd (.bin .neq (.t x0) (.t x1))
abbrev vv(x0 x1:Nat):=wd (.bin .gtr (.t x0) (.t x1))
abbrev vx(x0:Nat)(x1:Int):=wd (.bin .leq (.t x0) (.c (iI x1)))
abbrev vt(x0 x1:Nat):=wd (.bin .geq (.t x0) (.t x1))
abbrev vi(x0:Int)(x1:Nat):=wd (.bin .add (.c (iI x0)) (.t x1))
abbrev UC(x0 x1:Nat):=wd (.bin .sub (.t x0) (.t x1))
abbrev UJ(x0 x1 x2 x3:Nat):=wd (.seq false [x0,x1] (.t x2) (.t x3))
abbrev UF(x0 x1:Nat):=wd (.isnil x0 false (.t x1))
abbrev UH(x0 x1 x2:Nat):=wd (.mksl x0 (.agg [iI 0,iI 0]) (.t x1) (.t x2))
abbrev UI(x0:Nat)(x1:Int)(x2 x3:Nat):=wd (.mksl x0 (iI x1) (.t x2) (.t x3))
abbrev UG(x0:Nat)(x1:Int)(x2:Nat):=wd (.mksl x0 (.agg [iI 0,iI 0,iI 0,.nils,.nils]) (.c (iI x1)) (.t x2))
def F338:qJ:=Vx
def qDV:qJ:=Vx
abbrev qdI:=bO 4 [uL 2,uM 2 3,uI 1,uV 338 6,uH 1 8]
abbrev qdJ:=bO 10 [uL 2,uM 2 4,uI 1,uV 1173 12,uH 1 14]
abbrev qdH:=sr qdJ (.seq (sB 14 [uI 1,vz 15 0] (cD 16 (sr [uO (-1) 0 3] .ret) sK)) (sB 16 [uI 1,uH 4 17] .ret))
def kW:qJ:=⟨2,18,[.t 4],sB 1 [uf 5 0,uC 3 (uO 0)] (sr qdI (.seq (sB 8 [uI 1,vz 9 0] (cD 10 (sr [uO (-1) 0 3] .ret) sK)) qdH))⟩
def F501:qJ:=szS 5 (some 5) 852
abbrev qXS:=bO 4 [uL 2,uM 2 0,uI 1,uV 501 6,uH 1 8]
abbrev qXR:=sr qXS (.seq (sB 8 [uI 1,vz 9 0] (cD 10 (sr [uO (-1) 0 3] .ret) sK)) (sB 10 [uI 1,uH 4 11] .ret))
def Kw:qJ:=⟨2,12,[.t 4],sB 1 [uf 1 0,uC 3 (uO 0)] qXR⟩
def F181:qJ:=szS 1 (some 1) 182
abbrev qYZ:=bO 6 [uI 0,uI 1,vt 7 8,uR,uE 10 (uI 0),uE 10 (uI 2),uE 10 (uA (.bin .leq (.t 11) (.t 12))),ua 10,uH 6 14]
def K4:qJ:=⟨3,15,[.t 6],sr [uY 0 5] (sr qYZ .ret)⟩
abbrev qZX:=bO 4 [uL 3,uM 3 0,uI 0,uS,v8 8 1,uA (.call 340 [.t 6,.c (iI 0),.t 9]),uR,uE 11 (uL 3),uE 11 (uM 3 1),uE 11 (uI 0),uE 11 (uL 3),uE 11 (uM 3 0),uE 11 (uT 5 14),uE 11 (uK 4),uE 11 uJ,uE 11 uS,uE 11 (v8 20 1),uE 11 (uA (.call 340 [.t 13,.c (iI 0),.t 21])),ua 11,uH 4 23]
def K7:qJ:=⟨2,24,[.t 4],sB 2 [uf 2 1,uY] (sr qZX .ret)⟩
abbrev qVA:qP:=.seq (sB 6 [uI 1,UD 340 7 0 3] (cD 8 (sB 8 [uI 1,vi 1 9,uH 4 10] .ret) sK)) (sr [uO 0 0 3] .ret)
abbrev qVB:=sB 15 [uX 13 5,uH 14 16] (cD 14 sK (sB 16 [uX 13 6,uH 14 17] (cD 14 sK (rB 17 [uX 13 12,uH 14 18]))))
abbrev qVC:=sB 19 [uX 13 8,uH 19 20] (cD 19 sK (sB 20 [uX 13 10,uH 19 21] (cD 19 sK (rB 21 [uX 13 11,uH 19 22]))))
abbrev qVD:=sB 24 [uX 13 3,uH 23 25] (cD 23 sK (sB 25 [uX 13 4,uH 23 26] (cD 23 sK (rB 26 [uX 13 7,uH 23 27]))))
abbrev qVE:=cD 14 (sr [uO 1 0 3] .ret) (.seq qVC (cD 19 (sr [uO 2 0 3] .ret) (.seq (sB 23 [uX 13 2,uH 23 24] (cD 23 sK qVD)) (cD 23 (sr [uO 3 0 3] .ret) sK))))
abbrev qVF:qP:=.seq (sB 10 [uI 1,v5 11 0] (cD 12 (sr [uO 0 0 3] .ret) sK)) (.seq (sr [uI 0 0 12] (.blk 0 (.seq (sB 14 [uX 13 1,uH 14 15] (cD 14 sK qVB)) qVE))) (sr [uO 0 0 3] .ret))
def KN:qJ:=⟨2,28,[.t 4],sr [uO 0 0 3] (.seq (sB 4 [uI 0,uU 9] (cD 6 qVA sK)) qVF)⟩
abbrev qVL:=bO 2 [uI 0,uN,uK 0,uJ,uU 9]
abbrev qVM:=bO 7 [uI 0,uN,uK 4,uJ,uS,v8 12 1,uH 2 13]
def KQ:qJ:=⟨1,14,[.t 2],sr [uO 0 0 1] (.seq (sr qVL (cD 7 (sr qVM .ret) sK)) (sr [uO 0 0 1] .ret))⟩
abbrev qVG:=sB 10 [uX 3 10,uH 4 11] (cD 4 sK (sB 11 [uX 3 11,uH 4 12] (cD 4 sK (rB 12 [uX 3 12,uH 4 13]))))
abbrev qVH:=sB 7 [uX 3 7,uH 4 8] (cD 4 sK (sB 8 [uX 3 8,uH 4 9] (cD 4 sK (sB 9 [uX 3 9,uH 4 10] (cD 4 sK qVG)))))
abbrev qVI:=sB 4 [uX 3 2,uH 4 5] (cD 4 sK (sB 5 [uX 3 3,uH 4 6] (cD 4 sK (sB 6 [uX 3 4,uH 4 7] (cD 4 sK qVH)))))
def KO:qJ:=⟨1,14,[.t 2],sr [uY 0 1] (.seq (sr [uI 0 0 2] (.blk 0 (.seq qVI (cD 4 (sr [u9 0 1] .ret) sK)))) (sr [uY 0 1] .ret))⟩
def Kn:qJ:=⟨1,5,[.t 2],sr [uY 0 1] (sB 2 [uI 0,UD 340 3 1 12,uH 2 4] .ret)⟩
abbrev qVN:=bO 8 [uI 0,uP 1489,uR,uE 11 (uI 1),uE 11 (uU 0),ua 11,uH 4 14]
def KR:qJ:=⟨2,15,[.t 4],sr [uY 0 3] (.seq (sB 4 [uI 0,uP 1372] (cD 6 (sB 6 [uI 1,UD 340 7 0 8,uH 4 8] .ret) sK)) (sr qVN .ret))⟩
def Ko:qJ:=⟨1,5,[.t 2],sr [uY 0 1] (sB 2 [uI 0,UD 340 3 0 23,uH 2 4] .ret)⟩
abbrev qVS:=bO 3 [uI 0,uN,uK 0,uJ]
abbrev qVT:=bO 9 [uI 0,uN,uK 3,uJ,uS,uU 0,uR,uE 16 (uI 0),uE 16 uN,uE 16 (uK 2),uE 16 uJ,uE 16 (UD 340 20 (-2147483648) 2147483647),ua 16,uH 2 22]
abbrev qVV:=bO 24 [uI 0,uN,uK 3,uJ,uS,uU 0,uR,uE 31 (uI 0),uE 31 uN,uE 31 (uK 2),uE 31 uJ,uE 31 (UD 340 35 1 6),ua 31,uH 2 37]
abbrev qVW:=bO 39 [uI 0,uN,uK 3,uJ,uS,uU 1,uR,uE 46 (uI 0),uE 46 uN,uE 46 (uK 2),uE 46 uJ,uE 46 (UD 340 50 1 6),ua 46,uR,uE 53 (uI 0),uE 53 uN,uE 53 (uK 3),uE 53 uJ,uE 53 (uo 1 0),uE 53 uJ,uE 53 (UD 340 59 (-2147483648) 2147483647),ua 53,uH 2 61]
abbrev qVX:=bO 63 [uI 0,uN,uK 3,uJ,uS,uU 0,uR,uE 70 (uI 0),uE 70 uN,uE 70 (uK 2),uE 70 uJ,uE 70 (UD 340 74 0 3),ua 70,uH 2 76]
abbrev qVY:=bO 78 [uI 0,uN,uK 3,uJ,uS,uU 0,uR,uE 85 (uI 0),uE 85 uN,uE 85 (uK 2),uE 85 uJ,uE 85 (uP 1494),ua 85,uH 2 91]
abbrev qVZ:=bO 94 [uI 0,uN,uK 2,uJ,v5 98 0,uR,uF 100 (uI 0),uF 100 uN,uF 100 (uK 0),uF 100 uJ,uF 100 (uU 11),uF 100 uR,uE 106 (uI 0),uE 106 uN,uE 106 (uK 3),uE 106 uJ,uE 106 uS,uE 106 (v5 111 2),uF 100 (ua 106),uj 100,uR,uF 115 (uI 0),uF 115 uN,uF 115 (uK 0),uF 115 uJ,uF 115 (uU 10),uF 115 uR,uE 121 (uI 0),uE 121 uN,uE 121 (uK 3),uE 121 uJ,uE 121 uS,uE 121 (UD 340 126 1 4),uE 121 ug,uF 115 (ua 121),uj 115]
abbrev qV0:=bO 130 [uI 3,uI 0,uN,uK 3,uJ,uS,uq 131]
abbrev qV1:=bO 139 [uI 0,uN,uK 3,uJ,uI 3,uT 1 143,uJ,uP 1494,ug]
abbrev qVR:qP:=.loop (.seq (sr qV0 (cD 137 sK (.exit 1))) (.seq (.blk 2 (sr qV1 (cD 148 (sr [uY 0 1] .ret) sK))) (rB 137 [uI 3,uk 1,uH 3 139])))
abbrev qVO:qP:=.seq (sB 92 [uX 7 10,uH 92 93] (cD 92 sK (rB 93 [uX 7 11,uH 92 94]))) (cD 92 (.seq (sr qVZ (cD 130 (sr [uY 0 1] .ret) sK)) (.seq (sr [uO 0 0 2] (.blk 1 qVR)) (sr [u9 0 1] .ret))) sK)
abbrev qVP:=cD 38 (sr qVW .ret) (sB 62 [uX 7 9,uH 62 63] (cD 62 (sr qVX .ret) (sB 77 [uX 7 12,uH 77 78] (cD 77 (sr qVY .ret) qVO))))
abbrev qVQ:=sB 8 [uX 7 6,uH 8 9] (cD 8 (sr qVT .ret) (sB 23 [uX 7 7,uH 23 24] (cD 23 (sr qVV .ret) (sB 38 [uX 7 8,uH 38 39] qVP))))
abbrev qVU:=bO 148 [uI 0,uN,uK 2,uJ,uU 0,uR,uE 154 (uI 0),uE 154 uN,uE 154 (uK 3),uE 154 uJ,uE 154 uS,uE 154 (uU 0),ua 154,uH 2 161]
def KS:qJ:=⟨1,162,[.t 2],sr [uY 0 1] (.seq (sr qVS (.blk 0 qVQ)) (sr qVU .ret))⟩
abbrev qMD:=bO 3 [uI 0,uN,uK 0,uJ,uI 0,uG [uJ 3 6] (uP 1384),uV 1371 7,uH 3 10]
abbrev qME:=bO 10 [uI 3,vu 11 0,uR,uE 13 (uI 0),uE 13 uN,uE 13 (uK 4),uE 13 uJ,uE 13 uS,uE 13 (uI 3),uE 13 (vk 18 19),ua 13,uR,uE 22 (uI 0),uE 22 uN,uE 22 (uK 0),uE 22 uJ,uE 22 (uI 0),uE 22 uN,uE 22 (uK 1),uE 22 uJ,uE 22 (uV 1385 26),ua 22,uR,uE 33 (uI 0),uE 33 (uP 1386),ua 33,uH 2 36]
def UT:qJ:=⟨1,37,[.t 2],sr [uY 0 1] (sr qMD (sr qME .ret))⟩
abbrev qcB:=bO 3 [uI 0,uS,UD 340 5 1 600,ug]
abbrev qcC:=bO 7 [uI 3,uI 0,uS,uq 8]
abbrev qcD:=bO 13 [uI 0,uI 3,uT 5 14,uP 1096,ug,uR,uF 19 (uI 0),uF 19 (uI 3),uF 19 (uT 5 20),uF 19 (uK 0),uF 19 uJ,uF 19 (uU 1),uF 19 (uI 3),uF 19 (uU 0),uF 19 (uA (.beq true (.t 25) (.t 27))),uj 19]
abbrev qcA:qP:=.loop (.seq (sr qcC (cD 11 sK (.exit 0))) (.seq (.blk 1 (sr qcD (cD 29 (sr [uY 0 1] .ret) sK))) (rB 11 [uI 3,uk 1,uH 3 13])))
def kM:qJ:=⟨1,30,[.t 2],sr [uY 0 1] (.seq (sr qcB (cD 7 (sr [uY 0 1] .ret) sK)) (.seq (sr [uO 0 0 2] (.blk 0 qcA)) (sr [u9 0 1] .ret)))⟩
abbrev qYQ:=bO 7 [uI 0,uN,uK 0,uJ,uP 710,ug]
abbrev qYR:=bO 13 [uI 3,uI 0,uN,uK 0,uJ,uS,uq 14]
abbrev qYS:=bO 22 [uI 0,uN,uK 0,uJ,uI 3,uT 5 26,uH 4 28]
abbrev qYT:=bO 28 [uI 5,uI 4,uN,uK 4,uJ,uS,uq 29]
abbrev qYU:=bO 37 [uI 3,uI 5,vK 0 1 38 1 1 39,uC 5 ue,uZ 6 0 2 40]
abbrev qYV:=bO 40 [uI 4,uN,uK 4,uJ,uI 5,uT 2 44,uW 2,uC 6 ue,uZ 7 0 2 47]
abbrev qYW:=bO 47 [uQ 7 0 2,uQ 6 0 2,UJ 1 1 48 49,uR,uF 51 (uI 0),uF 51 uN,uF 51 (uK 0),uF 51 uJ,uF 51 (uQ 7 0 2),uF 51 (uV 488 55),uF 51 ug,uj 51,uR,uF 60 (uI 0),uF 60 uN,uF 60 (uK 0),uF 60 uJ,uF 60 (uL 7),uF 60 (uM 7 0),uF 60 (uT 5 64),uF 60 (uK 4),uF 60 uJ,uF 60 (uL 7),uF 60 (uM 7 1),uF 60 (uT 2 69),uF 60 (uW 2),uF 60 (uQ 6 0 2),uF 60 (uA (.seq true [1,1] (.t 73) (.t 74))),uj 60]
abbrev qYN:qP:=.seq (.blk 3 (sr qYU (sr qYV (sr qYW (cD 76 (sr [uY 0 1] .ret) sK))))) (rB 35 [uI 5,uk 1,uH 5 37])
abbrev qYO:qP:=.seq (.blk 1 (sr qYS (sr [uO 0 0 4] (.blk 2 (.loop (.seq (sr qYT (cD 35 sK (.exit 2))) qYN)))))) (rB 20 [uI 3,uk 1,uH 3 22])
abbrev qYP:qP:=.seq (sr qYQ (cD 13 (sr [uY 0 1] .ret) sK)) (.seq (sr [uO 0 0 2] (.blk 0 (.loop (.seq (sr qYR (cD 20 sK (.exit 0))) qYO)))) (sr [u9 0 1] .ret))
def K1:qJ:=⟨1,77,[.t 2],sr [uY 0 1] qYP⟩
abbrev qbR:=bO 6 [uI 3,uI 0,uS,uq 7]
abbrev qbS:=bO 12 [uI 0,uI 3,uT 1 13,uP 318,ug]
abbrev qbP:qP:=.loop (.seq (sr qbR (cD 10 sK (.exit 0))) (.seq (.blk 1 (sr qbS (cD 17 (sr [uY 0 1] .ret) sK))) (rB 10 [uI 3,uk 1,uH 3 12])))
abbrev qbQ:qP:=.seq (sB 3 [uI 0,uS,vu 5 24] (cD 6 (sr [uY 0 1] .ret) sK)) (.seq (sr [uO 0 0 2] (.blk 0 qbP)) (sr [u9 0 1] .ret))
def kJ:qJ:=⟨1,18,[.t 2],sr [uY 0 1] qbQ⟩
abbrev qcO:=bO 6 [uI 4,uI 0,uN,uK 0,uJ,uS,uq 7]
abbrev qcP:=bO 15 [uI 0,uN,uK 0,uJ,uI 4,uT 5 19,uK 0,uJ,uU 0]
abbrev qcQ:=bO 24 [uI 0,uN,uK 0,uJ,uI 4,uT 5 28,uK 4,uJ,uo 2 0,uW 2,uC 4 ue,uZ 5 0 2 34]
abbrev qcR:=bO 34 [uL 5,uM 5 1,uU 0,uR,uE 38 (uL 5),uE 38 (uM 5 0),uE 38 (uI 4),uE 38 (vv 40 41),ua 38]
abbrev qcS:=bO 43 [uI 3,uI 4,uL 5,uM 5 0,vK 0 1 45 1 1 47,uz 2 1 0 48,un 2 44,uH 3 50]
abbrev qcM:qP:=.seq (sr qcO (cD 13 sK (.exit 0))) (.seq (.blk 1 (.seq (sr qcP (cD 24 (.exit 1) sK)) (sr qcQ (sr qcR (cD 43 (rg qcS) sK))))) (rB 13 [uI 4,uk 1,uH 4 15]))
abbrev qcN:=sB 5 [vD 2,uH 3 6] (.seq (sr [uO 1 0 3] (.blk 0 (.loop qcM))) (sB 50 [uI 3,uH 2 51] .ret))
def kQ:qJ:=⟨1,52,[.t 2],sr [ut 0 1] qcN⟩
abbrev qV9:=bO 8 [uI 0,uI 1,uV 1385 9,uR,uE 12 (uI 2),uE 12 (uI 3),uE 12 (uV 1385 13),ua 12,uR,uE 17 (uI 0),uE 17 (v5 18 1),ua 17,uR,uE 21 (uI 2),uE 21 (v5 22 1),ua 21,uH 8 24]
def KX:qJ:=⟨4,25,[.t 8],sr [uY 0 7] (sr qV9 .ret)⟩
abbrev qXH:=bO 6 [uI 0,UD 340 7 0 8,ug,uR,uF 10 (uI 1),uF 10 (uI 2),uF 10 (uV 1385 11),uF 10 ug,uj 10]
abbrev qXI:=bO 15 [uI 1,uU 6,uR,uF 18 (uI 1),uF 18 (uU 12),uj 18]
abbrev qXJ:=bO 21 [uI 1,uP 1372,uR,uE 24 (uI 2),uE 24 (uI 0),uE 24 (vv 25 26),ua 24,uH 6 28]
def Kq:qJ:=⟨3,29,[.t 6],sr [uY 0 5] (.seq (sr qXH (cD 15 (sr [uY 0 5] .ret) sK)) (.seq (sr qXI (cD 21 (sr [u9 0 5] .ret) sK)) (sr qXJ .ret)))⟩
abbrev qXK:=sB 6 [uX 3 8,uH 4 7] (cD 4 sK (sB 7 [uX 3 10,uH 4 8] (cD 4 sK (rB 8 [uX 3 11,uH 4 9]))))
abbrev qXL:=sr [uI 0 0 2] (.blk 0 (.seq (sB 4 [uX 3 3,uH 4 5] (cD 4 sK (sB 5 [uX 3 7,uH 4 6] (cD 4 sK qXK)))) (cD 4 (sr [u9 0 1] .ret) sK)))
def Kr:qJ:=⟨1,10,[.t 2],sr [uY 0 1] (.seq qXL (sr [uY 0 1] .ret))⟩
abbrev qWF:=bO 13 [uI 2,uU 4,uR,uE 16 (uI 1),uE 16 (uI 3),uE 16 (vk 17 18),ua 16]
abbrev qWG:=bO 20 [uI 1,uI 2,uI 3,ux 1499 21 22]
abbrev qWH:=bO 26 [uI 2,uU 3,uR,uE 29 (uI 1),uE 29 (uI 3),uE 29 (vk 30 31),ua 29]
abbrev qWA:qP:=.seq (sB 37 [uX 36 7,uH 37 38] (cD 37 sK (rB 38 [uX 36 8,uH 37 39]))) (cD 37 (sr [uO 5 0 7] .ret) (sB 40 [uX 36 11,uH 40 41] (cD 40 (sr [uO 6 0 7] .ret) sK)))
abbrev qWB:=cD 42 (sB 43 [uI 2,uU 10] (cD 45 (sr [uO 6 0 7] .ret) sK)) (sB 46 [uX 9 12,uH 46 47] (cD 46 (sB 47 [uI 2,uP 1500] (cD 49 (sr [uO 7 0 7] .ret) sK)) sK))
abbrev qWC:=cD 25 (sr qWH (cD 33 (sr [uO 1 0 7] .ret) sK)) (sB 34 [uX 9 6,uH 34 35] (cD 34 (sr [uI 2 0 35] (.blk 1 qWA)) (sB 42 [uX 9 9,uH 42 43] qWB)))
abbrev qWD:=cD 12 (.seq (sr qWF (cD 20 (sr [uO 2 0 7] .ret) sK)) (sr qWG (cD 24 (sr [uO 3 0 7] .ret) sK))) (sB 25 [uX 9 2,uH 25 26] qWC)
abbrev qWE:=sr [uI 0 0 8] (.blk 0 (sB 10 [uX 9 5,uH 10 11] (cD 10 (sr [uO 4 0 7] .ret) (sB 12 [uX 9 4,uH 12 13] qWD))))
def KY:qJ:=⟨4,50,[.t 8],sr [uO 0 0 7] (.seq qWE (sr [uO 0 0 7] .ret))⟩
abbrev qM2:=bO 8 [uI 0,uI 1,uI 2,uI 3,UE 1395 9 10 11 12,ug]
abbrev qM3:=bO 14 [uI 0,uI 1,uI 2,uI 3,UE 1396 15 16 17 18,v5 19 0]
abbrev qM4:=bO 20 [uI 2,uI 3,uI 0,uI 1,UE 1396 21 22 23 24,v5 25 0]
abbrev qM1:qP:=.seq (sr qM2 (cD 14 (sr [uO 0 0 7] .ret) sK)) (.seq (sr qM3 (cD 20 (sr [uO 1 0 7] .ret) sK)) (.seq (sr qM4 (cD 26 (sr [uO 2 0 7] .ret) sK)) (sr [uO 0 0 7] .ret)))
def UV:qJ:=⟨4,27,[.t 8],sr [uO 0 0 7] qM1⟩
abbrev qM6:=bO 9 [uI 0,uI 1,uI 2,uI 3,UE 1395 10 11 12 13,ug]
abbrev qM7:=bO 15 [uI 0,uI 1,uI 2,uI 3,UE 1396 16 17 18 19,uH 9 20]
abbrev qM8:=bO 22 [uI 2,uI 3,uI 0,uI 1,UE 1396 23 24 25 26,uH 9 27]
abbrev qM5:qP:=.seq (sB 20 [uI 9,uU 0] (cD 22 (rg qM8) sK)) (.seq (sB 27 [uI 9,uU 0] (cD 29 (sr [uO 8 0 7] .ret) sK)) (sB 29 [uI 9,uH 8 30] .ret))
def UW:qJ:=⟨4,31,[.t 8],sr [uO 0 0 7] (.seq (sr qM6 (cD 15 (sr [uO 0 0 7] .ret) sK)) (sr qM7 qM5))⟩
abbrev qcT:=bO 4 [uI 0,uN,uK 0,uJ,uU 9,uR,uE 10 (uI 1),uE 10 uN,uE 10 (uK 0),uE 10 uJ,uE 10 (uU 10),ua 10,uR,uE 17 (uI 0),uE 17 uN,uE 17 (uK 2),uE 17 uJ,uE 17 (uI 1),uE 17 uN,uE 17 (uK 3),uE 17 uJ,uE 17 uS,uE 17 (vt 21 26),ua 17]
abbrev qcU:=bO 28 [uI 0,uN,uK 0,uJ,uU 10,uR,uE 34 (uI 1),uE 34 uN,uE 34 (uK 0),uE 34 uJ,uE 34 (uU 9),ua 34,uR,uE 41 (uI 1),uE 41 uN,uE 41 (uK 2),uE 41 uJ,uE 41 (uI 0),uE 41 uN,uE 41 (uK 3),uE 41 uJ,uE 41 uS,uE 41 (vt 45 50),ua 41]
abbrev qcV:=bO 52 [uI 0,uN,uK 0,uJ,uI 0,uN,uK 1,uJ,uI 1,uN,uK 0,uJ,uI 1,uN,uK 1,uJ,UE 1111 56 60 64 68,uH 4 69]
def kR:qJ:=⟨2,70,[.t 4],sr [uO 0 0 3] (.seq (sr qcT (cD 28 (sr [uO 8 0 3] .ret) sK)) (.seq (sr qcU (cD 52 (sr [uO 8 0 3] .ret) sK)) (sr qcV .ret)))⟩
def F147:qJ:=toS0
abbrev qWS:=bO 3 [uL 1,uM 1 0,uL 3,uZ 3 0 1 5]
abbrev qWT:=bO 6 [uL 1,uM 1 1,uL 3,uZ 3 1 1 8]
def Kc:qJ:=⟨1,11,[.l 2 (some 2)],sB 0 [uf 2 0,ue] (sr [ue 0 2] (sr qWS (sr qWT (sB 9 [uQ 3 0 2,uc 2 0 2] .ret))))⟩
def qDW:qJ:=toS 2 (some 2) (.agg [iI 0,iI 0]) 1419
abbrev qd6:=bO 3 [uL 1,uM 1 0,uL 3,uZ 3 0 1 5]
abbrev qd7:=bO 6 [uL 1,uM 1 1,uL 3,uZ 3 1 1 8]
abbrev qd8:=bO 9 [uL 1,uM 1 2,uL 3,uZ 3 2 1 11]
abbrev qd9:=bO 12 [uL 1,uM 1 3,uP 147,uL 3,uZ 3 3 1 15]
abbrev qeA:=bO 16 [uL 1,uM 1 4,uP 1178,uL 3,uZ 3 4 1 19]
abbrev qd5:=sr [uw 0 2] (sr qd6 (sr qd7 (sr qd8 (sr qd9 (sr qeA (sB 20 [uQ 3 0 5,uc 2 0 5] .ret))))))
def kp:qJ:=⟨1,22,[.l 2 (some 5)],sB 0 [uf 5 0,uw] qd5⟩
def F504:qJ:=toS 5 (some 5) (.agg [iI 0,iI 0,iI 0,.nils,.nils]) 858
abbrev qXX:=bO 3 [uL 1,uM 1 0,uP 504,uL 3,uZ 3 0 1 6]
def Ky:qJ:=⟨1,9,[.l 2 (some 1)],sB 0 [uf 1 0,vJ] (sr [vJ 0 2] (sr qXX (sB 7 [uQ 3 0 1,uc 2 0 1] .ret)))⟩
def F184:qJ:=toS 1 (some 1) (.agg [.nils]) 185
def F774:qJ:=Qc 1 none
def F397:qJ:=Qw 774
def qDX:qJ:=Qc 1 (some 1)
def F859:qJ:=Qw 1179
abbrev qbC:=bO 6 [uI 0,uN,uK 0,uJ,uS,uO 0]
abbrev qbD:=bO 13 [uI 12,ui 5 10 12,uW 5,uC 4 uw,uH 4 14,uZ 5 0 5 16]
abbrev qbE:=bO 16 [uL 5,uM 5 4,uS,uO 0]
abbrev qbF:=bO 22 [uI 3,uI 4,uI 6,vK 0 1 24 1 1 25,uz 2 1 0 26,un 2 23,uH 3 28]
abbrev qbA:=sr [uv 19 0 20] (.seq (cD 21 sK (.exit 2)) (.seq (.blk 3 (sB 21 [uI 20,uH 6 22] (rg qbF))) (rB 28 [uu 20 1,uH 20 29])))
abbrev qbB:=sr [uv 11 0 12] (.seq (cD 13 sK (.exit 0)) (.seq (.blk 1 (sr qbD (sr qbE (.blk 2 (.loop qbA))))) (rB 29 [uu 12 1,uH 12 30])))
def kE:qJ:=⟨1,32,[.t 2],sr [ut 0 1] (sr [ut 0 2] (.seq (sr qbC (.blk 0 (.loop qbB))) (sB 30 [uI 3,uH 2 31] .ret)))⟩
abbrev qdB:=bO 2 [uI 0,vp 3 0,uR,uE 5 (uI 0),uE 5 (vz 6 24),ua 5,uH 2 8]
def kU:qJ:=⟨1,9,[.t 2],sr [uY 0 1] (sr qdB .ret)⟩
abbrev qL0:=bO 2 [uI 0,vp 3 1,uR,uE 5 (uI 0),uE 5 (vx 6 6),ua 5,uH 2 8]
def UP:qJ:=⟨1,9,[.t 2],sr [uY 0 1] (sr qL0 .ret)⟩
abbrev qL1:=bO 2 [uI 0,vp 3 (-2147483648),uR,uE 5 (uI 0),uE 5 (vx 6 2147483647),ua 5,uH 2 8]
def UQ:qJ:=⟨1,9,[.t 2],sr [uY 0 1] (sr qL1 .ret)⟩
abbrev qXF:=bO 2 [uI 0,vp 3 1,uR,uE 5 (uI 0),uE 5 (vx 6 12),ua 5,uH 2 8]
def Km:qJ:=⟨1,9,[.t 2],sr [uY 0 1] (sr qXF .ret)⟩
abbrev qV3:=bO 5 [uI 0,uU 9,uR,uE 8 (uI 1),uE 8 (vp 9 0),ua 8,uR,uE 12 (uI 1),uE 12 (vx 13 3),ua 12,uH 5 15]
abbrev qV4:=bO 18 [uI 0,uP 1487,ug,uR,uF 22 (uI 0),uF 22 (uU 9),uj 22,uR,uF 26 (uI 1),uF 26 (v5 27 0),uj 26,uH 18 29]
abbrev qV5:=bO 29 [uA (.build (.agg [iI 0,iI 0,iI 0,iI 0,iI 0,iI 0,iI 0,iI 0,iI 0,iI 0,iI 0,iI 0,iI 0]) [(1,1,.c (iI 1)),(2,1,.c (iI 3)),(3,1,.c (iI 3)),(4,1,.c (iI 3)),(5,1,.c (iI 1)),(6,1,.c (iI 1)),(7,1,.c (iI 3)),(8,1,.c (iI 2)),(10,1,.c (iI 2)),(11,1,.c (iI 2)),(12,1,.c (iI 1))]),uI 0,uA (.aidx 13 1 none (.t 30) (.t 31)),uH 4 32]
abbrev qV2:qP:=.seq (.blk 0 (sr qV3 (cD 5 (sB 15 [uI 1,uk 1,uH 4 17] .ret) (sr qV4 (cD 18 (sr [uO 0 0 3] .ret) sK))))) (sr qV5 .ret)
def KT:qJ:=⟨2,33,[.t 4],sr [uO 0 0 3] qV2⟩
abbrev qV6:qP:=.seq (sB 4 [uI 0,uU 9] (cD 6 (sB 6 [uI 1,v8 7 1,uH 4 8] .ret) sK)) (sr [uO 0 0 3] .ret)
def KU:qJ:=⟨2,9,[.t 4],sr [uO 0 0 3] qV6⟩
abbrev qVK:=bO 2 [uI 0,uP 1487,uR,uE 5 (uI 0),uE 5 (v5 6 1),ua 5,uR,uE 9 (uI 0),uE 9 (v5 10 5),ua 9,uR,uE 13 (uI 0),uE 13 (v5 14 6),ua 13,uH 2 16]
def KP:qJ:=⟨1,17,[.t 2],sr [uY 0 1] (sr qVK .ret)⟩
abbrev qXG:=bO 2 [uI 0,vp 3 0,uR,uE 5 (uI 0),uE 5 (vx 6 8),ua 5,uH 2 8]
def Kp:qJ:=⟨1,9,[.t 2],sr [uY 0 1] (sr qXG .ret)⟩
abbrev qV7:=bO 4 [uI 0,uP 1487,uR,uE 7 (uI 1),uE 7 (uU 0),uE 7 uR,uF 10 (uI 0),uF 10 (uP 1375),uF 10 uR,uE 13 (uI 1),uE 13 (uP 1495),uF 10 (ua 13),uE 7 (uj 10),ua 7,uH 4 18]
def KV:qJ:=⟨2,19,[.t 4],sr [uY 0 3] (sr qV7 .ret)⟩
abbrev qV8:=bO 2 [uI 0,uP 796,ug,uH 2 5]
def KW:qJ:=⟨1,6,[.t 2],sr [uY 0 1] (sr qV8 .ret)⟩
abbrev qMI:=bO 5 [uL 1,uM 1 4,uS,uU 0,uR,uF 10 (uL 1),uF 10 (uM 1 0),uF 10 (uL 1),uF 10 (uM 1 0),uF 10 (uL 1),uF 10 (uM 1 4),uF 10 uS,uD 14 (uC 19 (uF 10 (uL 1))),uD 15 (uF 10 (uM 1 4)),uD 16 (uF 10 uS),uD 12 (uC 17 (uF 10 (uV 1388 14))),uD 13 (uF 10 (uV 1387 12)),uC 22 (uF 10 (v7 19 22)),uj 10,uR,uF 25 (uL 1),uF 25 (uM 1 0),uF 25 (uL 1),uF 25 (uM 1 1),uF 25 (uV 1389 27),uF 25 ug,uj 25]
abbrev qMJ:=bO 32 [uL 1,uM 1 2,uU 0,uL 1,uM 1 3,uS,uU 0,uH 3 35,uI 39]
abbrev qML:=bO 39 [uL 1,uM 1 3,uA (.call 397 [.t 41,.f 1390]),ug,uH 5 43]
abbrev qMM:=bO 47 [uL 1,uM 1 2,uP 1051,uH 3 50]
abbrev qMN:=bO 52 [uL 1,uM 1 2,uP 1050,uH 3 55]
abbrev qMO:=bO 57 [uL 1,uM 1 2,uP 1050,uR,uE 61 (uL 1),uE 61 (uM 1 3),uE 61 uS,uE 61 (uU 1),ua 61,uR,uE 67 (uL 1),uE 67 (uM 1 3),uE 67 (uo 1 0),uE 67 uJ,uE 67 (uP 1051),ua 67,uH 2 73]
abbrev qMP:=bO 75 [uL 1,uM 1 2,vp 77 0,uR,uE 79 (uL 1),uE 79 (uM 1 2),uE 79 (vz 81 4),ua 79,uH 3 83]
abbrev qMQ:=bO 85 [uL 1,uM 1 3,uS,vp 88 1,uR,uE 90 (uL 1),uE 90 (uM 1 3),uE 90 uS,uE 90 (vx 93 4),ua 90,uR,uE 96 (uI 5),ua 96,uH 4 98]
abbrev qMR:=bO 100 [uL 1,uM 1 3,uS,uU 2,uR,uE 105 (uI 5),ua 105,uH 4 107]
abbrev qMS:=bO 109 [uL 1,uM 1 2,uP 796,uH 3 112]
abbrev qMF:=cD 84 (rg qMQ) (sB 99 [uX 45 11,uH 99 100] (cD 99 (rg qMR) (sB 108 [uX 45 12,uH 108 109] (cD 108 (rg qMS) sK))))
abbrev qMG:=sB 56 [uX 45 8,uH 56 57] (cD 56 (sr qMO .ret) (sB 74 [uX 45 9,uH 74 75] (cD 74 (rg qMP) (sB 84 [uX 45 10,uH 84 85] qMF))))
abbrev qMH:=sB 43 [uL 1,uM 1 0] (.blk 0 (sB 46 [uX 45 6,uH 46 47] (cD 46 (rg qMM) (sB 51 [uX 45 7,uH 51 52] (cD 51 (rg qMN) qMG)))))
abbrev qMK:=bO 112 [uI 3,uR,uE 114 (uI 4),ua 114,uH 2 116]
def UU:qJ:=⟨1,117,[.t 2],sB 0 [uf 5 0,uY] (.seq (sr qMI (cD 32 (sr [uY 0 1] .ret) sK)) (sr qMJ (sr qML (.seq qMH (sr qMK .ret)))))⟩
abbrev qcG:=bO 4 [uI 0,uS,vz 6 1,uR,uF 8 (uI 0),uF 8 uS,uF 8 (vu 10 600),uj 8]
abbrev qcH:=bO 16 [uI 15,ui 5 13 15,uW 5,uC 3 uw,uH 3 17,uZ 4 0 5 19]
abbrev qcI:=bO 19 [uQ 4 0 5,uP 1097,ug,uR,uF 23 (uL 4),uF 23 (uM 4 0),uF 23 (uU 1),uF 23 (uI 3),uF 23 (uU 0),uF 23 (uA (.beq true (.t 26) (.t 28))),uj 23]
abbrev qcE:=sr [uv 14 0 15] (.seq (cD 16 sK (.exit 0)) (.seq (.blk 1 (sr qcH (sr qcI (cD 30 (sr [uY 0 1] .ret) sK)))) (rB 30 [uu 15 1,uH 15 31])))
abbrev qcF:qP:=.seq (sr qcG (cD 12 (sr [uY 0 1] .ret) sK)) (.seq (sB 12 [uI 0,uS,uO 0] (.blk 0 (.loop qcE))) (sr [u9 0 1] .ret))
def kN:qJ:=⟨1,32,[.t 2],sr [uY 0 1] qcF⟩
def qDU:qJ:=Qc 2 (some 2)
def F712:qJ:=Qw 1098
abbrev qbG:=bO 4 [uI 0,uN,uK 0,uJ,uL 3,uM 3 0,uT 5 8,uK 4,uJ,uL 3,uM 3 1,uT 2 13,uW 2,uc 4 0 2]
def kF:qJ:=⟨2,18,[.l 4 (some 2)],sB 2 [uf 2 1,ue] (sr qbG .ret)⟩
abbrev qcL:=bO 4 [uL 3,uM 3 0,vp 6 0,uR,uE 8 (uL 3),uE 8 (uM 3 0),uE 8 (uI 0),uE 8 uS,uE 8 (uq 10),ua 8,uR,uE 15 (uL 3),uE 15 (uM 3 1),uE 15 (vp 17 0),ua 15,uR,uE 20 (uL 3),uE 20 (uM 3 1),uE 20 (uI 0),uE 20 (uL 3),uE 20 (uM 3 0),uE 20 (uT 5 23),uE 20 (uK 4),uE 20 uJ,uE 20 uS,uE 20 (uq 22),ua 20,uH 4 31]
def kP:qJ:=⟨2,32,[.t 4],sB 2 [uf 2 1,uY] (sr qcL .ret)⟩
abbrev qcJ:=bO 4 [uQ 2 0 2,uV 555 1,uC 3 ue,uZ 4 0 2 6]
abbrev qcK:=bO 6 [uQ 4 0 2,uQ 2 0 2,UJ 1 1 7 8,uR,uF 10 (ur 0 1),uF 10 uJ,uF 10 (uQ 4 0 2),uF 10 (uV 714 12),uF 10 ug,uj 10,uR,uF 17 (uQ 4 0 2),uD 13 (uC 19 (uF 17 (uQ 2 0 2))),uD 12 (uC 18 (uF 17 (uV 555 1))),uC 20 (uF 17 (uA (.seq true [1,1] (.t 19) (.t 20)))),uj 17,uH 3 22]
def kO:qJ:=⟨2,23,[.t 3],sB 1 [uf 2 0,uY] (sr qcJ (sr qcK .ret))⟩
abbrev qYX:=bO 2 [ur 0 1,uJ,uP 711,ug]
abbrev qYY:=bO 6 [vI 554 1,uA (.mkfn 713 [.t 1]),uV 712 7,ug,uH 2 10]
def K3:qJ:=⟨1,11,[.t 2],sB 0 [vP 1 0,uY] (.seq (sr qYX (cD 6 (sr [uY 0 1] .ret) sK)) (sr qYY .ret))⟩
abbrev qeB:=bO 2 [uQ 1 0 1,uP 319,ug,uH 2 5]
def kq:qJ:=⟨1,6,[.t 2],sB 0 [uf 1 0,uY] (sr qeB .ret)⟩
abbrev qaE:=bO 2 [uI 0,uS,vx 4 24,uR,uE 6 (uI 0),uE 6 (uA (.call 859 [.t 7,.f 860])),uE 6 ug,ua 6,uH 2 10]
def kA:qJ:=⟨1,11,[.t 2],sr [uY 0 1] (sr qaE .ret)⟩
abbrev qY1:=bO 6 [uI 0,uN,uK 0,uJ,uS,uO 0]
abbrev qY2:=bO 13 [uI 12,ui 5 10 12,uW 5,uC 4 uw,uH 4 14,uZ 5 0 5 16]
abbrev qY3:=bO 16 [uL 5,uM 5 4,uo 2 0,uW 2,uC 5 ue,uZ 6 0 2 20]
abbrev qY4:=bO 20 [uL 6,uM 6 1,uU 0,uR,uE 24 (uL 6),uE 24 (uM 6 0),uE 24 (uI 4),uE 24 (vv 26 27),ua 24,uR,uE 30 (uL 5),uE 30 (uM 5 0),uE 30 (v5 32 1),ua 30]
abbrev qY5:=bO 34 [uI 3,uI 4,uL 6,uM 6 0,vK 0 1 36 1 1 38,uz 2 1 0 39,un 2 35,uH 3 41]
abbrev qY0:=sr [uv 11 0 12] (.seq (cD 13 sK (.exit 0)) (.seq (.blk 1 (sr qY2 (sr qY3 (sr qY4 (cD 34 (rg qY5) sK))))) (rB 41 [uu 12 1,uH 12 42])))
def K5:qJ:=⟨1,44,[.t 2],sr [ut 0 1] (sr [ut 0 2] (.seq (sr qY1 (.blk 0 (.loop qY0))) (sB 42 [uI 3,uH 2 43] .ret)))⟩
abbrev qXM:=bO 6 [uI 0,uP 1495,ug,uR,uF 10 (uI 1),uF 10 (uI 2),uF 10 (uV 1389 11),uF 10 ug,uj 10]
abbrev qXN:=bO 15 [uI 1,uU 6,uR,uF 18 (uI 1),uF 18 (uU 12),uj 18,uR,uF 22 (uI 1),uF 22 (uP 1375),uF 22 uR,uE 25 (uI 2),uE 25 (uI 0),uE 25 (vv 26 27),uF 22 (ua 25),uj 22,uH 6 30]
def Ks:qJ:=⟨3,31,[.t 6],sr [uY 0 5] (.seq (sr qXM (cD 15 (sr [uY 0 5] .ret) sK)) (sr qXN .ret))⟩
abbrev qXO:=bO 2 [uI 0,uU 3,uR,uF 5 (uI 0),uF 5 (uU 7),uj 5,uR,uF 9 (uI 0),uF 9 (uU 8),uj 9,uR,uF 13 (uI 0),uF 13 (uU 10),uj 13,uR,uF 17 (uI 0),uF 17 (uU 11),uj 17,uH 2 20]
def Kt:qJ:=⟨1,21,[.t 2],sr [uY 0 1] (sr qXO .ret)⟩
abbrev qWN:=bO 14 [uI 2,uU 4,uR,uE 17 (uI 1),uE 17 (uI 3),uE 17 (vk 18 19),ua 17,uH 14 21]
abbrev qWO:=bO 22 [uI 1,uI 2,uI 3,ux 1501 23 24,uH 22 26]
abbrev qWP:=bO 28 [uI 2,uU 3,uR,uE 31 (uI 1),uE 31 (uI 3),uE 31 (vk 32 33),ua 31]
abbrev qWI:qP:=.seq (sB 39 [uX 38 7,uH 39 40] (cD 39 sK (rB 40 [uX 38 8,uH 39 41]))) (cD 39 (sr [uO 5 0 7] .ret) (sB 42 [uX 38 11,uH 42 43] (cD 42 (sr [uO 6 0 7] .ret) sK)))
abbrev qWJ:=cD 44 (sB 45 [uI 2,uU 10] (cD 47 (sr [uO 6 0 7] .ret) sK)) (sB 48 [uX 9 12,uH 48 49] (cD 48 (sB 49 [uI 2,uP 1502] (cD 51 (sr [uO 7 0 7] .ret) sK)) sK))
abbrev qWK:=cD 27 (sr qWP (cD 35 (sr [uO 1 0 7] .ret) sK)) (sB 36 [uX 9 6,uH 36 37] (cD 36 (sr [uI 2 0 37] (.blk 2 qWI)) (sB 44 [uX 9 9,uH 44 45] qWJ)))
abbrev qWL:=cD 12 (.blk 1 (sr qWN (cD 14 (sr [uO 2 0 7] .ret) (sr qWO (cD 22 (sr [uO 3 0 7] .ret) sK))))) (sB 27 [uX 9 2,uH 27 28] qWK)
abbrev qWM:=sr [uI 0 0 8] (.blk 0 (sB 10 [uX 9 5,uH 10 11] (cD 10 (sr [uO 4 0 7] .ret) (sB 12 [uX 9 4,uH 12 13] qWL))))
def KZ:qJ:=⟨4,52,[.t 8],sr [uO 0 0 7] (.seq qWM (sr [uO 0 0 7] .ret))⟩
abbrev qNB:=bO 11 [uI 0,uU 1,uR,uF 14 (uI 2),uF 14 (uU 1),uj 14,uR,uF 18 (uI 0),uF 18 (uI 1),uF 18 (uV 1389 19),uF 18 ug,uj 18,uR,uF 24 (uI 2),uF 24 (uI 3),uF 24 (uV 1389 25),uF 24 ug,uj 24]
abbrev qNC:=bO 29 [uI 0,uI 1,uI 2,uI 3,UE 1398 30 31 32 33,uH 10 34]
abbrev qND:=bO 37 [uI 2,uI 3,uI 0,uI 1,UE 1398 38 39 40 41,uH 11 42]
abbrev qM9:qP:=.seq (sr qND (sB 42 [uI 11,v5 43 0] (cD 44 (sB 44 [uI 11,uH 8 45,uO 2] .ret) sK))) (sB 7 [uO 8,uO 0] .ret)
abbrev qNA:qP:=.seq (sr qNB (cD 29 (sB 7 [uO 0,uO 0] .ret) sK)) (.seq (sr qNC (sB 34 [uI 10,v5 35 0] (cD 36 (sB 36 [uI 10,uH 8 37,uO 1] .ret) sK))) qM9)
def UX:qJ:=⟨4,46,[.t 8,.t 9],sB 7 [uO 0,uO 0] qNA⟩
abbrev qcX:=bO 9 [uI 0,uN,uK 0,uJ,uL 3,uM 3 0,uT 5 13,uW 5,uI 0,uN,uK 0,uJ,uL 3,uM 3 1,uT 5 21,uW 5,uC 5 uw,uw,uZ 6 0 5 17,uZ 7 0 5 25]
abbrev qcY:=bO 26 [uL 6,uM 6 0,uL 6,uM 6 1,uL 7,uM 7 0,uL 7,uM 7 1,UE 1115 28 30 32 34,uH 26 35,uC 35 (ub 26 0),ub 26 1,uH 8 36,uI 37]
abbrev qcZ:=bO 39 [uQ 7 0 5,uQ 6 0 5,uZ 6 0 5 40,uc 7 0 5]
abbrev qc0:=bO 41 [uI 8,uU 6,uR,uE 44 (uL 7),uE 44 (uM 7 0),uE 44 (uU 10),ua 44,uR,uE 49 (uL 6),uE 49 (uM 6 2),uE 49 (uL 7),uE 49 (uM 7 3),uE 49 uS,uE 49 (vt 51 54),ua 49]
abbrev qc1:=bO 56 [uI 8,uI 9,uU 2,uH 4 57,uI 59]
abbrev qcW:qP:=.seq (sB 37 [uI 9,uU 2] (cD 39 (rg qcZ) sK)) (.seq (sr qc0 (cD 56 (sB 3 [uO 8,uY] .ret) sK)) (sr qc1 .ret))
def kS:qJ:=⟨2,60,[.t 4,.t 5],sB 2 [uf 2 1,uO 0,uY] (sr qcX (sr qcY qcW))⟩
def F86:qJ:=eqS0
abbrev qW1:=bO 4 [uL 2,uM 2 0,uL 3,uM 3 0,v7 6 8]
abbrev qW2:=bO 9 [uL 2,uM 2 1,uL 3,uM 3 1,v7 11 13]
def Kf:qJ:=⟨2,15,[.t 4],sB 1 [uf 2 0,uf 2 1,uY] (.seq (sr qW1 (cD 9 (sr [uY 0 3] .ret) sK)) (.seq (sr qW2 (cD 14 (sr [uY 0 3] .ret) sK)) (sr [u9 0 3] .ret)))⟩
def qDZ:qJ:=eqS 2 (some 2) 1422
abbrev qfH:=bO 4 [uL 2,uM 2 0,uL 3,uM 3 0,v7 6 8]
abbrev qfI:=bO 9 [uL 2,uM 2 1,uL 3,uM 3 1,v7 11 13]
abbrev qfJ:=bO 14 [uL 2,uM 2 2,uL 3,uM 3 2,v7 16 18]
abbrev qfK:=bO 19 [uL 2,uM 2 3,uL 3,uM 3 3,uV 86 21,ug]
abbrev qfL:=bO 25 [uL 2,uM 2 4,uL 3,uM 3 4,uV 1184 27,ug]
abbrev qfG:qP:=.seq (sr qfJ (cD 19 (sr [uY 0 3] .ret) sK)) (.seq (sr qfK (cD 25 (sr [uY 0 3] .ret) sK)) (.seq (sr qfL (cD 31 (sr [uY 0 3] .ret) sK)) (sr [u9 0 3] .ret)))
def F870:qJ:=⟨2,32,[.t 4],sB 1 [uf 5 0,uf 5 1,uY] (.seq (sr qfH (cD 9 (sr [uY 0 3] .ret) sK)) (.seq (sr qfI (cD 14 (sr [uY 0 3] .ret) sK)) qfG))⟩
def F508:qJ:=eqS 5 (some 5) 870
abbrev qX5:=bO 4 [uL 2,uM 2 0,uL 3,uM 3 0,uV 508 6,ug]
def K0:qJ:=⟨2,11,[.t 4],sB 1 [uf 1 0,uf 1 1,uY] (.seq (sr qX5 (cD 10 (sr [uY 0 3] .ret) sK)) (sr [u9 0 3] .ret))⟩
def F187:qJ:=eqS 1 (some 1) 188
def qfO:List qC:=[oP 0 13 (.lload 1 0 (some 8)),oM 1 14 3,oP 2 15 (.call 104 [.t 13,.t 14]),oM 3 3 15]
def qfP:List qC:=[oP 0 19 (.lload 1 0 (some 8)),oP 1 20 (.call 106 [.t 19]),oP 2 21 (.call 105 [.t 20]),oM 3 18 21,oP 4 22 (.ext (.t 18) 0),oP 5 23 (.ext (.t 18) 1),oP 6 24 (.ext (.t 18) 2),oP 7 25 (.ext (.t 18) 3),oM 8 4 22,oM 9 5 23,oM 10 6 24,oM 11 7 25]
def qfQ:List qC:=[oP 0 26 (.lload 1 0 (some 8)),oP 1 27 (.call 106 [.t 26]),oP 2 8 (.lalloc (.agg [.nils,.nils,iI 0,iI 0,.nils,.nils,.nils,.nils])),oN 3 (.lstore 8 0 8 (.t 27))]
def qfR:List qC:=[oP 0 29 (.lload 8 0 (some 8)),oP 1 30 (.call 107 [.t 29]),oM 2 28 30,oP 3 31 (.ext (.t 28) 0),oP 4 32 (.ext (.t 28) 1),oP 5 33 (.ext (.t 28) 2),oP 6 34 (.ext (.t 28) 3),oM 7 9 31,oM 8 10 32,oM 9 11 33,oM 10 12 34]
def qfS:List qC:=[oM 0 35 9,oM 1 36 4,oP 2 37 (.bin .neq (.t 35) (.t 36)),oM 3 38 37,oG 4 39 38 false (.mov (.t 10)),oG 5 40 38 false (.mov (.t 5)),oG 6 41 38 false (.bin .neq (.t 39) (.t 40)),oP 7 42 (.pick (.t 38) (.c (.bool true)) (.t 41)),oM 8 43 42,oG 9 44 43 false (.mov (.t 11)),oG 10 45 43 false (.mov (.t 6)),oG 11 46 43 false (.bin .neq (.t 44) (.t 45)),oP 12 47 (.pick (.t 43) (.c (.bool true)) (.t 46)),oM 13 48 47,oG 14 49 48 false (.mov (.t 12)),oG 15 50 48 false (.mov (.t 7)),oG 16 51 48 false (.bin .neq (.t 49) (.t 50)),oP 17 52 (.pick (.t 48) (.c (.bool true)) (.t 51))]
def qfT:List qC:=[oP 0 53 (.lload 8 0 (some 8)),oP 1 54 (.lload 1 0 (some 8)),oP 2 55 (.call 106 [.t 54]),oP 3 56 (.call 108 [.t 53,.t 55]),oP 4 57 (.not (.t 56))]
def qfM:qP:=.seq (.reg true qfR) (.seq (.seq (.reg true qfS) (.cond (.t 52) (.seq (.reg true [oP 0 2 (.mov (.c (.bool false)))]) (.ret)) (.skip))) (.seq (.seq (.reg true qfT) (.cond (.t 57) (.seq (.reg true [oP 0 2 (.mov (.c (.bool false)))]) (.ret)) (.skip))) (.seq (.reg true [oP 0 2 (.mov (.c (.bool true)))]) (.ret))))
def qfN:qP:=.seq (.reg true [oP 0 3 (.mov (.c (iI 1048576)))]) (.seq (.reg true qfO) (.seq (.seq (.reg true [oM 0 16 3,oP 1 17 (.bin .lss (.t 16) (.c (iI 0)))]) (.cond (.t 17) (.seq (.reg true [oP 0 2 (.mov (.c (.bool true)))]) (.ret)) (.skip))) (.seq (.reg true qfP) (.seq (.reg true qfQ) qfM))))
def F8:qJ:=⟨1,58,[.t 2],.seq (.reg true [oP 0 1 (.lbox 8 (.t 0)),oP 1 2 (.mov (.c (.bool false)))]) qfN⟩
def qMV:List qC:=[oP 0 9 (.lload 1 0 (some 8)),oM 1 10 3,oP 2 11 (.call 104 [.t 9,.t 10]),oM 3 3 11]
def qMW:List qC:=[oP 0 15 (.lload 1 0 (some 8)),oP 1 16 (.call 106 [.t 15]),oP 2 17 (.call 116 [.t 16]),oM 3 14 17,oP 4 18 (.ext (.t 14) 0),oP 5 19 (.ext (.t 14) 1),oM 6 4 18,oM 7 5 19]
def qMX:List qC:=[oP 0 20 (.lload 1 0 (some 8)),oP 1 21 (.call 106 [.t 20]),oP 2 6 (.lalloc (.agg [.nils,.nils,iI 0,iI 0,.nils,.nils,.nils,.nils])),oN 3 (.lstore 6 0 8 (.t 21))]
def qMY:List qC:=[oP 0 23 (.lload 6 0 (some 8)),oP 1 24 (.call 117 [.t 23]),oM 2 22 24,oP 3 25 (.ext (.t 22) 0),oP 4 26 (.ext (.t 22) 1),oM 5 7 25,oM 6 8 26]
def qMZ:List qC:=[oM 0 27 7,oM 1 28 4,oP 2 29 (.bin .neq (.t 27) (.t 28)),oM 3 30 29,oG 4 31 30 false (.mov (.t 8)),oG 5 32 30 false (.mov (.t 5)),oG 6 33 30 false (.bin .neq (.t 31) (.t 32)),oP 7 34 (.pick (.t 30) (.c (.bool true)) (.t 33))]
def qM0:List qC:=[oP 0 35 (.lload 6 0 (some 8)),oP 1 36 (.lload 1 0 (some 8)),oP 2 37 (.call 106 [.t 36]),oP 3 38 (.call 108 [.t 35,.t 37]),oP 4 39 (.not (.t 38))]
def qMT:qP:=.seq (.reg true qMY) (.seq (.seq (.reg true qMZ) (.cond (.t 34) (.seq (.reg true [oP 0 2 (.mov (.c (.bool false)))]) (.ret)) (.skip))) (.seq (.seq (.reg true qM0) (.cond (.t 39) (.seq (.reg true [oP 0 2 (.mov (.c (.bool false)))]) (.ret)) (.skip))) (.seq (.reg true [oP 0 2 (.mov (.c (.bool true)))]) (.ret))))
def qMU:qP:=.seq (.reg true [oP 0 3 (.mov (.c (iI 1048576)))]) (.seq (.reg true qMV) (.seq (.seq (.reg true [oM 0 12 3,oP 1 13 (.bin .lss (.t 12) (.c (iI 0)))]) (.cond (.t 13) (.seq (.reg true [oP 0 2 (.mov (.c (.bool true)))]) (.ret)) (.skip))) (.seq (.reg true qMW) (.seq (.reg true qMX) qMT))))
def F10:qJ:=⟨1,40,[.t 2],.seq (.reg true [oP 0 1 (.lbox 8 (.t 0)),oP 1 2 (.mov (.c (.bool false)))]) qMU⟩
abbrev qZW:=bO 2 [vD 1,uI 0,un 1 3,uH 2 5]
def K6:qJ:=⟨1,6,[.t 2],sr [ut 0 1] (sr qZW .ret)⟩
abbrev qZV:=bO 4 [vD 1,uI 0,un 1 5,uH 2 7]
def F401:qJ:=⟨1,8,[.t 2],sr [ut 0 1] (.seq (sB 2 [uI 0,UF 1 3] (cD 4 (sr [ut 0 1] .ret) sK)) (sr qZV .ret))⟩
abbrev qVJ:=bO 4 [vD 2,uI 0,un 2 5,uH 2 7]
def qD3:qJ:=⟨1,8,[.t 2],sr [ut 0 1] (.seq (sB 2 [uI 0,UF 1 3] (cD 4 (sr [ut 0 1] .ret) sK)) (sr qVJ .ret))⟩
abbrev qMC:=bO 2 [uL 1,uM 1 3,uD 3 (uC 5 (uL 1)),uD 4 (uM 1 4),uD 2 (uC 4 (uP 401)),uD 6 (uC 8 (uL 1)),uD 5 (uC 7 (uP 1373)),uZ 1 3 1 5,uC 9 (uL 1),uZ 1 4 1 8]
def US:qJ:=⟨1,12,[.l 2 (some 5)],sB 0 [uf 5 0,uw] (sr qMC (sB 10 [uQ 1 0 5,uc 2 0 5] .ret))⟩
abbrev qdD:=bO 5 [uL 1,uM 1 0,uS,UG 5 0 8,uA (.build (.agg [.nils]) [(0,1,.t 9)]),uC 2 vJ,uZ 3 0 1 10]
abbrev qdE:=bO 10 [uL 1,uM 1 0,uS,uO 0]
abbrev qdF:=bO 15 [ui 5 12 14,uW 5,uC 4 uw,uZ 5 0 5 17]
abbrev qdG:=bO 17 [uL 3,uM 3 0,uQ 5 0 5,uP 1085,vX 5 1 0 21,un 5 19,uL 3,uZ 3 0 1 23]
abbrev qdC:qP:=.loop (sr [uv 13 0 14] (.seq (cD 15 sK (.exit 0)) (.seq (.blk 1 (sr qdF (rg qdG))) (rB 24 [uu 14 1,uH 14 25]))))
def kV:qJ:=⟨1,27,[.l 2 (some 1)],sB 0 [uf 1 0,vJ] (sr qdD (.seq (sr qdE (.blk 0 qdC)) (sB 25 [uQ 3 0 1,uc 2 0 1] .ret)))⟩
def qTD:List qC:=[oP 0 16 (.lload 2 0 (some 8)),oM 1 17 5,oP 2 18 (.call 104 [.t 16,.t 17]),oM 3 5 18]
def qTE:List qC:=[oP 0 22 (.lload 2 0 (some 8)),oP 2 24 (.lload 3 0 (some 2)),oP 8 6 (.lalloc (.agg [.nils,.nils,iI 0,iI 0,.nils,.nils,.nils,.nils])),oP 1 23 (.call 106 [.t 22]),oP 3 25 (.call 134 [.t 24]),oP 4 26 (.call 133 [.t 23,.t 25]),oM 5 21 26,oP 6 27 (.ext (.t 21) 0),oP 7 28 (.ext (.t 21) 1),oN 9 (.lstore 6 0 8 (.t 27)),oM 10 7 28]
def qTI:List qC:=[oP 0 29 (.lload 2 0 (some 8)),oP 1 30 (.call 106 [.t 29]),oP 2 8 (.lalloc (.agg [.nils,.nils,iI 0,iI 0,.nils,.nils,.nils,.nils])),oN 3 (.lstore 8 0 8 (.t 30))]
def qTJ:List qC:=[oP 0 32 (.lload 8 0 (some 8)),oP 1 33 (.lload 3 0 (some 2)),oP 7 9 (.lalloc (.agg [.nils,.nils,iI 0,iI 0,.nils,.nils,.nils,.nils])),oP 2 34 (.call 134 [.t 33]),oP 3 35 (.call 135 [.t 32,.t 34]),oM 4 31 35,oP 5 36 (.ext (.t 31) 0),oP 6 37 (.ext (.t 31) 1),oN 8 (.lstore 9 0 8 (.t 36)),oM 9 10 37]
def qTK:List qC:=[oP 0 38 (.lload 9 0 (some 8)),oP 1 39 (.lload 6 0 (some 8)),oP 2 40 (.call 108 [.t 38,.t 39]),oP 3 41 (.not (.t 40)),oM 4 42 41,oG 5 43 42 false (.mov (.t 10)),oG 6 44 42 false (.mov (.t 7)),oG 7 45 42 false (.bin .neq (.t 43) (.t 44)),oP 8 46 (.pick (.t 42) (.c (.bool true)) (.t 45))]
def qTL:List qC:=[oP 0 47 (.lload 8 0 (some 8)),oP 1 48 (.lload 2 0 (some 8)),oP 2 49 (.call 106 [.t 48]),oP 3 50 (.call 108 [.t 47,.t 49]),oP 4 51 (.not (.t 50))]
def qTM:List qC:=[oP 0 52 (.lload 8 0 (some 8)),oM 1 53 11,oP 2 54 (.call 136 [.t 52,.t 53]),oM 3 11 54]
def qTN:List qC:=[oM 0 55 11,oP 1 56 (.bin .lss (.t 55) (.c (iI 0))),oM 2 57 56,oG 3 58 57 false (.lload 9 0 (some 8)),oG 4 59 57 false (.lload 6 0 (some 8)),oG 5 60 57 false (.call 108 [.t 58,.t 59]),oG 6 61 57 false (.not (.t 60)),oP 7 62 (.pick (.t 57) (.c (.bool true)) (.t 61)),oM 8 63 62,oG 9 64 63 false (.mov (.t 10)),oG 10 65 63 false (.mov (.t 7)),oG 11 66 63 false (.bin .neq (.t 64) (.t 65)),oP 12 67 (.pick (.t 63) (.c (.bool true)) (.t 66))]
def qTO:List qC:=[oP 0 68 (.lload 9 0 (some 8)),oM 1 69 12,oP 2 70 (.call 136 [.t 68,.t 69]),oM 3 12 70]
def qTP:List qC:=[oP 0 71 (.lload 9 0 (some 8)),oM 1 72 13,oP 2 73 (.call 137 [.t 71,.t 72]),oM 3 13 73]
def qTF:List qC:=[oP 0 80 (.lload 2 0 (some 8)),oP 2 82 (.lload 3 0 (some 2)),oP 8 14 (.lalloc (.agg [.nils,.nils,iI 0,iI 0,.nils,.nils,.nils,.nils])),oP 1 81 (.call 106 [.t 80]),oP 3 83 (.call 134 [.t 82]),oP 4 84 (.call 135 [.t 81,.t 83]),oM 5 79 84,oP 6 85 (.ext (.t 79) 0),oP 7 86 (.ext (.t 79) 1),oN 9 (.lstore 14 0 8 (.t 85)),oM 10 15 86]
def qTG:List qC:=[oP 0 87 (.lload 14 0 (some 8)),oP 1 88 (.lload 6 0 (some 8)),oP 2 89 (.call 108 [.t 87,.t 88]),oP 3 90 (.not (.t 89)),oM 4 91 90,oG 5 92 91 false (.mov (.t 15)),oG 6 93 91 false (.mov (.t 7)),oG 7 94 91 false (.bin .neq (.t 92) (.t 93)),oP 8 95 (.pick (.t 91) (.c (.bool true)) (.t 94))]
def qTH:List qC:=[oP 0 96 (.lload 9 0 (some 8)),oM 1 97 13,oP 2 98 (.call 137 [.t 96,.t 97]),oM 3 13 98]
def qS8:qP:=.seq (.seq (.reg true [oM 0 99 13,oP 1 100 (.bin .lss (.t 99) (.c (iI 0)))]) (.cond (.t 100) (.seq (.reg true [oP 0 4 (.mov (.c (.bool false)))]) (.ret)) (.skip))) (.seq (.seq (.reg true [oM 0 101 13,oM 1 102 12,oP 2 103 (.bin .neq (.t 101) (.t 102))]) (.cond (.t 103) (.seq (.reg true [oP 0 4 (.mov (.c (.bool false)))]) (.ret)) (.skip))) (.seq (.reg true [oP 0 4 (.mov (.c (.bool true)))]) (.ret)))
def qS9:qP:=.seq (.seq (.reg true [oM 0 76 13,oM 1 77 12,oP 2 78 (.bin .neq (.t 76) (.t 77))]) (.cond (.t 78) (.seq (.reg true [oP 0 4 (.mov (.c (.bool false)))]) (.ret)) (.skip))) (.seq (.reg true qTF) (.seq (.seq (.reg true qTG) (.cond (.t 95) (.seq (.reg true [oP 0 4 (.mov (.c (.bool false)))]) (.ret)) (.skip))) (.seq (.reg true [oP 0 13 (.mov (.c (iI 1)))]) (.seq (.reg true qTH) qS8))))
def qTA:qP:=.seq (.reg true qTO) (.seq (.reg true [oP 0 13 (.mov (.c (iI 1)))]) (.seq (.reg true qTP) (.seq (.seq (.reg true [oM 0 74 13,oP 1 75 (.bin .lss (.t 74) (.c (iI 0)))]) (.cond (.t 75) (.seq (.reg true [oP 0 4 (.mov (.c (.bool false)))]) (.ret)) (.skip))) qS9)))
def qTB:qP:=.seq (.seq (.reg true qTL) (.cond (.t 51) (.seq (.reg true [oP 0 4 (.mov (.c (.bool false)))]) (.ret)) (.skip))) (.seq (.reg true [oP 0 11 (.mov (.c (iI 1)))]) (.seq (.reg true qTM) (.seq (.seq (.reg true qTN) (.cond (.t 67) (.seq (.reg true [oP 0 4 (.mov (.c (.bool false)))]) (.ret)) (.skip))) (.seq (.reg true [oP 0 12 (.mov (.c (iI 1)))]) qTA))))
def qTC:qP:=.seq (.seq (.reg true [oM 0 19 5,oP 1 20 (.bin .lss (.t 19) (.c (iI 0)))]) (.cond (.t 20) (.seq (.reg true [oP 0 4 (.mov (.c (.bool true)))]) (.ret)) (.skip))) (.seq (.reg true qTE) (.seq (.reg true qTI) (.seq (.reg true qTJ) (.seq (.seq (.reg true qTK) (.cond (.t 46) (.seq (.reg true [oP 0 4 (.mov (.c (.bool false)))]) (.ret)) (.skip))) qTB))))
def F12:qJ:=⟨2,104,[.t 4],.seq (.reg true [oP 0 2 (.lbox 8 (.t 0)),oP 1 3 (.lbox 2 (.t 1)),oP 2 4 (.mov (.c (.bool false)))]) (.seq (.reg true [oP 0 5 (.mov (.c (iI 1048576)))]) (.seq (.reg true qTD) qTC))⟩
abbrev qd4:qP:=.seq (sB 4 [uI 0,uI 1,vv 5 6] (cD 7 (sB 7 [uI 0,uH 4 8] .ret) sK)) (sB 8 [uI 1,uH 4 9] .ret)
def ke:qJ:=⟨2,10,[.t 4],sr [uO 0 0 3] qd4⟩
abbrev qOX:=bO 4 [uR,uI 0,uN,uK 0,uJ,uS,uq 5]
abbrev qOY:=bO 13 [uI 3,uI 0,uN,uK 0,uJ,uI 4,uT 5 18,uK 1,uJ,uV 856 14,uH 3 23]
abbrev qOW:=sr [uO 0 0 3] (.blk 0 (.loop (.seq (sr qOX (cD 11 sK (.exit 0))) (.seq (.blk 1 (rg qOY)) (rB 11 [uI 4,uk 1,uH 4 13])))))
def Ue:qJ:=⟨1,25,[.t 2],sr [uO 0 0 1] (sr [uO 0 0 2] (.seq qOW (sB 23 [uI 3,uH 2 24] .ret)))⟩
abbrev qNO:=bO 2 [uI 0,uA (.conv .u64 (.t 3)),uA (.conv .u32 (.t 4)),uA (.conv .i32 (.t 5)),uA (.conv .i64 (.t 6)),uH 2 7]
def UZ:qJ:=⟨1,8,[.t 2],sr [uO 0 0 1] (sr qNO .ret)⟩
def Ua:qJ:=⟨1,4,[.t 2],sr [uO 0 0 1] (.seq (sr [uI 0 0 2] (cD 3 (sr [uO 1 0 1] .ret) sK)) (sr [uO 0 0 1] .ret))⟩
abbrev qc5:=bO 15 [uI 7,uI 8,vj 16 17,uP 1125,uH 6 19]
abbrev qc6:=bO 21 [uI 7,uI 8,UC 22 23,uP 1125,uH 6 25]
abbrev qc7:=bO 27 [uI 7,uI 8,uA (.bin .mul (.t 28) (.t 29)),uP 1125,uH 6 31]
abbrev qc8:=bO 35 [uI 7,uI 8,uA (.bin .quo (.t 36) (.t 37)),uP 1125,uH 6 39]
abbrev qc9:=bO 41 [uI 7,uI 8,uq 42,uP 1126,uH 6 45]
abbrev qdA:=bO 47 [uI 7,uI 8,vk 48 49,uP 1126,uH 6 51]
abbrev qc2:=cD 32 (.seq (sB 33 [uI 8,uU 0] (cD 35 (sr [uO 0 0 5] .ret) sK)) (sr qc8 .ret)) (sB 40 [uX 13 5,uH 40 41] (cD 40 (sr qc9 .ret) (sB 46 [uX 13 6,uH 46 47] (cD 46 (sr qdA .ret) sK))))
abbrev qc3:=sB 20 [uX 13 2,uH 20 21] (cD 20 (sr qc6 .ret) (sB 26 [uX 13 3,uH 26 27] (cD 26 (sr qc7 .ret) (sB 32 [uX 13 4,uH 32 33] qc2))))
abbrev qc4:=sB 10 [uI 2,uP 1125,uH 8 12] (.seq (sr [uI 0 0 12] (.blk 0 (sB 14 [uX 13 1,uH 14 15] (cD 14 (sr qc5 .ret) qc3)))) (sr [uO 0 0 5] .ret))
def kT:qJ:=⟨3,52,[.t 6],sr [uO 0 0 5] (sB 8 [uI 1,uP 1125,uH 7 10] qc4)⟩
abbrev qW6:=bO 8 [uQ 2 0 1,uP 798,uC 5 vJ,uZ 6 0 1 10]
abbrev qW7:=bO 10 [uL 6,uM 6 0,uS,uO 0]
abbrev qW8:=bO 16 [uL 6,uM 6 0,uI 7,uT 5 18,uH 8 20]
abbrev qW9:=bO 20 [uI 8,uN,uK 0,uJ,uP 1375,ug]
abbrev qXA:=bO 26 [uI 8,uN,uK 1,uJ,uI 1,vj 30 31,vC 27,uK 1,ud 1 32]
abbrev qXB:=bO 34 [uI 8,uN,uK 1,uJ,vu 38 8]
abbrev qW4:=sB 15 [uI 14,uH 7 16] (sr qW8 (.seq (sr qW9 (cD 26 (.exit 1) sK)) (sr qXA (sr qXB (cD 39 (sB 39 [uA (.build (.agg [.nils]) []),uc 4 0 1,uC 4 uY] .ret) sK)))))
abbrev qW5:qP:=.seq (sr qW7 (.blk 0 (.loop (sr [uv 13 0 14] (.seq (cD 15 sK (.exit 0)) (.seq (.blk 1 qW4) (rB 40 [uu 14 1,uH 14 41]))))))) (sB 41 [uQ 6 0 1,uc 4 0 1,uC 4 u9] .ret)
def Kh:qJ:=⟨2,43,[.l 4 (some 1),.t 5],sB 1 [uf 1 0,uC 3 vJ,uY] (sr qW6 qW5)⟩
abbrev qTS:=bO 2 [uf 2 1,uO 0,uO 0,uO 0,uO 0]
abbrev qTT:=bO 12 [uI 0,uN,uK 0,uQ 3 0 2,uV 751 15,uH 12 17,uC 17 (ub 12 0),ub 12 1,uH 4 18,uH 8 19]
abbrev qTV:=bO 19 [uL 3,uM 3 0,uL 3,uM 3 1,uH 5 21,uI 23]
abbrev qTW:=bO 24 [uI 6,uI 5,uH 5 25,uI 26]
abbrev qTX:=bO 3 [uO 0,uO 0,uO 0,uO 11]
abbrev qTY:=bO 31 [uI 0,uN,uK 0,uK 0,uJ,uI 5,uT 5 36,uW 5,uC 8 uw,uZ 9 0 5 39]
abbrev qTZ:=bO 39 [uL 9,uM 9 2,uI 0,uN,uK 1,uJ,uS,vt 41 46]
abbrev qT0:=bO 3 [uO 0,uO 0,uO 0,uO 3]
abbrev qT1:=bO 48 [uI 0,uN,uK 1,uJ,uL 9,uM 9 2,uT 1 52,uW 1,uL 9,uM 9 1,uD 14 (uC 9 vJ),uD 10 (uC 58 (uV 1456 56)),uD 11 (uH 48 59),uD 12 (uC 59 (ub 48 0)),uD 13 (ub 48 1),uZ 10 0 1 60,uH 11 61]
abbrev qT2:=bO 3 [uO 0,uO 0,uO 0,uO 9]
abbrev qTQ:=sB 30 [uX 27 7,uH 30 31] (cD 30 (sr qTY (.seq (sr qTZ (cD 47 (sr qT0 .ret) sK)) (sr qT1 (sB 61 [uI 11,ug] (cD 63 (sr qT2 .ret) sK))))) sK)
abbrev qTU:=bO 63 [uI 4,uI 5,uI 6,uH 4 64,uI 65,uI 66,uO 0]
abbrev qTR:qP:=.seq (sr [uI 8 0 23] (cD 24 (rg qTW) sK)) (.seq (sr [uI 4 0 26] (.blk 0 (sB 28 [uX 27 8,uH 28 29] (cD 28 (sr qTX .ret) qTQ)))) (sr qTU .ret))
def KB:qJ:=⟨2,67,[.t 4,.t 5,.t 6,.t 7],sr qTS (sr qTT (sr qTV qTR))⟩
def kH:qJ:=⟨1,4,[.t 2],sr [uO 0 0 1] (.seq (sr [uI 0 0 2] (cD 3 (sr [uO 1 0 1] .ret) sK)) (sr [uO 0 0 1] .ret))⟩
abbrev qWQ:=bO 2 [uI 0,uA (.conv .i32 (.t 3)),uA (.conv .i64 (.t 4)),uH 2 5]
def Ka:qJ:=⟨1,6,[.t 2],sr [uO 0 0 1] (sr qWQ .ret)⟩
abbrev qNH:=bO 8 [uI 1,uP 1400,uI 2,uP 1400,uH 7 10,uI 12]
abbrev qNI:=bO 15 [uI 7,uI 8,vj 16 17,uP 1400,uH 6 19]
abbrev qNJ:=bO 21 [uI 7,uI 8,UC 22 23,uP 1400,uH 6 25]
abbrev qNK:=bO 27 [uI 7,uI 8,uA (.bin .mul (.t 28) (.t 29)),uP 1400,uH 6 31]
abbrev qNL:=bO 35 [uI 7,uI 8,uA (.bin .quo (.t 36) (.t 37)),uP 1400,uH 6 39]
abbrev qNM:=bO 41 [uI 7,uI 8,uq 42,uP 566,uH 6 45]
abbrev qNN:=bO 47 [uI 7,uI 8,vk 48 49,uP 566,uH 6 51]
abbrev qNE:=cD 32 (.seq (sB 33 [uI 8,uU 0] (cD 35 (sr [uO 0 0 5] .ret) sK)) (sr qNL .ret)) (sB 40 [uX 13 5,uH 40 41] (cD 40 (sr qNM .ret) (sB 46 [uX 13 6,uH 46 47] (cD 46 (sr qNN .ret) sK))))
abbrev qNF:=sB 20 [uX 13 2,uH 20 21] (cD 20 (sr qNJ .ret) (sB 26 [uX 13 3,uH 26 27] (cD 26 (sr qNK .ret) (sB 32 [uX 13 4,uH 32 33] qNE))))
abbrev qNG:=sr qNH (.seq (sr [uI 0 0 12] (.blk 0 (sB 14 [uX 13 1,uH 14 15] (cD 14 (sr qNI .ret) qNF)))) (sr [uO 0 0 5] .ret))
def UY:qJ:=⟨3,52,[.t 6],sr [uO 0 0 5] qNG⟩
abbrev qhU:qP:=.seq (sB 4 [uI 0,uI 1,uq 5] (cD 7 (sB 7 [uI 0,uH 4 8] .ret) sK)) (sB 8 [uI 1,uH 4 9] .ret)
def F978:qJ:=⟨2,10,[.t 4],sr [uO 0 0 3] qhU⟩
def qD6:qJ:=Qc 2 (some 2)
def qX7:List qC:=[oP 0 1 (.lbox 4 (.t 0)),oP 1 2 (.lalloc (.agg [iI 0,iI 0,iI 0,.nils])),oP 2 3 (.mov (.c (iI 0))),oP 3 4 (.mov (.c (iI 0)))]
def qX8:List qC:=[oP 0 10 (.build (.agg [iI 0,iI 0,iI 0,.nils]) []),oN 1 (.lstore 2 0 4 (.t 10)),oP 2 3 (.mov (.c (iI 0))),oP 3 4 (.mov (.c (iI 1)))]
def qX9:List qC:=[oP 0 11 (.lload 1 0 (some 4)),oP 1 12 (.call 590 [.t 11]),oP 2 5 (.halloc 4 (.agg [iI 0,iI 0,iI 0,.nils])),oN 3 (.store 4 (.t 5) (.t 12))]
def qYA:List qC:=[oP 0 16 (.build (.agg [iI 0,iI 0,iI 0,.nils]) []),oN 1 (.lstore 2 0 4 (.t 16)),oP 2 3 (.mov (.c (iI 0))),oP 3 4 (.mov (.c (iI 3)))]
def qYB:List qC:=[oP 0 17 (.load (some 4) (.t 5)),oP 1 18 (.faddr 3 (.t 5)),oP 2 19 (.load none (.t 18)),oM 3 20 6,oP 4 21 (.iaddr 10 (.t 19) (.t 20)),oP 5 22 (.faddr 0 (.t 21)),oP 6 23 (.load none (.t 22)),oN 7 (.lstore 2 0 4 (.t 17)),oM 8 3 23,oP 9 4 (.mov (.c (iI 0)))]
def qX6:qP:=.seq (.reg true qX9) (.seq (.reg true [oP 0 13 (.call 591 [.t 5]),oM 1 6 13]) (.seq (.seq (.reg true [oM 0 14 6,oP 1 15 (.bin .lss (.t 14) (.c (iI 0)))]) (.cond (.t 15) (.seq (.reg true qYA) (.ret)) (.skip))) (.seq (.reg true qYB) (.ret))))
def WA:qJ:=⟨1,24,[.l 2 (some 4),.t 3,.t 4],.seq (.reg true qX7) (.seq (.seq (.reg true [oP 0 7 (.lload 1 0 (some 4)),oP 1 8 (.call 589 [.t 7]),oP 2 9 (.not (.t 8))]) (.cond (.t 9) (.seq (.reg true qX8) (.ret)) (.skip))) qX6)⟩
def qZD:List qC:=[oM 0 20 0,oP 1 21 (.call 61 [.t 20]),oP 2 3 (.lalloc (.agg [.nils])),oN 3 (.lstore 3 0 1 (.t 21))]
def qZE:List qC:=[oP 0 23 (.lload 3 0 (some 1)),oP 1 24 (.call 62 [.t 23]),oM 2 22 24,oP 3 25 (.ext (.t 22) 0),oP 4 26 (.ext (.t 22) 1),oM 5 4 25,oM 6 5 26]
def qZL:List qC:=[oP 0 28 (.lload 3 0 (some 1)),oP 1 29 (.call 63 [.t 28]),oM 2 27 29,oP 3 30 (.ext (.t 27) 0),oP 4 31 (.ext (.t 27) 1),oM 5 6 30,oM 6 7 31]
def qZO:List qC:=[oM 0 32 5,oP 1 33 (.bin .neq (.t 32) (.c (iI 0))),oM 2 34 33,oG 3 35 34 false (.mov (.t 7)),oG 4 36 34 false (.bin .neq (.t 35) (.c (iI 0))),oP 5 37 (.pick (.t 34) (.c (.bool true)) (.t 36)),oM 6 38 37,oG 7 39 38 false (.mov (.t 4)),oG 8 40 38 false (.len (.t 39)),oG 9 41 38 false (.bin .eql (.t 40) (.c (iI 0))),oP 10 42 (.pick (.t 38) (.c (.bool true)) (.t 41)),oM 11 43 42,oG 12 44 43 false (.mov (.t 4)),oG 13 45 43 false (.iaddr 1 (.t 44) (.c (iI 0))),oG 14 46 43 false (.load none (.t 45)),oG 15 47 43 false (.mov (.t 6)),oG 16 48 43 false (.call 64 [.t 46,.t 47]),oG 17 49 43 false (.not (.t 48)),oP 18 50 (.pick (.t 43) (.c (.bool true)) (.t 49))]
def qZP:List qC:=[oP 0 51 (.nop 3),oP 1 52 (.lload 3 0 none),oP 2 53 (.len (.t 52)),oP 3 54 (.mksl 1 (iI 0) (.t 53) (.t 53)),oM 4 8 54]
def qZQ:List qC:=[oM 0 55 10,oM 1 56 4,oP 2 57 (.len (.t 56)),oP 3 58 (.bin .lss (.t 55) (.t 57))]
def qZR:List qC:=[oP 0 62 (.lload 3 0 (some 1)),oM 1 63 4,oM 2 64 10,oP 3 65 (.iaddr 1 (.t 63) (.t 64)),oP 4 66 (.load none (.t 65)),oM 5 67 4,oM 6 68 10,oP 7 69 (.iaddr 1 (.t 67) (.t 68)),oP 8 70 (.load none (.t 69)),oP 9 71 (.len (.t 70)),oP 10 72 (.bin .sub (.t 71) (.c (iI 1))),oP 11 73 (.iaddr 1 (.t 66) (.t 72)),oP 12 74 (.load none (.t 73)),oP 13 75 (.call 65 [.t 62,.t 74]),oM 14 61 75,oP 15 76 (.ext (.t 61) 0),oP 16 77 (.ext (.t 61) 1),oM 17 11 76,oM 18 12 77]
def qZS:List qC:=[oM 0 78 12,oP 1 79 (.bin .neq (.t 78) (.c (iI 0))),oM 2 80 79,oG 3 81 80 false (.mov (.t 11)),oG 4 82 80 false (.len (.t 81)),oG 5 83 80 false (.mov (.t 4)),oG 6 84 80 false (.mov (.t 10)),oG 7 85 80 false (.iaddr 1 (.t 83) (.t 84)),oG 8 86 80 false (.load none (.t 85)),oG 9 87 80 false (.len (.t 86)),oG 10 88 80 false (.bin .neq (.t 82) (.t 87)),oP 11 89 (.pick (.t 80) (.c (.bool true)) (.t 88)),oM 12 90 89,oG 13 91 90 false (.mov (.t 10)),oG 14 92 90 false (.bin .gtr (.t 91) (.c (iI 0))),oG 15 93 90 false (.mov (.t 92)),oG 16 94 93 true (.mov (.t 4)),oG 17 95 93 true (.mov (.t 10)),oG 18 96 93 true (.bin .sub (.t 95) (.c (iI 1))),oG 19 97 93 true (.iaddr 1 (.t 94) (.t 96)),oG 20 98 93 true (.load none (.t 97)),oG 21 99 93 true (.iaddr 1 (.t 98) (.c (iI 0))),oG 22 100 93 true (.load none (.t 99)),oG 23 101 93 true (.mov (.t 4)),oG 24 102 93 true (.mov (.t 10)),oG 25 103 93 true (.iaddr 1 (.t 101) (.t 102)),oG 26 104 93 true (.load none (.t 103)),oG 27 105 93 true (.iaddr 1 (.t 104) (.c (iI 0))),oG 28 106 93 true (.load none (.t 105)),oG 29 107 93 true (.bin .geq (.t 100) (.t 106)),oG 30 108 90 false (.pick (.t 93) (.t 107) (.c (.bool false))),oP 31 109 (.pick (.t 90) (.c (.bool true)) (.t 108))]
def qZT:List qC:=[oM 0 110 13,oM 1 111 4,oM 2 112 10,oP 3 113 (.iaddr 1 (.t 111) (.t 112)),oP 4 114 (.load none (.t 113)),oP 5 115 (.len (.t 114)),oP 6 116 (.bin .lss (.t 110) (.t 115))]
def qZU:List qC:=[oM 0 119 13,oP 1 120 (.bin .gtr (.t 119) (.c (iI 0))),oM 2 121 120,oG 3 122 121 true (.mov (.t 4)),oG 4 123 121 true (.mov (.t 10)),oG 5 124 121 true (.iaddr 1 (.t 122) (.t 123)),oG 6 125 121 true (.load none (.t 124)),oG 7 126 121 true (.mov (.t 13)),oG 8 127 121 true (.bin .sub (.t 126) (.c (iI 1))),oG 9 128 121 true (.iaddr 1 (.t 125) (.t 127)),oG 10 129 121 true (.load none (.t 128)),oG 11 130 121 true (.mov (.t 4)),oG 12 131 121 true (.mov (.t 10)),oG 13 132 121 true (.iaddr 1 (.t 130) (.t 131)),oG 14 133 121 true (.load none (.t 132)),oG 15 134 121 true (.mov (.t 13)),oG 16 135 121 true (.iaddr 1 (.t 133) (.t 134)),oG 17 136 121 true (.load none (.t 135)),oG 18 137 121 true (.bin .geq (.t 129) (.t 136)),oP 19 138 (.pick (.t 121) (.t 137) (.c (.bool false))),oM 20 139 138,oG 21 140 139 false (.mov (.t 11)),oG 22 141 139 false (.mov (.t 4)),oG 23 142 139 false (.mov (.t 10)),oG 24 143 139 false (.iaddr 1 (.t 141) (.t 142)),oG 25 144 139 false (.load none (.t 143)),oG 26 145 139 false (.mov (.t 13)),oG 27 146 139 false (.iaddr 1 (.t 144) (.t 145)),oG 28 147 139 false (.load none (.t 146)),oG 29 148 139 false (.call 66 [.t 140,.t 147]),oG 30 149 139 false (.not (.t 148)),oP 31 150 (.pick (.t 139) (.c (.bool true)) (.t 149))]
def qZF:List qC:=[oM 0 151 8,oM 1 152 4,oM 2 153 10,oP 3 154 (.iaddr 1 (.t 152) (.t 153)),oP 4 155 (.load none (.t 154)),oM 5 156 13,oP 6 157 (.iaddr 1 (.t 155) (.t 156)),oP 7 158 (.load none (.t 157)),oM 8 159 10,oP 9 160 (.bin .add (.t 159) (.c (iI 1))),oP 10 161 (.iaddr 1 (.t 151) (.t 158)),oN 11 (.store 1 (.t 161) (.t 160))]
def qY6:qP:=.seq (.seq (.reg true qZT) (.cond (.t 116) (.skip) (.exit 2))) (.seq (.blk 3 (.seq (.seq (.reg true qZU) (.cond (.t 150) (.seq (.reg true [oP 0 2 (.mov (.c (.bool false)))]) (.ret)) (.skip))) (.reg true qZF))) (.reg true [oM 0 117 13,oP 1 118 (.bin .add (.t 117) (.c (iI 1))),oM 2 13 118]))
def qZG:List qC:=[oM 0 162 9,oM 1 163 4,oM 2 164 10,oP 3 165 (.iaddr 1 (.t 163) (.t 164)),oP 4 166 (.load none (.t 165)),oP 5 167 (.len (.t 166)),oP 6 168 (.bin .add (.t 162) (.t 167)),oM 7 9 168]
def qY7:qP:=.seq (.reg true qZR) (.seq (.seq (.reg true qZS) (.cond (.t 109) (.seq (.reg true [oP 0 2 (.mov (.c (.bool false)))]) (.ret)) (.skip))) (.seq (.seq (.reg true [oP 0 13 (.mov (.c (iI 0)))]) (.blk 2 (.loop qY6))) (.reg true qZG)))
def qY8:qP:=.seq (.reg true [oP 0 10 (.mov (.c (iI 0)))]) (.blk 0 (.loop (.seq (.seq (.reg true qZQ) (.cond (.t 58) (.skip) (.exit 0))) (.seq (.blk 1 qY7) (.reg true [oM 0 59 10,oP 1 60 (.bin .add (.t 59) (.c (iI 1))),oM 2 10 60])))))
def qZH:List qC:=[oM 0 169 9,oP 1 170 (.nop 3),oP 2 171 (.lload 3 0 none),oP 3 172 (.len (.t 171)),oP 4 173 (.bin .neq (.t 169) (.t 172))]
def qZI:List qC:=[oM 0 174 14,oP 1 175 (.nop 3),oP 2 176 (.lload 3 0 none),oP 3 177 (.len (.t 176)),oP 4 178 (.bin .lss (.t 174) (.t 177))]
def qZJ:List qC:=[oM 0 181 15,oP 1 182 (.nop 3),oP 2 183 (.lload 3 0 none),oM 3 184 14,oP 4 185 (.iaddr 5 (.t 183) (.t 184)),oP 5 186 (.faddr 4 (.t 185)),oP 6 187 (.load none (.t 186)),oP 7 188 (.len (.t 187)),oP 8 189 (.bin .lss (.t 181) (.t 188))]
def qZK:List qC:=[oM 0 192 8,oM 1 193 14,oP 2 194 (.iaddr 1 (.t 192) (.t 193)),oP 3 195 (.load none (.t 194)),oP 4 196 (.bin .eql (.t 195) (.c (iI 0))),oM 5 197 196,oG 6 198 197 false (.mov (.t 8)),oG 7 199 197 false (.nop 3),oG 8 200 197 false (.lload 3 0 none),oG 9 201 197 false (.mov (.t 14)),oG 10 202 197 false (.iaddr 5 (.t 200) (.t 201)),oG 11 203 197 false (.faddr 4 (.t 202)),oG 12 204 197 false (.load none (.t 203)),oG 13 205 197 false (.mov (.t 15)),oG 14 206 197 false (.iaddr 2 (.t 204) (.t 205)),oG 15 207 197 false (.faddr 0 (.t 206)),oG 16 208 197 false (.load none (.t 207)),oG 17 209 197 false (.iaddr 1 (.t 198) (.t 208)),oG 18 210 197 false (.load none (.t 209)),oG 19 211 197 false (.mov (.t 8)),oG 20 212 197 false (.mov (.t 14)),oG 21 213 197 false (.iaddr 1 (.t 211) (.t 212)),oG 22 214 197 false (.load none (.t 213)),oG 23 215 197 false (.bin .neq (.t 210) (.t 214)),oP 24 216 (.pick (.t 197) (.c (.bool true)) (.t 215))]
def qY9:qP:=.loop (.seq (.seq (.reg true qZJ) (.cond (.t 189) (.skip) (.exit 6))) (.seq (.blk 7 (.seq (.reg true qZK) (.cond (.t 216) (.seq (.reg true [oP 0 2 (.mov (.c (.bool false)))]) (.ret)) (.skip)))) (.reg true [oM 0 190 15,oP 1 191 (.bin .add (.t 190) (.c (iI 1))),oM 2 15 191])))
def qZA:qP:=.loop (.seq (.seq (.reg true qZI) (.cond (.t 178) (.skip) (.exit 4))) (.seq (.blk 5 (.seq (.reg true [oP 0 15 (.mov (.c (iI 0)))]) (.blk 6 qY9))) (.reg true [oM 0 179 14,oP 1 180 (.bin .add (.t 179) (.c (iI 1))),oM 2 14 180])))
def qZM:List qC:=[oP 0 218 (.lload 3 0 (some 1)),oP 1 219 (.call 67 [.t 218]),oM 2 217 219,oP 3 220 (.ext (.t 217) 0),oP 4 221 (.ext (.t 217) 1),oP 5 16 (.lalloc (.agg [.nils])),oN 6 (.lstore 16 0 1 (.t 220)),oM 7 17 221]
def qZN:List qC:=[oM 0 222 17,oP 1 223 (.bin .eql (.t 222) (.c (iI 0))),oM 2 224 223,oG 3 225 224 true (.nop 16),oG 4 226 224 true (.lload 16 0 none),oG 5 227 224 true (.len (.t 226)),oG 6 228 224 true (.mov (.t 6)),oG 7 229 224 true (.len (.t 228)),oG 8 230 224 true (.bin .eql (.t 227) (.t 229)),oP 9 231 (.pick (.t 224) (.t 230) (.c (.bool false))),oM 10 232 231,oG 11 233 232 true (.lload 16 0 (some 1)),oG 12 234 232 true (.call 68 [.t 233]),oP 13 235 (.pick (.t 232) (.t 234) (.c (.bool false))),oM 14 236 235,oG 15 237 236 true (.nop 16),oG 16 238 236 true (.lload 16 0 none),oG 17 239 236 true (.len (.t 238)),oG 18 240 236 true (.nop 3),oG 19 241 236 true (.lload 3 0 none),oG 20 242 236 true (.len (.t 241)),oG 21 243 236 true (.bin .eql (.t 239) (.t 242)),oG 22 244 236 true (.mov (.t 4)),oG 23 245 236 true (.len (.t 244)),oG 24 246 236 true (.bin .eql (.t 245) (.c (iI 1))),oG 25 247 236 true (.beq false (.t 243) (.t 246)),oP 26 248 (.pick (.t 236) (.t 247) (.c (.bool false))),oM 27 2 248]
def qZB:qP:=.seq (.reg true [oP 0 9 (.mov (.c (iI 0)))]) (.seq qY8 (.seq (.seq (.reg true qZH) (.cond (.t 173) (.seq (.reg true [oP 0 2 (.mov (.c (.bool false)))]) (.ret)) (.skip))) (.seq (.seq (.reg true [oP 0 14 (.mov (.c (iI 0)))]) (.blk 4 qZA)) (.seq (.reg true qZM) (.seq (.reg true qZN) (.ret))))))
def qZC:qP:=.seq (.seq (.reg true [oM 0 18 0,oP 1 19 (.call 60 [.t 18,.c (.nils)])]) (.cond (.t 19) (.seq (.reg true [oP 0 2 (.mov (.c (.bool true)))]) (.ret)) (.skip))) (.seq (.reg true qZD) (.seq (.reg true qZE) (.seq (.reg true qZL) (.seq (.seq (.reg true qZO) (.cond (.t 50) (.seq (.reg true [oP 0 2 (.mov (.c (.bool false)))]) (.ret)) (.skip))) (.seq (.reg true qZP) qZB)))))
def F3:qJ:=⟨1,249,[.t 2],.seq (.reg true [oP 0 2 (.mov (.c (.bool false)))]) qZC⟩
abbrev qfV:=bO 4 [uL 2,uM 2 0,uL 3,uM 3 0,uq 6,uR,uF 10 (uL 2),uF 10 (uM 2 0),uF 10 (uL 3),uF 10 (uM 3 0),uF 10 (vk 12 14),uF 10 uR,uE 16 (uL 2),uE 16 (uM 2 1),uE 16 (uL 3),uE 16 (uM 3 1),uE 16 (uq 18),uF 10 (ua 16),uj 10,uH 4 23]
def F948:qJ:=⟨2,24,[.t 4],sB 1 [uf 2 0,uf 2 1,uY] (sr qfV .ret)⟩
abbrev qbK:=bO 7 [uI 4,uI 0,uN,uK 0,uJ,uS,uq 8]
abbrev qbL:=bO 16 [uI 5,uI 0,uN,uK 0,uJ,uI 4,uT 5 21,uK 4,uJ,uS,uq 17]
abbrev qbM:=bO 29 [uI 4,uI 5,vK 0 1 30 1 1 31,uC 5 ue,uZ 6 0 2 32]
abbrev qbN:=bO 32 [uQ 6 0 2,uI 0,uN,uK 0,uJ,uI 4,uT 5 37,uK 4,uJ,uI 5,uT 2 41,uW 2,uV 948 33]
abbrev qbO:=bO 45 [uI 3,uQ 6 0 2,uI 0,uN,uK 0,uJ,uI 4,uT 5 51,uK 4,uJ,uI 5,uT 2 55,uW 2,u5 0 2 47 2 2 58,vE 4 1 0 59,un 4 46,uH 3 61]
abbrev qbI:qP:=.loop (.seq (sr qbL (cD 27 sK (.exit 2))) (.seq (.blk 3 (sr qbM (sr qbN (cD 45 (rg qbO) sK)))) (rB 27 [uI 5,uk 1,uH 5 29])))
abbrev qbJ:qP:=.loop (.seq (sr qbK (cD 14 sK (.exit 0))) (.seq (.blk 1 (sr [uO 0 0 4] (.blk 2 qbI))) (rB 14 [uI 4,uk 1,uH 4 16])))
def kI:qJ:=⟨1,63,[.t 2],sr [ut 0 1] (sB 6 [vD 4,uH 3 7] (.seq (sr [uO 0 0 3] (.blk 0 qbJ)) (sB 61 [uI 3,uH 2 62] .ret)))⟩
abbrev qNR:=bO 11 [uI 7,uI 6,uS,uq 12]
abbrev qNS:=bO 17 [uI 6,uI 7,uT 4 18,uK 0,uW 2,uC 7 ue,uZ 8 0 2 22]
abbrev qNT:=bO 22 [uI 6,uI 7,uT 4 23,uK 2,uW 2,uC 8 ue,uZ 9 0 2 27]
abbrev qNU:=bO 27 [uL 9,uM 9 1,vu 29 0,uR,uE 31 (uL 8),uE 31 (uM 8 1),uE 31 (vu 33 0),uE 31 uR,uF 35 (uL 8),uF 35 (uM 8 0),uF 35 (uU 0),uF 35 uR,uE 39 (uI 1),uF 35 (ua 39),uE 31 (uj 35),ua 31]
abbrev qNP:qP:=.seq (.blk 1 (sr qNS (sr qNT (sr qNU (cD 43 (rB 43 [uI 5,uk 1,uH 5 45]) sK))))) (rB 15 [uI 7,uk 1,uH 7 17])
abbrev qNQ:=sB 9 [uI 0,uP 569,uH 6 11] (.seq (sr [uO 0 0 6] (.blk 0 (.loop (.seq (sr qNR (cD 15 sK (.exit 0))) qNP)))) (sB 45 [uI 5,uH 4 46] .ret))
def Ub:qJ:=⟨2,47,[.t 4],sr [uO 0 0 3] (sr [uO 0 0 4] qNQ)⟩
abbrev qNX:=bO 10 [uL 3,uM 3 0,uI 4,uk 1,vZ 2 1 14,vX 5 1 0 15,un 5 12,uL 3,uZ 3 0 1 17]
abbrev qNV:qP:=.seq (sB 5 [uI 4,uI 0,uq 6] (cD 8 sK (.exit 0))) (.seq (.blk 1 (rg qNX)) (rB 8 [uI 4,uk 1,uH 4 10]))
abbrev qNY:=bO 18 [uL 3,uM 3 0,uI 0,v8 21 1,uT 5 20,uK 2,uB (.store 1 (.t 24) (.c (iI (-1))))]
abbrev qNW:=sB 4 [vH,uC 2 vG,uZ 3 0 5 5] (.seq (sr [uO 0 0 3] (.blk 0 (.loop qNV))) (sr qNY (sB 24 [uQ 3 0 5,uc 2 0 5] .ret)))
def Uc:qJ:=⟨1,26,[.l 2 (some 5)],sr [vG 0 1] qNW⟩
abbrev qPR:=bO 5 [uI 0,uI 0,uN,uK 4,uJ,uI 1,uI 2,uD 8 (uH 14 1),uD 9 (uI 2),uD 7 (uC 12 (uG [uJ 4 9] (uV 978 11))),uC 15 (uG [uJ 4 9] (uV 856 14)),vK 0 1 13 1 1 16,uz 2 1 0 17,un 2 10,vC 6,uK 4,ud 1 19]
def Uo:qJ:=⟨3,22,[],rg qPR⟩
abbrev qP5:=bO 5 [uI 0,uN,uK 1,uJ,uH 5 9]
abbrev qP6:=bO 9 [uI 0,uI 0,uN,uK 0,uJ,uI 5,uT 5 14,uK 2,uJ,vC 10,uK 1,ud 1 18]
abbrev qP7:=bO 20 [uI 0,uN,uK 0,uJ,uI 5,uQ 3 0 5,ui 5 24 25,ud 5 26]
def Ur:qJ:=⟨2,29,[.t 4],sB 2 [uf 5 1,uO 0] (sr qP5 (sr qP6 (sr qP7 (sB 27 [uI 5,uH 4 28] .ret))))⟩
abbrev qWR:=bO 2 [uI 0,vO 0 1 13,uV 1282 3,vF 0 1 2 1 1 5,uc 2 0 2]
def Kb:qJ:=⟨1,7,[.l 2 (some 2)],sr [ue 0 1] (sr qWR .ret)⟩
abbrev qN9:=bO 23 [uI 10,uI 1,uN,uK 0,uJ,uS,uq 24]
abbrev qOA:=bO 32 [uI 1,uN,uK 0,uJ,uI 10,uT 5 36,uH 11 38]
abbrev qOK:=bO 38 [uI 11,uN,uK 0,uJ,uI 11,uN,uK 1,uJ,uI 11,uN,uK 2,uJ,uI 11,uN,uK 3,uJ,uD 18 (uC 11 uw),uD 16 (uC 54 (uG [uJ 3 41,uJ 7 45,uJ 11 49] (uP 402))),uD 17 (vY 0 1 42 1 1 46 2 1 50 3 1 55),uc 12 0 5]
abbrev qOR:=bO 59 [uL 12,uM 12 1,uI 2,vj 61 62,uL 12,uZ 12 1 1 63]
abbrev qOS:=bO 64 [uI 13,uI 11,uN,uK 4,uJ,uS,uq 65]
abbrev qOT:=bO 73 [uL 12,uM 12 4,vM,uz 2 1 0 76,un 2 75,uL 12,uZ 12 4 1 78]
abbrev qN7:=sr [uO 1 0 12] (.blk 2 (.loop (.seq (sr qOS (cD 71 sK (.exit 2))) (.seq (.blk 3 (rg qOT)) (rB 71 [uI 13,uk 1,uH 13 73])))))
abbrev qOU:=bO 79 [uI 9,uI 0,uQ 12 0 5,uV 1282 81,vN 1 0 1 0 83,un 1 80,uH 9 85]
abbrev qN8:qP:=.seq (.blk 1 (sr qOA (sr qOK (.seq (sB 56 [uL 12,uM 12 0,uP 1372] (cD 59 (rg qOR) sK)) (.seq qN7 (rg qOU)))))) (rB 30 [uI 10,uk 1,uH 10 32])
abbrev qOV:=bO 88 [uI 16,uI 15,uS,uq 89]
abbrev qOB:=bO 94 [uI 15,uI 16,uT 4 95,uK 0,uW 2,uC 16 ue,uZ 17 0 2 99]
abbrev qOC:=bO 99 [uI 15,uI 16,uT 4 100,uK 2,uW 2,uC 17 ue,uZ 18 0 2 104]
abbrev qOD:=bO 107 [uL 17,uM 17 0,uU 0,uR,uE 111 (uL 18),uE 111 (uM 18 1),uE 111 (uU 0),ua 111,uH 107 115]
abbrev qOE:=bO 115 [uI 9,uL 18,uM 18 0,uT 1 116,uJ,vF 0 1 1 1 1 120,uc 14 0 2]
abbrev qOF:=bO 122 [uL 17,uM 17 0,uU 0,uH 122 125]
abbrev qOG:=bO 131 [uI 0,uN,uK 0,uJ,uI 9,uL 18,uM 18 0,uT 1 136,uJ,uT 5 135,uK 4,uJ,uL 18,uM 18 1,v8 145 1,uQ 14 0 2,ui 2 143 146,ud 2 147]
abbrev qNZ:qP:=.seq (sB 126 [uL 7,uM 7 0,uU 0] (cD 129 (rB 129 [uI 0,uP 1418,uc 14 0 2]) sK)) (sr qOG (.exit 5))
abbrev qOH:=bO 149 [uL 17,uM 17 1,vu 151 0,uR,uE 153 (uL 18),uE 153 (uM 18 1),uE 153 (vu 155 0),ua 153,uH 149 157]
abbrev qOI:=bO 161 [uL 17,uM 17 1,vu 163 0,uH 161 164]
abbrev qOJ:=bO 164 [uI 9,uL 18,uM 18 0,uT 1 165,uJ,vF 0 1 1 1 1 169,uc 19 0 2]
abbrev qOL:=bO 171 [uL 18,uM 18 1,vu 173 0,uH 171 174]
abbrev qOM:=bO 174 [uI 9,uL 17,uM 17 0,uT 1 175,uJ,vF 0 1 1 1 1 179,uc 20 0 2]
abbrev qN0:=cD 149 (sB 157 [uI 0,uP 1418,uc 19 0 2] (rB 159 [uQ 19 0 2,uc 20 0 2])) (sr qOI (cD 161 (rg qOJ) (sr qOL (cD 171 (rg qOM) sK))))
abbrev qON:=bO 183 [uI 0,uN,uK 0,uJ,uI 9,uL 17,uM 17 0,uT 1 188,uJ,uT 5 187,uK 4,uJ,uL 17,uM 17 1,v8 197 1,uQ 19 0 2,ui 2 195 198,ud 2 199]
abbrev qOO:=bO 203 [uI 0,uN,uK 0,uJ,uI 9,uL 18,uM 18 0,uT 1 208,uJ,uT 5 207,uK 4,uJ,uL 18,uM 18 1,v8 217 1,uQ 20 0 2,ui 2 215 218,ud 2 219]
abbrev qN1:qP:=.seq (sB 180 [uL 17,uM 17 1,vu 182 0] (cD 183 (rg qON) sK)) (sB 200 [uL 18,uM 18 1,vu 202 0] (cD 203 (rg qOO) sK))
abbrev qN2:=sB 105 [vM,uC 19 ue,uZ 20 0 2 106] (.seq (.blk 6 (sr qOD (cD 107 (sr qOE (.exit 5)) (sr qOF (cD 122 (sB 125 [uQ 7 0 2,uc 14 0 2] qNZ) (sr qOH qN0)))))) qN1)
abbrev qN3:qP:=.seq (.blk 5 (sr qOB (sr qOC (sB 104 [vM,uC 18 ue,uZ 19 0 2 105] qN2)))) (rB 92 [uI 16,uk 1,uH 16 94])
abbrev qOP:=bO 222 [uI 22,uI 21,uS,uq 223]
abbrev qOQ:=bO 228 [uI 0,uI 9,uI 21,uI 22,uT 2 231,uK 0,uJ,uT 1 230,uJ,uI 9,uI 21,uI 22,uT 2 239,uK 1,uJ,uT 1 238,uJ,ux 1280 229 237]
abbrev qN4:=sr [uO 0 0 21] (.blk 7 (.loop (.seq (sr qOP (cD 226 sK (.exit 7))) (.seq (.blk 8 (rg qOQ)) (rB 226 [uI 22,uk 1,uH 22 228])))))
abbrev qN5:qP:=.seq (sr [uO 0 0 15] (.blk 4 (.loop (.seq (sr qOV (cD 92 sK (.exit 4))) qN3)))) (sB 220 [uI 1,uP 742,uH 21 222] (.seq qN4 (sB 246 [uQ 14 0 2,uc 8 0 2] .ret)))
abbrev qN6:qP:=.seq (sr [uO 1 0 9] (.blk 0 (.loop (.seq (sr qN9 (cD 30 sK (.exit 0))) qN8)))) (sB 85 [vM,uC 13 ue,uZ 14 0 2 86] (sB 86 [uI 1,uP 569,uH 15 88] qN5))
def Ud:qJ:=⟨4,248,[.l 8 (some 2)],sB 6 [uf 2 3,ue] (sB 22 [uA (.bslice 1 (iI 0) 1 [(0,.c (iI (-1)))]),uH 9 23] qN6)⟩
abbrev qdM:=bO 13 [ur 0 2,uJ,uS,v8 16 1,uD 6 (uH 20 1),uD 4 (uC 17 (uG [uJ 1 14] (uA (.call 1174 [.t 2,.c (.bool true)])))),uD 5 (vj 17 18),uC 20 (vv 19 20)]
abbrev qdN:=bO 22 [uI 1,uP 1175,uC 5 (ve 5),ud 5 24]
abbrev qdO:=bO 24 [vM,uA (.call 1176 [.t 6,.t 2,.c (iI 0),.t 25]),ur 2 6,ud 2 26]
abbrev qdK:qP:=.seq (sr qdM (cD 21 (sB 21 [vH,uc 4 0 5,uC 4 (uO 4)] .ret) sK)) (sr qdN (sr qdO (sB 27 [uA (.load (some 5) (.t 6)),uc 4 0 5,uC 4 (uO 0)] .ret)))
abbrev qdL:qP:=.seq (sB 6 [vI 318 2,ug] (cD 8 (sB 8 [vH,uc 4 0 5,uC 4 (uO 1)] .ret) sK)) (.seq (sB 9 [uI 1,UD 340 10 1 1500,ug] (cD 12 (sB 12 [vH,uc 4 0 5,uC 4 (uO 2)] .ret) sK)) qdK)
def kX:qJ:=⟨2,29,[.l 4 (some 5),.t 5],sB 1 [vP 1 0,uC 3 vG,uO 0] qdL⟩
abbrev qZZ:=bO 9 [uI 0,uP 598,ug,uR,uF 13 (uI 1),uF 13 (uP 318),uF 13 ug,uj 13]
abbrev qZ0:=bO 18 [uI 2,UD 340 19 1 1500,ug,uR,uF 22 (uI 3),uF 22 (UD 340 23 0 4000),uF 22 ug,uj 22]
abbrev qZ1:=bO 27 [uI 1,uN,uW 1,uI 2,uV 853 30,ub 32 0,ub 32 1,uZ 8 0 5 33,uH 9 34]
abbrev qZY:qP:=.seq (sr qZZ (cD 17 (sB 17 [vH,uc 8 0 5,uC 8 (uO 1)] .ret) sK)) (.seq (sr qZ0 (cD 26 (sB 26 [vH,uc 8 0 5,uC 8 (uO 2)] .ret) sK)) (sr qZ1 .ret))
def K8:qJ:=⟨4,35,[.l 8 (some 5),.t 9],sB 7 [vG,uO 0] qZY⟩
abbrev qPM:=bO 4 [uI 0,uN,uK 0,uJ,uI 0,uN,uK 1,uJ,uI 0,uN,uK 2,uJ,uI 0,uN,uK 3,uJ,vM,uD 19 (uC 2 uw),uD 17 (uC 21 (uz 2 1 0 21)),uD 18 (vQ 0 1 8 1 1 12 2 1 16 3 1 20 4 1 22),uc 3 0 5]
abbrev qPN:=bO 23 [uI 4,uI 0,uN,uK 4,uJ,uS,uq 24]
abbrev qPO:=bO 32 [uL 3,uM 3 4,vM,uz 2 1 0 35,un 2 34,uL 3,uZ 3 4 1 37]
abbrev qPL:=sr [uO 0 0 3] (.blk 0 (.loop (.seq (sr qPN (cD 30 sK (.exit 0))) (.seq (.blk 1 (rg qPO)) (rB 30 [uI 4,uk 1,uH 4 32])))))
def Ul:qJ:=⟨1,40,[.l 2 (some 5)],sr [uw 0 1] (sr qPM (.seq qPL (sB 38 [uQ 3 0 5,uc 2 0 5] .ret)))⟩
abbrev qfW:=bO 6 [uI 0,uN,uK 0,uJ,uL 3,uM 3 0,uT 5 10,uP 1277,uC 4 (vV 5),ud 5 14]
abbrev qfX:=bO 14 [uI 0,uN,uK 0,uJ,uL 3,uM 3 1,uT 5 18,uP 1277,uC 5 (vV 5),ud 5 22]
def F969:qJ:=⟨2,24,[.t 4],sB 2 [uf 2 1,uO 0] (.seq (.reg false qfW) (.seq (.reg false qfX) (sB 22 [uA (.call 744 [.t 5,.t 6]),uH 4 23] .ret)))⟩
abbrev qf1:=bO 7 [uI 0,uN,uK 0,uJ,uL 3,uM 3 0,uT 5 11,uH 6 14]
abbrev qf2:=bO 14 [uI 0,uN,uK 0,uJ,uL 3,uM 3 1,uT 5 18,uH 7 21]
abbrev qf3:=bO 21 [uI 6,uN,uK 0,uJ,uI 6,uN,uK 1,uJ,uI 7,uN,uK 0,uJ,uI 7,uN,uK 1,uJ,UE 1110 25 29 33 37,uU 2]
abbrev qf4:=bO 39 [uL 3,uM 3 1,uL 3,uM 3 0,uH 4 41,uI 43]
abbrev qf5:=bO 43 [uL 3,uM 3 0,uL 3,uM 3 1,uH 4 45,uI 47]
def F971:qJ:=⟨2,48,[.t 4,.t 5],sB 2 [uf 2 1,uO 0,uO 0] (sr qf1 (sr qf2 (.seq (sr qf3 (cD 39 (sr qf4 .ret) sK)) (sr qf5 .ret))))⟩
abbrev qdU:=bO 13 [uI 1,uQ 5 0 2,uV 971 14,uH 13 16,uC 16 (ub 13 0),ub 13 1,uH 8 17,uI 18]
abbrev qdV:=bO 18 [uI 1,uN,uK 0,uJ,uI 8,uT 5 22,uH 10 24]
abbrev qdW:=bO 24 [uI 1,uN,uK 0,uJ,uI 9,uT 5 28,uH 11 30]
abbrev qdX:=bO 37 [uI 11,uN,uK 4,uJ,uS,uA (.bin .mul (.c (iI 3)) (.t 42)),vi 2 43,uH 6 44,uO 0]
abbrev qdY:=bO 46 [uI 11,uN,uK 4,uJ,uS,uH 6 51,uO 0]
abbrev qdZ:=bO 55 [uI 10,uN,uK 4,uJ,uS,vi 1 60,uH 6 61,uO 0]
abbrev qd0:=bO 63 [uI 10,uN,uK 2,uJ,uI 0,uS,vt 67 69]
abbrev qd1:=bO 70 [uI 0,uI 10,uN,uK 2,uJ,uT 1 71,uH 12 76]
abbrev qd2:=bO 76 [uI 12,uD 2 (uH 79 10),uD 3 uN,uD 4 (uK 1),uD 5 uJ,uD 1 (uC 77 (uG [uJ 5 81] (uP 1177))),uC 82 (vj 78 82),vu 83 8]
abbrev qd3:=bO 84 [uI 12,uN,uK 0,uJ,uS,v8 89 1,uI 12,uG [uJ 3 87] (uA (.call 1174 [.t 91,.c (.bool false)])),vj 90 92,uH 6 93,uO 0]
abbrev qdQ:qP:=.seq (sr qd0 (cD 70 (sB 5 [uO 0,uO 3] .ret) sK)) (sr qd1 (.seq (sr qd2 (cD 84 (sB 5 [uO 0,uO 9] .ret) sK)) (sr qd3 .ret)))
abbrev qdR:=cD 52 (sB 5 [uO 1,uO 0] .ret) (sB 54 [uX 33 6,uH 54 55] (cD 54 (sr qdZ .ret) (sB 62 [uX 33 7,uH 62 63] (cD 62 qdQ sK))))
abbrev qdS:=sB 36 [uX 33 3,uH 36 37] (cD 36 (sr qdX .ret) (sB 45 [uX 33 4,uH 45 46] (cD 45 (sr qdY .ret) (sB 52 [uX 33 5,uH 52 53] qdR))))
abbrev qdT:=sB 30 [uI 1,uQ 5 0 2,uV 969 31] (.blk 0 (sB 34 [uX 33 8,uH 34 35] (cD 34 (sB 5 [uO 0,uO 11] .ret) qdS)))
def kZ:qJ:=⟨3,94,[.t 6,.t 7],sB 4 [uf 2 2,uO 0,uO 0] (sr qdU (sr qdV (sr qdW (.seq qdT (sB 5 [uO 0,uO 0] .ret)))))⟩
def kj:qJ:=⟨1,5,[.t 2],sr [uO 0 0 1] (.seq (sB 2 [uI 0,uU 7] (cD 4 (sr [uO 1 0 1] .ret) sK)) (sr [uO 2 0 1] .ret))⟩
abbrev qfZ:=bO 4 [uI 0,uN,uK 1,uJ,uH 4 8]
abbrev qf0:=bO 10 [uI 0,uN,uK 0,uJ,uI 4,uT 5 14,uK 2,uJ,uH 4 18]
abbrev qfY:qP:=.loop (.seq (sB 8 [uI 4,vp 9 0] (cD 10 sK (.exit 0))) (.seq (.blk 1 (rB 18 [uI 3,uk 1,uH 3 20])) (rg qf0)))
def F970:qJ:=⟨1,22,[.t 2],sr [uO 0 0 1] (sr [uO 0 0 2] (.seq (sr qfZ (.blk 0 qfY)) (sB 20 [uI 3,uH 2 21] .ret)))⟩
abbrev qfU:=bO 2 [uI 0,uN,uK 0,uJ,uI 0,uN,uK 1,uJ,uI 0,uN,uK 2,uJ,uI 0,uN,uK 3,uJ,uD 17 (uC 19 (vD 2)),uD 18 (uI 0),uD 19 uN,uD 20 (uK 4),uD 21 uJ,uD 16 (uC 18 (uG [uJ 3 5,uJ 7 9,uJ 11 13,uJ 21 23] (uP 402))),uC 24 (uG [uJ 3 5,uJ 7 9,uJ 11 13] (un 2 20)),vQ 0 1 6 1 1 10 2 1 14 3 1 19 4 1 25,uc 2 0 5]
def F924:qJ:=⟨1,27,[.l 2 (some 5)],sr [uw 0 1] (sr qfU .ret)⟩
abbrev qPP:=bO 3 [uI 0,uN,uK 0,uJ,uI 1,uI 0,uN,uK 1,uJ,vZ 2 1 12,ui 5 7 8,ud 5 13]
abbrev qPQ:=bO 14 [uI 0,uI 1,vC 15,uK 1,ud 1 16]
def Um:qJ:=⟨2,19,[],sr qPP (rg qPQ)⟩
def Un:qJ:=⟨1,5,[.l 2 (some 2)],sr [ue 0 1] (sB 2 [uI 0,vF 0 1 1 1 1 3,uc 2 0 2] .ret)⟩
abbrev qPU:=bO 13 [uI 0,uI 2,uN,uK 0,uJ,uI 2,uN,uK 1,uJ,uI 2,uN,uK 2,uJ,uI 2,uN,uK 3,uJ,uG [uJ 4 17,uJ 8 21,uJ 12 25] (uP 402),vY 0 1 18 1 1 22 2 1 26 3 1 31,uV 1282 14,uH 7 33]
abbrev qPV:=bO 33 [uI 0,uI 2,uN,uK 0,uJ,uI 2,uN,uK 1,uJ,uI 2,uN,uK 2,uJ,uI 2,uN,uK 3,uJ,uG [uJ 4 37,uJ 8 41,uJ 12 45] (uP 402),vY 0 1 38 1 1 42 2 1 46 3 1 51,uV 1282 34,uH 8 53]
abbrev qPX:=bO 53 [uI 1,uN,uK 4,uJ,uo 2 0,uW 2,uI 7,uD 9 (uH 63 1),uD 10 uN,uD 11 (uK 4),uD 12 uJ,uD 13 (uo 2 1),uD 14 (uW 2),uD 15 (uI 8),uD 7 (uC 60 (uG [uJ 3 56,uW 2 5 58,uJ 12 65,uW 2 14 67] (uP 1279))),uD 8 (u5 0 2 59 2 2 61),uC 69 (uG [uJ 3 56,uW 2 5 58,uJ 12 65,uW 2 14 67] (uP 1279)),u5 0 2 68 2 2 70,vS 4 2 0 62 1 71,uH 9 72]
abbrev qPY:=bO 72 [uI 10,uI 2,uN,uK 4,uJ,uS,uq 73]
abbrev qPZ:=bO 81 [uI 0,uI 1,uN,uK 1,uJ,vh 0 1 4 1 1 86,uV 1282 82,uH 11 88]
abbrev qP0:=bO 88 [uI 0,uP 1418,uC 11 ue,uZ 12 0 2 90]
abbrev qP1:=bO 90 [uI 0,uP 1418,uC 12 ue,uZ 13 0 2 92]
abbrev qP2:=bO 92 [uI 0,uN,uK 0,uJ,uI 11,uQ 12 0 2,uQ 13 0 2,vT 2 2 0 98 1 99,ui 5 96 97,uK 4,ud 1 100]
abbrev qP3:=bO 102 [uI 0,uN,uK 0,uJ,uI 7,uI 0,uN,uK 0,uJ,uI 7,uT 5 111,uK 4,uJ,uQ 12 0 2,uz 2 1 0 116,uG [uJ 3 105] (un 2 115),ui 5 106 107,uK 4,ud 1 118]
abbrev qP4:=bO 120 [uI 0,uN,uK 0,uJ,uI 8,uI 0,uN,uK 0,uJ,uI 8,uT 5 129,uK 4,uJ,uQ 13 0 2,uz 2 1 0 134,uG [uJ 3 123] (un 2 133),ui 5 124 125,uK 4,ud 1 136]
abbrev qPW:=bO 138 [uI 9,uI 2,uN,uK 4,uJ,uI 10,uT 2 143,uW 2,uI 11,uG [uJ 4 142,uW 2 7 145] (uP 1279),u5 0 2 146 2 2 148,vE 4 1 0 149,un 4 139,uH 9 151]
abbrev qPS:qP:=.seq (.blk 1 (sr qPZ (sr qP0 (sr qP1 (sr qP2 (sr qP3 (sr qP4 (rg qPW)))))))) (rB 79 [uI 10,uk 1,uH 10 81])
abbrev qPT:=sr qPX (.seq (sr [uO 0 0 9] (.blk 0 (.loop (.seq (sr qPY (cD 79 sK (.exit 0))) qPS)))) (sB 151 [uI 9,uH 6 152] .ret))
def Uq:qJ:=⟨3,153,[.t 6],sr [ut 0 5] (sr qPU (sr qPV qPT))⟩
abbrev qQC:=bO 12 [uI 2,uN,uK 3,uJ,uo 1 0,uJ,uH 7 18]
abbrev qQD:=bO 18 [uI 2,uN,uK 0,uJ,uU 10]
abbrev qQK:=bO 23 [uI 2,uN,uK 3,uJ,uI 1,uN,uK 2,uJ,uT 1 27,uJ,uH 7 33]
abbrev qQL:=bO 33 [uI 1,uN,uK 2,uJ,uU 0]
abbrev qQM:=bO 38 [uI 2,uN,uK 3,uJ,uo 1 1,uJ,uH 7 44]
abbrev qQN:=bO 44 [uI 0,uI 2,uN,uK 1,uJ,uI 7,vU 0 1 12 1 1 49 2 1 50,uV 1282 45,uH 8 52]
abbrev qQO:=bO 53 [uI 10,uI 1,uN,uK 4,uJ,uS,uq 54]
abbrev qQP:=bO 62 [uI 9,uI 0,uI 2,uN,uK 1,uJ,vh 0 1 3 1 1 68,uV 1282 64,vN 1 0 1 0 70,un 1 63,uH 9 72]
abbrev qQB:=sr [uO 0 0 9] (.blk 0 (.loop (.seq (sr qQO (cD 60 sK (.exit 0))) (.seq (.blk 1 (rg qQP)) (rB 60 [uI 10,uk 1,uH 10 62])))))
abbrev qQQ:=bO 75 [uI 2,uN,uK 4,uJ,uo 2 0,uW 2,uI 8,uG [uJ 3 78,uW 2 5 80] (uP 1279),u5 0 2 81 2 2 83,vE 4 1 0 84,uH 6 85]
abbrev qQE:=bO 85 [uI 11,uI 9,uS,uq 86]
abbrev qQF:=bO 91 [uI 2,uN,uK 4,uJ,uo 2 0,uW 2,uC 11 ue,uZ 12 0 2 97]
abbrev qQG:=bO 97 [uI 11,uk 1,uI 9,uS,uq 99]
abbrev qQH:=bO 102 [uI 9,uI 11,uk 1,uT 1 103,uJ,uP 1279,uc 12 0 2]
abbrev qQI:=bO 108 [uI 0,uN,uK 0,uJ,uI 9,uI 11,uT 1 113,uJ,uI 1,uN,uK 4,uJ,uI 11,uT 2 120,uW 2,uQ 12 0 2,vT 2 2 0 123 1 124,ui 5 112 116,uK 4,ud 1 125]
abbrev qP8:qP:=.seq (sr qQE (cD 89 sK (.exit 2))) (.seq (.blk 3 (sr qQF (.seq (sr qQG (cD 102 (rg qQH) sK)) (rg qQI)))) (rB 89 [uI 11,uk 1,uH 11 91]))
abbrev qQJ:=bO 127 [uI 0,uI 8,uI 9,uo 1 0,uJ,ux 1280 128 129]
abbrev qP9:qP:=.seq (sB 72 [uI 9,uS,uU 0] (cD 75 (sr qQQ .ret) sK)) (.seq (sr [uO 0 0 10] (.blk 2 (.loop qP8))) (sr qQJ (sB 133 [vD 4,uH 6 134] .ret)))
abbrev qQA:=sr qQC (.seq (sr qQD (cD 23 (rg qQK) (sr qQL (cD 38 (rg qQM) sK)))) (sr qQN (sB 52 [vD 1,uH 9 53] (.seq qQB qP9))))
def Us:qJ:=⟨3,135,[.t 6],sr [ut 0 5] qQA⟩
abbrev qgD:=bO 16 [uI 1,uN,uK 0,uJ,uI 3,uT 5 20,uP 924,uC 10 (vV 5),ud 5 23]
abbrev qgE:=bO 23 [uI 1,uN,uK 0,uJ,uI 4,uT 5 27,uP 924,uC 11 (vV 5),ud 5 30]
abbrev qgI:=bO 35 [uI 1,uI 0,ur 2 11,uJ,uT 1 37,ur 1 11,uJ,uI 4,uD 10 (uC 12 ue),uD 8 (uC 43 (uG [uJ 3 38,uJ 6 41] (uP 1279))),uD 9 (UE 1176 36 40 42 44),uc 13 0 2]
abbrev qgJ:=bO 45 [uL 13,uM 13 1,uI 4,v7 47 48]
abbrev qgK:=bO 49 [uI 1,uI 4,uL 13,uM 13 1,ux 1280 50 51]
abbrev qgB:=sB 33 [uI 2,uU 7] (cD 35 (sr qgI (.seq (sr qgJ (cD 49 (rg qgK) sK)) (sB 54 [vD 4,uH 10 55] .ret))) sK)
abbrev qgL:=bO 63 [uI 14,ur 4 11,uJ,uo 2 0,uW 2,ur 4 12,uJ,uo 2 0,uW 2,u5 0 2 68 2 2 72,ur 4 11,uJ,uo 2 1,uW 2,ur 4 12,uJ,uo 2 1,uW 2,u5 0 2 77 2 2 81,vS 4 2 0 73 1 82,un 4 64,uH 14 84]
abbrev qgM:=bO 90 [uI 15,ur 4 12,uJ,uS,uq 91]
abbrev qgN:=bO 97 [uI 14,ur 4 12,uJ,uI 15,uT 2 100,uW 2,uI 1,vO 0 1 5,uG [uJ 2 99,uW 2 5 102] (uV 1282 104),uG [uJ 2 99,uW 2 5 102] (uP 1279),u5 0 2 103 2 2 107,vE 4 1 0 108,un 4 98,uH 14 110]
abbrev qgC:=sr [uO 0 0 14] (.blk 1 (.loop (.seq (sr qgM (cD 95 sK (.exit 1))) (.seq (.blk 2 (rg qgN)) (rB 95 [uI 15,uk 1,uH 15 97])))))
abbrev qgF:=bO 116 [ur 2 12,uJ,ur 3 12,uJ,uo 1 0,uJ,ur 2 11,uJ,ux 762 118 122,uL 16,uZ 16 2 1 125]
abbrev qgG:=bO 126 [ur 1 12,uJ,ur 2 12,uJ,ur 2 11,uJ,uD 7 (uC 133 (ur 4 12)),uD 8 uJ,uD 9 (uo 2 1),uD 10 (uW 2),uD 6 (uC 132 (vN 1 0 1 0 132)),uC 137 (uz 2 1 0 137),vg 0 1 8 1 1 128 2 1 130 3 1 133 4 1 138,uc 16 0 5]
abbrev qgH:=bO 139 [uI 14,ur 4 12,uJ,uo 2 0,uW 2,uI 1,uQ 16 0 5,uG [uJ 2 141,uW 2 4 143] (uV 1282 145),uG [uJ 2 141,uW 2 4 143] (uP 1279),u5 0 2 144 2 2 148,vE 4 1 0 149,un 4 140,uH 14 151]
abbrev qf6:=sB 112 [vO 0 1 6,uC 15 uw,uZ 16 0 5 113] (.seq (sB 113 [ur 0 12,uJ,uU 8] (cD 116 (rg qgF) (rg qgG))) (rg qgH))
abbrev qf7:=sB 111 [uX 60 5,uH 111 112] (cD 111 qf6 (sB 152 [uX 60 6,uH 152 153] (cD 152 (rB 153 [uI 1,uA (.call 1283 [.t 154,.t 11,.t 12]),uH 14 155]) sK)))
abbrev qf8:=sB 85 [uX 60 3,uH 85 86] (cD 85 (rB 86 [uI 1,uA (.call 1281 [.t 87,.t 11,.t 12]),uH 14 88]) (sB 89 [uX 60 4,uH 89 90] (cD 89 qgC qf7)))
abbrev qf9:=sr [uI 2 0 59] (.blk 0 (.seq (sB 61 [uX 60 1,uH 61 62] (cD 61 sK (rB 62 [uX 60 2,uH 61 63]))) (cD 61 (rg qgL) qf8)))
abbrev qgA:=sB 55 [uI 1,uI 4,uV 1278 56] (sB 58 [vD 4,uH 14 59] (.seq qf9 (sB 155 [uI 14,uH 10 156] .ret)))
def F972:qJ:=⟨5,157,[.t 10],sr [ut 0 9] (sr qgD (sr qgE (sB 30 [uI 1,uI 3,uV 1278 31] (.seq qgB qgA))))⟩
abbrev qQS:=bO 5 [uL 3,uM 3 0,uU 2,uR,uE 9 (uI 0),uE 9 uN,uE 9 (uK 0),uE 9 uJ,uE 9 (uL 3),uE 9 (uM 3 1),uE 9 (uT 5 13),uE 9 (uK 4),uE 9 uJ,uE 9 uS,uE 9 (vu 19 0),ua 9]
abbrev qQT:=bO 23 [uI 0,uN,uK 0,uJ,uI 5,uT 5 27,uK 4,uJ,uo 2 0,uW 2,uc 3 0 2]
abbrev qQR:=sB 21 [uL 3,uM 3 1,uH 5 23] (sr qQT (rB 33 [uI 0,uI 5,uV 1278 34]))
def Ut:qJ:=⟨2,38,[.l 4 (some 2)],sB 2 [uf 2 1,ue] (.seq (.blk 0 (.loop (.seq (sr qQS (cD 21 sK (.exit 0))) (.blk 1 qQR)))) (sB 36 [uQ 3 0 2,uc 4 0 2] .ret))⟩
abbrev qgP:=bO 5 [uI 0,uQ 4 0 2,uV 1284 6,uc 4 0 2]
abbrev qgQ:=bO 8 [uI 0,uQ 5 0 2,uV 1284 9,uc 5 0 2]
abbrev qgR:=bO 22 [uL 4,uM 4 0,uU 1,uR,uE 26 (uL 5),uE 26 (uM 5 0),uE 26 (uU 1),ua 26,uH 22 30]
abbrev qgS:=bO 30 [uI 0,uL 4,uM 4 1,uL 5,uM 5 1,ux 1280 31 33]
abbrev qgT:=bO 37 [uQ 4 0 2,uQ 5 0 2,UJ 1 1 38 39,uH 37 40]
abbrev qgU:=bO 40 [uI 0,uL 4,uM 4 1,uV 1278 41]
abbrev qgV:=bO 45 [uL 4,uM 4 0,uU 2,uH 45 48]
abbrev qgW:=bO 48 [uI 0,uN,uK 0,uJ,uL 4,uM 4 1,uQ 5 0 2,uz 2 1 0 55,ui 5 52 54,uK 4,ud 1 56]
abbrev qgX:=bO 11 [uI 0,uN,uK 0,uJ,uL 5,uM 5 1,uQ 4 0 2,uz 2 1 0 18,ui 5 15 17,uK 4,ud 1 19]
abbrev qgO:=sr qgP (sr qgQ (.blk 0 (sr qgR (cD 22 (rg qgS) (sr qgT (cD 37 (rg qgU) (sr qgV (cD 45 (rg qgW) (rg qgX)))))))))
def F973:qJ:=⟨3,59,[],sB 3 [uf 2 1,uf 2 2] qgO⟩
abbrev qbW:=bO 15 [uI 1,uN,uK 4,uJ,uI 2,uT 2 19,uW 2,uC 7 ue,uZ 8 0 2 22]
abbrev qbX:=bO 22 [uI 1,uQ 8 0 2,uV 969 23,uH 9 25]
abbrev qbY:=bO 26 [uI 0,uI 1,uQ 8 0 2,ux 855 27 28,uH 26 30,uC 30 (ub 26 0),ub 26 1,uH 10 31,uI 32]
abbrev qbZ:=bO 35 [uI 10,uI 1,uP 970,uI 9,uP 857,vj 38 40,vv 36 41]
abbrev qb0:=bO 43 [uI 1,uQ 8 0 2,uV 971 44,uH 43 46,uC 46 (ub 43 0),ub 43 1,uH 12 47,uI 48]
abbrev qb1:=bO 48 [uI 1,vD 2,uI 1,uN,uK 4,uJ,uI 2,uA (.slc 2 (.t 54) none (some (.t 55)) none),uD 9 (uH 58 1),uD 10 uN,uD 11 (uK 4),uD 12 uJ,uD 13 (uI 2),uD 14 (uk 1),uD 15 (uA (.slc 2 (.t 61) (some (.t 63)) none none)),uD 8 (uC 56 (uG [uJ 12 60] (un 2 50))),uC 64 (un 2 57),vC 49,uK 4,ud 1 65]
abbrev qb2:=bO 67 [uI 0,uI 1,uI 9,uI 12,uI 13,uA (.call 972 [.t 68,.t 69,.t 70,.t 71,.t 72]),uH 14 73]
abbrev qb3:=bO 73 [uI 15,uI 14,uS,uq 74]
abbrev qb4:=bO 79 [uI 1,uI 14,uI 15,uT 4 81,uK 0,uW 2,uI 14,uI 15,uT 4 86,uK 2,uW 2,ux 973 80 85]
abbrev qbV:=sr [uO 0 0 14] (.blk 0 (.loop (.seq (sr qb3 (cD 77 sK (.exit 0))) (.seq (.blk 1 (rg qb4)) (rB 77 [uI 15,uk 1,uH 15 79])))))
abbrev qbT:qP:=.seq (sr qbZ (cD 42 (sB 5 [uO 0,uO 4] .ret) sK)) (sr qb0 (sr qb1 (sr qb2 (.seq qbV (sB 91 [uI 9,uH 6 92,uO 0] .ret)))))
abbrev qbU:=sr qbX (sr qbY (.seq (sB 32 [uI 11,v5 33 0] (cD 34 (sB 34 [uI 11,uC 5 (uO 0),uI 35] .ret) sK)) qbT))
def kK:qJ:=⟨3,93,[.t 6,.t 7],sB 5 [uO 0,uO 0] (sr qbW qbU)⟩
abbrev qdP:=bO 2 [uI 0,uN,uK 0,uJ,uS,uI 0,uG [uJ 3 5] (uP 970),UC 7 9,uH 2 10]
def kY:qJ:=⟨1,11,[.t 2],sr [uO 0 0 1] (sr qdP .ret)⟩
abbrev qZ4:=bO 14 [uI 1,uP 854,uI 1,uP 854,uA (.build (.agg [.nils,iI 0,iI 0]) [(1,1,.t 16),(2,1,.t 18)]),vP 3 19,uH 8 20]
abbrev qZ5:=bO 20 [uI 1,uN,uK 4,uJ,uS,vu 25 0]
abbrev qZ6:=bO 26 [uI 8,uN,uK 0,uJ,uS,uI 2,vt 31 32]
abbrev qZ7:=bO 34 [uI 1,uN,uK 4,uJ,uS,v8 39 1,uH 9 40]
abbrev qZ8:=bO 41 [uI 0,uI 1,uI 1,uN,uK 4,uJ,uI 9,uT 2 47,uW 2,ux 855 42 43,uH 41 51,uC 51 (ub 41 0),ub 41 1,uH 10 52,uI 53]
abbrev qZ9:=bO 56 [uI 0,uI 1,uI 9,ux 600 57 58,uH 56 60,uC 60 (ub 56 0),ub 56 1,uH 13 61,uI 62]
abbrev qaA:=bO 64 [uI 8,uI 14,uH 6 65,uI 66]
abbrev qaB:=bO 66 [uI 8,uI 8,uN,uK 0,uJ,uI 13,vN 1 0 1 0 72,un 1 71,vC 67,uK 0,ud 1 74]
abbrev qaC:=bO 76 [uI 8,uI 8,uN,uK 1,uJ,uI 1,uG [uJ 4 80] (uP 854),uV 856 81,vC 77,uK 1,ud 1 84]
abbrev qaD:=bO 86 [uI 8,uI 8,uN,uK 2,uJ,uI 12,uI 10,vj 92 93,uI 13,uG [uJ 4 90] (uP 857),UC 94 96,uV 856 91,vC 87,uK 2,ud 1 98]
abbrev qZ2:=sB 53 [uI 1,uP 854,uH 12 55] (sr qZ9 (.seq (sB 62 [uI 14,v5 63 0] (cD 64 (sr qaA .ret) sK)) (sr qaB (sr qaC (rg qaD)))))
abbrev qZ3:qP:=.loop (.seq (sr qZ5 (cD 26 sK (.exit 0))) (.blk 1 (.seq (sr qZ6 (cD 33 (sB 33 [uI 8,uH 6 34,uO 12] .ret) sK)) (sr qZ7 (sr qZ8 qZ2)))))
def K9:qJ:=⟨3,102,[.t 6,.t 7],sB 5 [vR,uO 0] (sr qZ4 (.seq (.blk 0 qZ3) (sB 100 [uI 8,uH 6 101,uO 0] .ret)))⟩
abbrev qXU:=bO 11 [uI 0,uI 2,uA (.call 502 [.t 12,.t 4,.c (iI 1500),.t 13]),uH 11 14,uC 14 (ub 11 0),ub 11 1,uC 7 (ve 5),ud 5 15,uI 16]
abbrev qXV:=bO 20 [uI 0,uI 2,ux 503 21 8,uH 20 23,uC 23 (ub 20 0),ub 20 1,uH 10 24,uH 9 25]
abbrev qXW:=bO 28 [uI 10,uN,uK 2,uJ,uH 6 32,uO 0]
abbrev qXT:=sr qXV (.seq (sB 25 [uI 9,v5 26 0] (cD 27 (sB 27 [uI 9,uC 5 (uO 0),uI 28] .ret) sK)) (sr qXW .ret))
def Kx:qJ:=⟨3,33,[.t 6,.t 7],sB 3 [vP 1 1,uC 5 (uO 0),uO 0] (sr qXU (.seq (sB 16 [uI 9,v5 17 0] (cD 18 (sB 18 [uI 9,uC 5 (uO 0),uI 19] .ret) sK)) qXT))⟩
abbrev qbH:=bO 4 [uL 2,uM 2 0,uL 3,uM 3 0,uq 6,uR,uF 10 (uL 2),uF 10 (uM 2 0),uF 10 (uL 3),uF 10 (uM 3 0),uF 10 (vk 12 14),uF 10 uR,uE 16 (uL 2),uE 16 (uM 2 1),uE 16 (uL 3),uE 16 (uM 3 1),uE 16 (uq 18),uF 10 (ua 16),uj 10,uH 4 23]
def kG:qJ:=⟨2,24,[.t 4],sB 1 [uf 2 0,uf 2 1,uY] (sr qbH .ret)⟩
abbrev qOZ:=bO 3 [uL 2,uM 2 1,vu 5 0,uR,uF 7 (uy 1),uF 7 uN,uF 7 (uK 0),uF 7 uJ,uF 7 (uL 2),uF 7 (uM 2 0),uF 7 (uT 5 11),uF 7 (uK 0),uF 7 uJ,uF 7 (uU 1),uj 7,uH 3 18]
def Uf:qJ:=⟨2,19,[.t 3],sB 1 [uf 2 0,uY] (sr qOZ .ret)⟩
abbrev qeS:=bO 2 [vP 1 0,uf 2 1,uf 2 2,uY]
abbrev qeT:=bO 8 [uI 7,uQ 4 0 2,uA (.callv (.t 9) [.t 10]),uR,uE 12 (uI 7),uE 12 (uQ 5 0 2),uE 12 (uA (.callv (.t 13) [.t 14])),ua 12,uH 6 16]
def F865:qJ:=⟨3,17,[.t 6],sr qeS (sB 7 [uA (.mkfn 1180 [.t 3]),uH 7 8] (sr qeT .ret))⟩
abbrev qeE:=bO 6 [uI 0,uN,uK 0,uJ,uS,v8 11 1,uH 3 12]
abbrev qeF:=bO 12 [uI 0,uP 554,uS,uO 0]
abbrev qeG:=bO 17 [ui 2 14 16,uW 2,uC 4 ue,uZ 5 0 2 19]
abbrev qeH:=bO 19 [uI 0,uQ 5 0 2,uV 555 20,uC 5 ue,uZ 6 0 2 22]
abbrev qeI:=bO 25 [uI 3,uI 0,uQ 5 0 2,uQ 6 0 2,ux 865 27 28,uP 566,vj 26 31,uH 3 32]
abbrev qeC:qP:=.seq (.blk 1 (sr qeG (sr qeH (sB 22 [uQ 5 0 2,uQ 6 0 2,uV 556 23] (cD 25 (rg qeI) sK))))) (rB 32 [uu 16 1,uH 16 33])
abbrev qeD:=sr qeE (.seq (sr qeF (.blk 0 (.loop (sr [uv 15 0 16] (.seq (cD 17 sK (.exit 0)) qeC))))) (sB 33 [uI 3,uH 2 34] .ret))
def kw:qJ:=⟨1,35,[.t 2],sr [uO 0 0 1] qeD⟩
abbrev qeK:=bO 4 [uI 0,uA (.mksl 5 (.agg [iI 0,iI 0,iI 0,.nils,.nils]) (.t 5) (.t 5)),uA (.build (.agg [.nils,iI 0,iI 0,iI 0,.nils]) [(0,1,.t 6)]),uC 2 vG,uZ 3 0 5 7]
abbrev qeL:=bO 7 [uL 3,uM 3 0,uS,uO 0]
abbrev qeM:=bO 13 [uL 3,uM 3 0,uI 4,uI 4,uk 1,ui 5 15 16,uK 2,ud 1 18]
abbrev qeJ:=sr [uv 10 0 11] (.seq (cD 12 sK (.exit 0)) (.seq (.blk 1 (sB 12 [uI 11,uH 4 13] (rg qeM))) (rB 20 [uu 11 1,uH 11 21])))
abbrev qeN:=bO 21 [uL 3,uM 3 0,uI 0,v8 24 1,uT 5 23,uK 2,uB (.store 1 (.t 27) (.c (iI (-1))))]
def F862:qJ:=⟨1,29,[.l 2 (some 5)],sr [vG 0 1] (sr qeK (.seq (sr qeL (.blk 0 (.loop qeJ))) (sr qeN (sB 27 [uQ 3 0 5,uc 2 0 5] .ret))))⟩
abbrev qeO:=bO 5 [uI 0,uN,uK 1,uJ,uH 5 9]
abbrev qeP:=bO 9 [uI 0,uI 0,uN,uK 0,uJ,uI 5,uT 5 14,uK 2,uJ,vC 10,uK 1,ud 1 18]
abbrev qeQ:=bO 20 [uI 0,uN,uK 0,uJ,uI 5,uQ 3 0 5,ui 5 24 25,ud 5 26]
def F863:qJ:=⟨2,29,[.t 4],sB 2 [uf 5 1,uO 0] (sr qeO (sr qeP (sr qeQ (sB 27 [uI 5,uH 4 28] .ret))))⟩
abbrev qeR:=bO 2 [uL 1,uM 1 0,uL 1,uM 1 1,uL 1,uM 1 2,uL 1,uM 1 3,uD 9 (uC 11 (uL 1)),uD 10 (uM 1 4),uD 11 uS,uD 12 (v8 14 1),uD 8 (uC 10 (uP 401)),uC 15 (UH 2 15 15),vQ 0 1 4 1 1 6 2 1 8 3 1 11 4 1 16,uc 2 0 5]
def F864:qJ:=⟨1,18,[.l 2 (some 5)],sB 0 [uf 5 0,uw] (.seq (.reg false qeR) .ret)⟩
abbrev qeU:=bO 10 [uI 0,uQ 6 0 2,vC 11,uK 2,ud 2 12]
abbrev qeV:=bO 14 [uI 0,uN,uK 0,uJ,uI 3,uL 5,uM 5 0,uT 1 19,uJ,uT 5 18,uK 4,uJ,uL 5,uM 5 1,v8 28 1,uQ 6 0 2,ui 2 26 29,ud 2 30]
def W4:qJ:=⟨4,32,[],sB 4 [uf 2 1,uf 2 2] (sB 7 [uL 5,uM 5 1,uU 0] (cD 10 (rg qeU) (rg qeV)))⟩
abbrev qaM:=bO 16 [uA (.load (some 1) (.t 2)),uP 319,ug,uH 16 19]
abbrev qaN:=bO 21 [uI 1,vz 22 1,uR,uF 24 (uI 1),uF 24 (vu 25 1500),uj 24,uH 21 27]
abbrev qaW:=bO 29 [uI 1,vI 861 2,uq 30,uH 29 32]
abbrev qaK:=cD 21 (sB 27 [vH,uc 4 0 5,uC 4 (uO 2)] .ret) (sr qaW (cD 29 (sB 32 [vH,uc 4 0 5,uC 4 (uO 4)] .ret) sK))
abbrev qaZ:=bO 33 [uI 1,uP 862,uC 5 (ve 5),ud 5 35]
abbrev qa0:=bO 35 [ur 0 2,uJ,uS,UI 1 0 38 38,uH 7 39]
abbrev qa1:=bO 39 [ur 0 2,uJ,uA (.slc 5 (.t 41) (some (.c (iI 1))) none none),uS,uO 0]
abbrev qa2:=bO 45 [uI 44,ui 5 42 44,uW 5,uC 8 uw,uH 8 46,uZ 9 0 5 48]
abbrev qa3:=bO 48 [uI 7,uI 8,uk 1,uQ 9 0 5,uP 864,uV 863 6,ui 1 49 51,ud 1 54]
abbrev qaL:qP:=.loop (sr [uv 43 0 44] (.seq (cD 45 sK (.exit 1)) (.seq (.blk 2 (sr qa2 (rg qa3))) (rB 55 [uu 44 1,uH 44 56]))))
abbrev qaO:=bO 60 [ui 2 57 59,uW 2,uC 10 ue,uZ 11 0 2 62]
abbrev qaP:=bO 62 [uQ 11 0 2,uV 555 2,uC 11 ue,uZ 12 0 2 64]
abbrev qaQ:=bO 65 [uQ 11 0 2,uQ 12 0 2,ux 865 2 66,uH 65 68]
abbrev qaR:=bO 71 [vO 0 1 13,uV 863 6,vF 0 1 2 1 1 73,uC 12 ue,uZ 13 0 2 74]
abbrev qaS:=bO 74 [uQ 11 0 2,uQ 13 0 2,uI 7,UE 866 6 75 76 77]
abbrev qaT:=bO 78 [uQ 12 0 2,uQ 13 0 2,uI 7,UE 866 6 79 80 81]
abbrev qaU:=bO 83 [uL 11,uM 11 1,vu 85 0,uR,uF 87 (uL 11),uF 87 (uM 11 0),uF 87 (uU 0),uj 87,uH 83 91]
abbrev qaV:=bO 91 [uQ 11 0 2,uI 7,uL 12,uM 12 0,uT 1 93,uJ,vF 0 1 1 1 1 97,uI 7,UE 866 6 92 98 99]
abbrev qaF:=cD 65 (sB 68 [uQ 11 0 2,uQ 12 0 2,uV 556 69] (cD 71 (sr qaR (sr qaS (rg qaT))) sK)) (sr qaU (cD 83 (rg qaV) sK))
abbrev qaG:qP:=.loop (sr [uv 58 0 59] (.seq (cD 60 sK (.exit 3)) (.seq (.blk 4 (sr qaO (sr qaP (.blk 5 (sr qaQ qaF))))) (rB 100 [uu 59 1,uH 59 101]))))
abbrev qaX:=bO 105 [ui 2 102 104,uW 2,uC 14 ue,uZ 15 0 2 107]
abbrev qaY:=bO 107 [ur 4 6,uJ,uI 7,uL 15,uM 15 0,uT 1 110,uJ,uI 7,uL 15,uM 15 1,uT 1 115,uJ,vK 0 1 114 1 1 119,uz 2 1 0 120,un 2 109,ur 4 6,ud 1 122]
abbrev qaH:qP:=.loop (sr [uv 103 0 104] (.seq (cD 105 sK (.exit 6)) (.seq (.blk 7 (sr qaX (rg qaY))) (rB 123 [uu 104 1,uH 104 124]))))
abbrev qaI:qP:=.seq (sB 56 [vI 554 2,uS,uO 0] (.blk 3 qaG)) (.seq (sB 101 [vI 376 2,uS,uO 0] (.blk 6 qaH)) (sB 124 [uA (.load (some 5) (.t 6)),uc 4 0 5,uC 4 (uO 0)] .ret))
abbrev qaJ:qP:=.seq (.blk 0 (sr qaM (cD 16 (sB 19 [vH,uc 4 0 5,uC 4 (uO 1)] .ret) (sr qaN qaK)))) (sr qaZ (sr qa0 (.seq (sr qa1 (.blk 1 qaL)) qaI)))
def kC:qJ:=⟨2,126,[.l 4 (some 5),.t 5],sB 1 [vP 1 0,uC 3 vG,uO 0] qaJ⟩
abbrev qPI:=bO 5 [uI 0,uN,uK 0,uJ,uS,uk 1,uO 0]
abbrev qPJ:=bO 13 [uL 3,uM 3 0,uU 1,uR,uF 17 (uI 0),uF 17 uN,uF 17 (uK 0),uF 17 uJ,uF 17 (uL 3),uF 17 (uM 3 1),uF 17 (uT 5 21),uF 17 (uK 4),uF 17 uJ,uF 17 uS,uF 17 (uU 0),uj 17]
abbrev qPK:=bO 30 [uI 0,uN,uK 0,uJ,uL 3,uM 3 1,uT 5 34,uK 4,uJ,uo 2 0,uW 2,uc 3 0 2]
abbrev qPG:qP:=.seq (.blk 1 (.seq (sr qPJ (cD 29 (sB 29 [uQ 3 0 2,uc 4 0 2,uC 4 u9] .ret) sK)) (rg qPK))) (rB 41 [uu 12 1,uH 12 42])
abbrev qPH:qP:=.seq (sr qPI (.blk 0 (.loop (sr [uv 11 0 12] (.seq (cD 13 sK (.exit 0)) qPG))))) (sB 42 [vM,uc 4 0 2,uC 4 uY] .ret)
def Uj:qJ:=⟨2,44,[.l 4 (some 2),.t 5],sB 2 [uf 2 1,ue,uY] qPH⟩
def qD4:qJ:=Qc 5 (some 5)
def qD0:qJ:=Qw 1482
abbrev qPF:=bO 2 [uL 1,uM 1 0,vp 4 2,uR,uE 6 (uL 1),uE 6 (uM 1 0),uE 6 (vx 8 12),ua 6,uH 2 10]
def Ui:qJ:=⟨1,11,[.t 2],sB 0 [uf 5 0,uY] (sr qPF .ret)⟩
abbrev qU9:=bO 2 [uL 1,uM 1 0,uU 13,uH 2 5]
def KM:qJ:=⟨1,6,[.t 2],sB 0 [uf 5 0,uY] (sr qU9 .ret)⟩
abbrev qW3:=bO 2 [uL 1,uM 1 0,uU 0,uH 2 5]
def Kg:qJ:=⟨1,6,[.t 2],sB 0 [uf 5 0,uY] (sr qW3 .ret)⟩
abbrev qT5:=bO 5 [uL 1,uM 1 0,uL 1,uM 1 1,uL 1,uM 1 2,uL 1,uM 1 3,uL 1,uM 1 4,uS,uk 1,UH 2 17 17,vQ 0 1 7 1 1 9 2 1 11 3 1 13 4 1 18,uP 1097,uH 2 20]
abbrev qT6:=bO 23 [uL 1,uM 1 1,uU 0,uR,uE 27 (uL 1),uE 27 (uM 1 2),uE 27 (uU 0),ua 27,uR,uE 32 (uL 1),uE 32 (uM 1 3),uE 32 uS,uE 32 (uU 0),ua 32,uR,uE 38 (uL 1),uE 38 (uM 1 4),uE 38 uS,uE 38 (vx 41 1),ua 38,uH 2 43]
abbrev qT4:=sB 3 [uQ 1 0 5,uP 1254,uH 3 5] (cD 3 (sr qT5 .ret) (sB 21 [uQ 1 0 5,uP 1368,uH 21 23] (cD 21 (sr qT6 .ret) sK)))
abbrev qT7:=bO 43 [uQ 1 0 5,uP 1455,uR,uE 46 (uL 1),uE 46 (uM 1 1),uE 46 (uU 0),ua 46,uR,uE 51 (uL 1),uE 51 (uM 1 3),uE 51 uS,uE 51 (uU 0),ua 51,uR,uE 57 (uL 1),uE 57 (uM 1 4),uE 57 uS,uE 57 (uU 0),ua 57,uH 2 62]
def KD:qJ:=⟨1,63,[.t 2],sB 0 [uf 5 0,uY] (.seq (.blk 0 qT4) (sr qT7 .ret))⟩
abbrev qT3:=bO 2 [uQ 1 0 5,uP 1358,ug,uH 2 5]
def KC:qJ:=⟨1,6,[.t 2],sB 0 [uf 5 0,uY] (sr qT3 .ret)⟩
def qD5:qJ:=Qc 2 (some 2)
def qD1:qJ:=Qw 1483
abbrev qT9:=bO 5 [uI 0,uN,uK 2,uW 2,uz 2 1 0 9,uH 3 10]
abbrev qUA:=bO 10 [uI 0,uN,uK 0,uJ,uS,uO 0]
abbrev qUB:=bO 17 [ui 5 14 16,uW 5,uC 4 uw,uZ 5 0 5 19]
abbrev qUC:=bO 19 [uI 3,uL 5,uM 5 4,un 2 20,uH 3 23]
abbrev qT8:qP:=.loop (sr [uv 15 0 16] (.seq (cD 17 sK (.exit 0)) (.seq (.blk 1 (sr qUB (rg qUC))) (rB 23 [uu 16 1,uH 16 24]))))
def KE:qJ:=⟨1,26,[.t 2],sr [ut 0 1] (sr qT9 (.seq (sr qUA (.blk 0 qT8)) (sB 24 [uI 3,uH 2 25] .ret)))⟩
abbrev qXE:=bO 4 [uI 1,vp 5 0,uR,uE 7 (uI 1),uE 7 (uI 0),uE 7 uN,uE 7 (uK 0),uE 7 uJ,uE 7 uS,uE 7 (uq 8),ua 7,uH 4 15]
def Kl:qJ:=⟨2,16,[.t 4],sr [uY 0 3] (sr qXE .ret)⟩
abbrev qUE:=bO 5 [uI 0,uL 3,uM 3 1,uV 1484 6,ug]
abbrev qUF:=bO 10 [uI 0,uN,uK 0,uJ,uL 3,uM 3 1,uT 5 14,uW 5,uC 4 uw,uZ 5 0 5 18]
abbrev qUG:=bO 18 [uL 3,uM 3 0,uU 1,uR,uE 22 (uQ 5 0 5),uE 22 (uP 1254),ua 22,uR,uF 26 (uL 3),uF 26 (uM 3 0),uF 26 (uU 2),uF 26 uR,uE 30 (uQ 5 0 5),uE 30 (uP 1368),uF 26 (ua 30),uj 26,uH 4 34]
def KG:qJ:=⟨2,35,[.t 4],sB 2 [uf 2 1,uY] (.seq (sr qUE (cD 10 (sr [uY 0 3] .ret) sK)) (sr qUF (sr qUG .ret)))⟩
abbrev qUD:=bO 3 [uy 1,uQ 2 0 2,uV 1362 4,ug,uH 3 7]
def KF:qJ:=⟨2,8,[.t 3],sB 1 [uf 2 0,uY] (sr qUD .ret)⟩
def qD2:qJ:=Qw 1485
abbrev qUI:=bO 4 [uL 3,uM 3 0,uL 3,uM 3 1,uq 6,uR,uE 10 (uI 0),uE 10 (uL 3),uE 10 (uM 3 0),uE 10 (uV 1484 11),ua 10,uR,uE 16 (uI 0),uE 16 (uL 3),uE 16 (uM 3 1),uE 16 (uV 1484 17),ua 16,uR,uE 22 (uI 0),uE 22 uN,uE 22 (uK 0),uE 22 uJ,uE 22 (uL 3),uE 22 (uM 3 0),uE 22 (uT 5 26),uE 22 (uW 5),uE 22 (uP 1254),ua 22,uR,uE 33 (uI 0),uE 33 uN,uE 33 (uK 0),uE 33 uJ,uE 33 (uL 3),uE 33 (uM 3 1),uE 33 (uT 5 37),uE 33 (uW 5),uE 33 (uP 1254),ua 33,uH 4 43]
def KI:qJ:=⟨2,44,[.t 4],sB 2 [uf 2 1,uY] (sr qUI .ret)⟩
abbrev qUH:=bO 3 [uy 1,uQ 2 0 2,uV 1365 4,ug,uH 3 7]
def KH:qJ:=⟨2,8,[.t 3],sB 1 [uf 2 0,uY] (sr qUH .ret)⟩
abbrev qUO:=bO 12 [uI 0,uN,uK 0,uJ,uS,UI 1 0 17 17,uH 5 18]
abbrev qUP:=bO 18 [uI 0,uP 1360,uI 1,un 2 20,uS,uO 0]
abbrev qUU:=bO 25 [ui 2 22 24,uW 2,uC 6 ue,uZ 7 0 2 27]
abbrev qUV:=bO 27 [uI 5,uL 7,uM 7 1,uT 1 28,uJ,uk 1,ui 1 28 30,ud 1 33]
abbrev qUM:qP:=.loop (sr [uv 23 0 24] (.seq (cD 25 sK (.exit 0)) (.seq (.blk 1 (sr qUU (rg qUV))) (rB 34 [uu 24 1,uH 24 35]))))
abbrev qUW:=bO 35 [uI 0,uN,uK 4,uJ,uS,uO 0]
abbrev qUX:=bO 42 [ui 2 39 41,uW 2,uC 8 ue,uZ 9 0 2 44]
abbrev qUY:=bO 44 [uI 5,uL 9,uM 9 0,uT 1 45,uJ,uk 1,ui 1 45 47,ud 1 50]
abbrev qUZ:=bO 51 [uI 5,uL 9,uM 9 1,uT 1 52,uJ,uk 1,ui 1 52 54,ud 1 57]
abbrev qUN:qP:=.loop (sr [uv 40 0 41] (.seq (cD 42 sK (.exit 2)) (.seq (.blk 3 (sr qUX (sr qUY (rg qUZ)))) (rB 58 [uu 41 1,uH 41 59]))))
abbrev qUQ:=bO 59 [uI 0,uN,uK 0,uJ,uS,uO 0]
abbrev qUR:=bO 66 [uI 65,ui 5 63 65,uW 5,uC 10 uw,uH 10 67,uZ 11 0 5 69]
abbrev qUS:=bO 73 [uQ 11 0 5,uP 1368,uR,uE 76 (uL 11),uE 76 (uM 11 4),uE 76 uS,uE 76 (uU 0),ua 76,uH 73 81]
abbrev qUJ:=sB 70 [uQ 11 0 5,uP 1455,uH 70 72] (cD 70 (rg [uO 0 0 11]) (sr qUS (cD 73 (rg [uO 2 0 11]) sK)))
abbrev qUT:=bO 81 [uI 5,uI 10,uT 1 82,uJ,uI 12,v7 85 86]
abbrev qUK:qP:=.seq (.blk 5 (sr qUR (sr [uO 1 0 11] (.seq (.blk 6 qUJ) (sr qUT (cD 87 (sr [uY 0 3] .ret) sK)))))) (rB 87 [uu 65 1,uH 65 88])
abbrev qUL:qP:=.seq (sr qUP (.blk 0 qUM)) (.seq (sr qUW (.blk 2 qUN)) (.seq (sr qUQ (.blk 4 (.loop (sr [uv 64 0 65] (.seq (cD 66 sK (.exit 4)) qUK))))) (sr [u9 0 3] .ret)))
def KJ:qJ:=⟨2,89,[.t 4],sr [uY 0 3] (sr qUO qUL)⟩
abbrev qU3:=bO 6 [uI 0,uN,uK 0,uJ,uS,uO 0]
abbrev qU4:=bO 13 [ui 5 10 12,uW 5,uC 4 uw,uZ 5 0 5 15]
abbrev qU5:=bO 15 [uI 3,uQ 5 0 5,uP 1455,uP 566,vj 16 19,uH 3 20]
abbrev qU0:qP:=.loop (sr [uv 11 0 12] (.seq (cD 13 sK (.exit 0)) (.seq (.blk 1 (sr qU4 (rg qU5))) (rB 20 [uu 12 1,uH 12 21]))))
abbrev qU6:=bO 21 [uI 0,uN,uK 1,uJ,uH 6 25]
abbrev qU7:=bO 28 [uI 0,uI 6,uV 1484 29,ug,uR,uF 33 (uI 0),uF 33 uN,uF 33 (uK 0),uF 33 uJ,uF 33 (uI 6),uF 33 (uT 5 37),uF 33 (uW 5),uF 33 (uP 1455),uF 33 ug,uj 33]
abbrev qU8:=bO 43 [uI 0,uN,uK 0,uJ,uI 6,uT 5 47,uK 2,uJ,uH 6 51]
abbrev qU1:=sr [uv 26 0 27] (.seq (cD 28 sK (.exit 2)) (.seq (.blk 3 (.seq (sr qU7 (cD 43 (sr [uY 0 1] .ret) sK)) (rg qU8))) (rB 51 [uu 27 1,uH 27 52])))
abbrev qU2:qP:=.seq (sB 25 [uI 3,uO 0] (.blk 2 (.loop qU1))) (sB 52 [uI 6,uU (-1),uH 2 54] .ret)
def KL:qJ:=⟨1,55,[.t 2],sr [uY 0 1] (sr [uO 0 0 2] (.seq (sr qU3 (.blk 0 qU0)) (sr qU6 qU2)))⟩
abbrev qL5:=bO 8 [uy 2,uN,uK 0,uJ,uS,vz 13 1,uR,uF 15 (uy 2),uF 15 uN,uF 15 (uK 0),uF 15 uJ,uF 15 uS,uF 15 (vu 20 1500),uj 15,uR,uF 23 (uy 2),uF 23 uN,uF 23 (uK 4),uF 23 uJ,uF 23 uS,uF 23 (uy 2),uF 23 uN,uF 23 (uK 0),uF 23 uJ,uF 23 uS,uF 23 (vv 28 33),uj 23]
abbrev qL6:=bO 35 [uy 2,uN,uK 0,uJ,uA (.call 1356 [.t 39,.f 1357]),uR,uF 41 (uy 2),uF 41 (uP 1360),uF 41 (uI 1),uF 41 (un 2 43),uF 41 (uA (.mkfn 1361 [.t 2])),uF 41 (uV 1359 45),uj 41,uR,uF 49 (uy 2),uF 49 uN,uF 49 (uK 4),uF 49 uJ,uF 49 (uA (.mkfn 1364 [.t 2])),uF 49 (uV 1363 53),uj 49]
abbrev qL7:=bO 56 [uy 2,uI 1,uV 1366 57,ug,uR,uF 61 (uy 2),uF 61 (uP 1367),uF 61 ug,uj 61]
abbrev qL8:=bO 65 [uy 2,uN,uK 0,uJ,uS,uO 0]
abbrev qL9:=bO 72 [uI 71,ui 5 69 71,uW 5,uC 5 uw,uH 5 73,uZ 6 0 5 75]
abbrev qMA:=bO 78 [uy 2,uI 5,vF 0 1 2 1 1 80,uV 1256 79,uH 78 82,uC 82 (ub 78 0),ub 78 1,uC 6 ue,uZ 7 0 2 83,uI 84]
abbrev qL2:=sB 75 [uQ 6 0 5,uP 1368] (cD 77 (sr qMA (sB 84 [uI 8,ug] (cD 86 (sr [uY 0 3] .ret) sK))) sK)
abbrev qL3:=sr qL8 (.blk 0 (.loop (sr [uv 70 0 71] (.seq (cD 72 sK (.exit 0)) (.seq (.blk 1 (sr qL9 qL2)) (rB 86 [uu 71 1,uH 71 87]))))))
abbrev qL4:qP:=.seq (sr qL5 (cD 35 (sr [uY 0 3] .ret) sK)) (.seq (sr qL6 (cD 56 (sr [uY 0 3] .ret) sK)) (.seq (sr qL7 (cD 65 (sr [uY 0 3] .ret) sK)) (.seq qL3 (sr [u9 0 3] .ret))))
def UR:qJ:=⟨2,88,[.t 4],sB 1 [vP 1 0,uC 3 uY] qL4⟩
def F867:qJ:=⟨1,4,[.t 2],sB 0 [vP 5 0,uY] (sB 2 [uA (.call 1068 [.t 1,.c (.nils)]),uH 2 3] .ret)⟩
abbrev qMB:=bO 4 [vD 2,uI 0,un 2 5,uH 2 7]
def qDT:qJ:=⟨1,8,[.t 2],sr [ut 0 1] (.seq (sB 2 [uI 0,UF 1 3] (cD 4 (sr [ut 0 1] .ret) sK)) (sr qMB .ret))⟩
abbrev qO0:=bO 4 [vD 2,uI 0,un 2 5,uH 2 7]
def qDY:qJ:=⟨1,8,[.t 2],sr [ut 0 1] (.seq (sB 2 [uI 0,UF 1 3] (cD 4 (sr [ut 0 1] .ret) sK)) (sr qO0 .ret))⟩
abbrev qeX:=bO 5 [uL 1,uM 1 0,uS,uD 4 (uC 9 (uL 1)),uD 5 (uM 1 1),uD 6 (uL 1),uD 7 (uQ 1 2 2),uD 8 (uL 1),uD 9 (uM 1 4),uD 12 (uC 2 vG),uC 15 (uP 1070),uD 3 (uC 8 (UG 5 0 8)),uD 11 (uC 16 (uA (.build (.agg [.nils,iI 0,iI 0,iI 0,.nils]) [(0,1,.t 9),(1,1,.t 11),(2,2,.t 13),(4,1,.t 16)]))),uc 3 0 5]
abbrev qeY:=bO 17 [uL 1,uM 1 0,uS,uO 0]
abbrev qeZ:=bO 22 [ui 5 19 21,uW 5,uC 4 uw,uZ 5 0 5 24]
abbrev qe0:=bO 24 [uL 5,uM 5 3,uD 3 (uC 27 (uL 5)),uD 4 (uM 5 4),uD 2 (uC 26 (uP 401)),uD 6 (uC 30 (uL 5)),uD 5 (uC 29 (uP 1181)),uZ 5 3 1 27,uC 31 (uL 5),uZ 5 4 1 30]
abbrev qe1:=bO 32 [uL 3,uM 3 0,uQ 5 0 5,vX 5 1 0 35,un 5 34,uL 3,uZ 3 0 1 37]
abbrev qeW:qP:=.loop (sr [uv 20 0 21] (.seq (cD 22 sK (.exit 0)) (.seq (.blk 1 (sr qeZ (sr qe0 (rg qe1)))) (rB 38 [uu 21 1,uH 21 39]))))
def F868:qJ:=⟨1,41,[.l 2 (some 5)],sB 0 [uf 5 0,vG] (.seq (.reg false qeX) (.seq (sr qeY (.blk 0 qeW)) (sB 39 [uQ 3 0 5,uc 2 0 5] .ret)))⟩
abbrev qXP:=bO 5 [uI 0,uN,uK 0,uJ,uI 1,uT 5 9,uW 5,uC 4 uw,uZ 5 0 5 12]
abbrev qXQ:=bO 12 [uL 5,uM 5 0,uL 5,uM 5 1,uL 5,uM 5 2,uL 5,uM 5 3,uL 5,uM 5 4,uS,uk 1,UH 2 24 24,vQ 0 1 14 1 1 16 2 1 18 3 1 20 4 1 25,uc 4 0 5]
def Ku:qJ:=⟨2,27,[.l 4 (some 5)],sr [uw 0 3] (sr qXP (sr qXQ .ret))⟩
abbrev qWU:=bO 4 [uI 0,uL 3,uM 3 0,uD 4 (uH 9 0),uD 5 (uL 3),uD 6 (uM 3 1),uD 3 (uC 7 (uV 1509 5)),uC 11 (uV 1509 9),uA (.bslice 5 (.agg [iI 0,iI 0,iI 0,.nils,.nils]) 2 [(0,.t 8),(1,.t 12)]),uA (.build (.agg [.nils]) [(0,1,.t 13)]),uc 4 0 1]
def Kd:qJ:=⟨2,15,[.l 4 (some 1)],sB 2 [uf 2 1,vJ] (sr qWU .ret)⟩
abbrev qQU:=bO 2 [uf 2 1,uO 0,uO 0,uO 0]
abbrev qQV:=bO 8 [uI 0,uQ 3 0 2,uV 1420 9,uC 6 (vf 1),ud 1 11]
abbrev qQW:=bO 12 [vd 0 1 0 1 1 1,uV 751 7,uH 12 14,uC 14 (ub 12 0),ub 12 1,uH 4 15,uH 8 16]
abbrev qQX:=bO 17 [uI 4,uL 3,uM 3 1,uL 3,uM 3 0,uH 4 18,uI 20,uI 22]
abbrev qQY:=bO 22 [uI 4,uL 3,uM 3 0,uL 3,uM 3 1,uH 4 23,uI 25,uI 27]
def Uu:qJ:=⟨2,28,[.t 4,.t 5,.t 6],sr qQU (sr qQV (sr qQW (.seq (sr [uI 8 0 16] (cD 17 (sr qQX .ret) sK)) (sr qQY .ret))))⟩
abbrev qWW:=bO 6 [uI 0,uP 554,uS,uO 0]
abbrev qWX:=bO 11 [ui 2 8 10,uW 2,uC 4 ue,uZ 5 0 2 13]
abbrev qWY:=bO 13 [uI 0,uQ 5 0 2,uV 555 14,uC 5 ue,uZ 6 0 2 16]
abbrev qWZ:=bO 16 [uQ 5 0 2,uQ 6 0 2,uV 556 17,uR,uE 20 (uL 5),uE 20 (uM 5 1),uE 20 (vu 22 0),ua 20,uR,uE 25 (uL 6),uE 25 (uM 6 1),uE 25 (vu 27 0),ua 25]
abbrev qW0:=bO 29 [uI 3,uQ 5 0 2,uQ 6 0 2,u5 0 2 31 2 2 32,vE 4 1 0 33,un 4 30,uH 3 35]
abbrev qWV:=sr [uv 9 0 10] (.seq (cD 11 sK (.exit 0)) (.seq (.blk 1 (sr qWX (sr qWY (sr qWZ (cD 29 (rg qW0) sK))))) (rB 35 [uu 10 1,uH 10 36])))
def Ke:qJ:=⟨1,38,[.t 2],sr [ut 0 1] (sr [ut 0 2] (.seq (sr qWW (.blk 0 (.loop qWV))) (sB 36 [uI 3,uH 2 37] .ret)))⟩
abbrev qO7:=bO 15 [uI 0,uN,uK 0,uQ 3 0 2,uD 5 (uH 21 0),uD 6 uN,uD 7 (uK 5),uD 8 uJ,uD 4 (uC 19 (uG [uJ 8 23] (uV 1420 18))),uC 24 (uA (.build (.agg [.nils,.nils,.nilm]) [(0,1,.t 20),(1,1,.t 24)])),vP 3 25,uH 6 26]
abbrev qO8:=bO 27 [uI 6,vd 0 1 0 1 1 1,uV 1305 28,uH 27 30,uC 30 (ub 27 0),ub 27 1,ub 27 2,ub 27 3,uH 7 31,uI 32,uI 33,uI 34]
abbrev qO9:=bO 38 [uI 0,uN,uK 0,uQ 3 0 2,uV 1285 41,uH 38 43,uC 43 (ub 38 0),ub 38 1,ub 38 2,uH 11 44,uI 45,uI 46]
abbrev qPA:=bO 46 [uI 0,uN,uK 0,uK 0,uJ,uI 13,uT 5 51,uK 4,uJ,uS,uH 14 56]
abbrev qPB:=bO 59 [uI 14,uA (.bin .mul (.c (iI 3)) (.t 60)),vi 2 61,uH 4 62,uO 0]
abbrev qPC:=bO 69 [uI 0,uN,uK 0,uK 0,uJ,uI 12,uT 5 74,uK 4,uJ,uS,vi 1 79,uH 4 80,uO 0]
abbrev qPD:=bO 82 [uI 0,uN,uK 5,uJ,uI 0,uN,uK 0,uK 0,uJ,uI 12,uT 5 91,uK 2,uJ,uT 1 86,uW 1,uC 14 (vf 1),ud 1 97]
abbrev qPE:=bO 97 [ur 0 15,uJ,uS,v8 100 1,uG [uJ 1 98] (vI 1421 15),uS,vj 101 103,uH 4 104,uO 0]
abbrev qO5:=sB 68 [uX 57 6,uH 68 69] (cD 68 (sr qPC .ret) (sB 81 [uX 57 7,uH 81 82] (cD 81 (sr qPD (sr qPE .ret)) sK)))
abbrev qO6:=cD 63 (sB 64 [uI 14,uH 4 65,uO 0] .ret) (sB 66 [uX 57 5,uH 66 67] (cD 66 (sB 3 [uO 1,uO 0] .ret) qO5))
abbrev qO3:=sr [uI 7 0 56] (.blk 0 (sB 58 [uX 57 3,uH 58 59] (cD 58 (sr qPB .ret) (sB 63 [uX 57 4,uH 63 64] qO6))))
abbrev qO4:qP:=.seq (sB 34 [uI 10,v5 35 0] (cD 36 (sB 36 [uI 10,uC 3 (uO 0),uI 37] .ret) sK)) (sr qO9 (sr qPA (.seq qO3 (sB 3 [uO 0,uO 0] .ret))))
def Uh:qJ:=⟨2,105,[.t 4,.t 5],sB 2 [uf 2 1,uO 0,uO 0] (sr qO7 (sr qO8 qO4))⟩
abbrev qQ0:=bO 6 [uI 0,uN,uK 0,uJ,uS,uO 0]
abbrev qQ1:=bO 13 [ui 5 10 12,uW 5,uC 5 uw,uZ 6 0 5 15]
abbrev qQ2:=bO 15 [uI 2,uQ 6 0 5,uP 1254,uP 566,vj 16 19,uH 2 20]
abbrev qQ3:=bO 20 [uI 3,uQ 6 0 5,uP 1368,uP 566,vj 21 24,uH 3 25]
abbrev qQ4:=bO 25 [uI 4,uQ 6 0 5,uP 1455,uP 566,vj 26 29,uH 4 30]
abbrev qQZ:=sr [uv 11 0 12] (.seq (cD 13 sK (.exit 0)) (.seq (.blk 1 (sr qQ1 (sr qQ2 (sr qQ3 (rg qQ4))))) (rB 30 [uu 12 1,uH 12 31])))
abbrev qQ5:=bO 31 [uI 2,uI 3,uI 4,uH 2 32,uI 33,uI 34]
def Uv:qJ:=⟨1,35,[.t 2,.t 3,.t 4],sB 1 [uO 0,uO 0,uO 0] (.seq (sr qQ0 (.blk 0 (.loop qQZ))) (sr qQ5 .ret))⟩
abbrev qQ7:=bO 7 [uI 0,uI 1,uI 2,uI 0,uS,uA (.slcm 2 (.t 8) (.t 9) (.t 10) (.t 12))]
abbrev qQ8:=bO 19 [uI 0,uI 1,uA (.slc 2 (.t 20) none (some (.t 21)) none),uI 0,uI 2,uA (.slc 2 (.t 23) (some (.t 24)) none none),uA (.appx 2 (.t 22) (.t 25)),(λ_ _=>.mk 7 (some 0) none (.mov (.t 26)) [])]
abbrev qQ9:=bO 26 [uI 0,uI 0,uS,uI 7,uA (.slcx 2 (.t 27) (some (.t 29)) (some (.t 30))),uB (.clear 2 (.agg [iI 0,iI 0]) (.t 31))]
abbrev qQ6:=sB 17 [uI 0,uS,uH 7 19] (sr qQ8 (sr qQ9 (sB 31 [uI 0,uH 6 32] .ret)))
def Uw:qJ:=⟨3,33,[.t 6],sr [ut 0 5] (sr qQ7 (.seq (sB 13 [uI 1,uI 2,vk 14 15] (cD 16 (sB 16 [uI 0,uH 6 17] .ret) sK)) qQ6))⟩
abbrev qRA:=bO 3 [uI 0,uN,uK 0,uJ,uI 1,uI 0,uN,uK 1,uJ,vZ 2 1 12,ui 5 7 8,ud 5 13]
abbrev qRB:=bO 14 [uI 0,uI 1,vC 15,uK 1,ud 1 16]
def W2:qJ:=⟨2,19,[],sr qRA (rg qRB)⟩
def Uk:qJ:=⟨0,2,[.l 0 (some 2)],sr [.mk 0 (some 0) none (.lalloc (.agg [iI 0,iI 0])) []] (sB 0 [vd 0 1 0 1 1 0,uc 0 0 2] .ret)⟩
abbrev qS7:=bO 5 [uI 0,uI 0,uN,uK 4,uJ,uI 1,uI 2,uA (.min (.t 11) (.t 12)),uI 1,uI 2,uA (.max (.t 14) (.t 15)),vK 0 1 13 1 1 16,uz 2 1 0 17,un 2 10,vC 6,uK 4,ud 1 19]
def KA:qJ:=⟨3,22,[],rg qS7⟩
def Kv:qJ:=⟨1,5,[.l 2 (some 2)],sr [ue 0 1] (sB 2 [uI 0,vF 0 1 2 1 1 3,uc 2 0 2] .ret)⟩
abbrev qXC:=bO 2 [uI 0,vO 0 1 13,uV 863 3,uP 1521,uc 2 0 2]
def Ki:qJ:=⟨1,7,[.l 2 (some 2)],sr [ue 0 1] (sr qXC .ret)⟩
def Kj:qJ:=⟨1,5,[.l 2 (some 2)],sr [ue 0 1] (sB 2 [uI 0,vF 0 1 1 1 1 3,uc 2 0 2] .ret)⟩
abbrev qRI:=bO 20 [uI 0,uN,uK 5,uJ,uL 4,uM 4 2,uT 1 24,uW 1,uL 4,uM 4 1,uV 1456 28,uH 20 31,uC 31 (ub 20 0),ub 20 1,uC 5 (vf 1),ud 1 32,uI 33]
abbrev qRJ:=bO 33 [ur 0 6,uJ,uS,UI 1 0 36 36,uH 8 37]
abbrev qRR:=bO 37 [ur 0 6,uJ,uA (.slc 5 (.t 39) (some (.c (iI 1))) none none),uS,uO 0]
abbrev qRU:=bO 43 [uI 42,ui 5 40 42,uW 5,uC 9 uw,uH 9 44,uZ 10 0 5 46]
abbrev qRV:=bO 46 [uI 8,uI 9,uk 1,uI 0,uN,uK 0,uQ 10 0 5,uP 864,uV 863 52,ui 1 47 49,ud 1 55]
abbrev qRH:qP:=.loop (sr [uv 41 0 42] (.seq (cD 43 sK (.exit 0)) (.seq (.blk 1 (sr qRU (rg qRV))) (rB 56 [uu 42 1,uH 42 57]))))
abbrev qRW:=bO 61 [ui 4 58 60,uW 4,uC 11 (uA (.lalloc (.agg [iI 0,iI 0,iI 0,iI 0]))),uZ 12 0 4 63]
abbrev qRX:=bO 63 [uI 0,uN,uK 0,uP 1457,uC 12 ue,uZ 13 0 2 67]
abbrev qRY:=bO 67 [uI 0,uN,uK 0,uL 12,uQ 12 0 2,uQ 13 0 2,uI 8,UE 866 70 72 73 74]
abbrev qRZ:=bO 75 [uI 0,uN,uK 0,uL 12,uQ 12 2 2,uQ 13 0 2,uI 8,UE 866 78 80 81 82]
abbrev qRC:=sr [uv 59 0 60] (.seq (cD 61 sK (.exit 2)) (.seq (.blk 3 (sr qRW (sr qRX (sr qRY (rg qRZ))))) (rB 83 [uu 60 1,uH 60 84])))
abbrev qRK:=bO 84 [uI 8,uI 2,uA (.iaddr 1 (.t 85) (.c (iI 0))),ud 1 86]
abbrev qRL:=bO 91 [ui 2 88 90,uW 2,uC 14 ue,uZ 15 0 2 93]
abbrev qRM:=bO 93 [uQ 15 0 2,uV 555 6,uC 15 ue,uZ 16 0 2 95]
abbrev qRN:=bO 95 [uL 15,uM 15 1,vu 97 0,uR,uE 99 (uL 16),uE 99 (uM 16 1),uE 99 (uU 0),ua 99]
abbrev qRO:=bO 103 [uI 0,uN,uK 0,uQ 15 0 2,uI 8,uL 16,uM 16 0,uT 1 108,uJ,uD 10 (uH 114 8),uD 9 (uC 112 (uP 1458)),uC 114 (UE 866 106 107 113 114)]
abbrev qRD:=sr [uv 89 0 90] (.seq (cD 91 sK (.exit 4)) (.seq (.blk 5 (sr qRL (sr qRM (sr qRN (cD 103 (rg qRO) sK))))) (rB 115 [uu 90 1,uH 90 116])))
abbrev qRP:=bO 120 [ui 2 117 119,uW 2,uC 17 ue,uZ 18 0 2 122]
abbrev qRQ:=bO 122 [uI 0,uN,uK 0,uI 8,uL 18,uM 18 0,uT 1 126,uJ,uI 8,uL 18,uM 18 1,uT 1 131,uJ,ux 1295 125 130]
abbrev qRE:qP:=.loop (sr [uv 118 0 119] (.seq (cD 120 sK (.exit 6)) (.seq (.blk 7 (sr qRP (rg qRQ))) (rB 136 [uu 119 1,uH 119 137]))))
abbrev qRS:=bO 137 [uA (.call 1257 []),uV 555 6,uC 18 ue,uZ 19 0 2 139]
abbrev qRT:=bO 142 [uI 0,uN,uK 0,uI 2,uI 8,uL 19,uM 19 0,uT 1 147,uJ,ux 1295 145 146]
abbrev qRF:qP:=.seq (sB 116 [vI 376 6,uS,uO 0] (.blk 6 qRE)) (sr qRS (sB 139 [uL 19,uM 19 1,uU 0] (cD 142 (rg qRT) sK)))
abbrev qRG:qP:=.seq (sB 57 [vI 1421 6,uS,uO 0] (.blk 2 (.loop qRC))) (sr qRK (.seq (sB 87 [vI 554 6,uS,uO 0] (.blk 4 (.loop qRD))) qRF))
def Ux:qJ:=⟨3,153,[],sr [uf 5 1 0 3] (.seq (.reg false qRI) (sr qRJ (.seq (sr qRR (.blk 0 qRH)) qRG)))⟩
abbrev qXD:=bO 3 [uy 0,uN,uK 0,ur 0 1,uJ,ur 1 1,uJ,ur 2 1,uJ,ur 3 1,uJ,uD 12 (uC 15 (uy 2)),uD 11 (uC 14 (uG [uy 0 0 3,uJ 4 7,uJ 6 9,uJ 8 11,uy 2 12 15] (uP 401))),uC 16 (UH 2 16 16),vQ 0 1 8 1 1 10 2 1 12 3 1 15 4 1 17,uV 863 6,uH 3 19]
def Kk:qJ:=⟨3,20,[.t 3],sr [uO 0 0 2] (.seq (.reg false qXD) .ret)⟩
abbrev qR3:=bO 2 [vP 1 0,uf 5 1,vP 5 2,ut]
abbrev qR4:=bO 16 [ur 4 5,uJ,uS,uC 6 (uA (.halloc 1 (iI 0))),ud 1 19]
abbrev qR7:=bO 24 [uL 4,uM 4 4,uo 2 0,uW 2,uI 9,uD 7 (uC 31 (uL 4)),uD 8 (uM 4 4),uD 9 (uo 2 1),uD 10 (uW 2),uD 11 (uI 10),uD 5 (uC 29 (uG [uW 2 3 27,uW 2 10 34] (uP 1458))),uD 6 (u5 0 2 28 2 2 30),uC 36 (uG [uW 2 3 27,uW 2 10 34] (uP 1458)),u5 0 2 35 2 2 37,vS 4 2 0 31 1 38,uH 11 39]
abbrev qR8:=bO 39 [ur 4 5,uJ,uS,uO 0]
abbrev qR9:=bO 44 [uI 43,ui 2 41 43,uW 2,uC 12 ue,uH 12 45,uZ 13 0 2 47]
abbrev qSA:=bO 47 [uy 3,uN,uK 0,uL 4,uM 4 1,uA (.mksl 2 (.agg [iI 0,iI 0]) (.c (iI 2)) (.c (iI 2))),vU 0 1 4 1 1 52 4 1 53,uV 863 50,uH 14 55]
abbrev qSB:=bO 55 [uy 3,uN,uK 0,uP 1457,uC 14 ue,uZ 15 0 2 59]
abbrev qSC:=bO 59 [uy 3,uN,uK 0,uP 1457,uC 15 ue,uZ 16 0 2 63]
abbrev qSD:=bO 63 [uy 3,uN,uK 0,uK 0,uJ,uI 14,uQ 15 0 2,uQ 16 0 2,vT 2 2 0 70 1 71,ui 5 68 69,uK 4,ud 1 72]
abbrev qSE:=bO 74 [uy 3,uN,uK 0,uK 0,uJ,uI 9,uT 5 79,uK 4,uJ,uI 12,uQ 15 0 2,ui 2 83 84,ud 2 85]
abbrev qR5:=bO 86 [uy 3,uN,uK 0,uK 0,uJ,uI 10,uT 5 91,uK 4,uJ,uI 12,uQ 16 0 2,ui 2 95 96,ud 2 97]
abbrev qR6:=bO 98 [uI 11,uQ 13 0 2,uI 14,uP 1458,u5 0 2 100 2 2 102,vE 4 1 0 103,un 4 99,uH 11 105]
abbrev qR0:qP:=.seq (.blk 1 (sr qR9 (sr qSA (sr qSB (sr qSC (sr qSD (sr qSE (sr qR5 (rg qR6))))))))) (rB 105 [uu 43 1,uH 43 106])
abbrev qR1:=sr qR7 (.seq (sr qR8 (.blk 0 (.loop (sr [uv 42 0 43] (.seq (cD 44 sK (.exit 0)) qR0))))) (sB 106 [uI 11,uH 6 107] .ret))
abbrev qR2:=sB 19 [uA (.mkfn 1459 [.t 3,.t 5,.t 7]),uH 8 20] (sB 20 [uI 8,uA (.callv (.t 21) []),uH 9 22] (sB 22 [uI 8,uA (.callv (.t 23) []),uH 10 24] qR1))
def Uy:qJ:=⟨3,108,[.t 6],sr qR3 (sr qR4 qR2)⟩
abbrev qSG:=bO 7 [uL 3,uM 3 4,uS,uO 0]
abbrev qSH:=bO 12 [ui 2 9 11,uW 2,uC 6 ue,uZ 7 0 2 14]
abbrev qSI:=bO 14 [uI 5,uQ 7 0 2,uI 0,uN,uK 0,vO 0 1 5,uV 863 19,uP 1458,u5 0 2 16 2 2 22,vE 4 1 0 23,un 4 15,uH 5 25]
abbrev qSF:qP:=.loop (sr [uv 10 0 11] (.seq (cD 12 sK (.exit 0)) (.seq (.blk 1 (sr qSH (rg qSI))) (rB 25 [uu 11 1,uH 11 26]))))
def Uz:qJ:=⟨2,28,[.t 4],sB 2 [uf 5 1,ut] (sr [ut 0 4] (.seq (sr qSG (.blk 0 qSF)) (sB 26 [uI 5,uH 4 27] .ret)))⟩
abbrev qSK:=bO 11 [uL 5,uM 5 1,uL 5,uM 5 2,uL 4,uM 4 2,uD 7 (uC 18 (uL 5)),uD 8 (uM 5 4),uD 9 (uo 2 1),uD 10 (uW 2),uD 6 (uC 17 (vN 1 0 1 0 17)),uC 22 (uz 2 1 0 22),vg 0 1 8 1 1 13 2 1 15 3 1 18 4 1 23,uc 7 0 5]
abbrev qSL:=bO 24 [uL 5,uM 5 2,uL 5,uM 5 3,uo 1 0,uJ,uL 4,uM 4 2,ux 1118 26 30,uL 7,uZ 7 2 1 33]
abbrev qSM:=bO 34 [uL 5,uM 5 4,uo 2 0,uW 2,uI 0,uN,uK 0,uQ 7 0 5,uG [uW 2 3 37] (uV 863 41),uG [uW 2 3 37] (uP 1458),u5 0 2 38 2 2 44,vE 4 1 0 45,uH 6 46]
abbrev qSJ:=sB 7 [vO 0 1 6,uC 6 uw,uZ 7 0 5 8] (.seq (sB 8 [uL 5,uM 5 0,uU 7] (cD 11 (rg qSK) (rg qSL))) (sr qSM .ret))
def U0:qJ:=⟨3,47,[.t 6],sB 3 [uf 5 1,uf 5 2,ut] qSJ⟩
abbrev qSR:=bO 12 [uL 5,uM 5 3,uo 1 0,uJ,uH 7 16]
abbrev qSS:=bO 19 [uL 5,uM 5 3,uL 4,uM 4 2,uT 1 21,uJ,uH 7 25]
abbrev qSW:=bO 28 [uL 5,uM 5 3,uo 1 1,uJ,uH 7 32]
abbrev qSQ:=sB 16 [uL 5,uM 5 0,uU 10] (cD 19 (rg qSS) (sB 25 [uL 4,uM 4 2,uU 0] (cD 28 (rg qSW) sK)))
abbrev qSX:=bO 32 [uI 0,uN,uK 0,uL 5,uM 5 1,uI 7,vU 0 1 12 1 1 37 2 1 38,uV 863 35,uH 8 40]
abbrev qSY:=bO 40 [uL 4,uM 4 4,uS,uU 0]
abbrev qSZ:=bO 44 [uL 5,uM 5 4,uo 2 0,uW 2,uI 8,uG [uW 2 3 47] (uP 1458),u5 0 2 48 2 2 50,vE 4 1 0 51,uH 6 52]
abbrev qS0:=bO 52 [uL 4,uM 4 4,uS,uO 0]
abbrev qS1:=bO 57 [ui 2 54 56,uW 2,uC 10 ue,uZ 11 0 2 59]
abbrev qS2:=bO 59 [uI 9,uI 0,uN,uK 0,uL 5,uM 5 1,uQ 11 0 2,uL 5,uM 5 4,uo 2 0,uW 2,vT 2 2 0 66 1 70,vU 0 1 3 1 1 65 4 1 71,uV 863 63,vN 1 0 1 0 73,un 1 60,uH 9 75]
abbrev qSN:qP:=.loop (sr [uv 55 0 56] (.seq (cD 57 sK (.exit 0)) (.seq (.blk 1 (sr qS1 (rg qS2))) (rB 75 [uu 56 1,uH 56 76]))))
abbrev qST:=bO 76 [uI 9,uS,v8 78 1,uO 0]
abbrev qSU:=bO 82 [uI 0,uN,uK 0,uK 0,uJ,uI 9,uI 12,uT 1 88,uJ,uT 5 87,uK 4,uJ,uI 9,uI 12,uk 1,uT 1 95,uJ,uG [uJ 4 86,uJ 8 90,uJ 11 93] (uP 1458),uA (.iaddr 2 (.t 94) (.c (iI 1))),ud 2 100]
abbrev qSO:=sr [uv 79 0 80] (.seq (cD 81 sK (.exit 2)) (.seq (.blk 3 (sB 81 [uI 80,uH 12 82] (rg qSU))) (rB 101 [uu 80 1,uH 80 102])))
abbrev qSV:=bO 102 [uI 0,uN,uK 0,uI 8,uI 9,uo 1 0,uJ,ux 1295 105 106]
abbrev qSP:=sr [ut 0 8] (.seq (sr qS0 (.blk 0 qSN)) (.seq (sr qST (.blk 2 (.loop qSO))) (sr qSV (sr [ut 0 5] .ret))))
def U8:qJ:=⟨3,111,[.t 6],sB 3 [uf 5 1,uf 5 2,ut] (sr qSR (.seq qSQ (sr qSX (.seq (sr qSY (cD 44 (sr qSZ .ret) sK)) qSP))))⟩
abbrev qg2:=bO 18 [uI 0,uN,uK 0,uK 4,uJ,uI 1,uT 2 23,uW 2,uC 6 ue,uZ 7 0 2 26]
abbrev qg3:=bO 27 [uI 0,uQ 7 0 2,uV 1183 28,uH 27 30,uC 30 (ub 27 0),ub 27 1,uH 8 31,uI 32]
abbrev qhC:=bO 34 [uI 9,uC 3 (uO 0),ut,uI 35]
abbrev qhD:=bO 36 [uI 0,uN,uK 0,uQ 7 0 2,uV 1285 39,uH 36 41,uC 41 (ub 36 0),ub 36 1,ub 36 2,uH 10 42,uI 43,uI 44]
abbrev qhE:=bO 45 [uI 0,uN,uK 0,uP 1286,uH 45 49,uC 49 (ub 45 0),ub 45 1,ub 45 2,uH 13 50,uI 51,uI 52]
abbrev qhF:=bO 52 [uI 8,uI 15,uk 2,uI 10,uU 7,uP 566,UC 55 58,vv 53 59]
abbrev qhG:=bO 60 [uI 0,uI 0,uN,uK 0,uK 4,uJ,uI 1,uI 1,uk 1,ux 1287 66 67,vC 61,uK 0,uK 4,ud 1 70]
abbrev qhH:=bO 73 [uI 0,uN,uK 0,uK 0,uJ,uI 11,uT 5 78,uW 5,uI 0,uN,uK 0,uK 0,uJ,uI 12,uT 5 86,uW 5,uC 15 uw,uw,uZ 16 0 5 81,uZ 17 0 5 89]
abbrev qhI:=bO 89 [uI 0,uN,uK 0,uI 11,uV 1288 92]
abbrev qhJ:=bO 96 [uI 0,uQ 16 0 5,uI 12,ux 1289 97 98]
abbrev qg4:=bO 100 [uI 10,uH 4 101,ut,uO 0]
abbrev qg5:=bO 101 [uI 0,uN,uK 0,uI 12,uV 1288 104]
abbrev qg6:=bO 110 [uL 16,uM 16 4,uo 2 0,uW 2,uL 17,uM 17 4,uo 2 0,uW 2,u5 0 2 114 2 2 118,uL 16,uM 16 4,uo 2 1,uW 2,uL 17,uM 17 4,uo 2 1,uW 2,u5 0 2 123 2 2 127,vS 4 2 0 119 1 128,uH 18 129]
abbrev qg7:=bO 131 [uI 0,uQ 16 0 5,uQ 17 0 5,ux 1290 132 133,uH 18 135]
abbrev qg8:=bO 137 [uI 0,uQ 17 0 5,uV 1291 138,uH 18 140]
abbrev qg9:=bO 142 [uI 0,uQ 16 0 5,uQ 17 0 5,ux 1292 143 144,uH 18 146]
abbrev qhA:=bO 148 [uI 0,uQ 16 0 5,uQ 17 0 5,ux 1293 149 150,uH 18 152]
abbrev qgY:=cD 136 (rg qg8) (sB 141 [uX 107 5,uH 141 142] (cD 141 (rg qg9) (sB 147 [uX 107 6,uH 147 148] (cD 147 (rg qhA) sK))))
abbrev qgZ:qP:=.seq (sB 108 [uX 107 1,uH 108 109] (cD 108 sK (rB 109 [uX 107 2,uH 108 110]))) (cD 108 (rg qg6) (sB 130 [uX 107 3,uH 130 131] (cD 130 (rg qg7) (sB 136 [uX 107 4,uH 136 137] qgY))))
abbrev qhB:=bO 152 [uI 10,uI 18,uH 4 153,uI 154,uO 0]
abbrev qg0:qP:=.seq (sB 94 [uI 10,uU 7] (cD 96 (sr qhJ (sr qg4 .ret)) sK)) (sr qg5 (sr [ut 0 17] (.seq (sr [uI 10 0 106] (.blk 0 qgZ)) (sr qhB .ret))))
abbrev qg1:=sr qhE (.seq (sr qhF (cD 60 (sB 3 [uO 0,ut,uO 4] .ret) sK)) (sr qhG (sr qhH (sr qhI qg0))))
def F975:qJ:=⟨2,155,[.t 4,.t 5,.t 6],sB 3 [uO 0,ut,uO 0] (sr qg2 (sr qg3 (.seq (sB 32 [uI 9,v5 33 0] (cD 34 (sr qhC .ret) sK)) (sr qhD qg1))))⟩
abbrev qS4:=bO 5 [uL 3,uM 3 0,uU 2,uR,uE 9 (uI 0),uE 9 uN,uE 9 (uK 0),uE 9 uJ,uE 9 (uL 3),uE 9 (uM 3 1),uE 9 (uT 5 13),uE 9 (uK 4),uE 9 uJ,uE 9 uS,uE 9 (vu 19 0),ua 9]
abbrev qS5:=bO 21 [uI 0,uN,uK 0,uJ,uL 3,uM 3 1,uT 5 25,uK 4,uJ,uo 2 0,uW 2,uC 4 ue,uZ 5 0 2 32]
abbrev qS6:=bO 32 [uI 0,uL 3,uM 3 1,uV 1288 33]
abbrev qS3:qP:=.seq (.blk 0 (.loop (.seq (sr qS4 (cD 21 sK (.exit 0))) (.blk 1 (sr qS5 (sr qS6 (rB 36 [uQ 5 0 2,uc 3 0 2]))))))) (sB 37 [uQ 3 0 2,uc 4 0 2] .ret)
def U9:qJ:=⟨2,39,[.l 4 (some 2)],sB 2 [uf 2 1,ue] qS3⟩
abbrev qhL:=bO 5 [uI 0,uQ 4 0 2,uV 1294 6,uc 4 0 2]
abbrev qhM:=bO 8 [uI 0,uQ 5 0 2,uV 1294 9,uc 5 0 2]
abbrev qhN:=bO 22 [uL 4,uM 4 0,uU 1,uR,uE 26 (uL 5),uE 26 (uM 5 0),uE 26 (uU 1),ua 26,uH 22 30]
abbrev qhO:=bO 30 [uI 0,uL 4,uM 4 1,uL 5,uM 5 1,ux 1295 31 33]
abbrev qhP:=bO 37 [uQ 4 0 2,uQ 5 0 2,UJ 1 1 38 39,uH 37 40]
abbrev qhQ:=bO 40 [uI 0,uL 4,uM 4 1,uV 1288 41]
abbrev qhR:=bO 45 [uL 4,uM 4 0,uU 2,uH 45 48]
abbrev qhS:=bO 48 [uI 0,uN,uK 0,uJ,uL 4,uM 4 1,uQ 5 0 2,uz 2 1 0 55,ui 5 52 54,uK 4,ud 1 56]
abbrev qhT:=bO 11 [uI 0,uN,uK 0,uJ,uL 5,uM 5 1,uQ 4 0 2,uz 2 1 0 18,ui 5 15 17,uK 4,ud 1 19]
abbrev qhK:=sr qhL (sr qhM (.blk 0 (sr qhN (cD 22 (rg qhO) (sr qhP (cD 37 (rg qhQ) (sr qhR (cD 45 (rg qhS) (rg qhT)))))))))
def F976:qJ:=⟨3,59,[],sB 3 [uf 2 1,uf 2 2] qhK⟩
abbrev qb6:=bO 11 [uI 0,uI 1,uV 975 12,uH 11 14,uC 14 (ub 11 0),ub 11 1,ub 11 2,uH 6 15,uI 16,uI 17]
abbrev qb7:=bO 21 [ui 4 18 20,uW 4,uC 9 (uA (.lalloc (.agg [iI 0,iI 0,iI 0,iI 0]))),uZ 10 0 4 23]
abbrev qb8:=bO 23 [uI 0,uN,uK 0,uL 10,uQ 10 0 2,uL 10,uQ 10 2 2,ux 976 26 28]
abbrev qb5:qP:=.loop (sr [uv 19 0 20] (.seq (cD 21 sK (.exit 0)) (.seq (.blk 1 (sr qb7 (rg qb8))) (rB 31 [uu 20 1,uH 20 32]))))
abbrev qb9:=bO 32 [uI 6,uI 8,uH 4 33,uI 34]
def kL:qJ:=⟨2,35,[.t 4,.t 5],sB 3 [uO 0,uO 0] (sr qb6 (.seq (sB 17 [uI 7,uS,uO 0] (.blk 0 qb5)) (sr qb9 .ret)))⟩
abbrev qO1:=bO 6 [uI 0,uP 1286,uH 6 8,uC 8 (ub 6 0),ub 6 1,ub 6 2,uH 3 9,uI 10,uI 11]
abbrev qO2:=bO 11 [uI 3,uI 4,vj 12 13,uH 2 14]
def Ug:qJ:=⟨1,15,[.t 2],sr [uO 0 0 1] (sr qO1 (sr qO2 .ret))⟩
abbrev qe5:=bO 9 [uI 0,uI 0,uI 0,uN,uK 0,uJ,uN,uK 0,uD 9 (uH 19 0),uD 10 uN,uD 11 (uK 0),uD 12 uJ,uD 13 uN,uD 14 (uK 0),uD 8 (uC 17 (uG [uJ 12 21] (uP 1182))),uC 24 (uP 1182),vC 10,uK 3,ud 1 18,vC 11,uK 4,ud 1 25]
abbrev qe6:=bO 29 [uI 0,uN,uK 0,uJ,uN,uK 0,uK 4,uJ,uS,vu 38 0]
abbrev qe8:=bO 39 [uI 0,uN,uK 2,uJ,uS,uI 1,vk 44 45]
abbrev qe9:=bO 46 [uI 0,uN,uK 0,uJ,uN,uK 0,uK 4,uJ,uS,v8 55 1,uH 5 56]
abbrev qfA:=bO 56 [uI 0,uN,uK 0,uJ,uN,uK 0,uP 1182,uH 6 63]
abbrev qfB:=bO 64 [uI 0,uN,uK 0,uJ,uI 0,uN,uK 0,uJ,uN,uK 0,uK 4,uJ,uI 5,uT 2 76,uW 2,uV 1183 68,uH 64 80,uC 80 (ub 64 0),ub 64 1,uH 7 81,uI 82]
abbrev qfC:=bO 86 [uI 0,uN,uK 0,uJ,uI 5,uV 602 90,uH 86 92,uC 92 (ub 86 0),ub 86 1,uH 9 93,uH 8 94]
abbrev qfD:=bO 97 [uI 0,uN,uK 1,uJ,uI 9,v8 102 1,uT 1 101,uJ,uk 1,ui 1 101 103,ud 1 106]
abbrev qfE:=bO 107 [uI 0,uI 0,uN,uK 2,uJ,uI 9,vN 1 0 1 0 113,un 1 112,vC 108,uK 2,ud 1 115]
abbrev qfF:=bO 117 [uI 0,uI 0,uN,uK 3,uJ,uI 0,uN,uK 0,uJ,uN,uK 0,uG [uJ 4 121] (uP 1182),uA (.max (.t 122) (.t 129)),vC 118,uK 3,ud 1 130]
abbrev qe7:=bO 132 [uI 0,uI 0,uN,uK 4,uJ,uI 6,v8 138 2,uI 9,uU 7,uD 11 (uH 144 7),uD 9 (uC 141 (uG [uJ 4 136] (uP 566))),uD 10 (vj 139 142),uC 144 (vj 143 144),uA (.max (.t 137) (.t 145)),vC 133,uK 4,ud 1 146]
abbrev qe2:qP:=.seq (sB 94 [uI 8,v5 95 0] (cD 96 (sB 96 [uI 8,uH 4 97] .ret) sK)) (sr qfD (sr qfE (sr qfF (rg qe7))))
abbrev qe3:=sr qfA (sr qfB (.seq (sB 82 [uI 8,v5 83 0] (cD 84 (sB 84 [uI 8,uH 4 85] .ret) sK)) (sr qfC qe2)))
abbrev qe4:qP:=.seq (.blk 0 (.loop (.seq (sr qe6 (cD 39 sK (.exit 0))) (.blk 1 (.seq (sr qe8 (cD 46 (sr [uO 12 0 3] .ret) sK)) (sr qe9 qe3)))))) (sr [uO 0 0 3] .ret)
def F869:qJ:=⟨2,149,[.t 4],sr [uO 0 0 3] (sr qe5 qe4)⟩
abbrev qa6:=bO 10 [uI 0,uP 505,ug,uR,uF 14 (uQ 4 0 5),uF 14 (uP 867),uF 14 ug,uj 14,uH 10 18]
abbrev qa7:=bO 19 [uI 2,vz 20 0,uR,uF 22 (uI 2),uF 22 (vu 23 4000),uj 22,uH 19 25]
abbrev qa8:=bO 25 [uQ 4 0 5,uD 2 (uH 28 0),uD 1 (uC 26 (uP 868)),uC 28 (uA (.build (.agg [.nils,iI 0,iI 0,iI 0,.nils,.nils]) [(0,5,.t 27),(5,1,.t 28)])),vP 6 29,uA (.mksl 1 (iI 0) (.c (iI 7)) (.c (iI 7))),uA (.build (.agg [.nilp,.nils,.nils,iI 0,iI 0]) [(0,1,.t 30),(1,1,.t 31)]),vP 5 32,uH 8 33]
abbrev qa9:=bO 33 [uI 8,uI 2,uV 869 34,uH 9 36]
abbrev qa4:qP:=.seq (sr qa9 (sB 36 [uI 9,v5 37 0] (cD 38 (sB 38 [uI 9,uC 5 vR,uI 39] .ret) sK))) (sB 39 [uI 8,uH 6 40,uO 0] .ret)
abbrev qa5:qP:=.seq (.blk 0 (sr qa6 (cD 10 (sB 5 [vR,uO 1] .ret) (sr qa7 (cD 19 (sB 5 [vR,uO 2] .ret) sK))))) (.seq (.reg false qa8) qa4)
def kD:qJ:=⟨3,41,[.t 6,.t 7],sB 3 [uf 5 1,uC 5 vR,uO 0] qa5⟩
abbrev qX0:=bO 11 [uI 0,uP 505,ug,uR,uF 15 (uQ 4 0 1),uF 15 (uP 319),uF 15 ug,uj 15,uH 11 19]
abbrev qX1:=bO 20 [uI 2,vz 21 0,uR,uF 23 (uI 2),uF 23 (vu 24 4000),uj 23,uH 20 26]
abbrev qX2:=bO 27 [uQ 4 0 1,uA (.call 506 [.t 28,.c (iI 1500)]),uH 27 29,uC 29 (ub 27 0),ub 27 1,uC 7 vG,uZ 8 0 5 30,uI 31]
abbrev qX3:=bO 35 [uI 0,uQ 8 0 5,uI 2,ux 507 36 37,uH 35 39,uC 39 (ub 35 0),ub 35 1,uH 10 40,uH 9 41]
abbrev qX4:=bO 44 [uI 10,uN,uK 4,uJ,uA (.max (.t 48) (.c (iI 1))),uH 6 49,uO 0]
abbrev qXY:=sr qX3 (.seq (sB 41 [uI 9,v5 42 0] (cD 43 (sB 43 [uI 9,uC 5 (uO 0),uI 44] .ret) sK)) (sr qX4 .ret))
abbrev qXZ:qP:=.seq (.blk 0 (sr qX0 (cD 11 (sB 5 [uO 0,uO 1] .ret) (sr qX1 (cD 20 (sB 5 [uO 0,uO 2] .ret) sK))))) (sr qX2 (.seq (sB 31 [uI 9,v5 32 0] (cD 33 (sB 33 [uI 9,uC 5 (uO 0),uI 34] .ret) sK)) qXY))
def Kz:qJ:=⟨3,50,[.t 6,.t 7],sB 3 [uf 1 1,uC 5 (uO 0),uO 0] qXZ⟩
abbrev qYF:=bO 13 [uI 0,uI 7,uV 181 14,uH 7 16]
abbrev qYG:=bO 18 [uQ 4 0 1,uI 7,uV 182 19,uH 7 21]
abbrev qYH:=bO 24 [uI 0,uD 2 (uC 26 (uQ 4 0 1)),uD 4 (uH 29 2),uD 1 (uC 25 (uP 184)),uD 3 (uC 27 (uP 185)),uC 29 (ux 183 26 28),uH 24 30,uC 30 (ub 24 0),ub 24 1,uH 8 31,uI 32]
abbrev qYI:=bO 34 [uQ 4 0 1,uP 185,uC 10 vJ,uZ 11 0 1 36]
abbrev qYJ:=bO 37 [uI 10,uQ 11 0 1,uI 2,ux 186 38 39,uH 37 41,uC 41 (ub 37 0),ub 37 1,uH 12 42,uI 43]
abbrev qYK:=bO 43 [uI 12,uI 8,v7 44 45,uR,uF 47 (uI 13),uF 47 (uI 9),uF 47 (v7 48 49),uj 47]
abbrev qYL:=bO 51 [uI 10,uI 0,uP 184,uV 187 52,ug]
abbrev qYM:=bO 56 [uQ 11 0 1,uQ 4 0 1,uP 185,uV 188 57,ug]
abbrev qYD:qP:=.seq (sr qYK (cD 51 (sr [uY 0 5] .ret) sK)) (.seq (sr qYL (cD 56 (sr [uY 0 5] .ret) sK)) (.seq (sr qYM (cD 61 (sr [uY 0 5] .ret) sK)) (sr [u9 0 5] .ret)))
abbrev qYE:qP:=.seq (sB 21 [uI 7,vz 22 0] (cD 23 (sr [u9 0 5] .ret) sK)) (sr qYH (sB 32 [uI 0,uP 184,uH 10 34] (sr qYI (sr qYJ qYD))))
abbrev qYC:=sr [uO 1048576 0 6] (sr qYF (.seq (sB 16 [uI 7,vz 17 0] (cD 18 (sr [u9 0 5] .ret) sK)) (sr qYG qYE)))
def F25:qJ:=⟨3,62,[.t 6],sB 3 [uf 1 1,uC 5 uY] qYC⟩
def tabm:List (Nat×qJ):=[(338,F338),(1173,qDV),(852,kW),(501,F501),(182,Kw),(181,F181),(340,K4),(488,K7),(1371,KN),(1384,KQ),(1372,KO),(1489,Kn),(1385,KR),(1494,Ko),(1386,KS),(1096,UT),(710,kM),(318,K1),(598,kJ),(742,kQ),(1395,KX),(1499,Kq),(1500,Kr),(1396,KY),(1110,UV),(1111,UW),(744,kR),(147,F147),(1419,Kc),(1178,qDW),(858,kp),(504,F504),(185,Ky),(184,F184),(774,F774),(397,F397),(1179,qDX),(859,F859),(554,kE),(796,kU),(1050,UP),(1051,UQ),(1487,Km),(1387,KT),(1388,KU),(1375,KP),(1495,Kp),(1389,KV),(1390,KW),(1097,UU),(711,kN),(1098,qDU),(712,F712),(555,kF),(714,kP),(713,kO),(319,K3),(860,kq),(505,kA),(376,K5),(1501,Ks),(1502,Kt),(1398,KZ),(1115,UX),(751,kS),(86,F86),(1422,Kf),(1184,qDZ),(870,F870),(508,F508),(188,K0),(187,F187),(402,K6),(401,F401),(1373,qD3),(1085,US),(798,kV),(856,ke),(1177,Ue),(1125,UZ),(1126,Ua),(762,kT),(1456,Kh),(1305,KB),(566,kH),(1400,Ka),(1118,UY),(978,F978),(1485,qD6),(948,F948),(569,kI),(1174,Ub),(1175,Uc),(1280,Uo),(1282,Ur),(1418,Kb),(1176,Ud),(853,kX),(502,K8),(1277,Ul),(969,F969),(971,F971),(855,kZ),(857,kj),(970,F970),(924,F924),(1278,Um),(1279,Un),(1281,Uq),(1283,Us),(972,F972),(1284,Ut),(973,F973),(600,kK),(854,kY),(503,K9),(183,Kx),(556,kG),(1180,Uf),(865,F865),(861,kw),(862,F862),(863,F863),(864,F864),(866,W4),(506,kC),(1256,Uj),(1482,qD4),(1356,qD0),(1254,Ui),(1368,KM),(1455,Kg),(1358,KD),(1357,KC),(1483,qD5),(1359,qD1),(1360,KE),(1484,Kl),(1362,KG),(1361,KF),(1363,qD2),(1365,KI),(1364,KH),(1366,KJ),(1367,KL),(1068,UR),(867,F867),(1070,qDT),(1181,qDY),(868,F868),(1509,Ku),(1420,Kd),(1285,Uu),(1421,Ke),(1183,Uh),(1286,Uv),(1287,Uw),(1288,W2),(1257,Uk),(1295,KA),(1521,Kv),(1457,Ki),(1458,Kj),(1289,Ux),(1459,Kk),(1290,Uy),(1291,Uz),(1292,U0),(1293,U8),(975,F975),(1294,U9),(976,F976),(602,kL),(1182,Ug),(869,F869),(507,kD),(186,Kz),(25,F25)]
def Gm(g:Nat):Option AFn:=Q5 g tabm
theorem gk(g:Nat)(F:qJ)(h:Gm g=some (.fn F):=by kernel_rfl):Gm g=some (.fn F):=h
theorem pI{Γ:Nat->Option AFn}{g:Nat}(F:qJ){as:List AV}{v:AV}(ht:AV.trees as=true)(hv:v.tree=true)(hR:R ⟨Γ,0,[],[]⟩ [.code F.body] ⟨qM 0 as,[],[]⟩ (XS F.res v))(hg:Γ g=some (.fn F):=by kernel_rfl)(hok:F.body.ok=true:=by kernel_rfl)(hn:as.length=F.np:=by rfl):Pure Γ g as v:=Pure.intro [] [] hg hok hn ht hv hR
theorem fI{Γ:Nat->Option AFn}{g:Nat}(F:qJ){as:List AV}{t:AV}(ht:AV.trees as=true)(hp:t.pl=true)(hR:R ⟨Γ,0,[],[]⟩ [.code F.body] ⟨qM 0 as,[],[]⟩ (Yu F.res t))(hg:Γ g=some (.fn F):=by kernel_rfl)(hok:F.body.ok=true:=by kernel_rfl)(hn:as.length=F.np:=by rfl):Fresh Γ g as t:=Fresh.intro [] [] hg hok hn ht hp hR
theorem sI{Γ:Nat->Option AFn}{g:Nat}{vs:List AV}{h:List qA}(F:qJ){K:AV->List qA->Prop}(hR:R ⟨Γ,h.length,[],[]⟩ [.code F.body] ⟨qM 0 vs,[],h⟩ (WP F.res K))(hg:Γ g=some (.fn F):=by kernel_rfl)(hok:F.body.ok=true:=by kernel_rfl)(hn:vs.length=F.np:=by rfl):SCall Γ g vs h K:=SCall.run [] [] hg hok hn hR
theorem pJ{Γ:Nat->Option AFn}{g:Nat}(F:qJ){as:List AV}{v:AV}(hR:R ⟨Γ,0,[],[]⟩ [.code F.body] ⟨qM 0 as,[],[]⟩ (XS F.res v))(hg:Γ g=some (.fn F):=by kernel_rfl)(hok:F.body.ok=true:=by kernel_rfl)(hn:as.length=F.np:=by rfl)(ht:AV.trees as=true:=by simp[AV.trees,AV.tree,go_sem])(hv:v.tree=true:=by rfl):Pure Γ g as v:=Pure.intro [] [] hg hok hn ht hv hR
theorem c338(xs:List Int)(hx:xs.length<=140737488355328)(left:Nat)(hl:left<=1048576):Pure Gm 338 [lQ xs,iI left] (iI (wP xs.length left)):=
 qK4 (gk _ F338) shI.tree xs left hl hx
theorem qiP(xs:List qH)(hx:xs.length<=140737488355328)(left:Nat)(hl:left<=1048576):Pure Gm 1173 [.lst 2 (xs.map qH.enc) false,iI left] (iI (wP xs.length left)):=
 qK4 (gk _ qDV) qH.isSh.tree xs left hl hx
theorem c852(x:qB)(hb:x.bd)(left:Nat)(hl:left<=1048576):Pure Gm 852 [x.enc,iI left] (iI (wP x.sz left)):=by
 refine pI kW (by simp[AV.trees,AV.tree,qB.tr]) rfl ?_;simp only[kW,qM,go_sem];refine qa rfl ?_;simp only[go_sem];unfold qB.bd at hb;refine qI (c338 _ hb.1 _ (by omega)) ?_;simp only[go_sem];apply qU<;>intro hc<;>simp only[hc,go_sem]
 ·have hq:=odT hc;rw[QA]at hq;exact qN rfl (by rw[Qe (by unfold qB.sz;omega)])
 have hq:=odF hc;rw[QA]at hq;rw[Jb (by omega)];clear hc;refine qI (qiP _ hb.2 _ (by omega)) ?_;simp only[go_sem];apply qU<;>intro hc<;>simp only[hc,go_sem]
 ·have hq:=odT hc;rw[QA]at hq;exact qN rfl (by rw[Qe (by unfold qB.sz;omega)])
 have hq:=odF hc;rw[QA]at hq;rw[Jb (by omega)];clear hc;exact qN rfl (by rw[Jb (by unfold qB.sz;omega)];unfold qB.sz;first | rfl | (congr 2;omega))
theorem c501(xs:List qB)(hx:xs.length<=140737488355328/\(∀y∈xs,qB.bd y))(left:Nat)(hl:left<=1048576):Pure Gm 501 [.lst 5 (xs.map qB.enc) false,iI left] (iI (wP (xs.length+zD qB.sz xs) left)):=
 qK5 qB.isSh (gk _ F501) qB.sz xs (λx hm lf hlf=>c852 x (hx.2 x hm) lf hlf) left hl hx.1
theorem c182(x:qD)(hb:x.bd)(left:Nat)(hl:left<=1048576):Pure Gm 182 [x.enc,iI left] (iI (wP x.sz left)):=by
 refine pI Kw (by simp[AV.trees,AV.tree,qD.tr]) rfl ?_;simp only[Kw,qM,go_sem];refine qa rfl ?_;simp only[go_sem];unfold qD.bd at hb;refine qI (c501 _ ⟨hb.1,hb.2⟩ _ (by omega)) ?_;simp only[go_sem];apply qU<;>intro hc<;>simp only[hc,go_sem]
 ·have hq:=odT hc;rw[QA]at hq;exact qN rfl (by rw[Qe (by unfold qD.sz;omega)])
 have hq:=odF hc;rw[QA]at hq;rw[Jb (by omega)];clear hc;exact qN rfl (by rw[Jb (by unfold qD.sz;omega)];unfold qD.sz;first | rfl | (congr 2;omega))
theorem c181(xs:List qD)(hx:xs.length<=140737488355328/\(∀y∈xs,qD.bd y))(left:Nat)(hl:left<=1048576):Pure Gm 181 [.lst 1 (xs.map qD.enc) false,iI left] (iI (wP (xs.length+zD qD.sz xs) left)):=
 qK5 qD.isSh (gk _ F181) qD.sz xs (λx hm lf hlf=>c182 x (hx.2 x hm) lf hlf) left hl hx.1
theorem c147(xs:List Int)(hl:xs.length<=1048576):Pure Gm 147 [lQ xs] (lQ xs):=qq0 (gk _ F147) xs hl
theorem qjF(x:qH):Pure Gm 1419 [x.enc] x.enc:=by
 refine pI Kc (by simp[AV.trees,qH.tr]) qH.tr ?_;simp only[Kc,qM,go_sem];refine qa rfl ?_;simp only[go_sem];refine lsA ?_;simp only[go_sem];exact qN qH.tr rfl
theorem qiR(xs:List qH)(hl:xs.length<=1048576):Pure Gm 1178 [.lst 2 (xs.map qH.enc) false] (.lst 2 (xs.map qH.enc) false):=
 qDE qH.isSh rfl rfl (by simp) (gk _ qDW) xs (λx hm=>qjF x) (by omega)
theorem c858(x:qB)(hz:x.sz<=1048576):Pure Gm 858 [x.enc] x.enc:=by
 refine pI kp (by simp[AV.trees,qB.tr]) qB.tr ?_;simp only[kp,qM,go_sem];refine qa rfl ?_;simp only[go_sem];unfold qB.sz at hz;refine qI (c147 _ (by omega)) ?_;simp only[go_sem];refine qI (qiR _ (by omega)) ?_;simp only[go_sem];refine lsA ?_;simp only[go_sem];exact qN qB.tr rfl
theorem c504(xs:List qB)(hl:xs.length+zD qB.sz xs<=1048576):Pure Gm 504 [.lst 5 (xs.map qB.enc) false] (.lst 5 (xs.map qB.enc) false):=
 qDE qB.isSh rfl rfl (by simp) (gk _ F504) xs (λx hm=>c858 x (by have:=jr (f:=qB.sz) hm;omega)) (by omega)
theorem YY(x:qD)(hz:x.sz<=1048576):Pure Gm 185 [x.enc] x.enc:=by
 refine pI Ky (by simp[AV.trees,qD.tr]) qD.tr ?_;simp only[Ky,qM,go_sem];refine qa rfl ?_;simp only[go_sem];unfold qD.sz at hz;refine qI (c504 _ (by omega)) ?_;simp only[go_sem];exact qN qD.tr rfl
theorem c184(xs:List qD)(hl:xs.length+zD qD.sz xs<=1048576):Pure Gm 184 [.lst 1 (xs.map qD.enc) false] (.lst 1 (xs.map qD.enc) false):=
 qDE qD.isSh rfl rfl (by simp) (gk _ F184) xs (λx hm=>YY x (by have:=jr (f:=qD.sz) hm;omega)) (by omega)
theorem c86(xs:List Int)(hl:xs.length<=1073741824):Pure Gm 86 [lQ xs,lQ xs] (.bool true):=qlB (gk _ F86) xs hl
theorem qjG(x:qH):Pure Gm 1422 [x.enc,x.enc] (.bool true):=by
 refine pI Kf (by simp[AV.trees,qH.tr]) rfl ?_;simp only[Kf,qM,go_sem];refine qa rfl ?_;simp only[go_sem];refine qa rfl ?_;simp only[go_sem];exact qN rfl rfl
theorem qiS(xs:List qH)(hl:xs.length<=1073741824):Pure Gm 1184 [.lst 2 (xs.map qH.enc) false,.lst 2 (xs.map qH.enc) false] (.bool true):=
 qBG qH.isSh (gk _ qDZ) xs (λx hm=>qjG x) (by omega)
theorem c870(x:qB)(hz:x.sz<=1073741824):Pure Gm 870 [x.enc,x.enc] (.bool true):=by
 refine pI F870 (by simp[AV.trees,qB.tr]) rfl ?_;simp only[F870,qM,go_sem];refine qa rfl ?_;simp only[go_sem];refine qa rfl ?_;simp only[go_sem];unfold qB.sz at hz;refine qI (c86 _ (by omega)) ?_;simp only[go_sem];refine qI (qiS _ (by omega)) ?_;simp only[go_sem];exact qN rfl rfl
theorem c508(xs:List qB)(hl:xs.length+zD qB.sz xs<=1073741824):Pure Gm 508 [.lst 5 (xs.map qB.enc) false,.lst 5 (xs.map qB.enc) false] (.bool true):=
 qBG qB.isSh (gk _ F508) xs (λx hm=>c870 x (by have:=jr (f:=qB.sz) hm;omega)) (by omega)
theorem c188(x:qD)(hz:x.sz<=1073741824):Pure Gm 188 [x.enc,x.enc] (.bool true):=by
 refine pI K0 (by simp[AV.trees,qD.tr]) rfl ?_;simp only[K0,qM,go_sem];refine qa rfl ?_;simp only[go_sem];refine qa rfl ?_;simp only[go_sem];unfold qD.sz at hz;refine qI (c508 _ (by omega)) ?_;simp only[go_sem];exact qN rfl rfl
theorem c187(xs:List qD)(hl:xs.length+zD qD.sz xs<=1073741824):Pure Gm 187 [.lst 1 (xs.map qD.enc) false,.lst 1 (xs.map qD.enc) false] (.bool true):=
 qBG qD.isSh (gk _ F187) xs (λx hm=>c188 x (by have:=jr (f:=qD.sz) hm;omega)) (by omega)
def inI(n lo hi:Int):Bool:=decide (lo<=n)&&decide (n<=hi)
def jg(k f:Int):Int:=
 if k=9 then(if inI f 0 3 then f+1 else 0)else if f≠0 then 0 else
 if k=1\/k=5\/k=6\/k=12 then 1 else if k=8\/k=10\/k=11 then 2 else if k=2\/k=3\/k=4\/k=7 then 3 else 0
def jK(k:Int):Bool:=decide (k=2) || decide (k=3) || decide (k=4) || decide (k=7) || decide (k=8) || decide (k=9) || decide (k=10) || decide (k=11) || decide (k=12)
def JM(k:Int):Bool:=inI k 1 12
def zt(k l:Int):Bool:=if jK k then inI l 0 8 else JM k&&decide (l=0)
def ji(n:Int):Bool:=inI n 0 23
def fieldsOf(x:qB):Int:=if x.K=9 then(x.P.length:Int)-1 else 0
def z8(x:qB):Bool:=
 if x.K=6 then decide ((x.D.length:Int)=0)&&inI x.V (-2147483648) 2147483647
 else if x.K=7 then decide ((x.D.length:Int)=0)&&inI x.V 1 6
 else if x.K=8 then decide ((x.D.length:Int)=1)&&inI x.V 1 6&&x.D.all λd=>inI d (-2147483648) 2147483647
 else if x.K=9 then decide ((x.D.length:Int)=0)&&inI x.V 0 3
 else if x.K=12 then decide ((x.D.length:Int)=0)&&ji x.V
 else if x.K=10 then decide (x.V=0)&&inI x.D.length 1 4&&x.D.all ji
 else if x.K=11 then decide (x.V=0)&&decide ((x.D.length:Int)=2)&&x.D.all ji
 else decide (x.V=0)&&decide ((x.D.length:Int)=0)
def qg(x:qB):Bool:=decide (0<jg x.K (fieldsOf x))&&decide ((x.P.length:Int)=jg x.K (fieldsOf x))&&zt x.K x.L&&z8 x
def jV:List qB->Nat->Bool
 |[],_=>true
 | x::xs,i=>qg x&&(decide (x.K=1)==decide (i=0))&&jV xs (i+1)
def j5(xs:List qB):Bool:=inI xs.length 1 600&&jV xs 0
def zw(xs:List qB)(a:Int):Nat:=match xs[a.toNat]? with
 | some x=>x.P.length
 | none=>0
def wD(xs:List qB)(p:qH):Bool:=inI p.N 0 ((xs.length:Int)-1)&&inI p.S 0 ((zw xs p.N:Int)-1)
theorem JH{α:Type}{xs:List α}{i:Nat}(h:i<xs.length):xs.drop i=xs[i]::xs.drop (i+1):=by simp
theorem JV{n lo hi:Int}:Pure Gm 340 [iI n,iI lo,iI hi] (.bool (inI n lo hi)):=by
 refine pJ K4 ?_;simp only[K4,qM,go_sem]
 repeat' (first | (refine qa rfl ?_;simp only[go_sem]) | (first | (apply zF<;>intro hc<;>simp only[hc,go_sem]) | (apply qU<;>intro hc<;>simp only[hc,go_sem])) | refine qN rfl ?_)
 all_goals (simp_all[inI]<;>omega)
theorem qAK{k:Int}:Pure Gm 1372 [iI k] (.bool (jK k)):=by
 refine pJ KO ?_;simp only[KO,qM,go_sem]
 repeat' (first | (refine qa rfl ?_;simp only[go_sem]) | (first | (apply zF<;>intro hc<;>simp only[hc,go_sem]) | (apply qU<;>intro hc<;>simp only[hc,go_sem])) | refine qN rfl ?_)
 all_goals (simp_all[jK])
theorem qjH{k:Int}:Pure Gm 1489 [iI k] (.bool (JM k)):=by
 refine pJ Kn ?_;simp only[Kn,qM,go_sem]
 repeat' (first | (refine qa rfl ?_;simp only[go_sem]) | (first | (apply zF<;>intro hc<;>simp only[hc,go_sem]) | (apply qU<;>intro hc<;>simp only[hc,go_sem])) | (refine qI (JV) ?_;simp only[go_sem]) | refine qN rfl ?_)
 all_goals (simp_all[JM])
theorem qAM{k l:Int}:Pure Gm 1385 [iI k,iI l] (.bool (zt k l)):=by
 refine pJ KR ?_;simp only[KR,qM,go_sem]
 repeat' (first | (refine qa rfl ?_;simp only[go_sem]) | (first | (apply zF<;>intro hc<;>simp only[hc,go_sem]) | (apply qU<;>intro hc<;>simp only[hc,go_sem])) | (refine qI (JV) ?_;simp only[go_sem]) | (refine qI (qAK) ?_;simp only[go_sem]) | (refine qI (qjH) ?_;simp only[go_sem]) | refine qN rfl ?_)
 all_goals (simp_all[zt])
theorem qE7{k:Int}:Pure Gm 1494 [iI k] (.bool (ji k)):=by
 refine pJ Ko ?_;simp only[Ko,qM,go_sem]
 repeat' (first | (refine qa rfl ?_;simp only[go_sem]) | (first | (apply zF<;>intro hc<;>simp only[hc,go_sem]) | (apply qU<;>intro hc<;>simp only[hc,go_sem])) | (refine qI (JV) ?_;simp only[go_sem]) | refine qN rfl ?_)
 all_goals (simp_all[ji])
theorem qi7{k f:Int}:Pure Gm 1371 [iI k,iI f] (iI (jg k f)):=by
 refine pJ KN ?_;simp only[KN,qM,go_sem]
 repeat' (first | (refine qa rfl ?_;simp only[go_sem]) | (first | (apply zF<;>intro hc<;>simp only[hc,go_sem]) | (apply qU<;>intro hc<;>simp only[hc,go_sem])) | (refine qI (JV) ?_;simp only[go_sem]) | refine qN rfl ?_)
 all_goals ((try rw[jn (by simp_all[inI];omega) (by simp_all[inI];omega)]);simp_all[jg]<;>omega)
theorem qi8{x:qB}(hx:x.P.length<=140737488355328):Pure Gm 1384 [.ept x.enc 0] (iI (fieldsOf x)):=by
 refine pJ KQ ?_;simp only[KQ,qM,go_sem]
 repeat' (first | (refine qa rfl ?_;simp only[go_sem]) | (first | (apply zF<;>intro hc<;>simp only[hc,go_sem]) | (apply qU<;>intro hc<;>simp only[hc,go_sem])) | refine qN rfl ?_)
 all_goals ((try rw[wsA]);simp_all[fieldsOf]<;>omega)
theorem qi9{x:qB}(hx:x.D.length<=1048576):Pure Gm 1386 [.ept x.enc 0] (.bool (z8 x)):=by
 refine pJ KS ?_;simp only[KS,qM,go_sem];have one:(x.D.length:Int)=1->∃d,x.D=[d]:=λh=>List.length_eq_one_iff.1 (by omega);have z0:(x.D.length:Int)=1->(x.D.map qQ)[0]?=some (iI (x.D.headD 0)):=λh=>by
  obtain⟨d,hd⟩:=one h;rw[hd];rfl
 have z1:(x.D.length:Int)=1->(x.D.all λd=>inI d (-2147483648) 2147483647)=inI (x.D.headD 0) (-2147483648) 2147483647:=λh=>by
  obtain⟨d,hd⟩:=one h;rw[hd];simp
 repeat' (first
  | (first | (apply zF<;>intro hc<;>simp only[hc,go_sem]) | (apply qU<;>intro hc<;>simp only[hc,go_sem]))
  | (refine qI (JV) ?_;simp only[go_sem])
  | (refine qI (qE7) ?_;simp only[go_sem])
  | refine qN rfl ?_
  | (rw[z0 (odT (by assumption))];simp only[oMs];simp only[go_sem])
  | (refine Sem.loop (λi:Nat=>i<=x.D.length/\z8 x=(x.D.drop i).all ji) (λi=>(⟨[(0,.ept x.enc 0),(3,iI (i:Nat))],[],[]⟩:VSt)) (λi=>x.D.length-i) 0 (by kernel_rfl) ⟨nZl _, ?_⟩ csA ?_))
 all_goals try (simp_all[z8];done)
 all_goals
  clear z0 z1 one;rintro i ⟨hi,hI⟩;simp only[go_sem];apply qU<;>intro hc<;>simp only[hc,go_sem]
  ·have hlt:i<x.D.length:=by have:=odT hc;omega
   simp only[gMp,gEg hlt,oMs,go_sem];simp only[qQ];simp only[go_sem];refine qI qE7 ?_;simp only[go_sem];apply qU<;>intro hc<;>simp only[hc,go_sem]
   ·refine qN rfl ?_;have hd:ji x.D[i]=false:=by simpa using hc
    rw[hI,JH hlt,lAc,hd,Bool.false_and]
   ·simp only[wuA (n:=i)];refine qd (i+1) ⟨by omega, ?_⟩ (by omega) csA;have hd:ji x.D[i]=true:=by simpa using hc
    rw[hI,JH hlt,lAc,hd,Bool.true_and]
  ·have hge:i=x.D.length:=by have:=odF hc;omega
   subst hge;refine qN rfl ?_;rw[hI];simp
theorem qiK{x:qB}(hz:x.sz<=1048576):Pure Gm 1096 [.ept x.enc 0] (.bool (qg x)):=by
 refine pJ UT ?_;simp only[UT,qM,go_sem]
 repeat' (first | (refine qa rfl ?_;simp only[go_sem]) | (first | (apply zF<;>intro hc<;>simp only[hc,go_sem]) | (apply qU<;>intro hc<;>simp only[hc,go_sem])) | (refine qI (qi8 (by unfold qB.sz at hz;omega)) ?_;simp only[go_sem]) | (refine qI (qi7) ?_;simp only[go_sem]) | (refine qI (qAM) ?_;simp only[go_sem]) | (refine qI (qi9 (by unfold qB.sz at hz;omega)) ?_;simp only[go_sem]) | refine qN rfl ?_)
 all_goals (simp_all[qg]<;>omega)
theorem c710{xs:List qB}(hl:xs.length+zD qB.sz xs<=1048576):Pure Gm 710 [.lst 5 (xs.map qB.enc) false] (.bool (j5 xs)):=by
 refine pI kM (by simp[AV.trees,AV.tree,qb qB.isSh.tree]) rfl ?_;simp only[kM,qM,go_sem];refine qI JV ?_;simp only[go_sem];apply qU<;>intro hc<;>simp only[hc,go_sem]
 ·refine qN rfl ?_;simp_all[j5]
 refine Sem.loop (λi:Nat=>i<=xs.length/\j5 xs=jV (xs.drop i) i) (λi=>(⟨[(0,.lst 5 (xs.map qB.enc) false),(3,iI (i:Nat))],[],[]⟩:VSt)) (λi=>xs.length-i) 0 (by kernel_rfl) ⟨nZl _,by simp_all[j5]⟩ csA ?_;rintro i ⟨hi,hI⟩;simp only[go_sem];apply qU<;>intro hc<;>simp only[hc,go_sem]
 ·have hlt:i<xs.length:=by have:=odT hc;omega
  simp only[gMp,gEg hlt,oMs,go_sem];have hs:=jr (f:=qB.sz) (gMm hlt);refine qI (qiK (by omega)) ?_;simp only[go_sem];apply zF<;>intro hc<;>simp only[hc,go_sem]
  ·simp only[gMp,gEg hlt,oMs,go_sem];apply qU<;>intro hc<;>simp only[hc,go_sem]
   ·refine qN rfl ?_;rw[hI,JH hlt];simp_all[jV]
   ·simp only[wuA (n:=i)];refine qd (i+1) ⟨by omega, ?_⟩ (by omega) csA;rw[hI,JH hlt];simp_all[jV]
  ·refine qN rfl ?_;rw[hI,JH hlt];simp_all[jV]
 ·obtain rfl:i=xs.length:=by have:=odF hc;omega
  refine qN rfl ?_;rw[hI];simp[jV]
theorem Jq{n lo hi:Int}:inI n lo hi=true↔lo<=n/\n<=hi:=by simp[inI]
def Jg(xs:List qB)(q:qH):Option qH:=match xs[q.N.toNat]? with
 | some y=>y.P[q.S.toNat]?
 | none=>none
def wH(xs:List qB)(me q:qH):Bool:= !(decide (q=me))&&wD xs q&&decide (Jg xs q=some me)
def wI(xs:List qB)(i:Nat):List qH->Nat->Bool
 |[],_=>true
 | q::qs,k=>wH xs ⟨i,k⟩ q&&wI xs i qs (k+1)
def wi(xs:List qB):List qB->Nat->Bool
 |[],_=>true
 | x::r,i=>wI xs i x.P 0&&wi xs r (i+1)
def qk(n:qD):Bool:=j5 n.G&&wi n.G n.G 0
def z5(xs:List qD):Bool:=decide (xs.length<=24)&&xs.all qk
theorem c488{xs:List qB}{p:qH}(hl:xs.length+zD qB.sz xs<=1048576):Pure Gm 488 [.lst 5 (xs.map qB.enc) false,p.enc] (.bool (wD xs p)):=by
 refine pI K7 (by simp[AV.trees,AV.tree,qb qB.isSh.tree,qH.tr]) rfl ?_;simp only[K7,qM,go_sem];refine qa rfl ?_;simp only[go_sem];rw[wsA];refine qI JV ?_;simp only[go_sem];apply zF<;>intro hc<;>simp only[hc,go_sem]
 ·have h:=Jq.1 hc;have hlt:p.N.toNat<xs.length:=by omega
  rw[Yz h.1];simp only[gMp,gEg hlt,oMs,go_sem];have hs:xs[p.N.toNat].D.length+xs[p.N.toNat].P.length<=zD qB.sz xs:=jr (f:=qB.sz) (gMm hlt);rw[wsA];refine qI JV ?_;simp only[go_sem];refine qN rfl ?_;simp[wD,hc,zw,gEg hlt]
 ·refine qN rfl ?_;simp_all[wD]
theorem c318{n:qD}(hz:n.sz<=1048576):Pure Gm 318 [.ept n.enc 0] (.bool (qk n)):=by
 refine pJ K1 ?_;simp only[K1,qM,go_sem];have hz':n.G.length+zD qB.sz n.G<=1048576:=hz;refine qI (c710 hz') ?_;simp only[go_sem];apply qU<;>intro hc<;>simp only[hc,go_sem]
 ·refine qN rfl ?_;simp_all[qk]
 refine Sem.loop (λi:Nat=>i<=n.G.length/\qk n=wi n.G (n.G.drop i) i) (λi=>(⟨[(0,.ept n.enc 0),(3,iI (i:Nat))],[],[]⟩:VSt)) (λi=>n.G.length-i) 0 (by kernel_rfl) ⟨nZl _,by simp_all[qk]⟩ csA ?_;rintro i ⟨hi,hI⟩;simp only[go_sem];apply qU<;>intro hc<;>simp only[hc,go_sem]
 ·have hlt:i<n.G.length:=by have:=odT hc;omega
  simp only[gMp,gEg hlt,oMs,go_sem];have hs:n.G[i].D.length+n.G[i].P.length<=zD qB.sz n.G:=jr (f:=qB.sz) (gMm hlt);refine Sem.loop (λk:Nat=>k<=n.G[i].P.length/\qk n=(wI n.G i (n.G[i].P.drop k) k&&wi n.G (n.G.drop (i+1)) (i+1))) (λk=>(⟨[(0,.ept n.enc 0),(3,iI (i:Nat)),(4,.ept n.G[i].enc 0),(5,iI (k:Nat))],[],[]⟩:VSt)) (λk=>n.G[i].P.length-k) 0 (by kernel_rfl) ⟨nZl _,by rw[hI,JH hlt];rfl⟩ csA ?_;rintro k ⟨hk,hK⟩;simp only[go_sem];apply qU<;>intro hc<;>simp only[hc,go_sem]
  ·have hkl:k<n.G[i].P.length:=by have:=odT hc;omega
   rw[show AV.agg [AV.int IntKind.i64 (i:Nat),AV.int IntKind.i64 (k:Nat)]=qH.enc ⟨i,k⟩from rfl];refine lsA ?_;simp only[gMp,gEg hkl,oMs,go_sem];refine lsA ?_;simp only[go_sem];have stop:wH n.G ⟨i,k⟩ n.G[i].P[k]=false->qk n=false:=λh=>by rw[hK,JH hkl];simp[wI,h]
   have go:wH n.G ⟨i,k⟩ n.G[i].P[k]=true->qk n=(wI n.G i (n.G[i].P.drop (k+1)) (k+1)&&wi n.G (n.G.drop (i+1)) (i+1)):=λh=>by rw[hK,JH hkl];simp[wI,h]
   apply zF<;>intro hc<;>simp only[hc,go_sem]
   ·have hne:¬n.G[i].P[k]=⟨i,k⟩:=odF hc;refine qI (c488 hz') ?_;simp only[go_sem];apply zF<;>intro hc<;>simp only[hc,go_sem]
    ·have hp:wD n.G n.G[i].P[k]=true:=by simpa using hc
     have hp2:=hp;simp only[wD,bAt,Jq]at hp2;have hlt2:n.G[i].P[k].N.toNat<n.G.length:=by omega
     have hpl:zw n.G n.G[i].P[k].N=n.G[n.G[i].P[k].N.toNat].P.length:=by simp[zw,gEg hlt2]
     rw[hpl]at hp2;have hlt3:n.G[i].P[k].S.toNat<n.G[n.G[i].P[k].N.toNat].P.length:=by omega
     have hpe:Jg n.G n.G[i].P[k]=some n.G[n.G[i].P[k].N.toNat].P[n.G[i].P[k].S.toNat]:=by simp[Jg,gEg hlt2,gEg hlt3]
     rw[Yz (by omega)];simp only[gMp,gEg hlt2,oMs,go_sem];rw[Yz (by omega)];simp only[gMp,gEg hlt3,oMs,go_sem];apply qU<;>intro hc<;>simp only[hc,go_sem]
     ·refine qN rfl ?_;rw[stop (by simp[wH,hpe];intro _ _;simpa using hc)]
     ·simp only[wuA (n:=k)];refine qd (k+1) ⟨by omega, ?_⟩ (by omega) csA;exact go (by simp[wH,hpe,hp,hne];simpa using hc)
    ·refine qN rfl ?_;have hp:wD n.G n.G[i].P[k]=false:=by simpa using hc
     rw[stop (by simp[wH,hp])]
   ·refine qN rfl ?_;have he:n.G[i].P[k]=⟨i,k⟩:=odT hc;rw[stop (by simp[wH,he])]
  ·obtain rfl:k=n.G[i].P.length:=by have:=odF hc;omega
   simp only[wuA (n:=i)];refine qd (i+1) ⟨by omega, ?_⟩ (by omega) csA;rw[hK];simp[wI]
 ·obtain rfl:i=n.G.length:=by have:=odF hc;omega
  refine qN rfl ?_;rw[hI];simp[wi]
theorem c598{xs:List qD}(hl:xs.length+zD qD.sz xs<=1048576):Pure Gm 598 [.lst 1 (xs.map qD.enc) false] (.bool (z5 xs)):=by
 refine pI kJ (by simp[AV.trees,AV.tree,qb qD.isSh.tree]) rfl ?_;simp only[kJ,qM,go_sem];apply qU<;>intro hc<;>simp only[hc,go_sem]
 ·refine qN rfl ?_;have:=odT hc;have h2:¬xs.length<=24:=by omega
  simp[z5,h2]
 have h0:xs.length<=24:=by have:=odF hc;omega
 refine Sem.loop (λi:Nat=>i<=xs.length/\z5 xs=(xs.drop i).all qk) (λi=>(⟨[(0,.lst 1 (xs.map qD.enc) false),(3,iI (i:Nat))],[],[]⟩:VSt)) (λi=>xs.length-i) 0 (by kernel_rfl) ⟨nZl _,by simp[z5,h0]⟩ csA ?_;rintro i ⟨hi,hI⟩;simp only[go_sem];apply qU<;>intro hc<;>simp only[hc,go_sem]
 ·have hlt:i<xs.length:=by have:=odT hc;omega
  simp only[gMp,gEg hlt,oMs,go_sem];have hs:=jr (f:=qD.sz) (gMm hlt);refine qI (c318 (by omega)) ?_;simp only[go_sem];apply qU<;>intro hc<;>simp only[hc,go_sem]
  ·refine qN rfl ?_;rw[hI,JH hlt,lAc];simp_all
  ·simp only[wuA (n:=i)];refine qd (i+1) ⟨by omega, ?_⟩ (by omega) csA;rw[hI,JH hlt,lAc];simp_all
 ·obtain rfl:i=xs.length:=by have:=odF hc;omega
  refine qN rfl ?_;rw[hI];simp
def jx(ka la kb lb:Int):Bool:=zt ka la&&zt kb lb&& !decide (ka=1)&& !decide (kb=1)
def XN(l k m:Int):Bool:=inI l 0 8&&zt k m&&(decide (k=6) || decide (k=12) || jK k&&decide (l<m))
def WT(k:Int):Bool:=decide (k=3) || decide (k=7) || decide (k=8) || decide (k=10) || decide (k=11)
def zL(ka la kb lb:Int):Int:=
 if ka=5 then 4 else if ka=4 then(if kb=4/\la=lb then 2 else if XN la kb lb then 3 else 0)
 else if ka=2 then(if kb=3/\la=lb then 1 else 0)
 else if ka=6 then(if kb=7\/kb=8 then 5 else if kb=11 then 6 else 0)
 else if ka=9 then(if kb=10 then 6 else 0)
 else if ka=12 then(if WT kb then 7 else 0)else 0
def zr(ka la kb lb:Int):Int:=if jx ka la kb lb then(if zL ka la kb lb≠0 then 1 else if zL kb lb ka la≠0 then 2 else 0)else 0
def jH(ka la kb lb:Int):Int:=if jx ka la kb lb then(if zL ka la kb lb≠0 then zL ka la kb lb else if zL kb lb ka la≠0 then zL kb lb ka la else 8)else 0
def za(x y:qB):Int:=
 if x.K=9/\y.K=10/\(y.D.length:Int)<=x.V then 8 else if x.K=10/\y.K=9/\(x.D.length:Int)<=y.V then 8
 else jH x.K x.L y.K y.L
theorem qE3{ka la kb lb:Int}:Pure Gm 1395 [iI ka,iI la,iI kb,iI lb] (.bool (jx ka la kb lb)):=by
 refine pJ KX ?_;simp only[KX,qM,go_sem]
 repeat' (first | (refine qa rfl ?_;simp only[go_sem]) | (first | (apply zF<;>intro hc<;>simp only[hc,go_sem]) | (apply qU<;>intro hc<;>simp only[hc,go_sem])) | (refine qI (qAM) ?_;simp only[go_sem]) | refine qN rfl ?_)
 all_goals (simp_all[jx])
theorem qjI{l k m:Int}:Pure Gm 1499 [iI l,iI k,iI m] (.bool (XN l k m)):=by
 refine pJ Kq ?_;simp only[Kq,qM,go_sem]
 repeat' (first | (refine qa rfl ?_;simp only[go_sem]) | (first | (apply zF<;>intro hc<;>simp only[hc,go_sem]) | (apply qU<;>intro hc<;>simp only[hc,go_sem])) | (refine qI (JV) ?_;simp only[go_sem]) | (refine qI (qAM) ?_;simp only[go_sem]) | (refine qI (qAK) ?_;simp only[go_sem]) | refine qN rfl ?_)
 all_goals (simp_all[XN])
theorem qjJ{k:Int}:Pure Gm 1500 [iI k] (.bool (WT k)):=by
 refine pJ Kr ?_;simp only[Kr,qM,go_sem]
 repeat' (first | (refine qa rfl ?_;simp only[go_sem]) | (first | (apply zF<;>intro hc<;>simp only[hc,go_sem]) | (apply qU<;>intro hc<;>simp only[hc,go_sem])) | refine qN rfl ?_)
 all_goals (simp_all[WT])
theorem qE4{ka la kb lb:Int}:Pure Gm 1396 [iI ka,iI la,iI kb,iI lb] (iI (zL ka la kb lb)):=by
 refine pJ KY ?_;simp only[KY,qM,go_sem]
 repeat' (first | (refine qa rfl ?_;simp only[go_sem]) | (first | (apply zF<;>intro hc<;>simp only[hc,go_sem]) | (apply qU<;>intro hc<;>simp only[hc,go_sem])) | (refine qI (qjI) ?_;simp only[go_sem]) | (refine qI (qjJ) ?_;simp only[go_sem]) | refine qN rfl ?_)
 all_goals (simp_all[zL])
theorem qiL{ka la kb lb:Int}:Pure Gm 1110 [iI ka,iI la,iI kb,iI lb] (iI (zr ka la kb lb)):=by
 refine pJ UV ?_;simp only[UV,qM,go_sem]
 repeat' (first | (refine qa rfl ?_;simp only[go_sem]) | (first | (apply zF<;>intro hc<;>simp only[hc,go_sem]) | (apply qU<;>intro hc<;>simp only[hc,go_sem])) | (refine qI (qE3) ?_;simp only[go_sem]) | (refine qI (qE4) ?_;simp only[go_sem]) | refine qN rfl ?_)
 all_goals (simp_all[zr])
theorem qiM{ka la kb lb:Int}:Pure Gm 1111 [iI ka,iI la,iI kb,iI lb] (iI (jH ka la kb lb)):=by
 refine pJ UW ?_;simp only[UW,qM,go_sem]
 repeat' (first | (refine qa rfl ?_;simp only[go_sem]) | (first | (apply zF<;>intro hc<;>simp only[hc,go_sem]) | (apply qU<;>intro hc<;>simp only[hc,go_sem])) | (refine qI (qE3) ?_;simp only[go_sem]) | (refine qI (qE4) ?_;simp only[go_sem]) | refine qN rfl ?_)
 all_goals (simp_all[jH])
theorem c744{x y:qB}:Pure Gm 744 [.ept x.enc 0,.ept y.enc 0] (iI (za x y)):=by
 refine pJ kR ?_;simp only[kR,qM,go_sem]
 repeat' (first | (refine qa rfl ?_;simp only[go_sem]) | (first | (apply zF<;>intro hc<;>simp only[hc,go_sem]) | (apply qU<;>intro hc<;>simp only[hc,go_sem])) | (refine qI (qiM) ?_;simp only[go_sem]) | refine qN rfl ?_)
 all_goals (simp_all[za]<;>(intro h;omega))
def fil(e:Env)(w:Nat)(el:List AV)(i:Nat)(v:Option AV)(r:List (Nat×Ao)):Option (List AV):=match v with
 | some v=>if v.cells.length=w/\i<el.length then jE e w (el.set i v) r else none
 | none=>none
section
variable {e:Env} {w i:Nat} {el:List AV} {v:AV} {x:Ao} {r:List (Nat×Ao)}
@[go_sem] theorem qsK:jE e w el []=some el:=nr (by unfold jE;rfl)
@[go_sem] theorem qsJ:jE e w el ((i,x)::r)=fil e w el i (ev e x) r:=nr (by unfold jE;rfl)
@[go_sem] theorem qsL{el0:AV}(h:v.cells.length=w):fil e w [el0] 0 (some v) r=jE e w [v] r:=by
 show (if v.cells.length=w/\0<1 then _ else _)=_;rw[iP ⟨h,by omega⟩];rfl
@[go_sem] theorem rep0{v:AV}:List.replicate 0 v=[]:=nr rfl
@[go_sem] theorem rep1{v:AV}:List.replicate 1 v=[v]:=nr rfl
end
structure qL where
 A:Int
 B:Int
deriving DecidableEq
def qL.enc(x:qL):AV:=.agg [iI x.A,iI x.B]
theorem qL.isSh:Sh qL.enc 2 (some 2):=⟨λx=>by simp[qL.enc,AV.tree,AV.trees],λ_=>rfl,λ_=>rfl,by decide,λx=>by simp[qL.enc]⟩
section
variable {x:qL}
@[go_sem] theorem qL.tr:x.enc.tree=true:=qL.isSh.tree x
@[go_sem] theorem qL.ln:x.enc.cells.length=2:=nr rfl
@[go_sem] theorem qL.all:x.enc.part 0 (some 2)=some x.enc:=nr rfl
@[go_sem] theorem qL.cs:x.enc.cells=[iI x.A,iI x.B]:=nr rfl
@[go_sem] theorem qL.p0:x.enc.part 0 none=some (iI x.A):=nr rfl
@[go_sem] theorem qL.p1:x.enc.part 1 none=some (iI x.B):=nr rfl
@[go_sem] theorem qL.eqf{y:qL}:jX false [1,1] (some x.enc) (some y.enc)=some (.bool (decide (x=y))):=by
 obtain⟨a0,a1⟩:=x;obtain⟨b0,b1⟩:=y;simp only[jX,qL.enc,lMc,List.map_nil,dig,and_self,if_true,wK,Jk,qL.mk.injEq]
 repeat' (split<;>simp_all)
end
def jN(x y:qB):Bool:=decide (zr x.K x.L y.K y.L=2)
def JR(xs:List qB)(k:Nat):List qL:=match xs[k]? with
 | some x=>if x.K=0 then []else match x.P[0]? with
  | some p=>if p.S=0/\(k:Int)<p.N then [⟨k,p.N⟩]else []
  | none=>[]
 | none=>[]
def qu(xs:List qB):Nat->List qL
 | 0=>[]
 | i+1=>qu xs i++JR xs (i+1)
theorem qoX(xs:List qB)(k:Nat):(JR xs k).length<=1:=by
 unfold JR;repeat' (split<;>try simp)
theorem ZI(xs:List qB):∀i,(qu xs i).length<=i
 | 0=>nLr _
 | i+1=>by have:=ZI xs i;have:=qoX xs (i+1);simp[qu];omega
theorem c742{n:qD}(hz:n.sz<=1048576)(hp:∀x∈n.G,x.K≠0->0<x.P.length):Pure Gm 742 [.ept n.enc 0] (.lst 2 ((qu n.G (n.G.length-1)).map qL.enc) false):=by
 refine pI kQ (by simp[AV.trees,AV.tree,go_sem]) (by simp[AV.tree,qb qL.isSh.tree]) ?_;simp only[kQ,qM,go_sem];unfold qD.sz at hz;refine Sem.loop (λi:Nat=>i<=n.G.length-1) (λi=>(⟨[(0,.ept n.enc 0),(4,iI ((i+1:Nat):Int)),(3,.slice 2 0 0 (qu n.G i).length false)],[],[.row 2 ((qu n.G i).map qL.enc) true]⟩:VSt)) (λi=>n.G.length-1-i) 0 (by kernel_rfl) (nZl _) (Can.renum [none] rfl ⟨.ph,trivial⟩ ⟨⟨_,rfl,.tree (by simp only[AV.tree,qD.tr])⟩,⟨_,rfl,.tree rfl⟩,⟨_,rfl,.ph2 rfl⟩,trivial⟩ trivial) ?_;rintro i hi;simp only[go_sem];apply qU<;>intro hc<;>simp only[hc,go_sem]
 ·have hlt:i+1<n.G.length:=by have:=odT hc;omega
  simp only[gMp,gEg hlt,oMs,go_sem];have hx:=hp _ (gMm hlt);apply qU<;>intro hc<;>simp only[hc,go_sem]
  ·have e:qu n.G (i+1)=qu n.G i:=by simp_all[qu,JR]
   simp only[wuA (n:=i+1)];refine qd (i+1) (by omega) (by omega) ?_;rw[e];exact csA
  ·have hp0:=hx (by simpa using hc);simp only[gMp,gEg hlt,oMs,go_sem];simp only[gEg hp0,oMs,go_sem];refine lsA ?_;simp only[go_sem];have same (hn:¬(n.G[i+1].P[0].S=0/\((i+1:Nat):Int)<n.G[i+1].P[0].N)):qu n.G (i+1)=qu n.G i:=by
    have hk:¬n.G[i+1].K=0:=by simpa using hc
    simp only[qu,JR,gEg hlt,gEg hp0,iN hk,iN hn,lAn]
   first | (apply zF<;>intro hc<;>simp only[hc,go_sem]) | (apply qU<;>intro hc<;>simp only[hc,go_sem])
   ·first | (apply zF<;>intro hc<;>simp only[hc,go_sem]) | (apply qU<;>intro hc<;>simp only[hc,go_sem])
    ·refine WD (el:=(qu n.G i).map qL.enc) rfl rfl (by simp) (by have:=ZI n.G i;omega) ?_;simp only[go_sem];simp only[wuA (n:=i+1)];have e:qu n.G (i+1)=qu n.G i++[⟨((i+1:Nat):Int),n.G[i+1].P[0].N⟩]:=by
      have hk:¬n.G[i+1].K=0:=by simp_all
      have hn:n.G[i+1].P[0].S=0/\((i+1:Nat):Int)<n.G[i+1].P[0].N:=⟨by simp_all,by simp_all⟩;simp only[qu,JR,gEg hlt,gEg hp0,iN hk,iP hn]
     refine qd (i+1) (by omega) (by omega) ?_;simp only[e,lAp,lCo,lNi,nZa];refine Can.renum [some 2] rfl ⟨.row rfl ?_,trivial⟩ ⟨⟨_,rfl,.tree (by simp only[AV.tree,qD.tr])⟩,⟨_,rfl,.tree rfl⟩,⟨_,rfl,.slice rfl⟩,trivial⟩ trivial;rw[lMa];have t:=qb qL.isSh.tree (qu n.G i++[⟨((i+1:Nat):Int),n.G[i+1].P[0].N⟩]);rw[lMa]at t;exact VR2s.trees t
    ·simp only[wuA (n:=i+1)];refine qd (i+1) (by omega) (by omega) ?_;rw[same (by simp_all)];exact csA
   ·simp only[wuA (n:=i+1)];refine qd (i+1) (by omega) (by omega) ?_;rw[same (by simp_all)];exact csA
 ·obtain rfl:i=n.G.length-1:=by have:=odF hc;omega
  refine J7 (Cv.row rfl (by simp) (qb qL.isSh.tree _) (by omega))
theorem V9{xs:List qB}{i:Nat}:∀{qs:List qH}{j:Nat},wI xs i qs j=true->∀(m:Nat)(hm:m<qs.length),wH xs ⟨i,(j+m:Nat)⟩ qs[m]=true
 |[],_,_,m,hm=>by simp at hm
 | q::qs,j,h,m,hm=>by
  simp only[wI,bAt]at h;cases m with
  | zero=>exact h.1
  | succ m=>
   have:=V9 h.2 m (by simpa using hm);rw[show j+(m+1)=j+1+m by omega];simpa using this
theorem VL{xs:List qB}:∀{l:List qB}{i:Nat},wi xs l i=true->∀(k:Nat)(hk:k<l.length),wI xs (i+k) l[k].P 0=true
 |[],_,_,k,hk=>by simp at hk
 | x::l,i,h,k,hk=>by
  simp only[wi,bAt]at h;cases k with
  | zero=>exact h.1
  | succ k=>
   have:=VL h.2 k (by simpa using hk);rw[show i+(k+1)=i+1+k by omega];simpa using this
theorem J0:∀{l:List qB}{i:Nat},jV l i=true->∀x∈l,qg x=true
 |[],_,_,x,hx=>by cases hx
 | y::l,i,h,x,hx=>by
  simp only[jV,bAt]at h;rcases mCo.1 hx with rfl | hx
  ·exact h.1.1
  ·exact J0 h.2 x hx
theorem qn4{n:qD}(h:qk n=true):∀x∈n.G,0<x.P.length:=by
 simp only[qk,j5,bAt]at h;intro x hx;have:=J0 h.1.2 x hx;simp only[qg,bAt,dTe]at this;omega
theorem qoY{n:qD}(h:qk n=true){k:Nat}{p:qL}(hp:p∈JR n.G k):∃a b:Nat,p=⟨a,b⟩/\a<n.G.length/\b<n.G.length:=by
 simp only[qk,bAt]at h;unfold JR at hp;split at hp
 next x hx=>
  obtain⟨hk,rfl⟩:=gSi.1 hx;split at hp
  ·cases hp
  split at hp
  next q hq=>
   obtain⟨hm,rfl⟩:=gSi.1 hq;split at hp
   next hc=>
    have:=V9 (VL h.2 k hk) 0 hm;simp only[wH,wD,bAt]at this;have e:=Jq.1 this.1.2.1;simp only[lMg]at hp;subst hp;refine⟨k,n.G[k].P[0].N.toNat, ?_,hk,by omega⟩;rw[Int.toNat_of_nonneg (by omega)]
   ·cases hp
  ·cases hp
 ·cases hp
theorem qJD{n:qD}(h:qk n=true):∀{i:Nat}{p:qL},p∈qu n.G i->∃a b:Nat,p=⟨a,b⟩/\a<n.G.length/\b<n.G.length
 | 0,p,hp=>by cases hp
 | i+1,p,hp=>by
  simp only[qu,jL]at hp;rcases hp with hp | hp
  ·exact qJD h hp
  ·exact qoY h hp
def Xm(n:qD):List qL:=qu n.G (n.G.length-1)
structure qE where
 T:Int
 I:Int
deriving DecidableEq
def qE.enc(x:qE):AV:=.agg [iI x.T,iI x.I]
theorem qE.isSh:Sh qE.enc 2 (some 2):=⟨λx=>by simp[qE.enc,AV.tree,AV.trees],λ_=>rfl,λ_=>rfl,by decide,λx=>by simp[qE.enc]⟩
section
variable {x:qE}
@[go_sem] theorem qE.tr:x.enc.tree=true:=qE.isSh.tree x
@[go_sem] theorem qE.ln:x.enc.cells.length=2:=nr rfl
@[go_sem] theorem qE.all:x.enc.part 0 (some 2)=some x.enc:=nr rfl
@[go_sem] theorem qE.cs:x.enc.cells=[iI x.T,iI x.I]:=nr rfl
@[go_sem] theorem qE.p0:x.enc.part 0 none=some (iI x.T):=nr rfl
@[go_sem] theorem qE.p1:x.enc.part 1 none=some (iI x.I):=nr rfl
@[go_sem] theorem qE.eqf{y:qE}:jX false [1,1] (some x.enc) (some y.enc)=some (.bool (decide (x=y))):=by
 obtain⟨a0,a1⟩:=x;obtain⟨b0,b1⟩:=y;simp only[jX,qE.enc,lMc,List.map_nil,dig,and_self,if_true,wK,Jk,qE.mk.injEq]
 repeat' (split<;>simp_all)
@[go_sem] theorem qE.eqt{y:qE}:jX true [1,1] (some x.enc) (some y.enc)=some (.bool (!decide (x=y))):=by
 have h:=qE.eqf (x:=x) (y:=y);unfold jX at h|-;split<;>simp_all
end
structure qF where
 K:Int
 L:Int
 V:Int
 D:List Int
 W:List qE
def qF.enc(x:qF):AV:=.agg [iI x.K,iI x.L,iI x.V,lQ x.D,.lst 2 (x.W.map qE.enc) false]
theorem qF.isSh:Sh qF.enc 5 (some 5):=⟨λx=>by simp[qF.enc,AV.tree,AV.trees,qb qE.isSh.tree,qb shI.tree],λ_=>rfl,λ_=>rfl,by decide,λx=>by simp[qF.enc]⟩
section
variable {x:qF}
@[go_sem] theorem qF.tr:x.enc.tree=true:=qF.isSh.tree x
@[go_sem] theorem qF.ln:x.enc.cells.length=5:=nr rfl
@[go_sem] theorem qF.all:x.enc.part 0 (some 5)=some x.enc:=nr rfl
@[go_sem] theorem qF.cs:x.enc.cells=[iI x.K,iI x.L,iI x.V,lQ x.D,.lst 2 (x.W.map qE.enc) false]:=nr rfl
@[go_sem] theorem qF.p0:x.enc.part 0 none=some (iI x.K):=nr rfl
@[go_sem] theorem qF.p1:x.enc.part 1 none=some (iI x.L):=nr rfl
@[go_sem] theorem qF.p2:x.enc.part 2 none=some (iI x.V):=nr rfl
@[go_sem] theorem qF.p3:x.enc.part 3 none=some (lQ x.D):=nr rfl
@[go_sem] theorem qF.p4:x.enc.part 4 none=some (.lst 2 (x.W.map qE.enc) false):=nr rfl
end
def qF.sz(x:qF):Nat:=x.D.length+x.W.length
def qF.bd(x:qF):Prop:=x.D.length<=140737488355328/\x.W.length<=140737488355328
structure qG where
 C:List qF
 F:Int
 O:qE
 R:List qL
def qG.enc(x:qG):AV:=.agg [.lst 5 (x.C.map qF.enc) false,iI x.F,iI x.O.T,iI x.O.I,.lst 2 (x.R.map qL.enc) false]
theorem qG.isSh:Sh qG.enc 5 (some 5):=⟨λx=>by simp[qG.enc,AV.tree,AV.trees,qb qF.isSh.tree,qb qL.isSh.tree],λ_=>rfl,λ_=>rfl,by decide,λx=>by simp[qG.enc]⟩
section
variable {x:qG}
@[go_sem] theorem qG.tr:x.enc.tree=true:=qG.isSh.tree x
@[go_sem] theorem qG.ln:x.enc.cells.length=5:=nr rfl
@[go_sem] theorem qG.all:x.enc.part 0 (some 5)=some x.enc:=nr rfl
@[go_sem] theorem qG.cs:x.enc.cells=[.lst 5 (x.C.map qF.enc) false,iI x.F,iI x.O.T,iI x.O.I,.lst 2 (x.R.map qL.enc) false]:=nr rfl
@[go_sem] theorem qG.p0:x.enc.part 0 none=some (.lst 5 (x.C.map qF.enc) false):=nr rfl
@[go_sem] theorem qG.p1:x.enc.part 1 none=some (iI x.F):=nr rfl
@[go_sem] theorem qG.p2:x.enc.part 2 none=some (iI x.O.T):=nr rfl
@[go_sem] theorem qG.p3:x.enc.part 3 none=some (iI x.O.I):=nr rfl
@[go_sem] theorem qG.p4:x.enc.part 4 none=some (.lst 2 (x.R.map qL.enc) false):=nr rfl
@[go_sem] theorem qG.q2_2:x.enc.part 2 (some 2)=some (qE.enc x.O):=nr rfl
end
def qG.sz(x:qG):Nat:=(x.C.length+zD qF.sz x.C)+x.R.length
def qG.bd(x:qG):Prop:=x.C.length<=140737488355328/\(∀y∈x.C,qF.bd y)/\x.R.length<=140737488355328
structure qn where
 A:qE
 B:qE
deriving DecidableEq
def qn.enc(x:qn):AV:=.agg [iI x.A.T,iI x.A.I,iI x.B.T,iI x.B.I]
theorem qn.isSh:Sh qn.enc 4 (some 4):=⟨λx=>by simp[qn.enc,AV.tree,AV.trees],λ_=>rfl,λ_=>rfl,by decide,λx=>by simp[qn.enc]⟩
section
variable {x:qn}
@[go_sem] theorem qn.tr:x.enc.tree=true:=qn.isSh.tree x
@[go_sem] theorem qn.ln:x.enc.cells.length=4:=nr rfl
@[go_sem] theorem qn.all:x.enc.part 0 (some 4)=some x.enc:=nr rfl
@[go_sem] theorem qn.cs:x.enc.cells=[iI x.A.T,iI x.A.I,iI x.B.T,iI x.B.I]:=nr rfl
@[go_sem] theorem qn.p0:x.enc.part 0 none=some (iI x.A.T):=nr rfl
@[go_sem] theorem qn.p1:x.enc.part 1 none=some (iI x.A.I):=nr rfl
@[go_sem] theorem qn.p2:x.enc.part 2 none=some (iI x.B.T):=nr rfl
@[go_sem] theorem qn.p3:x.enc.part 3 none=some (iI x.B.I):=nr rfl
@[go_sem] theorem qn.q0_2:x.enc.part 0 (some 2)=some (qE.enc x.A):=nr rfl
@[go_sem] theorem qn.q2_2:x.enc.part 2 (some 2)=some (qE.enc x.B):=nr rfl
@[go_sem] theorem qn.eqf{y:qn}:jX false [1,1,1,1] (some x.enc) (some y.enc)=some (.bool (decide (x=y))):=by
 obtain⟨⟨a0,a1⟩,⟨a2,a3⟩⟩:=x;obtain⟨⟨b0,b1⟩,⟨b2,b3⟩⟩:=y;simp only[jX,qn.enc,lMc,List.map_nil,dig,and_self,if_true,wK,Jk,qn.mk.injEq,qE.mk.injEq]
 repeat' (split<;>simp_all)
@[go_sem] theorem qn.eqt{y:qn}:jX true [1,1,1,1] (some x.enc) (some y.enc)=some (.bool (!decide (x=y))):=by
 have h:=qn.eqf (x:=x) (y:=y);unfold jX at h|-;split<;>simp_all
end
structure jG where
 Phase:Int
 Victim:Int
 R:List qL
 Links:List qn
 U:List Int
def jG.enc(x:jG):AV:=.agg [iI x.Phase,iI x.Victim,.lst 2 (x.R.map qL.enc) false,.lst 4 (x.Links.map qn.enc) false,lQ x.U]
theorem jG.isSh:Sh jG.enc 5 (some 5):=⟨λx=>by simp[jG.enc,AV.tree,AV.trees,qb qn.isSh.tree,qb qL.isSh.tree,qb shI.tree],λ_=>rfl,λ_=>rfl,by decide,λx=>by simp[jG.enc]⟩
section
variable {x:jG}
@[go_sem] theorem jG.tr:x.enc.tree=true:=jG.isSh.tree x
@[go_sem] theorem jG.ln:x.enc.cells.length=5:=nr rfl
@[go_sem] theorem jG.all:x.enc.part 0 (some 5)=some x.enc:=nr rfl
@[go_sem] theorem jG.cs:x.enc.cells=[iI x.Phase,iI x.Victim,.lst 2 (x.R.map qL.enc) false,.lst 4 (x.Links.map qn.enc) false,lQ x.U]:=nr rfl
@[go_sem] theorem jG.p0:x.enc.part 0 none=some (iI x.Phase):=nr rfl
@[go_sem] theorem jG.p1:x.enc.part 1 none=some (iI x.Victim):=nr rfl
@[go_sem] theorem jG.p2:x.enc.part 2 none=some (.lst 2 (x.R.map qL.enc) false):=nr rfl
@[go_sem] theorem jG.p3:x.enc.part 3 none=some (.lst 4 (x.Links.map qn.enc) false):=nr rfl
@[go_sem] theorem jG.p4:x.enc.part 4 none=some (lQ x.U):=nr rfl
end
def jG.sz(x:jG):Nat:=x.R.length+x.Links.length+x.U.length
def jG.bd(x:jG):Prop:=x.R.length<=140737488355328/\x.Links.length<=140737488355328/\x.U.length<=140737488355328
structure jY where
 Memory:qG
 Workers:List jG
 Active:Int
def jY.enc(x:jY):AV:=.agg [.lst 5 (x.Memory.C.map qF.enc) false,iI x.Memory.F,iI x.Memory.O.T,iI x.Memory.O.I,.lst 2 (x.Memory.R.map qL.enc) false,.lst 5 (x.Workers.map jG.enc) false,iI x.Active]
theorem jY.isSh:Sh jY.enc 7 (some 7):=⟨λx=>by simp[jY.enc,AV.tree,AV.trees,qb qF.isSh.tree,qb qL.isSh.tree,qb jG.isSh.tree],λ_=>rfl,λ_=>rfl,by decide,λx=>by simp[jY.enc]⟩
section
variable {x:jY}
@[go_sem] theorem jY.tr:x.enc.tree=true:=jY.isSh.tree x
@[go_sem] theorem jY.ln:x.enc.cells.length=7:=nr rfl
@[go_sem] theorem jY.all:x.enc.part 0 (some 7)=some x.enc:=nr rfl
@[go_sem] theorem jY.cs:x.enc.cells=[.lst 5 (x.Memory.C.map qF.enc) false,iI x.Memory.F,iI x.Memory.O.T,iI x.Memory.O.I,.lst 2 (x.Memory.R.map qL.enc) false,.lst 5 (x.Workers.map jG.enc) false,iI x.Active]:=nr rfl
@[go_sem] theorem jY.p0:x.enc.part 0 none=some (.lst 5 (x.Memory.C.map qF.enc) false):=nr rfl
@[go_sem] theorem jY.p1:x.enc.part 1 none=some (iI x.Memory.F):=nr rfl
@[go_sem] theorem jY.p2:x.enc.part 2 none=some (iI x.Memory.O.T):=nr rfl
@[go_sem] theorem jY.p3:x.enc.part 3 none=some (iI x.Memory.O.I):=nr rfl
@[go_sem] theorem jY.p4:x.enc.part 4 none=some (.lst 2 (x.Memory.R.map qL.enc) false):=nr rfl
@[go_sem] theorem jY.q2_2:x.enc.part 2 (some 2)=some (qE.enc x.Memory.O):=nr rfl
end
def jY.sz(x:jY):Nat:=qG.sz x.Memory+(x.Workers.length+zD jG.sz x.Workers)
def jY.bd(x:jY):Prop:=qG.bd x.Memory/\x.Workers.length<=140737488355328/\(∀y∈x.Workers,jG.bd y)
def qx(k:Int):Bool:=decide (2<=k)&&decide (k<=12)
def qY(c:qF):qB:=⟨c.K,c.L,c.V,c.D,List.replicate (c.W.length+1) ⟨0,0⟩⟩
def zi(c:qF):Prop:=(qx c.K=true/\qg (qY c)=true)\/(c.K=13/\c.L=0/\c.V=0/\c.D=[]/\c.W.length<=1)\/(c.K=0/\c.L=0/\c.D=[]/\c.W=[])
def zS(v:Int):qF:=⟨0,0,v,[],[]⟩
def qX(ws:List qE):qF:=⟨13,0,0,[],ws⟩
def aW(k:Nat):qE:=⟨1,(k:Int)⟩
def vW(k:Nat):qE:=⟨2,(k:Int)⟩
def wOk(C:List qF)(w:qE):Prop:=∃(k:Nat)(c:qF),w.I=k/\C[k]?=some c/\((w.T=1/\qx c.K=true)\/(w.T=2/\c.K=13))
def cw(k:Nat)(ws:List qE):Nat:=ws.countP λw=>decide (w.I=(k:Int))
def cr(k:Nat)(rx:List qL):Nat:=rx.countP (λp=>decide (p.A=(k:Int)))+rx.countP (λp=>decide (p.B=(k:Int)))
def wS(O:Nat->Bool)(k:Nat):Nat->List qF->Nat
 | _,[]=>0
 | i,c::r=>(if O i then 0 else cw k c.W)+wS O k (i+1) r
def zO(c:qF):Nat:=if c.K=0 then 0 else if c.K=13/\c.W=[]then 2 else 1
def chn(C:List qF):Int->List Nat->Prop
 | fr,[]=>fr= -1
 | fr,k::L=>fr=k/\∃c,C[k]?=some c/\c.K=0/\chn C c.V L
structure FrC(C:List qF)(fr:Int)(L:List Nat):Prop where
 nd:L.Nodup
 ch:chn C fr L
 all:∀(k:Nat)(c:qF),C[k]?=some c->c.K=0->k∈L
structure MI(C:List qF)(fr:Int)(root:qE)(rx:List qL)(P:List qE)(O:Nat->Bool):Prop where
 form:∀(k:Nat)(c:qF),C[k]?=some c->O k=false->zi c
 opn:∀(k:Nat)(c:qF),C[k]?=some c->O k=true->qx c.K=true
 wrd:∀(k:Nat)(c:qF),C[k]?=some c->O k=false->∀w∈c.W,wOk C w
 rt:wOk C root
 pw:∀w∈P,wOk C w
 pr:∀p∈rx,p.A<p.B/\wOk C ⟨1,p.A⟩/\wOk C ⟨1,p.B⟩
 occ:∀(k:Nat)(c:qF),C[k]?=some c->cw k (root::P)+wS O k 0 C+cr k rx=zO c
 fre:∃L,FrC C fr L
section
variable {C:List qF} {fr:Int} {root w:qE} {rx:List qL} {P Q:List qE} {O:Nat->Bool} {k j:Nat} {c c':qF}
theorem JG{a b:List qE}:cw k (a++b)=cw k a+cw k b:=List.countP_append ..
theorem zE{a:qE}{b:List qE}:cw k (a::b)=(if a.I=(k:Int)then 1 else 0)+cw k b:=by
 unfold cw;rw[List.countP_cons];simp[Nat.add_comm]
theorem JW:cw k []=0:=rfl
theorem qA6{ws:List qE}(h:w∈ws)(e:w.I=(k:Int)):0<cw k ws:=List.countP_pos_iff.2 ⟨w,h,by simpa using e⟩
theorem qLR(i:Nat):∀{C:List qF}{j:Nat}(h:j<C.length),wS O k i (C.set j c')+(if O (i+j)then 0 else cw k C[j].W)=wS O k i C+(if O (i+j)then 0 else cw k c'.W)
 |[],j,h=>by simp at h
 | c::r,0,h=>by simp only[lSz,wS,List.getElem_cons_zero,nAz];omega
 | c::r,j+1,h=>by
  have:=qLR (i+1) (C:=r) (j:=j) (by simpa using h);simp only[List.set_cons_succ,wS,List.getElem_cons_succ];rw[show i+1+j=i+(j+1) by omega]at this;omega
theorem YI(h:C[j]?=some c):wS O k 0 (C.set j c')+(if O j then 0 else cw k c.W)=wS O k 0 C+(if O j then 0 else cw k c'.W):=by
 obtain⟨hl,e⟩:=gSi.1 h;have:=qLR (O:=O) (k:=k) (c':=c') 0 hl;rw[nZa,e]at this;exact this
theorem wS_O{O':Nat->Bool}(i:Nat):∀{C:List qF}{j:Nat}(h:j<C.length),O (i+j)=false->O' (i+j)=true->(∀x,x≠i+j->O' x=O x)->wS O' k i C+cw k C[j].W=wS O k i C
 |[],j,h,_,_,_=>by simp at h
 | c::r,0,h,h1,h2,h3=>by
  have hr:∀(r:List qF)(m:Nat),i<m->wS O' k m r=wS O k m r:=by
   intro r
   induction r with
   | nil=>intro m _;rfl
   | cons a r ih=>intro m hm;rw[wS,wS,h3 m (by omega),ih (m+1) (by omega)]
  rw[nAz]at h1 h2;simp only[wS,List.getElem_cons_zero,h1,h2,if_true,bFt,if_false];rw[hr r (i+1) (by omega)];omega
 | c::r,j+1,h,h1,h2,h3=>by
  have:=wS_O (i+1) (C:=r) (j:=j) (by simpa using h) (by rw[show i+1+j=i+(j+1) by omega];exact h1) (by rw[show i+1+j=i+(j+1) by omega];exact h2) (λx hx=>h3 x (by omega));simp only[wS,List.getElem_cons_succ];rw[h3 i (by omega)];omega
theorem qLQ(i:Nat):∀{C:List qF}{j:Nat}{c:qF},C[j]?=some c->O (i+j)=false->w∈c.W->w.I=(k:Int)->0<wS O k i C
 |[],j,c,h,_,_,_=>by simp at h
 | a::r,0,c,h,h1,h2,h3=>by
  simp only[List.getElem?_cons_zero,oSi]at h;subst h;rw[nAz]at h1;have:=qA6 h2 h3;simp only[wS,h1,bFt,if_false];omega
 | a::r,j+1,c,h,h1,h2,h3=>by
  have:=qLQ (i+1) (C:=r) (j:=j) (c:=c) (by simpa using h) (by rw[show i+1+j=i+(j+1) by omega];exact h1) h2 h3;simp only[wS];omega
theorem zb(h:k≠j):(C.set j c')[k]?=C[k]?:=gSn (Ne.symm h)
theorem jQ(h:C[j]?=some c):(C.set j c')[j]?=some c':=gSs (gSi.1 h).1
theorem zP(h:C[j]?=some c):j<C.length:=(gSi.1 h).1
theorem wOk.set(h:wOk C w)(hj:w.I≠(j:Int)):wOk (C.set j c') w:=by
 obtain⟨k,c,h1,h2,h3⟩:=h;exact⟨k,c,h1,by rw[zb (by rintro rfl;exact hj h1)];exact h2,h3⟩
theorem wOk.kind(h:wOk C w)(hc:C[j]?=some c)(hk:c'.K=c.K):wOk (C.set j c') w:=by
 obtain⟨k,d,h1,h2,h3⟩:=h;by_cases e:k=j
 ·subst e;rw[hc]at h2;cases h2;exact⟨k,c',h1,jQ hc,by rw[hk];exact h3⟩
 ·exact⟨k,d,h1,by rw[zb e];exact h2,h3⟩
theorem MI.tot(m:MI C fr root rx P O)(h:C[k]?=some c):cw k (root::P)+wS O k 0 C+cr k rx=zO c:=m.occ k c h
structure WC(C:List qF)(root:qE)(rx:List qL)(P:List qE)(O:Nat->Bool)(k:Nat):Prop where
 rt:root.I≠(k:Int)
 pw:∀w∈P,w.I≠(k:Int)
 wd:∀(i:Nat)(c:qF),C[i]?=some c->O i=false->∀w∈c.W,w.I≠(k:Int)
 pr:∀p∈rx,p.A≠(k:Int)/\p.B≠(k:Int)
theorem WC.of(h:cw k (root::P)+wS O k 0 C+cr k rx=0):WC C root rx P O k:=by
 have h1:cw k (root::P)=0:=by omega
 have h2:wS O k 0 C=0:=by omega
 have h3:cr k rx=0:=by omega
 refine⟨λe=>?_,λw hw e=>?_,λi c hc ho w hw e=>?_,λp hp=>⟨λe=>?_,λe=>?_⟩⟩
 ·have:=qA6 (ws:=root::P) (.head _) e;omega
 ·have:=qA6 (ws:=root::P) (.tail _ hw) e;omega
 ·have:=qLQ (O:=O) (k:=k) 0 hc (by rw[nZa];exact ho) hw e;omega
 ·have:0<rx.countP (λp=>decide (p.A=(k:Int))):=List.countP_pos_iff.2 ⟨p,hp,by simpa using e⟩;unfold cr at h3;omega
 ·have:0<rx.countP (λp=>decide (p.B=(k:Int))):=List.countP_pos_iff.2 ⟨p,hp,by simpa using e⟩;unfold cr at h3;omega
theorem XJ{L:List Nat}:∀{fr:Int}{L:List Nat},chn C fr L->j∉L->chn (C.set j c') fr L
 | fr,[],h,_=>h
 | fr,k::L,h,hn=>by
  obtain⟨h1,c,h2,h3,h4⟩:=h;have hkj:k≠j:=λe=>hn (by rw[e];exact .head _);exact⟨h1,c,by rw[zb hkj];exact h2,h3,XJ (L:=L) h4 λq=>hn (.tail _ q)⟩
theorem WI{L:List Nat}:∀{fr:Int}{L:List Nat},chn C fr L->∀k∈L,∃c,C[k]?=some c/\c.K=0
 | fr,[],h,k,hk=>by cases hk
 | fr,a::L,h,k,hk=>by
  obtain⟨h1,c,h2,h3,h4⟩:=h;rcases mCo.1 hk with rfl | hk
  ·exact⟨c,h2,h3⟩
  ·exact WI (L:=L) h4 k hk
theorem MI.rel(m:MI C fr root rx (Q++P) O)(hc:C[k]?=some c)(ho:O k=false)(hk:c.K≠0)(hq:∀w∈Q,w.I=(k:Int))(hl:Q.length=zO c):MI (C.set k (zS fr)) k root rx (c.W++P) O:=by
 have hQ:cw k Q=zO c:=by
  rw[<-hl];unfold cw;rw[List.countP_eq_length];intro w hw;simpa using hq w hw
 have ht:=m.tot hc;rw[zE,JG,hQ]at ht;have nn:WC C root rx P O k:=WC.of (by rw[zE];omega);have set1:∀w,wOk C w->w.I≠(k:Int)->wOk (C.set k (zS fr)) w:=λw h q=>h.set q;obtain⟨L,f1,f2,f3⟩:=m.fre;have hkL:k∉L:=λq=>by
  obtain⟨d,d1,d2⟩:=WI (L:=L) f2 k q;rw[hc]at d1;cases d1;exact hk d2
 refine⟨?_, ?_, ?_,set1 _ m.rt nn.rt, ?_, ?_, ?_,k::L, ?_,⟨rfl,zS fr,jQ hc,rfl,XJ (L:=L) f2 hkL⟩, ?_⟩
 ·intro i d hd hoi;by_cases e:i=k
  ·subst e;rw[jQ hc]at hd;cases hd;exact .inr (.inr ⟨rfl,rfl,rfl,rfl⟩)
  ·rw[zb e]at hd;exact m.form i d hd hoi
 ·intro i d hd hoi;by_cases e:i=k
  ·subst e;rw[ho]at hoi;cases hoi
  ·rw[zb e]at hd;exact m.opn i d hd hoi
 ·intro i d hd hoi w hw;by_cases e:i=k
  ·subst e;rw[jQ hc]at hd;cases hd;cases hw
  ·rw[zb e]at hd;exact set1 _ (m.wrd i d hd hoi w hw) (nn.wd i d hd hoi w hw)
 ·intro w hw;rcases jL.1 hw with hw | hw
  ·exact set1 _ (m.wrd k c hc ho w hw) (nn.wd k c hc ho w hw)
  ·exact set1 _ (m.pw w (List.mem_append_right _ hw)) (nn.pw w hw)
 ·intro p hp;obtain⟨p1,p2,p3⟩:=m.pr p hp;exact⟨p1,set1 _ p2 (nn.pr p hp).1,set1 _ p3 (nn.pr p hp).2⟩
 ·intro i d hd;have hs:=YI (O:=O) (k:=i) (c':=zS fr) hc;rw[ho]at hs;simp only[bFt,if_false,zS,JW,nAz]at hs;by_cases e:i=k
  ·subst e;rw[jQ hc]at hd;cases hd;have:cw i c.W=0:=by
    unfold cw;rw[List.countP_eq_zero];intro w hw;simpa using nn.wd i c hc ho w hw
   have w0:zO (zS fr)=0:=by simp[zO,zS]
   rw[w0,zE,JG];unfold zS;omega
  ·rw[zb e]at hd;have:=m.tot hd;have hq0:cw i Q=0:=by
    unfold cw;rw[List.countP_eq_zero];intro w hw;simp[hq w hw];omega
   rw[zE,JG,hq0]at this;rw[zE,JG];unfold zS;omega
 ·exact List.nodup_cons.2 ⟨hkL,f1⟩
 ·intro i d hd hdk;by_cases e:i=k
  ·rw[e];exact .head _
  ·rw[zb e]at hd;exact .tail _ (f3 i d hd hdk)
theorem MI.head(m:MI C fr root rx P O)(h:0<=fr):∃(k:Nat)(d:qF),fr=k/\C[k]?=some d/\d.K=0/\O k=false/\d.W=[]/\WC C root rx P O k/\∃L,FrC C fr (k::L):=by
 obtain⟨L,f1,f2,f3⟩:=m.fre;cases L with
 | nil=>have:fr= -1:=f2;omega
 | cons k L=>
  have f2':=f2;obtain⟨h1,d,h2,h3,h4⟩:=f2;have ho:O k=false:=by
   cases q:O k with
   | false=>rfl
   | true=>
    have:=m.opn k d h2 q;rw[h3]at this;cases this
  have hw:d.W=[]:=by
   rcases m.form k d h2 ho with⟨q,_⟩ | ⟨q,_⟩ | ⟨_,_,_,q⟩
   ·rw[h3]at q;cases q
   ·omega
   ·exact q
  refine⟨k,d,h1,h2,h3,ho,hw,WC.of ?_,L,f1,f2',f3⟩;rw[m.tot h2];simp[zO,h3]
theorem FrC.tl{L:List Nat}{d:qF}(f:FrC C fr (k::L))(hd:C[k]?=some d)(hn:c'.K≠0):FrC (C.set k c') d.V L:=by
 obtain⟨f1,f2,f3⟩:=f;obtain⟨h1,d',h2,h3,h4⟩:=f2;rw[hd]at h2;cases h2;rw[List.nodup_cons]at f1;refine⟨f1.2,XJ (L:=L) h4 f1.1,λi e he hk=>?_⟩;by_cases q:i=k
 ·subst q;rw[jQ hd]at he;cases he;exact absurd hk hn
 ·rw[zb q]at he;rcases mCo.1 (f3 i e he hk)with r | r
  ·exact absurd r q
  ·exact r
def opO(O:Nat->Bool)(k:Nat):Nat->Bool:=λi=>decide (i=k) || O i
def clO(O:Nat->Bool)(k:Nat):Nat->Bool:=λi=> !decide (i=k)&&O i
theorem MI.takeA{d:qF}(m:MI C fr root rx P O)(hf:fr=k)(hd:C[k]?=some d)(hc:qx c.K=true):MI (C.set k c) d.V root rx (aW k::P) (opO O k):=by
 obtain⟨k',d',e1,e2,e3,e4,e5,nn,L,fL⟩:=m.head (by omega);obtain rfl:k'=k:=by omega
 rw[hd]at e2;cases e2;have hck:c.K≠0:=by intro q;rw[q]at hc;cases hc
 have set1:∀w,wOk C w->w.I≠(k':Int)->wOk (C.set k' c) w:=λw h q=>h.set q;have o1:∀i,opO O k' i=false->i≠k'/\O i=false:=λi h=>by
  unfold opO at h;simp only[Bool.or_eq_false_iff,decide_eq_false_iff_not]at h;exact h
 refine⟨?_, ?_, ?_,set1 _ m.rt nn.rt, ?_, ?_, ?_,L,fL.tl hd hck⟩
 ·intro i e he ho;obtain⟨h1,h2⟩:=o1 i ho;rw[zb h1]at he;exact m.form i e he h2
 ·intro i e he ho;by_cases q:i=k'
  ·subst q;rw[jQ hd]at he;cases he;exact hc
  ·rw[zb q]at he;refine m.opn i e he ?_;unfold opO at ho;simpa[q]using ho
 ·intro i e he ho w hw;obtain⟨h1,h2⟩:=o1 i ho;rw[zb h1]at he;exact set1 _ (m.wrd i e he h2 w hw) (nn.wd i e he h2 w hw)
 ·intro w hw;rcases mCo.1 hw with rfl | hw
  ·exact⟨k',c,rfl,jQ hd,.inl ⟨rfl,hc⟩⟩
  ·exact set1 _ (m.pw w hw) (nn.pw w hw)
 ·intro p hp;obtain⟨p1,p2,p3⟩:=m.pr p hp;exact⟨p1,set1 _ p2 (nn.pr p hp).1,set1 _ p3 (nn.pr p hp).2⟩
 ·intro i e he;have hO:=wS_O (O:=O) (O':=opO O k') (k:=i) 0 (C:=C.set k' c) (j:=k') (by rw[lLs];exact zP hd) (by rw[nZa];exact e4) (by simp[opO]) (λx hx=>by simp[opO];intro q;omega);have hs:=YI (O:=O) (k:=i) (c':=c) hd;rw[e4,e5]at hs;simp only[bFt,if_false,JW,nAz]at hs;have hg:(C.set k' c)[k']'(by rw[lLs];exact zP hd)=c:=by simp
  rw[hg]at hO;by_cases q:i=k'
  ·subst q;rw[jQ hd]at he;cases he;have:=m.tot hd;have w0:zO d=0:=by simp[zO,e3]
   have w1:zO c=1:=by
    unfold zO;rw[iN hck,iN];rintro⟨q,_⟩;rw[q]at hc;cases hc
   rw[w0,zE]at this;rw[w1,zE,zE];simp only[aW,if_true];omega
  ·rw[zb q]at he;have:=m.tot he;rw[zE]at this;rw[zE,zE];have:¬(aW k').I=(i:Int):=by simp[aW];omega
   rw[iN this];omega
theorem MI.takeV{d:qF}(m:MI C fr root rx P O)(hf:fr=k)(hd:C[k]?=some d):MI (C.set k (qX [])) d.V root rx (vW k::vW k::P) O:=by
 obtain⟨k',d',e1,e2,e3,e4,e5,nn,L,fL⟩:=m.head (by omega);obtain rfl:k'=k:=by omega
 rw[hd]at e2;cases e2;have set1:∀w,wOk C w->w.I≠(k':Int)->wOk (C.set k' (qX [])) w:=λw h q=>h.set q;have vo:wOk (C.set k' (qX [])) (vW k'):=⟨k',qX [],rfl,jQ hd,.inr ⟨rfl,rfl⟩⟩;refine⟨?_, ?_, ?_,set1 _ m.rt nn.rt, ?_, ?_, ?_,L,fL.tl hd (by simp[qX])⟩
 ·intro i e he ho;by_cases q:i=k'
  ·subst q;rw[jQ hd]at he;cases he;exact .inr (.inl ⟨rfl,rfl,rfl,rfl,by simp[qX]⟩)
  ·rw[zb q]at he;exact m.form i e he ho
 ·intro i e he ho;by_cases q:i=k'
  ·subst q;rw[e4]at ho;cases ho
  ·rw[zb q]at he;exact m.opn i e he ho
 ·intro i e he ho w hw;by_cases q:i=k'
  ·subst q;rw[jQ hd]at he;cases he;cases hw
  ·rw[zb q]at he;exact set1 _ (m.wrd i e he ho w hw) (nn.wd i e he ho w hw)
 ·intro w hw;rcases mCo.1 hw with rfl | hw
  ·exact vo
  ·rcases mCo.1 hw with rfl | hw
   ·exact vo
   ·exact set1 _ (m.pw w hw) (nn.pw w hw)
 ·intro p hp;obtain⟨p1,p2,p3⟩:=m.pr p hp;exact⟨p1,set1 _ p2 (nn.pr p hp).1,set1 _ p3 (nn.pr p hp).2⟩
 ·intro i e he;have hs:=YI (O:=O) (k:=i) (c':=qX []) hd;rw[e4,e5]at hs;simp only[bFt,if_false,JW,nAz,qX]at hs;unfold qX at he|-;by_cases q:i=k'
  ·subst q;rw[jQ hd]at he;cases he;have:=m.tot hd;have w0:zO d=0:=by simp[zO,e3]
   rw[w0,zE]at this;rw[zE,zE,zE];simp only[vW,if_true,zO];simp;omega
  ·rw[zb q]at he;have:=m.tot he;rw[zE]at this;rw[zE,zE,zE];have:¬(vW k').I=(i:Int):=by simp[vW];omega
   rw[iN this];omega
theorem MI.close(m:MI C fr root rx (c.W++P) O)(hc:C[k]?=some c)(ho:O k=true)(hf:zi c):MI C fr root rx P (clO O k):=by
 have o1:∀i,i≠k->clO O k i=O i:=λi h=>by simp[clO,h]
 have o2:clO O k k=false:=by simp[clO]
 refine⟨?_, ?_, ?_,m.rt,λw hw=>m.pw w (List.mem_append_right _ hw),m.pr, ?_,m.fre⟩
 ·intro i e he h;by_cases q:i=k
  ·subst q;rw[hc]at he;cases he;exact hf
  ·rw[o1 i q]at h;exact m.form i e he h
 ·intro i e he h;by_cases q:i=k
  ·subst q;rw[o2]at h;cases h
  ·rw[o1 i q]at h;exact m.opn i e he h
 ·intro i e he h w hw;by_cases q:i=k
  ·subst q;rw[hc]at he;cases he;exact m.pw w (List.mem_append_left _ hw)
  ·rw[o1 i q]at h;exact m.wrd i e he h w hw
 ·intro i e he;have hO:=wS_O (O:=clO O k) (O':=O) (k:=i) 0 (C:=C) (j:=k) (zP hc) (by rw[nZa];exact o2) (by rw[nZa];exact ho) (λx hx=>(o1 x (by omega)).symm);rw[(gSi.1 hc).2]at hO;have:=m.tot he;rw[zE,JG]at this;rw[zE];omega
theorem MI.wopen(m:MI C fr root rx P O)(hc:C[k]?=some c)(ho:O k=true)(hk:c'.K=c.K):MI (C.set k c') fr root rx P O:=by
 have hcK:c.K≠0:=by
  intro q;have:=m.opn k c hc ho;rw[q]at this;cases this
 refine⟨?_, ?_, ?_,m.rt.kind hc hk,λw hw=>(m.pw w hw).kind hc hk,λp hp=>⟨(m.pr p hp).1,(m.pr p hp).2.1.kind hc hk,(m.pr p hp).2.2.kind hc hk⟩, ?_, ?_⟩
 ·intro i e he h;by_cases q:i=k
  ·subst q;rw[ho]at h;cases h
  ·rw[zb q]at he;exact m.form i e he h
 ·intro i e he h;by_cases q:i=k
  ·subst q;rw[jQ hc]at he;cases he;rw[hk];exact m.opn i c hc ho
  ·rw[zb q]at he;exact m.opn i e he h
 ·intro i e he h w hw;by_cases q:i=k
  ·subst q;rw[ho]at h;cases h
  ·rw[zb q]at he;exact(m.wrd i e he h w hw).kind hc hk
 ·intro i e he;have hs:=YI (O:=O) (k:=i) (c':=c') hc;rw[ho]at hs;simp only[if_true,nAz]at hs;rw[hs];by_cases q:i=k
  ·subst q;rw[jQ hc]at he;cases he;rw[m.tot hc];have hag:=m.opn i c hc ho;have:∀c:qF,qx c.K=true->zO c=1:=λc h=>by
    unfold zO;rw[iN (by intro q;rw[q]at h;cases h),iN];rintro⟨q,_⟩;rw[q]at h;cases h
   rw[this c hag,this c' (by rw[hk];exact hag)]
  ·rw[zb q]at he;exact m.tot he
 ·obtain⟨L,f1,f2,f3⟩:=m.fre;have hkL:k∉L:=λq=>by
   obtain⟨d,d1,d2⟩:=WI (L:=L) f2 k q;rw[hc]at d1;cases d1;exact hcK d2
  refine⟨L,f1,XJ (L:=L) f2 hkL,λi e he h=>?_⟩;by_cases q:i=k
  ·subst q;rw[jQ hc]at he;cases he;rw[hk]at h;exact absurd h hcK
  ·rw[zb q]at he;exact f3 i e he h
theorem MI.bind{b:qE}(m:MI C fr root rx (vW k::b::P) O)(hc:C[k]?=some (qX []))(hb:b.I≠(k:Int)):MI (C.set k (qX [b])) fr root rx P O:=by
 have ho:O k=false:=by
  cases q:O k with
  | false=>rfl
  | true=>have:=m.opn k _ hc q;simp[qX,qx]at this
 have hk:(qX [b]).K=(qX []).K:=rfl;have bo:wOk C b:=m.pw b (.tail _ (.head _));refine⟨?_, ?_, ?_,m.rt.kind hc hk,λw hw=>(m.pw w (.tail _ (.tail _ hw))).kind hc hk,λp hp=>⟨(m.pr p hp).1,(m.pr p hp).2.1.kind hc hk,(m.pr p hp).2.2.kind hc hk⟩, ?_, ?_⟩
 ·intro i e he h;by_cases q:i=k
  ·subst q;rw[jQ hc]at he;cases he;exact .inr (.inl ⟨rfl,rfl,rfl,rfl,by simp[qX]⟩)
  ·rw[zb q]at he;exact m.form i e he h
 ·intro i e he h;by_cases q:i=k
  ·subst q;rw[ho]at h;cases h
  ·rw[zb q]at he;exact m.opn i e he h
 ·intro i e he h w hw;by_cases q:i=k
  ·subst q;rw[jQ hc]at he;cases he;simp only[qX,mCo,List.not_mem_nil,or_false]at hw;subst hw;exact bo.kind hc hk
  ·rw[zb q]at he;exact(m.wrd i e he h w hw).kind hc hk
 ·intro i e he;have hs:=YI (O:=O) (k:=i) (c':=qX [b]) hc;rw[ho]at hs;simp only[bFt,if_false,qX,JW,nAz,zE]at hs;unfold qX at he|-;by_cases q:i=k
  ·subst q;rw[jQ hc]at he;cases he;have:=m.tot hc;simp only[zO,qX]at this;rw[zE,zE,zE]at this;simp only[vW,if_true,iN hb]at this;rw[iN hb]at hs;simp only[zO];rw[zE];simp at this|-;omega
  ·rw[zb q]at he;have:=m.tot he;rw[zE,zE,zE]at this;have hv:¬(vW k).I=(i:Int):=by simp[vW];omega
   rw[iN hv]at this;rw[zE];omega
 ·obtain⟨L,f1,f2,f3⟩:=m.fre;have hkL:k∉L:=λq=>by
   obtain⟨d,d1,d2⟩:=WI (L:=L) f2 k q;rw[hc]at d1;cases d1;simp[qX]at d2
  refine⟨L,f1,XJ (L:=L) f2 hkL,λi e he h=>?_⟩;by_cases q:i=k
  ·subst q;rw[jQ hc]at he;cases he;simp[qX]at h
  ·rw[zb q]at he;exact f3 i e he h
theorem qA3{a b:List qL}:cr k (a++b)=cr k a+cr k b:=by unfold cr;rw[List.countP_append,List.countP_append];omega
theorem qFY{p:qL}{b:List qL}:cr k (p::b)=(if p.A=(k:Int)then 1 else 0)+(if p.B=(k:Int)then 1 else 0)+cr k b:=by
 unfold cr;rw[List.countP_cons,List.countP_cons];simp;omega
theorem qkG:cr k []=0:=rfl
theorem MI.redex{a b:Nat}(m:MI C fr root rx (aW a::aW b::P) O):a≠b/\MI C fr root (rx++[⟨min (a:Int) b,max (a:Int) b⟩]) P O:=by
 have ha:wOk C (aW a):=m.pw _ (.head _);have hb:wOk C (aW b):=m.pw _ (.tail _ (.head _));have ha':=ha;obtain⟨a',c,e1,e2,e3⟩:=ha';obtain rfl:a'=a:=by simp[aW]at e1;omega
 have hag:qx c.K=true:=by
  rcases e3 with⟨_,q⟩ | ⟨q,_⟩
  ·exact q
  ·simp[aW]at q
 have hne:a'≠b:=by
  rintro rfl;have:=m.tot e2;rw[zE,zE,zE]at this;have w1:zO c=1:=by
   unfold zO;rw[iN (by intro q;rw[q]at hag;cases hag),iN];rintro⟨q,_⟩;rw[q]at hag;cases hag
  rw[w1]at this;simp only[aW,if_true]at this;omega
 refine⟨hne,m.form,m.opn,m.wrd,m.rt,λw hw=>m.pw w (.tail _ (.tail _ hw)),λp hp=>?_,λi e he=>?_,m.fre⟩
 ·rcases jL.1 hp with hp | hp
  ·exact m.pr p hp
  ·simp only[lMg]at hp;subst hp;simp only;rcases Nat.lt_or_ge a' b with q | q
   ·rw[Int.min_eq_left (by omega),Int.max_eq_right (by omega)];exact⟨by omega,ha,hb⟩
   ·rw[Int.min_eq_right (by omega),Int.max_eq_left (by omega)];exact⟨by omega,hb,ha⟩
 ·have:=m.tot he;rw[zE,zE,zE]at this;rw[zE,qA3,qFY,qkG];have ea:(aW a').I=(a':Int):=rfl;have eb:(aW b).I=(b:Int):=rfl;rw[ea,eb]at this;simp only;have key:(if min (a':Int) b=(i:Int)then 1 else 0)+(if max (a':Int) b=(i:Int)then 1 else 0)=(if (a':Int)=(i:Int)then 1 else 0)+(if (b:Int)=(i:Int)then 1 else 0):=by
   rcases Nat.lt_or_ge a' b with q | q
   ·rw[Int.min_eq_left (by omega),Int.max_eq_right (by omega)]
   ·rw[Int.min_eq_right (by omega),Int.max_eq_left (by omega),Nat.add_comm]
  rw[key];omega
theorem MI.unredex{p:qL}{r1 r2:List qL}(m:MI C fr root (r1++p::r2) P O):MI C fr root (r1++r2) (⟨1,p.A⟩::⟨1,p.B⟩::P) O:=by
 have hp:=m.pr p (List.mem_append_right _ (.head _));refine⟨m.form,m.opn,m.wrd,m.rt,λw hw=>?_,λq hq=>?_,λi e he=>?_,m.fre⟩
 ·rcases mCo.1 hw with rfl | hw
  ·exact hp.2.1
  ·rcases mCo.1 hw with rfl | hw
   ·exact hp.2.2
   ·exact m.pw w hw
 ·rcases jL.1 hq with hq | hq
  ·exact m.pr q (List.mem_append_left _ hq)
  ·exact m.pr q (List.mem_append_right _ (.tail _ hq))
 ·have:=m.tot he;rw[zE,qA3,qFY]at this;rw[zE,zE,zE,qA3];simp only;omega
theorem MI.perm{P':List qE}(m:MI C fr root rx P O)(h:P.Perm P'):MI C fr root rx P' O:=
 ⟨m.form,m.opn,m.wrd,m.rt,λw hw=>m.pw w (h.mem_iff.2 hw),m.pr,λi e he=>by
  have:=m.tot he;rw[zE]at this|-;unfold cw at this|-;rw[<-h.countP_eq];exact this,m.fre⟩
end
abbrev MM(m:qG)(P:List qE)(O:Nat->Bool):Prop:=MI m.C m.F m.O m.R P O
def nF(C:List qF):Nat:=C.countP λc=>decide (c.K=0)
def nV(C:List qF):Nat:=C.countP λc=>decide (c.K=13)
def zZ(m:qG)(a:Int):qF:=(m.C[a.toNat]?).getD (zS 0)
def qS(m:qG)(a:Int):qG:={m with C:=m.C.set a.toNat (zS m.F),F:=a}
def qR(m:qG)(c:qF):qG:={m with C:=m.C.set m.F.toNat c,F:=(zZ m m.F).V}
def qr(m:qG)(a:Int)(ws:List qE):qG:={m with C:=m.C.set a.toNat {zZ m a with W:=ws}}
def wk(m:qG)(a b:Int):qG:={m with R:=m.R++[⟨min a b,max a b⟩]}
def flw:Nat->qG->qE->qG×qE
 | 0,m,w=>(m,w)
 | n+1,m,w=>if w.T=2 then(match (zZ m w.I).W with
   |[]=>(m,w)
   | x::_=>flw n (qS m w.I) x)else(m,w)
def wA(m:qG)(a b:qE):qG:=
 let r:=flw (nV m.C) m a;let s:=flw (nV r.1.C) r.1 b
 if r.2.T=1/\s.2.T=1 then wk s.1 r.2.I s.2.I
 else if r.2=s.2 then qS s.1 r.2.I
 else if r.2.T=2 then qr s.1 r.2.I [s.2]else qr s.1 s.2.I [r.2]
section
variable {C:List qF} {fr:Int} {root w:qE} {rx:List qL} {P Q:List qE} {O:Nat->Bool} {k j:Nat} {c c':qF} {m m':qG}
theorem qAZ{p:qF->Bool}:∀{C:List qF}{j:Nat}{c:qF},C[j]?=some c->(C.set j c').countP p+(if p c then 1 else 0)=C.countP p+(if p c' then 1 else 0)
 |[],j,c,h=>by simp at h
 | a::r,0,c,h=>by
  simp only[List.getElem?_cons_zero,oSi]at h;subst h;simp only[lSz,List.countP_cons];omega
 | a::r,j+1,c,h=>by
  have:=qAZ (p:=p) (C:=r) (j:=j) (c:=c) (by simpa using h);simp only[List.set_cons_succ,List.countP_cons];omega
theorem Zn(h:C[j]?=some c):nF (C.set j c')+(if c.K=0 then 1 else 0)=nF C+(if c'.K=0 then 1 else 0):=by
 have:=qAZ (c':=c') (p:=λc=>decide (c.K=0)) h;simpa[nF]using this
theorem qIQ(h:C[j]?=some c):nV (C.set j c')+(if c.K=13 then 1 else 0)=nV C+(if c'.K=13 then 1 else 0):=by
 have:=qAZ (c':=c') (p:=λc=>decide (c.K=13)) h;simpa[nV]using this
theorem qIP(h:C[j]?=some c)(hk:c.K=13):0<nV C:=List.countP_pos_iff.2 ⟨c,lMo h,by simpa using hk⟩
theorem FrC.len{L:List Nat}(f:FrC C fr L):L.length=nF C:=by
 have hc:nF C=((List.range C.length).filter λk=>decide ((C[k]?.getD (zS 1)).K=0)).length:=by
  have:∀(C:List qF),C.countP (λc=>decide (c.K=0))=((List.range C.length).filter λk=>decide ((C[k]?.getD (zS 1)).K=0)).length:=by
   intro C;rw[<-List.countP_eq_length_filter]
   induction C with
   | nil=>rfl
   | cons a r ih=>
    rw[lCo,List.range_succ_eq_map,List.countP_cons,List.countP_cons,ih,List.countP_map];rfl
  exact this C
 rw[hc];refine List.Perm.length_eq ((List.perm_ext_iff_of_nodup f.nd (List.nodup_range.filter _)).2 λk=>?_);rw[mFi,lMr];constructor
 ·intro hk;obtain⟨c,h1,h2⟩:=WI (L:=L) f.ch k hk;exact⟨zP h1,by rw[h1];simpa using h2⟩
 ·rintro⟨h1,h2⟩;rw[gEg h1]at h2;exact f.all k _ (gEg h1) (by simpa using h2)
theorem MI.fr0(m:MI C fr root rx P O)(h:0<nF C):0<=fr:=by
 obtain⟨L,f⟩:=m.fre;have:=f.len;cases L with
 | nil=>simp at this;omega
 | cons k L=>have:=f.ch.1;omega
theorem JF(h:m.C[k]?=some c):zZ m (k:Int)=c:=by unfold zZ;rw[iTn,h];rfl
theorem qDG(h:qx c.K=true):zO c=1:=by
 unfold zO;rw[iN (by intro q;rw[q]at h;cases h),iN];rintro⟨q,_⟩;rw[q]at h;cases h
theorem qJA(m:MI C fr root rx P O)(hc:C[k]?=some c)(h:qx c.K=false):O k=false:=by
 cases q:O k with
 | false=>rfl
 | true=>rw[m.opn k c hc q]at h;cases h
theorem MI.var(m:MI C fr root rx P O)(hc:C[k]?=some c)(h:c.K=13):O k=false/\∃ws,c=qX ws/\ws.length<=1:=by
 have ho:=qJA m hc (by rw[h];rfl);refine⟨ho,c.W, ?_⟩;rcases m.form k c hc ho with⟨q,_⟩ | ⟨h1,h2,h3,h4,h5⟩ | ⟨q,_⟩
 ·rw[h]at q;cases q
 ·refine⟨?_,h5⟩;obtain⟨a,b,d,e,f⟩:=c;simp only at h1 h2 h3 h4;subst h1 h2 h3 h4;rfl
 ·omega
structure Flw(m m':qG)(w':qE):Prop where
 len:m'.C.length=m.C.length
 root:m'.O=m.O
 rx:m'.R=m.R
 keep:∀(k:Nat)(c:qF),m.C[k]?=some c->(c.K≠13\/c.W=[])->m'.C[k]?=some c
 nv:nV m'.C<=nV m.C
 nf:nF m.C<=nF m'.C
 stop:w'.T=1\/∃k:Nat,w'=vW k/\m'.C[k]?=some (qX [])
theorem Zg:∀(n:Nat){m:qG}{w:qE},MM m (w::P) O->nV m.C<=n->MM (flw n m w).1 ((flw n m w).2::P) O/\Flw m (flw n m w).1 (flw n m w).2
 | n,m,w,h,hn=>by
  obtain⟨k,c,e1,e2,e3⟩:=h.pw w (.head _);by_cases ht:w.T=2
  ·have hk:c.K=13:=by
    rcases e3 with⟨q,_⟩ | ⟨_,q⟩
    ·omega
    ·exact q
   obtain⟨ho,ws,hv,hl⟩:=h.var e2 hk;have hpos:=qIP e2 hk;obtain⟨n',rfl⟩:∃n',n=n'+1:=⟨n-1,by omega⟩;have hca:zZ m w.I=c:=by rw[e1];exact JF e2
   have hwv:w=vW k:=by
    obtain⟨t,a⟩:=w;simp only at ht e1;subst ht e1;rfl
   cases ws with
   | nil=>
    have e:flw (n'+1) m w=(m,w):=by
     rw[flw,iP ht,hca,hv];rfl
    rw[e];exact⟨h,rfl,rfl,rfl,λ_ _ q _=>q,nLr _,nLr _,.inr ⟨k,hwv,by rw[e2,hv]⟩⟩
   | cons x r=>
    have hr:r=[]:=by cases r with | nil=>rfl | cons a r=>simp at hl
    subst hr;have e:flw (n'+1) m w=flw n' (qS m w.I) x:=by
     rw[flw,iP ht,hca,hv];rfl
    have h1:=MI.rel (Q:=[w]) h e2 ho (by omega) (λy hy=>by simp only[lMg]at hy;rw[hy];exact e1) (by rw[hv];simp[zO,qX]);have hrel:qS m w.I={m with C:=m.C.set k (zS m.F),F:=(k:Int)}:=by
     unfold qS;rw[e1,iTn]
    have h2:MM (qS m w.I) (x::P) O:=by
     rw[hrel,hv]at*;exact h1
    have hnv:=qIQ (c':=zS m.F) e2;have hnf:=Zn (c':=zS m.F) e2;rw[iP hk,iN (by simp[zS])]at hnv;rw[iN (by omega),iP (by simp[zS])]at hnf;have hcells:(qS m w.I).C=m.C.set k (zS m.F):=by rw[hrel]
    obtain⟨g1,g2⟩:=Zg n' h2 (by rw[hcells];omega);rw[e];refine⟨g1,by rw[g2.len,hcells,lLs],by rw[g2.root,hrel],by rw[g2.rx,hrel],λi d hd hq=>?_,by have:=g2.nv;rw[hcells]at this;omega,by have:=g2.nf;rw[hcells]at this;omega,g2.stop⟩;refine g2.keep i d ?_ hq;rw[hcells];by_cases q:i=k
    ·subst q;rw[e2]at hd;cases hd;rcases hq with hq | hq
     ·exact absurd hk hq
     ·rw[hv]at hq;simp[qX]at hq
    ·rw[zb q];exact hd
  ·have e:flw n m w=(m,w):=by
    cases n with
    | zero=>rfl
    | succ n=>rw[flw,iN ht]
   have h1:w.T=1:=by
    rcases e3 with⟨q,_⟩ | ⟨q,_⟩
    ·exact q
    ·exact absurd q ht
   rw[e];exact⟨h,rfl,rfl,rfl,λ_ _ q _=>q,nLr _,nLr _,.inl h1⟩
theorem qnA{a b:qE}(h:MM m (a::b::P) O):MM (wA m a b) P O/\(wA m a b).C.length=m.C.length/\nF m.C<=nF (wA m a b).C/\(wA m a b).O=m.O:=by
 obtain⟨g1,g2⟩:=Zg (nV m.C) h (nLr _);unfold wA;generalize flw (nV m.C) m a=r at g1 g2|-;obtain⟨m1,a1⟩:=r;have g3:MM m1 (b::a1::P) O:=MI.perm g1 (List.Perm.swap _ _ _);obtain⟨k1,k2⟩:=Zg (nV m1.C) g3 (nLr _);simp only at g1 g2 k1 k2|-;generalize flw (nV m1.C) m1 b=s at k1 k2|-;obtain⟨m2,b1⟩:=s;simp only at k1 k2|-;have k3:MM m2 (a1::b1::P) O:=MI.perm k1 (List.Perm.swap _ _ _);have hlen:m2.C.length=m.C.length:=by rw[k2.len,g2.len]
 have hnf:nF m.C<=nF m2.C:=nLt g2.nf k2.nf;have hroot:m2.O=m.O:=by rw[k2.root,g2.root]
 have hstop:a1.T=1\/∃k:Nat,a1=vW k/\m2.C[k]?=some (qX []):=by
  rcases g2.stop with q | ⟨k,q1,q2⟩
  ·exact .inl q
  ·exact .inr ⟨k,q1,k2.keep k _ q2 (.inr rfl)⟩
 have agk:∀w:qE,wOk m2.C w->w.T=1->∃k:Nat,w=aW k:=λw hw ht=>by
  obtain⟨k,c,e1,_,_⟩:=hw;refine⟨k, ?_⟩;obtain⟨t,x⟩:=w;simp only at ht e1;subst ht e1;rfl
 rcases hstop with ha | ⟨ka,rfl,hca⟩
 ·obtain⟨i,rfl⟩:=agk a1 (k3.pw _ (.head _)) ha;rcases k2.stop with hb | ⟨kb,rfl,hcb⟩
  ·obtain⟨j,rfl⟩:=agk b1 (k3.pw _ (.tail _ (.head _))) hb;rw[iP ⟨rfl,rfl⟩];exact⟨(MI.redex k3).2,hlen,hnf,hroot⟩
  ·rw[iN (by simp[aW,vW]),iN (by simp[aW,vW]),iN (by simp[aW])];have hne:(aW i).I≠(kb:Int):=by
    intro q;obtain⟨k,c,e1,e2,e3⟩:=k3.pw (aW i) (.head _);have:k=kb:=by rw[q]at e1;omega
    subst this;rw[hcb]at e2;cases e2;rcases e3 with⟨_,q⟩ | ⟨q,_⟩
    ·simp[qX,qx]at q
    ·simp[aW]at q
   have:=MI.bind (MI.perm k3 (List.Perm.swap _ _ _)) hcb hne;have hp:qr m2 (vW kb).I [aW i]={m2 with C:=m2.C.set kb (qX [aW i])}:=by
    unfold qr;have:(vW kb).I=(kb:Int):=rfl;rw[this,JF hcb,iTn];rfl
   rw[hp];have hs:=Zn (c':=qX [aW i]) hcb;simp only[qX]at hs;simp at hs;exact⟨this,by simp[hlen],by simp only[qX];omega,hroot⟩
 ·have hpv:∀x:qE,qr m2 (vW ka).I [x]={m2 with C:=m2.C.set ka (qX [x])}:=λx=>by
   unfold qr;have:(vW ka).I=(ka:Int):=rfl;rw[this,JF hca,iTn];rfl
  rw[iN (by simp[vW])];by_cases heq:vW ka=b1
  ·subst heq;rw[iP rfl];have:=MI.rel (Q:=[vW ka,vW ka]) k3 hca (qJA k3 hca rfl) (by simp[qX]) (λw hw=>by simp at hw;rw[hw];rfl) (by simp[zO,qX]);have hrel:qS m2 (vW ka).I={m2 with C:=m2.C.set ka (zS m2.F),F:=(ka:Int)}:=by
    unfold qS;have:(vW ka).I=(ka:Int):=rfl;rw[this,iTn]
   rw[hrel];have hs:=Zn (c':=zS m2.F) hca;simp[qX,zS]at hs;exact⟨this,by simp[hlen],by simp only[zS];omega,hroot⟩
  ·rw[iN heq,iP (show (vW ka).T=2 from rfl),hpv];have hne:b1.I≠(ka:Int):=by
    intro q;obtain⟨k,c,e1,e2,e3⟩:=k3.pw b1 (.tail _ (.head _));have:k=ka:=by rw[q]at e1;omega
    subst this;rw[hca]at e2;cases e2;rcases e3 with⟨_,q⟩ | ⟨q,_⟩
    ·simp[qX,qx]at q
    ·apply heq;obtain⟨t,x⟩:=b1;simp only at q e1;subst q e1;rfl
   have:=MI.bind k3 hca hne;have hs:=Zn (c':=qX [b1]) hca;simp[qX]at hs;exact⟨this,by simp[hlen],by simp only[qX];omega,hroot⟩
def lws:List qn->List qE
 |[]=>[]
 | l::r=>l.A::l.B::lws r
def JO(m:qG)(ls:List qn):qG:=ls.foldl (λm l=>wA m l.A l.B) m
theorem qB0:∀(ls:List qn){m:qG},MM m (lws ls++P) O->MM (JO m ls) P O/\(JO m ls).C.length=m.C.length/\(JO m ls).O=m.O
 |[],m,h=>⟨h,rfl,rfl⟩
 | l::r,m,h=>by
  obtain⟨g1,g2,_,g4⟩:=qnA (m:=m) (a:=l.A) (b:=l.B) (P:=lws r++P) h;obtain⟨k1,k2,k3⟩:=qB0 r g1;exact⟨k1,by rw[<-g2];exact k2,by rw[<-g4];exact k3⟩
end
def awI(a:Int):qE:=⟨1,a⟩
def vwI(a:Int):qE:=⟨2,a⟩
def QX(lev:Int)(s:qG×List qE×List qE×List qn)(w:qE):qG×List qE×List qE×List qn:=
 let m1:=qR s.1 ⟨4,lev,0,[],[]⟩;let m2:=qR m1 (qX []);let m3:=qR m2 (qX [])
 (qr m3 s.1.F [vwI m1.F,vwI m2.F],s.2.1++[vwI m1.F],s.2.2.1++[vwI m2.F],s.2.2.2++[⟨w,awI s.1.F⟩])
def zf(y:qF):qF:=⟨y.K,y.L,y.V,y.D,[]⟩
def WN(m:qG)(y:qF):qG:=qR (qR m (zf y)) (zf y)
def zK(m:qG)(x y:qF)(i:Nat):qG×List qE×List qE×List qn:=
 (y.W.take i).foldl (QX x.L) (WN m y,[],[],[⟨x.W.getD 0 ⟨0,0⟩,awI m.F⟩,⟨x.W.getD 1 ⟨0,0⟩,awI (qR m (zf y)).F⟩])
def wL(m:qG)(x y:qF):qG×List qn:=
 let s:=zK m x y y.W.length
 (qr (qr s.1 m.F s.2.1) (qR m (zf y)).F s.2.2.1,s.2.2.2)
def QW(s:qG×List qn)(w:qE):qG×List qn:=(qR s.1 ⟨5,0,0,[],[]⟩,s.2++[⟨w,awI s.1.F⟩])
def zq(m:qG)(y:qF)(i:Nat):qG×List qn:=(y.W.take i).foldl QW (m,[])
section
variable {P Q:List qE} {O:Nat->Bool} {k j:Nat} {c c':qF} {m m':qG}
structure Tk(m m':qG)(k:Nat)(c:qF):Prop where
 fr:m.F=k
 lt:k<m.C.length
 at':m'.C=m.C.set k c
 old:∃d,m.C[k]?=some d/\d.K=0
 nf:c.K≠0->nF m'.C+1=nF m.C
 root:m'.O=m.O
 rx:m'.R=m.R
theorem Tk.len(t:Tk m m' k c):m'.C.length=m.C.length:=by rw[t.at',lLs]
theorem Tk.new(t:Tk m m' k c):m'.C[k]?=some c:=by rw[t.at'];exact gSs t.lt
theorem Tk.keep(t:Tk m m' k c){i:Nat}{e:qF}(h:m.C[i]?=some e)(hk:e.K≠0):m'.C[i]?=some e/\i≠k:=by
 obtain⟨d,d1,d2⟩:=t.old;have:i≠k:=by rintro rfl;rw[d1]at h;cases h;exact hk d2
 exact⟨by rw[t.at',zb this];exact h,this⟩
theorem wF(h:MM m P O)(hf:0<nF m.C):∃(k:Nat)(d:qF),m.F=(k:Int)/\m.C[k]?=some d/\d.K=0/\O k=false/\(∀c,qR m c={m with C:=m.C.set k c,F:=d.V}/\Tk m (qR m c) k c):=by
 obtain⟨k,d,e1,e2,e3,e4,_⟩:=MI.head h (MI.fr0 h hf);refine⟨k,d,e1,e2,e3,e4,λc=>?_⟩;have e:qR m c={m with C:=m.C.set k c,F:=d.V}:=by
  unfold qR;rw[e1,JF e2,iTn]
 refine⟨e,e1,zP e2,by rw[e],⟨d,e2,e3⟩,λhc=>?_,by rw[e],by rw[e]⟩;have:=Zn (c':=c) e2;rw[iP e3,iN hc]at this;rw[e];exact this
theorem Qo(h:MM m P O)(hf:0<nF m.C)(hc:qx c.K=true):∃k,O k=false/\Tk m (qR m c) k c/\MM (qR m c) (aW k::P) (opO O k):=by
 obtain⟨k,d,e1,e2,e3,e4,e5⟩:=wF h hf;obtain⟨f1,f2⟩:=e5 c;refine⟨k,e4,f2, ?_⟩;have:=MI.takeA (c:=c) h e1 e2 hc;rw[f1];exact this
theorem YA(h:MM m P O)(hf:0<nF m.C):∃k,O k=false/\Tk m (qR m (qX [])) k (qX [])/\MM (qR m (qX [])) (vW k::vW k::P) O:=by
 obtain⟨k,d,e1,e2,e3,e4,e5⟩:=wF h hf;obtain⟨f1,f2⟩:=e5 (qX []);refine⟨k,e4,f2, ?_⟩;have:=MI.takeV h e1 e2;rw[f1];exact this
theorem jv(hc:m.C[k]?=some c)(ws:List qE):qr m (k:Int) ws={m with C:=m.C.set k {c with W:=ws}}:=by
 unfold qr;rw[JF hc,iTn]
theorem Xu{ws:List qE}(h:MM m (ws++P) O)(hc:m.C[k]?=some c)(ho:O k=true)(hf:zi {c with W:=ws}):MM (qr m (k:Int) ws) P (clO O k)/\nF (qr m (k:Int) ws).C=nF m.C/\(qr m (k:Int) ws).C.length=m.C.length:=by
 rw[jv hc];have h1:=MI.wopen (c':={c with W:=ws}) h hc ho rfl;have h2:=MI.close (k:=k) (c:={c with W:=ws}) h1 (jQ hc) ho hf;refine⟨h2, ?_,by simp⟩;have:=Zn (c':={c with W:=ws}) hc;simp only at this|-;omega
theorem qFT(h:O k=false):clO (opO O k) k=O:=by
 funext i;unfold clO opO;by_cases q:i=k
 ·subst q;simp[h]
 ·simp[q]
theorem X9(h:MM m (c.W++P) O)(hf:0<nF m.C)(hc:qx c.K=true)(hF:zi c):∃k,O k=false/\Tk m (qR m c) k c/\MM (qR m c) (aW k::P) O:=by
 obtain⟨k,h1,h2,h3⟩:=Qo h hf hc;refine⟨k,h1,h2, ?_⟩;have h4:MM (qR m c) (c.W++(aW k::P)) (opO O k):=MI.perm h3 (List.perm_middle.symm);have h5:=MI.close h4 h2.new (by simp[opO]) hF;rw[qFT h1]at h5;exact h5
theorem agf{c:qF}(h:qx c.K=true)(hf:zi c):qg (qY c)=true:=by
 rcases hf with⟨_,q⟩ | ⟨q,_⟩ | ⟨q,_⟩
 ·exact q
 ·rw[q]at h;cases h
 ·rw[q]at h;cases h
theorem qGU{c:qF}{ws:List qE}(h:qx c.K=true)(hf:zi c)(hl:ws.length=c.W.length):zi {c with W:=ws}:=by
 refine .inl ⟨h, ?_⟩;have:=agf h hf;unfold qY at this|-;simp only;rw[hl];exact this
theorem fanF{lev:Int}(h:inI lev 0 8=true){ws:List qE}(hl:ws.length=2):zi ⟨4,lev,0,[],ws⟩:=by
 refine .inl ⟨rfl, ?_⟩;simp[qY,qg,hl,jg,fieldsOf,zt,jK,z8,h]
theorem eraF:zi ⟨5,0,0,[],[]⟩:=.inl ⟨rfl,by simp[qY,qg,jg,fieldsOf,zt,jK,z8,JM,inI]⟩
theorem VC:∀{a b:List qn},lws (a++b)=lws a++lws b
 |[],b=>rfl
 | x::a,b=>by simp[lws,VC]
structure ZX(m0:qG)(y:qF)(P:List qE)(O:Nat->Bool)(ck dk:Nat)(s:qG×List qE×List qE×List qn)(i:Nat):Prop where
 mm:MM s.1 (s.2.1++s.2.2.1++lws s.2.2.2++y.W.drop i++P) (opO (opO O ck) dk)
 us:s.2.1.length=i
 vs:s.2.2.1.length=i
 c1:s.1.C[ck]?=some (zf y)
 c2:s.1.C[dk]?=some (zf y)
 nf:nF m0.C=nF s.1.C+2+3*i
 len:s.1.C.length=m0.C.length
theorem qk7{m0:qG}{y:qF}{lev:Int}{ck dk i:Nat}{s:qG×List qE×List qE×List qn}(hy:qx y.K=true)(hl:inI lev 0 8=true)(hne:ck≠dk)(h:ZX m0 y P O ck dk s i)(hi:i<y.W.length)(hf:2<nF s.1.C):ZX m0 y P O ck dk (QX lev s y.W[i]) (i+1):=by
 obtain⟨mm,us,vs,c1,c2,nf,len⟩:=h;obtain⟨f,f1,f2,f3⟩:=Qo (c:=⟨4,lev,0,[],[]⟩) mm (by omega) rfl;have k4:(⟨4,lev,0,[],[]⟩:qF).K≠0:=by simp
 have n1:=f2.nf k4;obtain⟨u,u1,u2,u3⟩:=YA f3 (by omega);have n2:=u2.nf (by decide);obtain⟨v,v1,v2,v3⟩:=YA u3 (by omega);have n3:=v2.nf (by decide);have hk0:(zf y).K≠0:=by intro q;unfold zf at q;simp only at q;rw[q]at hy;cases hy
 have cf:(qR (qR (qR s.1 ⟨4,lev,0,[],[]⟩) (qX [])) (qX [])).C[f]?=some ⟨4,lev,0,[],[]⟩:=(v2.keep (u2.keep f2.new k4).1 k4).1;have k1:=(v2.keep (u2.keep (f2.keep c1 hk0).1 hk0).1 hk0).1;have k2:=(v2.keep (u2.keep (f2.keep c2 hk0).1 hk0).1 hk0).1;have g1:=(f2.keep c1 hk0).2;have g2:=(f2.keep c2 hk0).2;have hp:(vW v::vW v::vW u::vW u::aW f::(s.2.1++s.2.2.1++lws s.2.2.2++y.W.drop i++P)).Perm ([vW u,vW v]++((s.2.1++[vW u])++(s.2.2.1++[vW v])++(lws s.2.2.2++[y.W[i],aW f])++y.W.drop (i+1)++P)):=by
  rw[lDc hi];rw[List.perm_iff_count];intro a;simp only[List.count_append,List.count_cons,List.count_nil];omega
 have w1:=MI.perm v3 hp;have hof:opO (opO (opO O ck) dk) f f=true:=by simp[opO]
 obtain⟨p1,p2,p3⟩:=Xu (k:=f) (c:=⟨4,lev,0,[],[]⟩) w1 cf hof (fanF hl rfl);have hoo:clO (opO (opO (opO O ck) dk) f) f=opO (opO O ck) dk:=qFT f1;rw[hoo]at p1;have e1:s.1.F=(f:Int):=f2.fr;have e2:(qR s.1 ⟨4,lev,0,[],[]⟩).F=(u:Int):=u2.fr;have e3:(qR (qR s.1 ⟨4,lev,0,[],[]⟩) (qX [])).F=(v:Int):=v2.fr;have ef:QX lev s y.W[i]=(qr (qR (qR (qR s.1 ⟨4,lev,0,[],[]⟩) (qX [])) (qX [])) (f:Int) [vW u,vW v],s.2.1++[vW u],s.2.2.1++[vW v],s.2.2.2++[⟨y.W[i],aW f⟩]):=by
  unfold QX;simp only[e1,e2,e3];rfl
 rw[ef];refine⟨?_,by simp[us],by simp[vs], ?_, ?_,by simp only;rw[p2];omega,by simp only;rw[p3,v2.len,u2.len,f2.len,len]⟩
 ·simp only;rw[VC];exact p1
 ·simp only;rw[jv cf];simp only;rw[zb g1];exact k1
 ·simp only;rw[jv cf];simp only;rw[zb g2];exact k2
theorem qBE{x y:qF}(h:MM m (x.W++y.W++P) O)(hy:qx y.K=true)(hyF:zi y)(hx:x.W.length=2)(hl:inI x.L 0 8=true)(hf:2+3*y.W.length<=nF m.C):MM (wL m x y).1 (lws (wL m x y).2++P) O/\(wL m x y).1.C.length=m.C.length/\(∀i,i<=y.W.length->∃ck dk,ck≠dk/\m.F=(ck:Nat)/\(qR m (zf y)).F=(dk:Nat)/\ZX m y P O ck dk (zK m x y i) i):=by
 have hk:qx (zf y).K=true:=hy;have hk0:(zf y).K≠0:=by intro q;unfold zf at q;simp only at q;rw[q]at hy;cases hy
 obtain⟨x0,x1,ex⟩:∃a b,x.W=[a,b]:=by
  match h:x.W,hx with
  |[a,b],_=>exact⟨a,b,rfl⟩
 obtain⟨ck,a1,a2,a3⟩:=Qo (c:=zf y) h (by omega) hk;have n1:=a2.nf hk0;obtain⟨dk,b1,b2,b3⟩:=Qo (c:=zf y) a3 (by omega) hk;have n2:=b2.nf hk0;have hne:ck≠dk:=(b2.keep a2.new hk0).2;have I:∀i,i<=y.W.length->ZX m y P O ck dk (zK m x y i) i:=by
  intro i
  induction i with
  | zero=>
   intro _;have e0:zK m x y 0=(WN m y,[],[],[⟨x0,aW ck⟩,⟨x1,aW dk⟩]):=by
    unfold zK;rw[ex,a2.fr,b2.fr];rfl
   rw[e0];refine⟨?_,rfl,rfl,(b2.keep a2.new hk0).1,b2.new,by unfold WN;simp only;omega,by unfold WN;simp only;rw[b2.len,a2.len]⟩;refine MI.perm b3 ?_;rw[ex,List.perm_iff_count];intro a;simp only[List.count_append,List.count_cons,List.count_nil,lws,List.drop_zero];omega
  | succ i ih=>
   intro hi;have hI:=ih (by omega);have es:zK m x y (i+1)=QX x.L (zK m x y i) (y.W[i]'(by omega)):=by
    unfold zK;rw[tA1,gEg (show i<y.W.length by omega),Option.toList_some,List.foldl_append];rfl
   rw[es];refine qk7 hy hl hne hI (by omega) ?_;have:=hI.nf;omega
 refine⟨?_, ?_,λi hi=>⟨ck,dk,hne,a2.fr,b2.fr,I i hi⟩⟩
 all_goals
  obtain⟨mm,us,vs,c1,c2,nf,len⟩:=I y.W.length (nLr _);have ed:wL m x y=(qr (qr (zK m x y y.W.length).1 (ck:Int) (zK m x y y.W.length).2.1) (dk:Int) (zK m x y y.W.length).2.2.1,(zK m x y y.W.length).2.2.2):=by
   unfold wL;simp only[a2.fr,b2.fr]
  rw[ed];generalize zK m x y y.W.length=s at*;have hw1:MM s.1 (s.2.1++(s.2.2.1++(lws s.2.2.2++P))) (opO (opO O ck) dk):=by
   have:=mm;rw[List.drop_length,lAn,lAa,lAa]at this;exact this
  have hyW:(zf y)={y with W:=[]}:=rfl;obtain⟨p1,p2,p3⟩:=Xu (k:=ck) (c:=zf y) hw1 c1 (by simp[opO]) (qGU (c:=y) hy hyF us);have c2':(qr s.1 (ck:Int) s.2.1).C[dk]?=some (zf y):=by
   rw[jv c1];simp only;rw[zb (Ne.symm hne)];exact c2
  obtain⟨r1,r2,r3⟩:=Xu (k:=dk) (c:=zf y) p1 c2' (by simp[clO,opO];exact Ne.symm hne) (qGU (c:=y) hy hyF vs)
 ·have ho:clO (clO (opO (opO O ck) dk) ck) dk=O:=by
   have b1':opO O ck dk=false:=b1;funext i;unfold clO opO;unfold opO at b1';by_cases q:i=ck
   ·subst q;simp[a1,hne]
   ·by_cases q2:i=dk
    ·subst q2;simp at b1'|-;exact b1'.2
    ·simp[q,q2]
  rw[ho]at r1;exact r1
 ·simp only;rw[r3,p3,len]
theorem qBH{y:qF}(h:MM m (y.W++P) O)(hf:y.W.length<=nF m.C):∀i,i<=y.W.length->MM (zq m y i).1 (lws (zq m y i).2++y.W.drop i++P) O/\nF m.C=nF (zq m y i).1.C+i/\(zq m y i).1.C.length=m.C.length:=by
 intro i
 induction i with
 | zero=>intro _;exact⟨h,rfl,rfl⟩
 | succ i ih=>
  intro hi;obtain⟨g1,g2,g3⟩:=ih (by omega);have es:zq m y (i+1)=QW (zq m y i) (y.W[i]'(by omega)):=by
   unfold zq;rw[tA1,gEg (show i<y.W.length by omega),Option.toList_some,List.foldl_append];rfl
  obtain⟨k,k1,k2,k3⟩:=X9 (c:=⟨5,0,0,[],[]⟩) (P:=lws (zq m y i).2++y.W.drop i++P) g1 (by omega) rfl eraF;have n1:=k2.nf (by decide);rw[es];unfold QW;simp only;refine⟨?_,by omega,by rw[k2.len,g3]⟩;refine MI.perm k3 ?_;rw[VC,lDc (show i<y.W.length by omega),List.perm_iff_count];intro a;have e:awI (zq m y i).1.F=aW k:=by rw[k2.fr];rfl
  rw[e];simp only[List.count_append,List.count_cons,List.count_nil,lws];omega
end
def fzp(n id:Nat)(o:Option qA)(st:VSt):VSt:=match o with
 | some (.row w [v] true)=>if w=0 then st else{s:=(n,.ept v 0)::st.s,l:=st.l,h:=st.h.set id .dead}
 | _=>st
def fzo(n:Nat)(v:Option AV)(st:VSt):VSt:=match v with
 | none=>st
 | some (.ept _ _)=>st
 | some (.lst _ _ _)=>st
 | some (.int _ _)=>st
 | some (.bool _)=>st
 | some .nils=>st
 | some (.agg _)=>st
 | some (.ptr id 0 0)=>fzp n id st.h[id]? st
 | _=>QY n st
section
variable {n id:Nat} {s m:qp} {h:List qA} {v x:AV} {st:VSt}
@[go_sem] theorem qsS:QY n ⟨s,m,h⟩=fzo n (get s n) ⟨s,m,h⟩:=by
 unfold fzo;split<;>rename_i e<;>try (simp only[QY,e];done)
 ·simp only[QY,e,fzp];split<;>rename_i e2<;>simp only[e2]
  ·split<;>split<;>first | rfl | omega
@[go_sem] theorem qsY:get [] n=none:=nr rfl
@[go_sem] theorem qsU:fzo n none st=st:=nr rfl
@[go_sem] theorem qsT{j:Nat}:fzo n (some (.ept v j)) st=st:=nr rfl
@[go_sem] theorem qsV:fzo n (some (.ptr id 0 0)) ⟨s,m,h⟩=fzp n id h[id]? ⟨s,m,h⟩:=nr rfl
@[go_sem] theorem qsW{w:Nat}:fzp n id (some (.row w [v] true)) ⟨s,m,h⟩=if w=0 then⟨s,m,h⟩else⟨(n,.ept v 0)::s,m,h.set id .dead⟩:=nr rfl
end
theorem c397{f:AV}(p:Int->Bool)(hft:f.tree=true)(xs:List Int)(hf:∀x∈xs,W7 Gm f [qQ x] (.bool (p x)))(hl:xs.length<=1048576):Pure Gm 397 [lQ xs,f] (.bool (xs.any p)):=
 WK shI (gc:=774) (gk _ F397) (gk _ F774) f p hft xs hf hl
theorem c859{f:AV}(p:qD->Bool)(hft:f.tree=true)(xs:List qD)(hf:∀x∈xs,W7 Gm f [x.enc] (.bool (p x)))(hl:xs.length<=1048576):Pure Gm 859 [.lst 1 (xs.map qD.enc) false,f] (.bool (xs.any p)):=
 WK qD.isSh (gc:=1179) (gk _ F859) (gk _ qDX) f p hft xs hf hl
theorem c712{f:AV}(p:qH->Bool)(hft:f.tree=true)(xs:List qH)(hf:∀x∈xs,W7 Gm f [x.enc] (.bool (p x)))(hl:xs.length<=1048576):Pure Gm 712 [.lst 2 (xs.map qH.enc) false,f] (.bool (xs.any p)):=
 WK qH.isSh (gc:=1098) (gk _ F712) (gk _ qDU) f p hft xs hf hl
theorem qAE{α:Type}(p:α->Bool)(xs:List α):(!xs.any λx=> !p x)=xs.all p:=by
 induction xs with
 | nil=>rfl
 | cons x xs ih=>simp only[List.any_cons,lAc,Bool.not_or,Bool.not_not,ih]
theorem qAO{k:Int}:Pure Gm 1487 [iI k] (.bool (JM k)):=by
 refine pJ Km ?_;simp only[Km,qM,go_sem]
 repeat' (first | (refine qa rfl ?_;simp only[go_sem]) | (first | (apply zF<;>intro hc<;>simp only[hc,go_sem]) | (apply qU<;>intro hc<;>simp only[hc,go_sem])) | refine qN rfl ?_)
 all_goals ((simp only[JM,inI,AV.bool.injEq];rw[Bool.eq_iff_iff];simp at*;try omega))
theorem qAL{k:Int}:Pure Gm 1375 [iI k] (.bool (jK k)):=by
 refine pJ KP ?_;simp only[KP,qM,go_sem]
 repeat' (first | (refine qa rfl ?_;simp only[go_sem]) | (first | (apply zF<;>intro hc<;>simp only[hc,go_sem]) | (apply qU<;>intro hc<;>simp only[hc,go_sem])) | (refine qI (qAO) ?_;simp only[go_sem]) | refine qN rfl ?_)
 all_goals ((simp only[jK,JM,inI,AV.bool.injEq]at*;rw[Bool.eq_iff_iff];simp at*;try omega))
theorem qE8{l:Int}:Pure Gm 1495 [iI l] (.bool (inI l 0 8)):=by
 refine pJ Kp ?_;simp only[Kp,qM,go_sem]
 repeat' (first | (refine qa rfl ?_;simp only[go_sem]) | (first | (apply zF<;>intro hc<;>simp only[hc,go_sem]) | (apply qU<;>intro hc<;>simp only[hc,go_sem])) | refine qN rfl ?_)
 all_goals ((simp only[inI,AV.bool.injEq];rw[Bool.eq_iff_iff];simp at*;try omega))
theorem qAN{k l:Int}:Pure Gm 1389 [iI k,iI l] (.bool (zt k l)):=by
 refine pJ KV ?_;simp only[KV,qM,go_sem]
 repeat' (first | (refine qa rfl ?_;simp only[go_sem]) | (first | (apply zF<;>intro hc<;>simp only[hc,go_sem]) | (apply qU<;>intro hc<;>simp only[hc,go_sem])) | (refine qI (qAO) ?_;simp only[go_sem]) | (refine qI (qAL) ?_;simp only[go_sem]) | (refine qI (qE8) ?_;simp only[go_sem]) | refine qN rfl ?_)
 all_goals ((unfold zt;split<;>(simp only[jK,JM,inI,AV.bool.injEq]at* <;>(rw[Bool.eq_iff_iff];simp at* <;>try omega))))
theorem c796{n:Int}:Pure Gm 796 [iI n] (.bool (ji n)):=by
 refine pJ kU ?_;simp only[kU,qM,go_sem]
 repeat' (first | (refine qa rfl ?_;simp only[go_sem]) | (first | (apply zF<;>intro hc<;>simp only[hc,go_sem]) | (apply qU<;>intro hc<;>simp only[hc,go_sem])) | refine qN rfl ?_)
 all_goals (simp_all[ji,inI]<;>omega)
theorem qiI{n:Int}:Pure Gm 1050 [iI n] (.bool (inI n 1 6)):=by
 refine pJ UP ?_;simp only[UP,qM,go_sem]
 repeat' (first | (refine qa rfl ?_;simp only[go_sem]) | (first | (apply zF<;>intro hc<;>simp only[hc,go_sem]) | (apply qU<;>intro hc<;>simp only[hc,go_sem])) | refine qN rfl ?_)
 all_goals ((simp only[inI,AV.bool.injEq];rw[Bool.eq_iff_iff];simp at*;try omega))
theorem qEU{n:Int}:Pure Gm 1051 [iI n] (.bool (inI n (-2147483648) 2147483647)):=by
 refine pJ UQ ?_;simp only[UQ,qM,go_sem]
 repeat' (first | (refine qa rfl ?_;simp only[go_sem]) | (first | (apply zF<;>intro hc<;>simp only[hc,go_sem]) | (apply qU<;>intro hc<;>simp only[hc,go_sem])) | refine qN rfl ?_)
 all_goals ((simp only[inI,AV.bool.injEq];rw[Bool.eq_iff_iff];simp at*;try omega))
theorem qjD{n:Int}:Pure Gm 1390 [iI n] (.bool (!ji n)):=by
 refine pJ KW ?_;simp only[KW,qM,go_sem]
 repeat' (first | (refine qa rfl ?_;simp only[go_sem]) | (first | (apply zF<;>intro hc<;>simp only[hc,go_sem]) | (apply qU<;>intro hc<;>simp only[hc,go_sem])) | (refine qI (c796) ?_;simp only[go_sem]) | refine qN rfl ?_)
 all_goals (simp_all)
theorem qCU{E:Ev}{o:Option AV}{v:AV}{k:Nat}{l:List qC}{ks:List Fr1}{s m:qp}{h:List qA}{Q:qi->VSt->Prop}(ho:o=some v)(hr:R E (.ops l::ks) ⟨(k,v)::s,m,h⟩ Q):Put E o (some k) l ks ⟨s,m,h⟩ Q:=by
 subst ho;rw[qJW];exact hr
theorem qjB{k:Int}{n:Nat}(hn:n<=1048576):Pure Gm 1388 [iI k,iI (n:Int)] (iI (if k=9 then(n:Int)-1 else 0)):=by
 refine pJ KU ?_;simp only[KU,qM,go_sem];apply qU<;>intro hc<;>simp only[hc,go_sem]
 ·rw[wsA];refine qN rfl ?_;simp_all
 ·refine qN rfl ?_;simp_all
theorem qjA{k f:Int}:Pure Gm 1387 [iI k,iI f] (iI (jg k f)):=by
 refine pJ KT ?_;simp only[KT,qM,go_sem]
 repeat' (first
  | (first | (refine zF ?_ ?_<;>intro hc<;>simp only[hc,go_sem]) | (refine qU ?_ ?_<;>intro hc<;>simp only[hc,go_sem]))
  | (refine qI qAO ?_;simp only[go_sem])
  | refine qN rfl ?_)
 all_goals simp only[Bool.not_eq_false',bNt,Bool.not_true,Bool.not_false,dTe,decide_eq_false_iff_not,JM,inI,bAt,Bool.and_eq_false_iff]at*
 case refine_2.refine_1.refine_1.refine_2=>
  subst hc;have:k=1\/k=2\/k=3\/k=4\/k=5\/k=6\/k=7\/k=8\/k=10\/k=11\/k=12:=by omega
  rcases this with rfl | rfl | rfl | rfl | rfl | rfl | rfl | rfl | rfl | rfl | rfl
  all_goals
   first | refine qCU (v:=iI 1) rfl ?_ | refine qCU (v:=iI 2) rfl ?_ | refine qCU (v:=iI 3) rfl ?_
   simp only[go_sem];refine qN rfl rfl
 all_goals try rw[wsA]
 all_goals (simp only[jg,inI,AV.int.injEq,true_and,bAt,dTe];repeat' split)
 all_goals try omega
set_option maxHeartbeats 2000000
theorem qjC{x:qB}(hn:x.P.length<=1048576):Pure Gm 1388 [iI x.K,iI (x.P.length:Int)] (iI (fieldsOf x)):=qjB hn
theorem YR{x:qB}(h1:¬(x.P.length:Int)=0)(h2:jg x.K (fieldsOf x)=x.P.length)(h3:zt x.K x.L=true):qg x=z8 x:=by
 have h:(0:Int)<x.P.length:=by omega
 unfold qg;rw[h2,h3];simp only[dEt h,decide_true,Bool.true_and]
theorem qEV{x:qB}(hd:x.D.length<=1048576)(hn:x.P.length<=1048576):Pure Gm 1097 [x.enc] (.bool (qg x)):=by
 refine pI UU (by simp[AV.trees,go_sem]) rfl ?_;simp only[UU,qM,go_sem]
 repeat' (first
  | (refine qa rfl ?_;simp only[go_sem])
  | (first | (refine zF ?_ ?_<;>intro hc<;>simp only[hc,go_sem]) | (refine qU ?_ ?_<;>intro hc<;>simp only[hc,go_sem]))
  | (refine qI (qjC hn) ?_;simp only[go_sem])
  | (refine qI qjA ?_;simp only[go_sem])
  | (refine qI qAN ?_;simp only[go_sem])
  | (refine qI (c397 (f:=.fn 1390 []) (λn=> !ji n) rfl x.D (λ_ _=>⟨1390,[],rfl,qjD⟩) hd) ?_;simp only[qAE,go_sem])
  | (refine qI qiI ?_;simp only[go_sem])
  | (refine qI qEU ?_;simp only[go_sem])
  | (refine qI c796 ?_;simp only[go_sem])
  | refine qN rfl ?_)
 case refine_1.refine_1.refine_2.refine_2.refine_2.refine_1.refine_1.refine_1=>
  obtain⟨d,hd1⟩:∃d,x.D=[d]:=List.length_eq_one_iff.1 (by have:=odT hc;omega);simp only[hd1,lMc,List.map_nil,qQ,go_sem];simp only[oMs,go_sem];refine qI qEU ?_;simp only[go_sem];refine qN rfl ?_;simp only[Bool.not_eq_false',dTe,decide_eq_false_iff_not]at*;rw[YR (by assumption) (by assumption) (by assumption)];simp[z8, *]
 all_goals simp only[Bool.not_true,Bool.not_false,bNt,Bool.not_eq_false',dTe,decide_eq_false_iff_not]at*
 all_goals first
  | (rw[YR (by assumption) (by assumption) (by assumption)];simp only[AV.bool.injEq];rw[Bool.eq_iff_iff];simp[z8, *];done)
  | (rw[YR (by assumption) (by assumption) (by assumption)];simp only[AV.bool.injEq];rw[Bool.eq_iff_iff];simp[z8,inI, *];omega)
  | (rw[YR (by assumption) (by assumption) (by assumption)];simp only[AV.bool.injEq];rw[Bool.eq_iff_iff];simp[z8,inI, *];done)
  | (simp[qg, *];done)
  | (simp[qg, *];omega)
  | trace_state
theorem c711{xs:List qB}(hl:xs.length+zD qB.sz xs<=1048576):Pure Gm 711 [.lst 5 (xs.map qB.enc) false] (.bool (j5 xs)):=by
 refine pI kN (by simp[AV.trees,AV.tree,qb qB.isSh.tree]) rfl ?_;simp only[kN,qM,go_sem];have fin (h1:1<=xs.length) (h2:xs.length<=600):j5 xs=jV xs 0:=by
  unfold j5 inI;rw[dEt (by omega),dEt (by omega)];rfl
 first | (apply zF<;>intro hc<;>simp only[hc,go_sem]) | (apply qU<;>intro hc<;>simp only[hc,go_sem])
 ·first | (apply zF<;>intro hc<;>simp only[hc,go_sem]) | (apply qU<;>intro hc<;>simp only[hc,go_sem])
  ·refine qN rfl ?_;simp only[AV.bool.injEq,j5,inI];simp at*;omega
  ·have h1:1<=xs.length:=by simp at*;omega
   have h2:xs.length<=600:=by simp at*;omega
   rw[fin h1 h2];refine Sem.loop (λi:Nat=>i<=xs.length/\jV xs 0=jV (xs.drop i) i) (λi=>(⟨[(13,.lst 5 (xs.map qB.enc) false),(14,iI (xs.length:Int)),(15,iI (i:Nat))],[],[]⟩:VSt)) (λi=>xs.length-i) 0 (by kernel_rfl) ⟨nZl _,by simp⟩ csA ?_;rintro i ⟨hi,hI⟩;simp only[go_sem];apply qU<;>intro hc<;>simp only[hc,go_sem]
   ·have hlt:i<xs.length:=by have:=odT hc;omega
    simp only[gMp,gEg hlt,oMs,go_sem];have hs:xs[i].D.length+xs[i].P.length<=zD qB.sz xs:=jr (f:=qB.sz) (gMm hlt);refine lsA ?_;simp only[go_sem];refine qI (qEV (by omega) (by omega)) ?_;simp only[go_sem]
    first | (apply zF<;>intro hc<;>simp only[hc,go_sem]) | (apply qU<;>intro hc<;>simp only[hc,go_sem])
    ·first | (apply zF<;>intro hc<;>simp only[hc,go_sem]) | (apply qU<;>intro hc<;>simp only[hc,go_sem])
     ·refine qN rfl ?_;rw[hI,JH hlt];simp_all[jV]
     ·simp only[wuA (n:=i)];refine qd (i+1) ⟨by omega, ?_⟩ (by omega) csA;rw[hI,JH hlt];simp_all[jV]
    ·refine qN rfl ?_;rw[hI,JH hlt];simp_all[jV]
   ·obtain rfl:i=xs.length:=by have:=odF hc;omega
    refine qN rfl ?_;rw[hI];simp[jV]
 ·refine qN rfl ?_;simp only[AV.bool.injEq,j5,inI];simp at*;omega
theorem YZ{n:qD}{a s:Nat}(ha:a<n.G.length)(hs:s<n.G[a].P.length):Pure Gm 555 [.ept n.enc 0,qH.enc ⟨(a:Int),(s:Int)⟩] (n.G[a].P[s].enc):=by
 refine pI kF (by simp[AV.trees,AV.tree,qD.tr,qH.tr]) (by exact qH.tr) ?_;simp only[kF,qM,go_sem];refine qa rfl ?_;simp only[go_sem];simp only[gMp,gEg ha,oMs,go_sem];simp only[gEg hs,oMs,go_sem];refine lsA ?_;simp only[go_sem];refine qN qH.tr ?_;rfl
theorem qJL{xs:List qB}{p:qH}(h:wD xs p=true):∃a s:Nat,p=⟨a,s⟩/\∃ha:a<xs.length,s<xs[a].P.length:=by
 simp only[wD,bAt]at h;have e1:=Jq.1 h.1;have e2:=Jq.1 h.2;have ha:p.N.toNat<xs.length:=by omega
 simp only[zw,gEg ha]at e2;refine⟨p.N.toNat,p.S.toNat, ?_,ha,by omega⟩;rw[Int.toNat_of_nonneg e1.1,Int.toNat_of_nonneg e2.1]
theorem c714{xs:List qB}{p:qH}:Pure Gm 714 [.lst 5 (xs.map qB.enc) false,p.enc] (.bool (wD xs p)):=by
 refine pI kP (by simp[AV.trees,AV.tree,qb qB.isSh.tree,qH.tr]) rfl ?_;simp only[kP,qM,go_sem];refine qa rfl ?_;simp only[go_sem];have big (h0:0<=p.N) (h1:p.N<xs.length):wD xs p=(decide (0<=p.S)&&decide (p.S<(zw xs p.N:Int))):=by
  simp only[wD,inI];rw[Bool.eq_iff_iff];simp;omega
 first | (apply zF<;>intro hc<;>simp only[hc,go_sem]) | (apply qU<;>intro hc<;>simp only[hc,go_sem])
 ·first | (apply zF<;>intro hc<;>simp only[hc,go_sem]) | (apply qU<;>intro hc<;>simp only[hc,go_sem])
  ·first | (apply zF<;>intro hc<;>simp only[hc,go_sem]) | (apply qU<;>intro hc<;>simp only[hc,go_sem])
   ·have h0:0<=p.N:=by simp at*;omega
    have h1:p.N<xs.length:=by simp at*;omega
    have hlt:p.N.toNat<xs.length:=by omega
    rw[Yz h0];simp only[gMp,gEg hlt,oMs,go_sem];refine qN rfl ?_;rw[big h0 h1];simp_all[zw]
   ·refine qN rfl ?_;rw[big (by simp at*;omega) (by simp at*;omega)];simp_all
    try (intro h;omega)
  ·refine qN rfl ?_;simp only[wD,inI,AV.bool.injEq];simp at*;omega
 ·refine qN rfl ?_;simp only[wD,inI,AV.bool.injEq];simp at*;omega
theorem c713{n:qD}{a s:Nat}(ha:a<n.G.length)(hs:s<n.G[a].P.length):Pure Gm 713 [qH.enc ⟨(a:Int),(s:Int)⟩,.ept n.enc 0] (.bool (!wH n.G ⟨(a:Int),(s:Int)⟩ n.G[a].P[s])):=by
 refine pI kO (by simp[AV.trees,AV.tree,qD.tr,qH.tr]) rfl ?_;simp only[kO,qM,go_sem];refine qa rfl ?_;simp only[go_sem];refine qI (YZ ha hs) ?_;simp only[go_sem];refine lsA ?_;simp only[go_sem];obtain⟨q,hq⟩:∃q,q=n.G[a].P[s]:=⟨_,rfl⟩;rw[<-hq]
 first | (apply zF<;>intro hc<;>simp only[hc,go_sem]) | (apply qU<;>intro hc<;>simp only[hc,go_sem])
 ·refine qI c714 ?_;simp only[go_sem]
  first | (apply zF<;>intro hc<;>simp only[hc,go_sem]) | (apply qU<;>intro hc<;>simp only[hc,go_sem])
  ·have hp:wD n.G q=true:=by simpa using hc
   obtain⟨a2,s2,rfl,ha2,hs2⟩:=qJL hp;refine qI (YZ ha2 hs2) ?_;simp only[go_sem];refine qN rfl ?_;simp_all[wH,Jg]
  ·refine qN rfl ?_;simp_all[wH]
 ·refine qN rfl ?_;simp_all[wH]
theorem qDA{α:Type}(f:α->Nat):∀(xs ys:List α),zD f (xs++ys)=zD f xs+zD f ys
 |[],ys=>by simp[zD]
 | x::xs,ys=>by simp only[lCa,zD,qDA f xs ys];omega
theorem qDB{α:Type}(f:α->Nat)(xs:List α)(i:Nat):zD f (xs.take i)<=zD f xs:=by
 have:=qDA f (xs.take i) (xs.drop i);rw[List.take_append_drop]at this;omega
def zY(i k:Nat):List qH:=(List.range k).map λs:Nat=>⟨(i:Int),(s:Int)⟩
theorem X6(i k:Nat):zY i (k+1)=zY i k++[⟨(i:Int),(k:Int)⟩]:=by simp[zY,List.range_succ]
def qo(xs:List qB):Nat->List qH
 | 0=>[]
 | i+1=>qo xs i++zY i (zw xs (i:Int))
theorem Qj(xs:List qB):∀i,i<=xs.length->(qo xs i).length<=zD qB.sz (xs.take i)
 | 0,_=>nZl _
 | i+1,h=>by
  have:=Qj xs i (by omega);have hi:i<xs.length:=by omega
  have e:xs.take (i+1)=xs.take i++[xs[i]]:=by simp[List.take_append_getElem]
  have e2:zD qB.sz (xs.take i++[xs[i]])=zD qB.sz (xs.take i)+qB.sz xs[i]:=by
   rw[qDA];rfl
  have e3:xs[i].P.length<=qB.sz xs[i]:=by unfold qB.sz;omega
  rw[e,e2];simp[qo,zY,zw,gEg hi];omega
theorem XF{n:qD}(hz:n.sz<=1048576):Pure Gm 554 [.ept n.enc 0] (.lst 2 ((qo n.G n.G.length).map qH.enc) false):=by
 refine pI kE (by simp[AV.trees,AV.tree,qD.tr]) (by simp[AV.tree,qb qH.isSh.tree]) ?_;simp only[kE,qM,go_sem];unfold qD.sz at hz;refine Sem.loop (λi:Nat=>i<=n.G.length) (λi=>(⟨[(10,.lst 5 (n.G.map qB.enc) false),(11,iI (n.G.length:Int)),(12,iI (i:Nat)),(3,.slice 2 0 0 (qo n.G i).length false)],[],[.row 2 ((qo n.G i).map qH.enc) true]⟩:VSt)) (λi=>n.G.length-i) 0 (by kernel_rfl) (nZl _) (Can.renum [none] rfl ⟨.ph,trivial⟩ ⟨⟨_,rfl,.tree (by simp[AV.tree,qb qB.isSh.tree])⟩,⟨_,rfl,.tree rfl⟩,⟨_,rfl,.tree rfl⟩,⟨_,rfl,.ph rfl⟩,trivial⟩ trivial) ?_;rintro i hi;simp only[go_sem];apply qU<;>intro hc<;>simp only[hc,go_sem]
 ·have hlt:i<n.G.length:=by have:=odT hc;omega
  simp only[gMp,gEg hlt,oMs,go_sem];refine lsA ?_;simp only[go_sem];have e0:qo n.G i++zY i 0=qo n.G i:=by simp[zY]
  have hpl:n.G[i].P.length<=zD qB.sz n.G:=by
   have h1:qB.sz n.G[i]<=zD qB.sz n.G:=jr (f:=qB.sz) (gMm hlt);have h2:n.G[i].P.length<=qB.sz n.G[i]:=by unfold qB.sz;omega
   omega
  have htl:=Qj n.G i (by omega);have htt:=qDB qB.sz n.G i;refine Sem.loop (λk:Nat=>k<=n.G[i].P.length) (λk=>(⟨[(10,.lst 5 (n.G.map qB.enc) false),(11,iI (n.G.length:Int)),(12,iI (i:Nat)),(4,iI (i:Nat)),(19,iI (n.G[i].P.length:Int)),(20,iI (k:Nat)),(3,.slice 2 0 0 (qo n.G i++zY i k).length false)],[],[.row 2 ((qo n.G i++zY i k).map qH.enc) true]⟩:VSt)) (λk=>n.G[i].P.length-k) 0 (by kernel_rfl) (nZl _) (by simp only[e0];exact csA) ?_;rintro k hk;simp only[go_sem];apply qU<;>intro hc<;>simp only[hc,go_sem]
  ·have hkl:k<n.G[i].P.length:=by have:=odT hc;omega
   refine WD (el:=(qo n.G i++zY i k).map qH.enc) rfl rfl (by simp) (by simp[zY];omega) ?_;simp only[go_sem];simp only[wuA (n:=k)];refine qd (k+1) (by omega) (by omega) ?_;have e1:qo n.G i++zY i (k+1)=(qo n.G i++zY i k)++[⟨(i:Int),(k:Int)⟩]:=by rw[X6,lAa]
   simp only[e1,lAp,lCo,lNi,nZa];refine Can.renum [some 2] rfl ⟨.row rfl ?_,trivial⟩ ⟨⟨_,rfl,.tree (by simp[AV.tree,qb qB.isSh.tree])⟩,⟨_,rfl,.tree rfl⟩,⟨_,rfl,.tree rfl⟩,⟨_,rfl,.tree rfl⟩,⟨_,rfl,.tree rfl⟩,⟨_,rfl,.tree rfl⟩,⟨_,rfl,.slice rfl⟩,trivial⟩ trivial;have t:=qb qH.isSh.tree ((qo n.G i++zY i k)++[⟨(i:Int),(k:Int)⟩]);rw[lMa]at t;rw[show ((qo n.G i++zY i k)++[(⟨(i:Int),(k:Int)⟩:qH)]).map qH.enc=(qo n.G i++zY i k).map qH.enc++[(⟨(i:Int),(k:Int)⟩:qH)].map qH.enc from lMa];exact VR2s.trees t
  ·obtain rfl:k=n.G[i].P.length:=by have:=odF hc;omega
   simp only[wuA (n:=i)];refine qd (i+1) (by omega) (by omega) ?_;have e2:qo n.G (i+1)=qo n.G i++zY i n.G[i].P.length:=by simp[qo,zw,gEg hlt]
   rw[e2];exact csA
 ·obtain rfl:i=n.G.length:=by have:=odF hc;omega
  refine J7 (Cv.row rfl (by simp) (qb qH.isSh.tree _) (by omega))
def qK(xs:List qB)(me:qH):qH:=(Jg xs me).getD ⟨0,0⟩
def Xk(xs:List qB)(me:qH):Bool:=wH xs me (qK xs me)
theorem qB8{i k:Nat}{q:qH}:q∈zY i k↔∃s:Nat,s<k/\q=⟨i,s⟩:=by
 simp only[zY,List.mem_map,lMr];constructor
 ·rintro⟨s,h,rfl⟩;exact⟨s,h,rfl⟩
 ·rintro⟨s,h,rfl⟩;exact⟨s,h,rfl⟩
theorem VI{xs:List qB}{q:qH}:∀{m:Nat},m<=xs.length->(q∈qo xs m↔∃(i:Nat)(hi:i<xs.length),i<m/\∃s:Nat,s<xs[i].P.length/\q=⟨i,s⟩)
 | 0,_=>by simp[qo]
 | m+1,hm=>by
  have hml:m<xs.length:=by omega
  simp only[qo,jL,VI (xs:=xs) (q:=q) (m:=m) (by omega),qB8,zw,iTn,gEg hml];constructor
  ·rintro(⟨i,hi,h1,h2⟩ | h)
   ·exact⟨i,hi,by omega,h2⟩
   ·exact⟨m,hml,by omega,h⟩
  ·rintro⟨i,hi,h1,h2⟩;by_cases e:i=m
   ·subst e;exact .inr h2
   ·exact .inl ⟨i,hi,by omega,h2⟩
theorem qCO{xs:List qB}{a s:Nat}(ha:a<xs.length)(hs:s<xs[a].P.length):qK xs ⟨a,s⟩=xs[a].P[s]:=by
 simp[qK,Jg,gEg ha,gEg hs]
theorem qLV{xs:List qB}{i:Nat}:∀{qs:List qH}{j:Nat},(∀(m:Nat)(hm:m<qs.length),wH xs ⟨i,(j+m:Nat)⟩ qs[m]=true)->wI xs i qs j=true
 |[],_,_=>rfl
 | q::qs,j,h=>by
  simp only[wI,bAt];refine⟨h 0 (by simp),qLV λm hm=>?_⟩;have:=h (m+1) (by simp;omega);rw[show j+(m+1)=j+1+m by omega]at this;simpa using this
theorem qIR{xs:List qB}:∀{l:List qB}{i:Nat},(∀(k:Nat)(hk:k<l.length),wI xs (i+k) l[k].P 0=true)->wi xs l i=true
 |[],_,_=>rfl
 | x::l,i,h=>by
  simp only[wi,bAt];refine⟨h 0 (by simp),qIR λk hk=>?_⟩;have:=h (k+1) (by simp;omega);rw[show i+(k+1)=i+1+k by omega]at this;simpa using this
theorem qo6(xs:List qB):((qo xs xs.length).all (Xk xs))=wi xs xs 0:=by
 rw[Bool.eq_iff_iff,lAt];constructor
 ·intro h;refine qIR λk hk=>qLV λm hm=>?_;have:=h ⟨k,m⟩ ((VI (nLr _)).2 ⟨k,hk,hk,m,hm,rfl⟩);rw[Xk,qCO hk hm]at this;simpa using this
 ·intro h q hq;obtain⟨i,hi,_,s,hs,rfl⟩:=(VI (nLr _)).1 hq;rw[Xk,qCO hi hs];have:=V9 (VL h i hi) s hs;simpa using this
theorem c319{n:qD}(hz:n.sz<=1048576):Pure Gm 319 [n.enc] (.bool (qk n)):=by
 refine Pure.intro [1] [] (gk _ K3) (by kernel_rfl) rfl (by simp[AV.trees,qD.tr]) rfl ?_;simp only[K3,qM,go_sem];have hz':=hz;unfold qD.sz at hz;have hl:(qo n.G n.G.length).length<=1048576:=by
  have h1:=Qj n.G n.G.length (nLr _);have h2:=qDB qB.sz n.G n.G.length;omega
 refine JL rfl ?_;simp only[go_sem,lNa,lSz];refine qI (c711 (by omega)) ?_;simp only[go_sem];apply qU<;>intro hc<;>simp only[hc,go_sem]
 ·refine qN rfl ?_;have:j5 n.G=false:=by simpa using hc
  simp[qk,this]
 ·refine qI (XF hz') ?_;simp only[go_sem];refine qI (c712 (f:=.fn 713 [.ept n.enc 0]) (λme=> !Xk n.G me) (by simp[AV.tree,AV.trees,qD.tr]) _ (λx hx=>?_) hl) ?_
  ·obtain⟨i,hi,_,s,hs,rfl⟩:=(VI (nLr _)).1 hx;refine⟨713,_,rfl, ?_⟩;have c:=c713 hi hs;rw[Xk,qCO hi hs];exact c
  ·simp only[qAE,go_sem];refine qN rfl ?_;have:j5 n.G=true:=by simpa using hc
   rw[qo6];simp[qk,this]
theorem c860{n:qD}(hz:n.sz<=1048576):Pure Gm 860 [n.enc] (.bool (!qk n)):=by
 refine pI kq (by simp[AV.trees,qD.tr]) rfl ?_;simp only[kq,qM,go_sem];refine qa rfl ?_;simp only[go_sem];refine qI (c319 hz) ?_;simp only[go_sem];exact qN rfl rfl
theorem c505{xs:List qD}(hl:xs.length<=1048576)(hz:∀n∈xs,n.sz<=1048576):Pure Gm 505 [.lst 1 (xs.map qD.enc) false] (.bool (z5 xs)):=by
 refine pI kA (by simp[AV.trees,AV.tree,qb qD.isSh.tree]) rfl ?_;simp only[kA,qM,go_sem]
 first | (apply zF<;>intro hc<;>simp only[hc,go_sem]) | (apply qU<;>intro hc<;>simp only[hc,go_sem])
 ·refine qI (c859 (f:=.fn 860 []) (λn=> !qk n) rfl xs (λx hx=>⟨860,[],rfl,c860 (hz x hx)⟩) hl) ?_;simp only[qAE,go_sem];refine qN rfl ?_;simp only[z5,AV.bool.injEq];simp at*;omega
 ·refine qN rfl ?_;simp only[z5,AV.bool.injEq];simp at*;omega
abbrev Ags:=List qB
abbrev pt(a s:Nat):qH:=⟨(a:Int),(s:Int)⟩
theorem QE{a s b t:Nat}:pt a s=pt b t↔a=b/\s=t:=by simp only[pt,qH.mk.injEq];omega
def atP(N:Ags)(a s:Nat):Option qH:=(N[a]?).bind λx=>x.P[s]?
theorem Wl{N:Ags}{a s:Nat}{q:qH}(h:atP N a s=some q):qK N (pt a s)=q:=by
 unfold qK Jg atP at*;simp only[pt,iTn];cases hx:N[a]? with
 | none=>simp[hx]at h
 | some x=>simp only[hx,oBs]at h;simp[h]
theorem qo2{N:Ags}{a s:Nat}:Jg N (pt a s)=atP N a s:=by
 unfold Jg atP;simp only[pt,iTn];cases N[a]?<;>rfl
def Xo(k l v:Int)(d:List Int)(n:Nat):qB:=⟨k,l,v,d,List.replicate n ⟨0,0⟩⟩
def Has(N:Ags)(a s:Nat):Prop:=∃q,atP N a s=some q
theorem Qs{N:Ags}{a s:Nat}{q:qH}:atP N a s=some q↔∃x,N[a]?=some x/\x.P[s]?=some q:=by
 unfold atP;simp[Option.bind_eq_some_iff]
theorem jI{N:Ags}{a s:Nat}:Has N a s↔∃x,N[a]?=some x/\s<x.P.length:=by
 unfold Has;constructor
 ·rintro⟨q,h⟩;obtain⟨x,hx,hq⟩:=Qs.1 h;exact⟨x,hx,(gSi.1 hq).1⟩
 ·rintro⟨x,hx,hs⟩;exact⟨x.P[s],Qs.2 ⟨x,hx,gEg hs⟩⟩
def Qv(x:qB):Int×Int×Int×List Int×Nat:=(x.K,x.L,x.V,x.D,x.P.length)
def W(N:Ags)(X:Nat->Nat->Prop):Prop:=∀a s q,atP N a s=some q->¬X a s->∃b t,q=pt b t/\atP N b t=some (pt a s)/\¬X b t/\¬(b=a/\t=s)
theorem W.live{N:Ags}{X:Nat->Nat->Prop}(h:W N X){a s:Nat}(h1:Has N a s)(x1:¬X a s):∃c k,qK N (pt a s)=pt c k/\atP N a s=some (pt c k)/\Has N c k/\¬X c k/\atP N c k=some (pt a s)/\¬(c=a/\k=s):=by
 obtain⟨q,hq⟩:=h1;obtain⟨b,t,rfl,e2,e3,e4⟩:=h a s q hq x1;exact⟨b,t,Wl hq,hq,⟨_,e2⟩,e3,e2,e4⟩
theorem qh9{N:Ags}{a s:Nat}{q:qH}(h:atP N a s=some q):a<N.length:=by
 obtain⟨x,hx,_⟩:=Qs.1 h;exact(gSi.1 hx).1
theorem qiF{E:Ev}{d:Option Nat}{w:Nat}{z v:AV}{l:List qC}{ks:List Fr1}{s m:qp}{h:List qA}{e:Env}{Q:qi->VSt->Prop}(hl:v.cells.length=w)(hr:JD E d (.row w [v] true) (sQ w h.length 1) l ks ⟨s,m,h⟩ Q):Bsl E d w 1 (fil e w (List.replicate 1 z) 0 (some v) []) l ks ⟨s,m,h⟩ Q:=by
 rw[show fil e w (List.replicate 1 z) 0 (some v) []=some [v] by simp[fil,jE,hl,List.replicate],qiG];exact hr
theorem qH.plx(x:qH):x.enc.pl=true:=by simp[qH.enc,AV.pl,AV.pls]
theorem qH.cnx(x:qH):x.enc.cn=true:=by simp[qH.enc,AV.cn,AV.cns]
theorem qH.layE(x:qH)(n:Nat):lay x.enc n=(.agg [iI x.N,iI x.S],[]):=by
 simp[qH.enc,lay,qT]
theorem qB.plx(x:qB):x.enc.pl=true:=by simp[qB.enc,AV.pl,AV.pls,jT (enc:=qQ) (λ_=>rfl),jT qH.plx]
theorem qB.cnx(x:qB):x.enc.cn=true:=by simp[qB.enc,AV.cn,AV.cns,j8 (enc:=qQ) (λ_=>rfl),j8 qH.cnx]
theorem qB.layE(x:qB)(n:Nat):lay x.enc n=(.agg [iI x.K,iI x.L,iI x.V,sQ 1 (n) x.D.length,.slice 2 (n+AV.rows (lQ x.D)) 0 x.P.length false],(lay (lQ x.D) (n)).2++((lay (.lst 2 (x.P.map qH.enc) false) (n+AV.rows (lQ x.D))).2++[])):=by
 simp[qB.enc,lay,qT,wO,AV.rows,Nat.add_comm,Nat.add_left_comm]
theorem qD.plx(x:qD):x.enc.pl=true:=by simp[qD.enc,AV.pl,AV.pls,jT qB.plx]
theorem qD.cnx(x:qD):x.enc.cn=true:=by simp[qD.enc,AV.cn,AV.cns,j8 qB.cnx]
theorem qD.layE(x:qD)(n:Nat):lay x.enc n=(.agg [sQ 5 (n) x.G.length],(lay (.lst 5 (x.G.map qB.enc) false) (n)).2++[]):=by
 simp[qD.enc,lay,qT]
theorem zG.plx(x:zG):x.enc.pl=true:=by simp[zG.enc,AV.pl,AV.pls]
theorem zG.cnx(x:zG):x.enc.cn=true:=by simp[zG.enc,AV.cn,AV.cns]
theorem zG.layE(x:zG)(n:Nat):lay x.enc n=(.agg [iI x.Step,iI x.Def,iI x.Source],[]):=by
 simp[zG.enc,lay,qT]
theorem zQ.plx(x:zQ):x.enc.pl=true:=by simp[zQ.enc,AV.pl,AV.pls]
theorem zQ.cnx(x:zQ):x.enc.cn=true:=by simp[zQ.enc,AV.cn,AV.cns]
theorem zQ.layE(x:zQ)(n:Nat):lay x.enc n=(.agg [iI x.K,iI x.V],[]):=by
 simp[zQ.enc,lay,qT]
theorem ze.plx(x:ze):x.enc.pl=true:=by simp[ze.enc,AV.pl,AV.pls,jT qB.plx,jT zG.plx]
theorem ze.cnx(x:ze):x.enc.cn=true:=by simp[ze.enc,AV.cn,AV.cns,j8 qB.cnx,j8 zG.cnx]
theorem ze.layE(x:ze)(n:Nat):lay x.enc n=(.agg [iI x.I,sQ 5 (n) x.Net.G.length,.slice 3 (n+AV.rows (.lst 5 (x.Net.G.map qB.enc) false)) 0 x.Origins.length false],(lay (.lst 5 (x.Net.G.map qB.enc) false) (n)).2++((lay (.lst 3 (x.Origins.map zG.enc) false) (n+AV.rows (.lst 5 (x.Net.G.map qB.enc) false))).2++[])):=by
 simp[ze.enc,lay,qT,wO,AV.rows,Nat.add_comm,Nat.add_left_comm]
theorem zy.plx(x:zy):x.enc.pl=true:=by simp[zy.enc,AV.pl,AV.pls,jT (enc:=qQ) (λ_=>rfl),jT qB.plx,jT zQ.plx,jT ze.plx,jT qD.plx,jT zG.plx]
theorem zy.cnx(x:zy):x.enc.cn=true:=by simp[zy.enc,AV.cn,AV.cns,j8 (enc:=qQ) (λ_=>rfl),j8 qB.cnx,j8 zQ.cnx,j8 ze.cnx,j8 qD.cnx,j8 zG.cnx]
theorem zy.layE(x:zy)(n:Nat):lay x.enc n=(.agg [sQ 1 (n) x.Y.length,.slice 1 (n+AV.rows (.lst 1 (x.Y.map qD.enc) false)) 0 x.Q.length false,iI x.Every,iI x.I,.slice 5 (n+AV.rows (.lst 1 (x.Y.map qD.enc) false)+AV.rows (lQ x.Q)) 0 x.Net.G.length false,.slice 3 (n+AV.rows (.lst 1 (x.Y.map qD.enc) false)+AV.rows (lQ x.Q)+AV.rows (.lst 5 (x.Net.G.map qB.enc) false)) 0 x.Origins.length false,.slice 2 (n+AV.rows (.lst 1 (x.Y.map qD.enc) false)+AV.rows (lQ x.Q)+AV.rows (.lst 5 (x.Net.G.map qB.enc) false)+AV.rows (.lst 3 (x.Origins.map zG.enc) false)) 0 x.Breaks.length false,.slice 3 (n+AV.rows (.lst 1 (x.Y.map qD.enc) false)+AV.rows (lQ x.Q)+AV.rows (.lst 5 (x.Net.G.map qB.enc) false)+AV.rows (.lst 3 (x.Origins.map zG.enc) false)+AV.rows (.lst 2 (x.Breaks.map zQ.enc) false)) 0 x.Points.length false],(lay (.lst 1 (x.Y.map qD.enc) false) (n)).2++((lay (lQ x.Q) (n+AV.rows (.lst 1 (x.Y.map qD.enc) false))).2++((lay (.lst 5 (x.Net.G.map qB.enc) false) (n+AV.rows (.lst 1 (x.Y.map qD.enc) false)+AV.rows (lQ x.Q))).2++((lay (.lst 3 (x.Origins.map zG.enc) false) (n+AV.rows (.lst 1 (x.Y.map qD.enc) false)+AV.rows (lQ x.Q)+AV.rows (.lst 5 (x.Net.G.map qB.enc) false))).2++((lay (.lst 2 (x.Breaks.map zQ.enc) false) (n+AV.rows (.lst 1 (x.Y.map qD.enc) false)+AV.rows (lQ x.Q)+AV.rows (.lst 5 (x.Net.G.map qB.enc) false)+AV.rows (.lst 3 (x.Origins.map zG.enc) false))).2++((lay (.lst 3 (x.Points.map ze.enc) false) (n+AV.rows (.lst 1 (x.Y.map qD.enc) false)+AV.rows (lQ x.Q)+AV.rows (.lst 5 (x.Net.G.map qB.enc) false)+AV.rows (.lst 3 (x.Origins.map zG.enc) false)+AV.rows (.lst 2 (x.Breaks.map zQ.enc) false))).2++[])))))):=by
 simp[zy.enc,lay,qT,wO,AV.rows,Nat.add_assoc,Nat.add_comm,Nat.add_left_comm]
theorem qII{E:Ev}{d w:Nat}{z:AV}{k k':IntKind}{n m:Nat}{l:List qC}{ks:List Fr1}{s lo:qp}{h:List qA}{Q:qi->VSt->Prop}(hnm:n<=m)(hm:m<=4294967296)
  (hr:JD E (some d) (.row w (List.replicate n z) true) (sQ w h.length n) l ks ⟨s,lo,h⟩ Q):Mks E (some d) w z (some (.int k (n:Nat))) (some (.int k' (m:Nat))) l ks ⟨s,lo,h⟩ Q:=by
 unfold Mks;refine⟨by omega,by omega,by simp only[LIM];omega, ?_⟩;simpa only [iTn]using hr
theorem flat{α:Type}{enc:α->AV}(h:∀x n,lay (enc x) n=(enc x,[])):∀(xs:List α)(n:Nat),qT (xs.map enc) n=(xs.map enc,[])
 |[],_=>rfl
 | x::xs,n=>by simp only[lMc,qT,h,lNi,nAz,flat h xs,lNa]
theorem qH.flat(xs:List qH)(n:Nat):qT (xs.map qH.enc) n=(xs.map qH.enc,[]):=Go.Ab.flat (λx n=>qH.layE x n) xs n
theorem zG.flat(xs:List zG)(n:Nat):qT (xs.map zG.enc) n=(xs.map zG.enc,[]):=Go.Ab.flat (λx n=>zG.layE x n) xs n
theorem zQ.flat(xs:List zQ)(n:Nat):qT (xs.map zQ.enc) n=(xs.map zQ.enc,[]):=Go.Ab.flat (λx n=>zQ.layE x n) xs n
theorem VJ(xs:List Int)(hz:xs.length<=4194304):Fresh Gm 401 [lQ xs] (lQ xs):=
 Yg (w:=1) (gk _ F401) (lI xs) (jT (λ_=>rfl) xs) (qb shI.tree xs) (by simpa using hz)
theorem qnX(xs:List qH)(hz:xs.length<=4194304):Fresh Gm 1373 [.lst 2 (xs.map qH.enc) false] (.lst 2 (xs.map qH.enc) false):=
 Yg (w:=2) (gk _ qD3) (qH.flat xs) (jT qH.plx xs) (qb qH.isSh.tree xs) (by simpa using hz)
theorem qnV(x:qB)(hz:x.sz<=1048576):Fresh Gm 1085 [x.enc] x.enc:=by
 unfold qB.sz at hz;refine fI US (by simp[AV.trees,go_sem]) (qB.plx x) ?_;simp only[US,qM,go_sem];refine qa rfl ?_;simp only[qB.enc];simp only[go_sem];refine J3 (VJ x.D (by omega)) ?_;simp only[go_sem,qHS];refine J3 (qnX x.P (by omega)) ?_;simp only[go_sem,qHS];refine lsA ?_;simp only[go_sem];exact XR (pre:=[]) (post:=[]) (t:=x.enc) (qB.plx x) (by simp[jS,qB.layE,jR]) (by simp[qB.layE,jR])
theorem n798(n:qD)(hz:n.sz<=1048576):Fresh Gm 798 [n.enc] n.enc:=by
 unfold qD.sz at hz;refine fI kV (by simp[AV.trees,go_sem]) (qD.plx n) ?_;simp only[kV,qM,go_sem];refine qa rfl ?_;simp only[go_sem];refine qII (n:=0) (by omega) (by omega) ?_;simp only[go_sem];refine Sem.loop (λi:Nat=>i<=n.G.length) (λi=>(⟨[(14,iI (i:Nat)),(13,iI (n.G.length:Nat)),(12,.lst 5 (n.G.map qB.enc) false)],[(3,.agg [sQ 5 0 i]),(2,.agg [.nils])],.row 5 (qT ((n.G.take i).map qB.enc) 1).1 true::(qT ((n.G.take i).map qB.enc) 1).2⟩:VSt)) (λi=>n.G.length-i) 0 (by kernel_rfl) (nZl _) csA ?_;rintro i hi;simp only[go_sem];apply qU<;>intro hc<;>simp only[hc,go_sem]
 ·have hlt:i<n.G.length:=by have:=odT hc;omega
  have hsz:qB.sz n.G[i]<=zD qB.sz n.G:=jr (f:=qB.sz) (gMm hlt);simp only[gMp,gEg hlt,oMs,go_sem];refine lsA ?_;simp only[go_sem];refine J3 (qnV n.G[i] (by omega)) ?_;simp only[go_sem];refine qiF (by rw[qmV (qB.plx _)];rfl) ?_;simp only[go_sem];have hA:(qT ((n.G.take i).map qB.enc) 1).1.length=i:=by rw[Ja];simp;omega
  refine WD (len:=i) (el:=(qT ((n.G.take i).map qB.enc) 1).1) qmO rfl hA (by omega) ?_;simp only[go_sem];simp only[wuA (n:=i)];refine qd (i+1) (by omega) (by omega) ?_;have e:(n.G.take (i+1)).map qB.enc=(n.G.take i).map qB.enc++[qB.enc n.G[i]]:=by
   rw[lTs hlt,lMa];rfl
  refine Can.push (w:=5) (ps:=[]) (A:=(n.G.take i).map qB.enc) (t:=n.G[i].enc) (b:=0) rfl (jT qB.plx _) (qB.plx _) rfl rfl ?_ ?_
   ⟨⟨_,rfl,.tree rfl⟩,⟨_,rfl,.tree rfl⟩,⟨_,rfl,.tree (by simp[AV.tree,qb qB.isSh.tree])⟩,trivial⟩ ⟨⟨_,rfl,.agg rfl (VR2s.cons (.slice (qpQ.trans ?_)) VR2s.nil).2⟩,⟨_,rfl,.tree rfl⟩,trivial⟩
  ·simp only[qT,wO,lCa,lNa,lSz,lAa,nZa,Nat.add_comm 1]
  ·rw[e];simp only[qT,lNa,nZa]
  ·simp only[lAp,lCo,lNi,wO,jR];congr 2;omega
 ·obtain rfl:i=n.G.length:=by have:=odF hc;omega
  simp only[lTl];exact XR (t:=n.enc) (pre:=[]) (post:=[]) (qD.plx n) (by simp[jS,qD.layE]) (by simp[qD.layE,lay])
theorem VK(xs:List Int)(hz:xs.length<=4194304):Fresh Gm 402 [lQ xs] (lQ xs):=by
 refine fI K6 (by simp[AV.trees,AV.tree,qb shI.tree]) (jT (λ_=>rfl) xs) ?_;simp only[K6,qM,go_sem];refine ZZ Els.lst (by simp;omega) ?_;simp only[go_sem];exact XR (t:=lQ xs) (pre:=[]) (post:=[]) (jT (λ_=>rfl) xs) (by simp[jS,lay]) (by simp[lay,lI])
theorem qZ{α:Type}{xs:List α}{i:Nat}{x:α}(h:xs[i]?=some x):i<xs.length:=(gSi.1 h).1
def pv(x:qB)(p:Nat):AV:=if x.P.length=0 then .lst 2 [] false else sQ 2 p x.P.length
section
variable {x:qB} {p:Nat}
end
section
variable {w:Nat} {post:List AV} {base:Nat->Prop} {nid aid:Nat} {ps:List Nat} {h h':List qA} {N:Ags}
end
section
variable {w:Nat} {post:List AV} {base:Nat->Prop} {nid:Nat} {h:List qA} {N:Ags} {K:AV->List qA->Prop} {a s c k:Nat}
theorem ql8{len id a:Nat}(h:a<len):idx 5 (some (sQ 5 id len)) (some (iI (a:Int)))=some (.ptr id a 0):=by rw[qW h,nZa]
end
section
variable {w:Nat} {post:List AV} {base:Nat->Prop} {nid:Nat} {h:List qA} {N:Ags} {K:AV->List qA->Prop} {a s c k:Nat}
end
section
variable {w:Nat} {post:List AV} {base:Nat->Prop} {nid aid:Nat} {ps:List Nat} {h:List qA} {N:Ags} {K:AV->List qA->Prop} {a s c k:Nat}
abbrev hole:qB:=⟨0,0,0,[],[]⟩
end
def hiI(xs:Ags):Int:=xs.foldl (λm x=>if x.L<m then m else x.L) 0
theorem ql6{xs:Ags}{i:Nat}(h:i<xs.length):hiI (xs.take (i+1))=if xs[i].L<hiI (xs.take i)then hiI (xs.take i)else xs[i].L:=by
 unfold hiI;rw[lTs h,List.foldl_append];rfl
def qG6(c p:Int):Int×Int:=
 if c=1\/c=2 then(if inI p 0 0 then(-2,0)else(0,2))else if c=3 then(if inI p 0 3 then(p,0)else(0,2))else if c=4 then(if inI p 0 3 then(p-2,0)else(0,2))
 else if c=5 then(if inI p 0 0 then(-1,0)else(0,2))else if c=6 then(if inI p 0 3 then(p-1,0)else(0,2))else if c=7 then(if inI p 2 600 then(p-2,0)else(0,2))else(0,2)
def qt(bk:List qD)(v:Int):qD:=(bk[v.toNat]?).getD ⟨[]⟩
def qG7(bk:List qD)(x y:qB)(c:Int):Int:=if c=3\/c=4 then(y.P.length:Int)-1 else if c=6 then fieldsOf x else if c=7 then((qt bk x.V).G.length:Int)else 0
def JY(bk:List qD)(x y:qB):Int×Int:=
 if za x y=8 then(0,11)else if za x y=7/\(bk.length:Int)<=x.V then(0,3)else if za x y=7/\8<IntKind.i64.wrap (hiI (qt bk x.V).G+x.L)then(0,9)
 else((qG6 (za x y) (qG7 bk x y (za x y))).1,0)
theorem Yc{a b:Int}:Pure Gm 856 [iI a,iI b] (iI (if b<a then a else b)):=by
 refine pJ ke ?_;simp only[ke,qM,go_sem]
 repeat' (first | (refine qa rfl ?_;simp only[go_sem]) | (first | (apply zF<;>intro hc<;>simp only[hc,go_sem]) | (apply qU<;>intro hc<;>simp only[hc,go_sem])) | refine qN rfl ?_ | refine zT (by rfl) ?_)
 all_goals (simp_all<;>omega)
theorem qiQ{n:qD}(hz:n.sz<=1048576):Pure Gm 1177 [.ept n.enc 0] (iI (hiI n.G)):=by
 refine pJ Ue ?_;simp only[Ue,qM,go_sem];unfold qD.sz at hz;refine Sem.loop (λi:Nat=>i<=n.G.length/\True) (λi=>(⟨[(0,.ept n.enc 0),(3,iI (hiI (n.G.take i))),(4,iI (i:Nat))],[],[]⟩:VSt)) (λi=>n.G.length-i) 0 (by kernel_rfl) ⟨nZl _,by trivial⟩ (Can.sub (by simp[go_sem,hiI]) (by simp[go_sem])) ?_;rintro i ⟨hi,hI⟩;simp only[go_sem];apply qU<;>intro hc<;>simp only[hc,go_sem]
 ·have hlt:i<n.G.length:=by have:=odT hc;omega
  simp only[gMp,gEg hlt,oMs,go_sem];refine qI Yc ?_;simp only[go_sem];rw[<-ql6 hlt];simp only[wuA (n:=i)];refine qd (i+1) ⟨by omega, ?_⟩ (by omega) csA;trivial
 ·obtain rfl:i=n.G.length:=by have:=odF hc;omega
  exact qN rfl (by rw[lTl])
def QH(lev base:Int)(x:qB):qB:={x with L:=if jK x.K then x.L+lev else x.L,P:=x.P.map λp=>⟨p.N+base,p.S⟩}
section
variable {N:Ags} {a b c d:Nat} {x y:qB} {lab lev:Int} {X:Nat->Nat->Prop}
end
section
variable {N:Ags} {a b c d f s n:Nat} {x y:qB} {lab lev:Int} {X:Nat->Nat->Prop}
structure Pr(N:Ags)(a b:Nat)(x y:qB)(X:Nat->Nat->Prop):Prop where
 w:W N X
 x:N[a]?=some x
 y:N[b]?=some y
 ne:a≠b
 l:∀p q,X p q->(p=a\/p=b)->q=0
theorem Has.in(h:Has N a s)(hx:N[a]?=some x):s<x.P.length:=by
 obtain⟨z,hz,hs⟩:=jI.1 h;rw[hx]at hz;cases hz;exact hs
structure Act(R:Nat->Bool)(N:Ags)(a b:Nat)(x y:qB):Prop where
 w:W N λu _=>R u=true
 x:N[a]?=some x
 y:N[b]?=some y
 ne:a≠b
 pa:atP N a 0=some (pt b 0)
 pb:atP N b 0=some (pt a 0)
 ra:R a=false
 rb:R b=false
 rl:∀u,R u=true->u<N.length
variable {R:Nat->Bool}
end
section
variable {N:Ags} {a b c d f s n:Nat} {x y:qB} {lab lev v:Int} {X:Nat->Nat->Prop} {R:Nat->Bool}
end
end Go.Ab
