/- Texts Dbg0 .. Dbg26: the abstract machine, its laws and contracts of functions: lemmas for the statement. No condition. -/
import Derived.Test.YtmjjilcgafiafaaGreatP4
set_option linter.unusedSimpArgs false
set_option linter.unusedVariables false
namespace Go.Ab
open Go
structure qI where
 N:Int
 S:Int
deriving DecidableEq
def qI.enc(x:qI):AV:=.agg [iI x.N,iI x.S]
theorem qI.isSh:Sh qI.enc 2 (some 2):=⟨λx=>by simp[qI.enc,AV.tree,AV.trees],λ_=>rfl,λ_=>rfl,by decide,λx=>by simp[qI.enc]⟩
section
variable {x:qI}
@[go_sem] theorem qI.tr:x.enc.tree=true:=qI.isSh.tree x
@[go_sem] theorem qI.ln:x.enc.cells.length=2:=nr rfl
@[go_sem] theorem qI.all:x.enc.part 0 (some 2)=some x.enc:=nr rfl
@[go_sem] theorem qI.cs:x.enc.cells=[iI x.N,iI x.S]:=nr rfl
@[go_sem] theorem qI.p0:x.enc.part 0 none=some (iI x.N):=nr rfl
@[go_sem] theorem qI.p1:x.enc.part 1 none=some (iI x.S):=nr rfl
@[go_sem] theorem qI.eqf{y:qI}:jh false [1,1] (some x.enc) (some y.enc)=some (.bool (decide (x=y))):=by
 obtain⟨a0,a1⟩:=x;obtain⟨b0,b1⟩:=y;simp only[jh,qI.enc,lMc,List.map_nil,dig,and_self,if_true,wi,Jt,qI.mk.injEq]
 repeat' (split<;>simp_all)
@[go_sem] theorem qI.eqt{y:qI}:jh true [1,1] (some x.enc) (some y.enc)=some (.bool (!decide (x=y))):=by
 have h:=qI.eqf (x:=x) (y:=y);unfold jh at h|-;split<;>simp_all
end
structure qB where
 K:Int
 L:Int
 V:Int
 D:List Int
 P:List qI
def qB.enc(x:qB):AV:=.agg [iI x.K,iI x.L,iI x.V,lQ x.D,.lst 2 (x.P.map qI.enc) false]
theorem qB.isSh:Sh qB.enc 5 (some 5):=⟨λx=>by simp[qB.enc,AV.tree,AV.trees,qY qI.isSh.tree,qY shI.tree],λ_=>rfl,λ_=>rfl,by decide,λx=>by simp[qB.enc]⟩
section
variable {x:qB}
@[go_sem] theorem qB.tr:x.enc.tree=true:=qB.isSh.tree x
@[go_sem] theorem qB.ln:x.enc.cells.length=5:=nr rfl
@[go_sem] theorem qB.all:x.enc.part 0 (some 5)=some x.enc:=nr rfl
@[go_sem] theorem qB.cs:x.enc.cells=[iI x.K,iI x.L,iI x.V,lQ x.D,.lst 2 (x.P.map qI.enc) false]:=nr rfl
@[go_sem] theorem qB.p0:x.enc.part 0 none=some (iI x.K):=nr rfl
@[go_sem] theorem qB.p1:x.enc.part 1 none=some (iI x.L):=nr rfl
@[go_sem] theorem qB.p2:x.enc.part 2 none=some (iI x.V):=nr rfl
@[go_sem] theorem qB.p3:x.enc.part 3 none=some (lQ x.D):=nr rfl
@[go_sem] theorem qB.p4:x.enc.part 4 none=some (.lst 2 (x.P.map qI.enc) false):=nr rfl
end
def qB.sz(x:qB):Nat:=x.D.length+x.P.length
def qB.bd(x:qB):Prop:=x.D.length<=140737488355328/\x.P.length<=140737488355328
structure qD where
 G:List qB
def qD.enc(x:qD):AV:=.agg [.lst 5 (x.G.map qB.enc) false]
theorem qD.isSh:Sh qD.enc 1 (some 1):=⟨λx=>by simp[qD.enc,AV.tree,AV.trees,qY qB.isSh.tree],λ_=>rfl,λ_=>rfl,by decide,λx=>by simp[qD.enc]⟩
section
variable {x:qD}
@[go_sem] theorem qD.tr:x.enc.tree=true:=qD.isSh.tree x
@[go_sem] theorem qD.ln:x.enc.cells.length=1:=nr rfl
@[go_sem] theorem qD.all:x.enc.part 0 (some 1)=some x.enc:=nr rfl
@[go_sem] theorem qD.cs:x.enc.cells=[.lst 5 (x.G.map qB.enc) false]:=nr rfl
@[go_sem] theorem qD.p0:x.enc.part 0 none=some (.lst 5 (x.G.map qB.enc) false):=nr rfl
end
def qD.sz(x:qD):Nat:=(x.G.length+qJ qB.sz x.G)
def qD.bd(x:qD):Prop:=x.G.length<=140737488355328/\(∀y∈x.G,qB.bd y)
structure qU where
 Step:Int
 Def:Int
 Source:Int
deriving DecidableEq
def qU.enc(x:qU):AV:=.agg [iI x.Step,iI x.Def,iI x.Source]
theorem qU.isSh:Sh qU.enc 3 (some 3):=⟨λx=>by simp[qU.enc,AV.tree,AV.trees],λ_=>rfl,λ_=>rfl,by decide,λx=>by simp[qU.enc]⟩
section
variable {x:qU}
@[go_sem] theorem qU.tr:x.enc.tree=true:=qU.isSh.tree x
@[go_sem] theorem qU.ln:x.enc.cells.length=3:=nr rfl
@[go_sem] theorem qU.all:x.enc.part 0 (some 3)=some x.enc:=nr rfl
@[go_sem] theorem qU.cs:x.enc.cells=[iI x.Step,iI x.Def,iI x.Source]:=nr rfl
@[go_sem] theorem qU.p0:x.enc.part 0 none=some (iI x.Step):=nr rfl
@[go_sem] theorem qU.p1:x.enc.part 1 none=some (iI x.Def):=nr rfl
@[go_sem] theorem qU.p2:x.enc.part 2 none=some (iI x.Source):=nr rfl
@[go_sem] theorem qU.eqf{y:qU}:jh false [1,1,1] (some x.enc) (some y.enc)=some (.bool (decide (x=y))):=by
 obtain⟨a0,a1,a2⟩:=x;obtain⟨b0,b1,b2⟩:=y;simp only[jh,qU.enc,lMc,List.map_nil,dig,and_self,if_true,wi,Jt,qU.mk.injEq]
 repeat' (split<;>simp_all)
@[go_sem] theorem qU.eqt{y:qU}:jh true [1,1,1] (some x.enc) (some y.enc)=some (.bool (!decide (x=y))):=by
 have h:=qU.eqf (x:=x) (y:=y);unfold jh at h|-;split<;>simp_all
end
structure qf where
 K:Int
 V:Int
deriving DecidableEq
def qf.enc(x:qf):AV:=.agg [iI x.K,iI x.V]
theorem qf.isSh:Sh qf.enc 2 (some 2):=⟨λx=>by simp[qf.enc,AV.tree,AV.trees],λ_=>rfl,λ_=>rfl,by decide,λx=>by simp[qf.enc]⟩
section
variable {x:qf}
@[go_sem] theorem qf.tr:x.enc.tree=true:=qf.isSh.tree x
@[go_sem] theorem qf.ln:x.enc.cells.length=2:=nr rfl
@[go_sem] theorem qf.all:x.enc.part 0 (some 2)=some x.enc:=nr rfl
@[go_sem] theorem qf.cs:x.enc.cells=[iI x.K,iI x.V]:=nr rfl
@[go_sem] theorem qf.p0:x.enc.part 0 none=some (iI x.K):=nr rfl
@[go_sem] theorem qf.p1:x.enc.part 1 none=some (iI x.V):=nr rfl
@[go_sem] theorem qf.eqf{y:qf}:jh false [1,1] (some x.enc) (some y.enc)=some (.bool (decide (x=y))):=by
 obtain⟨a0,a1⟩:=x;obtain⟨b0,b1⟩:=y;simp only[jh,qf.enc,lMc,List.map_nil,dig,and_self,if_true,wi,Jt,qf.mk.injEq]
 repeat' (split<;>simp_all)
@[go_sem] theorem qf.eqt{y:qf}:jh true [1,1] (some x.enc) (some y.enc)=some (.bool (!decide (x=y))):=by
 have h:=qf.eqf (x:=x) (y:=y);unfold jh at h|-;split<;>simp_all
end
structure qj where
 I:Int
 Net:qD
 Origins:List qU
def qj.enc(x:qj):AV:=.agg [iI x.I,.lst 5 (x.Net.G.map qB.enc) false,.lst 3 (x.Origins.map qU.enc) false]
theorem qj.isSh:Sh qj.enc 3 (some 3):=⟨λx=>by simp[qj.enc,AV.tree,AV.trees,qY qB.isSh.tree,qY qU.isSh.tree],λ_=>rfl,λ_=>rfl,by decide,λx=>by simp[qj.enc]⟩
section
variable {x:qj}
@[go_sem] theorem qj.tr:x.enc.tree=true:=qj.isSh.tree x
@[go_sem] theorem qj.ln:x.enc.cells.length=3:=nr rfl
@[go_sem] theorem qj.all:x.enc.part 0 (some 3)=some x.enc:=nr rfl
@[go_sem] theorem qj.cs:x.enc.cells=[iI x.I,.lst 5 (x.Net.G.map qB.enc) false,.lst 3 (x.Origins.map qU.enc) false]:=nr rfl
@[go_sem] theorem qj.p0:x.enc.part 0 none=some (iI x.I):=nr rfl
@[go_sem] theorem qj.p1:x.enc.part 1 none=some (.lst 5 (x.Net.G.map qB.enc) false):=nr rfl
@[go_sem] theorem qj.p2:x.enc.part 2 none=some (.lst 3 (x.Origins.map qU.enc) false):=nr rfl
end
def qj.sz(x:qj):Nat:=qD.sz x.Net+x.Origins.length
def qj.bd(x:qj):Prop:=qD.bd x.Net/\x.Origins.length<=140737488355328
structure zF where
 Y:List qD
 Q:List Int
 Every:Int
 I:Int
 Net:qD
 Origins:List qU
 Breaks:List qf
 Points:List qj
def zF.enc(x:zF):AV:=.agg [.lst 1 (x.Y.map qD.enc) false,lQ x.Q,iI x.Every,iI x.I,.lst 5 (x.Net.G.map qB.enc) false,.lst 3 (x.Origins.map qU.enc) false,.lst 2 (x.Breaks.map qf.enc) false,.lst 3 (x.Points.map qj.enc) false]
theorem zF.isSh:Sh zF.enc 8 (some 8):=⟨λx=>by simp[zF.enc,AV.tree,AV.trees,qY qB.isSh.tree,qY qf.isSh.tree,qY qj.isSh.tree,qY qD.isSh.tree,qY qU.isSh.tree,qY shI.tree],λ_=>rfl,λ_=>rfl,by decide,λx=>by simp[zF.enc]⟩
section
variable {x:zF}
@[go_sem] theorem zF.tr:x.enc.tree=true:=zF.isSh.tree x
@[go_sem] theorem zF.ln:x.enc.cells.length=8:=nr rfl
@[go_sem] theorem zF.all:x.enc.part 0 (some 8)=some x.enc:=nr rfl
@[go_sem] theorem zF.cs:x.enc.cells=[.lst 1 (x.Y.map qD.enc) false,lQ x.Q,iI x.Every,iI x.I,.lst 5 (x.Net.G.map qB.enc) false,.lst 3 (x.Origins.map qU.enc) false,.lst 2 (x.Breaks.map qf.enc) false,.lst 3 (x.Points.map qj.enc) false]:=nr rfl
@[go_sem] theorem zF.p0:x.enc.part 0 none=some (.lst 1 (x.Y.map qD.enc) false):=nr rfl
@[go_sem] theorem zF.p1:x.enc.part 1 none=some (lQ x.Q):=nr rfl
@[go_sem] theorem zF.p2:x.enc.part 2 none=some (iI x.Every):=nr rfl
@[go_sem] theorem zF.p3:x.enc.part 3 none=some (iI x.I):=nr rfl
@[go_sem] theorem zF.p4:x.enc.part 4 none=some (.lst 5 (x.Net.G.map qB.enc) false):=nr rfl
end
def zF.sz(x:zF):Nat:=(x.Y.length+qJ qD.sz x.Y)+x.Q.length+qD.sz x.Net+x.Origins.length+x.Breaks.length+(x.Points.length+qJ qj.sz x.Points)
def zF.bd(x:zF):Prop:=x.Y.length<=140737488355328/\(∀y∈x.Y,qD.bd y)/\x.Q.length<=140737488355328/\qD.bd x.Net/\x.Origins.length<=140737488355328/\x.Breaks.length<=140737488355328/\x.Points.length<=140737488355328/\(∀y∈x.Points,qj.bd y)
set_option maxRecDepth 10000
def nx(e:Nat):qG->Nat
 |.mk _ (some d) _ _ _=>d
 | _=>e
def bP:Nat->Nat->List (Nat->Nat->qG)->List qG
 | _,_,[]=>[]
 | i,e,f::l=>f i e::bP (i+1) (nx e (f i e)) l
abbrev bO(e:Nat)(l:List (Nat->Nat->qG)):List qG:=bP 0 e l
@[go_sem] theorem nx_s{a b d:Nat}{g o c}:nx a (.mk b (some d) g o c)=d:=nr rfl
@[go_sem] theorem nx_n{a b:Nat}{g o c}:nx a (.mk b none g o c)=a:=nr rfl
@[go_sem] theorem bP_n{i d:Nat}:bP i d []=[]:=nr rfl
@[go_sem] theorem bP_c{i d:Nat}{f l}:bP i d (f::l)=f i d::bP (i+1) (nx d (f i d)) l:=nr rfl
abbrev sK:qQ:=.skip
abbrev cD(k:Nat)(a b:qQ):qQ:=.cond (.t k) a b
abbrev rg(l:List qG):qQ:=.reg true l
abbrev rB(e:Nat)(l:List (Nat->Nat->qG)):qQ:=.reg true (bO e l)
abbrev sr(l:List qG)(c:qQ):qQ:=.seq (.reg true l) c
abbrev sB(e:Nat)(l:List (Nat->Nat->qG))(c:qQ):qQ:=.seq (.reg true (bO e l)) c
abbrev uA(x:AOp)(i e:Nat):qG:=.mk i (some (e+1)) none x []
abbrev uB(x:AOp)(i _:Nat):qG:=.mk i none none x []
abbrev uC(d:Nat)(f:Nat->Nat->qG)(i _:Nat):qG:=f i d
abbrev uD(i:Nat)(f:Nat->Nat->qG)(_ d:Nat):qG:=f i d
def sG(k:Nat)(b:Bool):qG->qG
 |.mk i d _ o c=>.mk i d (some (k,b)) o c
@[go_sem] theorem sG_q{k b i d g o c}:sG k b (.mk i d g o c)=.mk i d (some (k,b)) o c:=nr rfl
def uE(k:Nat)(f:Nat->Nat->qG)(i d:Nat):qG:=sG k true (f i d)
@[go_sem] theorem uE_q{k f i d}:uE k f i d=sG k true (f i d):=nr rfl
def uF(k:Nat)(f:Nat->Nat->qG)(i d:Nat):qG:=sG k false (f i d)
@[go_sem] theorem uF_q{k f i d}:uF k f i d=sG k false (f i d):=nr rfl
def sC(l:List qG):qG->qG
 |.mk i d g o _=>.mk i d g o l
@[go_sem] theorem sC_q{l i d g o c}:sC l (.mk i d g o c)=.mk i d g o l:=nr rfl
def uG(l:List qG)(f:Nat->Nat->qG)(i d:Nat):qG:=sC l (f i d)
@[go_sem] theorem uG_q{l f i d}:uG l f i d=sC l (f i d):=nr rfl
abbrev uH(d t i _e:Nat):qG:=.mk i (some d) none (.mov (.t t)) []
abbrev wd(x:AOp)(i e:Nat):qG:=.mk i (some (e+1)) none x []
abbrev wn(x:AOp)(i _e:Nat):qG:=.mk i none none x []
abbrev uL(x0:Nat):=wd (.nop x0)
abbrev uM(x0 x1:Nat):=wd (.lload x0 x1 none)
abbrev uI(x0:Nat):=wd (.mov (.t x0))
abbrev uU(x0 x1:Nat)(i e:Nat):=wd (.call x0 [.t x1,.t e]) i e
abbrev uO(x0:Int):=wd (.mov (.c (iI x0)))
abbrev ue(x0 x1:Nat):=wd (.lbox x0 (.t x1))
abbrev uQ(i e:Nat):=wd (.mov (.t e)) i e
abbrev ua(x0:Nat)(i e:Nat):=wd (.pick (.t x0) (.t e) (.c (.bool false))) i e
abbrev uV:=wd (.mov (.c (.bool false)))
abbrev uR(i e:Nat):=wd (.len (.t e)) i e
abbrev uT(x0 x1:Nat)(i e:Nat):=wd (.iaddr x0 (.t x1) (.t e)) i e
abbrev uK(x0:Nat)(i e:Nat):=wd (.faddr x0 (.t e)) i e
abbrev uJ(i e:Nat):=wd (.load none (.t e)) i e
abbrev uZ(x0:Nat)(x1:Int):=wd (.bin .eql (.t x0) (.c (iI x1)))
abbrev uW(x0:Int)(i e:Nat):=wd (.bin .eql (.t e) (.c (iI x0))) i e
abbrev uN(i e:Nat):=wd (.nilchk (.t e)) i e
abbrev u5:=wd (.mov (.c (.bool true)))
abbrev uP(x0:Nat)(i e:Nat):=wd (.call x0 [.t e]) i e
abbrev ur(x0:Nat)(x1:Int)(i e:Nat):=wd (.iaddr x0 (.t e) (.c (iI x1))) i e
abbrev uk(x0:Nat)(i e:Nat):=wd (.pick (.t x0) (.c (.bool true)) (.t e)) i e
abbrev ud(i e:Nat):=wd (.not (.t e)) i e
abbrev un(x0:Nat)(i e:Nat):=wd (.bin .lss (.t x0) (.t e)) i e
abbrev ub(x0:Int)(i e:Nat):=wd (.bin .add (.t e) (.c (iI x0))) i e
abbrev vK(x0 x1 x2 x3 x4 x5:Nat):=wd (.build (.agg [iI 0,iI 0]) [(x0,x1,.t x2),(x3,x4,.t x5)])
abbrev uj:=wd (.lalloc (.agg [iI 0,iI 0]))
abbrev uX(x0 x1 x2 x3:Nat):=wn (.lstore x0 x1 x2 (.t x3))
abbrev uY(x0:Nat)(i e:Nat):=wd (.load (some x0) (.t e)) i e
abbrev uS(x0 x1 x2:Nat):=wd (.lload x0 x1 (some x2))
abbrev u9(x0 x1 x2 x3:Nat):=wd (.bslice x0 (.agg [iI 0,iI 0]) x1 [(x2,.t x3)])
abbrev uq(x0 x1:Nat)(i e:Nat):=wd (.app x0 (.t x1) (.t e)) i e
abbrev vE(x0:Nat):=wd (.mov (.c (.lst x0 [] true)))
abbrev uo:=wd (.mov (.c (.nils)))
abbrev uv(x0 x1 x2:Nat)(i e:Nat):=wd (.call x0 [.t x1,.t x2,.t e]) i e
abbrev ui(x0 x1 x2:Nat)(i e:Nat):=wn (.lstore x0 x1 x2 (.t e)) i e
abbrev ut:=wd (.lalloc (.agg [iI 0,iI 0,iI 0,.nils,.nils]))
abbrev vI:=wd (.lalloc (.agg [.nils]))
abbrev ug(x0 x1 x2:Nat):=wd (.iaddr x0 (.t x1) (.t x2))
abbrev uy(x0:Nat)(i e:Nat):=wd (.bin .lss (.t e) (.t x0)) i e
abbrev ux(x0:Nat)(x1:Int):=wd (.bin .add (.t x0) (.c (iI x1)))
abbrev uu(x0:Nat)(i e:Nat):=wd (.bin .neq (.t x0) (.t e)) i e
abbrev uw(x0 x1:Nat):=wd (.faddr x0 (.t x1))
abbrev vM(x0 x1:Nat):=wd (.call x0 [.t x1])
abbrev uf(x0 x1:Nat):=wd (.ext (.t x0) x1)
abbrev vV(x0 x1 x2 x3:Nat):=wd (.bslice x0 (.agg [iI 0,iI 0,iI 0,.nils,.nils]) x1 [(x2,.t x3)])
abbrev uc(x0 x1:Nat)(i e:Nat):=wn (.store x0 (.t e) (.t x1)) i e
abbrev vD(x0:Nat):=wd (.nilchk (.t x0))
abbrev vC(x0 x1 x2 x3 x4 x5:Nat):=wd (.build (.agg [iI 0,iI 0,iI 0,iI 0]) [(x0,x1,.t x2),(x3,x4,.t x5)])
abbrev vG(x0 x1 x2 x3:Nat):=wd (.bslice x0 (.agg [iI 0,iI 0,iI 0,iI 0]) x1 [(x2,.t x3)])
abbrev vN(x0 x1:Nat)(x2:Int):=wd (.build (.agg [iI 0,iI 0,iI 0,.nils,.nils]) [(x0,x1,.c (iI x2))])
abbrev vH(x0 x1:Nat)(x2:Int)(x3 x4 x5:Nat):=wd (.build (.agg [iI 0,iI 0]) [(x0,x1,.c (iI x2)),(x3,x4,.t x5)])
abbrev vY(x0 x1 x2 x3 x4 x5 x6 x7 x8 x9 x10 x11:Nat):=wd (.build (.agg [iI 0,iI 0,iI 0,.nils,.nils]) [(x0,x1,.t x2),(x3,x4,.t x5),(x6,x7,.t x8),(x9,x10,.t x11)])
abbrev vL:=wd (.build (.agg [iI 0,iI 0]) [])
abbrev vJ(x0:Nat)(x1:Int)(x2 x3 x4:Nat):=wd (.bslice x0 (iI x1) x2 [(x3,.t x4)])
abbrev vO(x0 x1 x2 x3 x4 x5 x6 x7 x8 x9 x10 x11 x12 x13 x14:Nat):=wd (.build (.agg [iI 0,iI 0,iI 0,.nils,.nils]) [(x0,x1,.t x2),(x3,x4,.t x5),(x6,x7,.t x8),(x9,x10,.t x11),(x12,x13,.t x14)])
abbrev vP(x0:Nat):=wd (.halloc x0 (.agg [iI 0,iI 0,iI 0,.nils,.nils]))
abbrev vR(x0 x1 x2 x3 x4 x5:Nat):=wd (.bslice x0 (.agg [iI 0,iI 0,iI 0,iI 0]) x1 [(x2,.t x3),(x4,.t x5)])
abbrev ve(x0 x1:Nat)(x2:Int)(x3 x4 x5:Nat):=wd (.build (.agg [iI 0,iI 0,iI 0,.nils,.nils]) [(x0,x1,.c (iI x2)),(x3,x4,.t x5)])
abbrev vS(x0 x1 x2 x3 x4 x5:Nat):=wd (.bslice x0 (.agg [iI 0,iI 0]) x1 [(x2,.t x3),(x4,.t x5)])
abbrev vT(x0 x1:Nat)(x2:Int)(x3 x4 x5 x6 x7 x8:Nat):=wd (.build (.agg [iI 0,iI 0,iI 0,.nils,.nils]) [(x0,x1,.c (iI x2)),(x3,x4,.t x5),(x6,x7,.t x8)])
abbrev vd(x0 x1:Nat)(x2:Int)(x3 x4 x5 x6 x7 x8 x9 x10 x11 x12 x13 x14:Nat):=wd (.build (.agg [iI 0,iI 0,iI 0,.nils,.nils]) [(x0,x1,.c (iI x2)),(x3,x4,.t x5),(x6,x7,.t x8),(x9,x10,.t x11),(x12,x13,.t x14)])
abbrev vQ:=wd (.mov (.c (.nilp)))
abbrev uz(x0:Nat):=wd (.load none (.t x0))
abbrev vU(x0 x1:Nat):=wd (.hbox x0 (.t x1))
abbrev vF:=wd (.lalloc (.agg [.nils,iI 0,iI 0,iI 0,.nils]))
abbrev va(x0:Nat):=wd (.halloc x0 (.agg [.nils]))
abbrev vZ(x0 x1:Nat)(x2:Int)(x3 x4:Nat)(x5:Int):=wd (.build (.agg [iI 0,iI 0]) [(x0,x1,.c (iI x2)),(x3,x4,.c (iI x5))])
abbrev vX:=wd (.build (.agg [.nils,iI 0,iI 0,iI 0,.nils]) [])
abbrev vv(x0:Nat)(x1:Int):=wd (.bin .neq (.t x0) (.c (iI x1)))
abbrev vu(x0:Nat)(x1:Int):=wd (.bin .lss (.t x0) (.c (iI x1)))
abbrev vx(x0:Nat)(x1:Int):=wd (.bin .sub (.t x0) (.c (iI x1)))
abbrev vk(x0:Nat)(x1:Int):=wd (.bin .gtr (.t x0) (.c (iI x1)))
abbrev vg(x0 x1:Nat):=wd (.bin .add (.t x0) (.t x1))
abbrev v5(x0 x1:Nat)(x2 x3:Int):=wd (.call x0 [.t x1,.c (iI x2),.c (iI x3)])
abbrev v8(x0 x1 x2 x3 x4:Nat):=wd (.call x0 [.t x1,.t x2,.t x3,.t x4])
abbrev vi(x0:Nat)(x1:Int):=wd (.bin .geq (.t x0) (.c (iI x1)))
abbrev vh(x0 x1:Nat):=wd (.bin .eql (.t x0) (.t x1))
abbrev vp(x0 x1:Nat):=wd (.bin .gtr (.t x0) (.t x1))
abbrev vt(x0:Nat)(x1:Int):=wd (.bin .leq (.t x0) (.c (iI x1)))
abbrev vj(x0 x1:Nat):=wd (.bin .geq (.t x0) (.t x1))
abbrev v7(x0 x1:Nat)(x2:Int)(x3:Nat):=wd (.call x0 [.t x1,.c (iI x2),.t x3])
abbrev vf(x0:Int)(x1:Nat):=wd (.bin .add (.c (iI x0)) (.t x1))
abbrev vz(x0 x1:Nat):=wd (.bin .sub (.t x0) (.t x1))
abbrev UF(x0 x1 x2 x3:Nat):=wd (.seq false [x0,x1] (.t x2) (.t x3))
abbrev UC(x0 x1:Nat):=wd (.isnil x0 false (.t x1))
abbrev UE(x0 x1 x2:Nat):=wd (.mksl x0 (.agg [iI 0,iI 0]) (.t x1) (.t x2))
abbrev UD(x0:Nat)(x1:Int)(x2:Nat):=wd (.mksl x0 (.agg [iI 0,iI 0,iI 0,.nils,.nils]) (.c (iI x1)) (.t x2))
def F338:qK:=XE
def qDR:qK:=XE
abbrev qfT:=bO 4 [uL 2,uM 2 3,uI 1,uU 338 6,uH 1 8]
abbrev qfU:=bO 10 [uL 2,uM 2 4,uI 1,uU 1173 12,uH 1 14]
abbrev qfS:=sr qfU (.seq (sB 14 [uI 1,vu 15 0] (cD 16 (sr [uO (-1) 0 3] .ret) sK)) (sB 16 [uI 1,uH 4 17] .ret))
def F852:qK:=⟨2,18,[.t 4],sB 1 [ue 5 0,uC 3 (uO 0)] (sr qfT (.seq (sB 8 [uI 1,vu 9 0] (cD 10 (sr [uO (-1) 0 3] .ret) sK)) qfS))⟩
def F501:qK:=szS 5 (some 5) 852
abbrev qYI:=bO 4 [uL 2,uM 2 0,uI 1,uU 501 6,uH 1 8]
abbrev qYH:=sr qYI (.seq (sB 8 [uI 1,vu 9 0] (cD 10 (sr [uO (-1) 0 3] .ret) sK)) (sB 10 [uI 1,uH 4 11] .ret))
def kY:qK:=⟨2,12,[.t 4],sB 1 [ue 1 0,uC 3 (uO 0)] qYH⟩
def F181:qK:=szS 1 (some 1) 182
abbrev qZZ:=bO 6 [uI 0,uI 1,vj 7 8,uQ,uE 10 (uI 0),uE 10 (uI 2),uE 10 (uA (.bin .leq (.t 11) (.t 12))),ua 10,uH 6 14]
def F340:qK:=⟨3,15,[.t 6],sr [uV 0 5] (sr qZZ .ret)⟩
abbrev qbO:=bO 4 [uL 3,uM 3 0,uI 0,uR,vx 8 1,v7 340 6 0 9,uQ,uE 11 (uL 3),uE 11 (uM 3 1),uE 11 (uI 0),uE 11 (uL 3),uE 11 (uM 3 0),uE 11 (uT 5 14),uE 11 (uK 4),uE 11 uJ,uE 11 uR,uE 11 (vx 20 1),uE 11 (v7 340 13 0 21),ua 11,uH 4 23]
def F488:qK:=⟨2,24,[.t 4],sB 2 [ue 2 1,uV] (sr qbO .ret)⟩
abbrev qV0:qQ:=.seq (sB 6 [uI 1,v5 340 7 0 3] (cD 8 (sB 8 [uI 1,vf 1 9,uH 4 10] .ret) sK)) (sr [uO 0 0 3] .ret)
abbrev qV1:=sB 15 [uZ 13 5,uH 14 16] (cD 14 sK (sB 16 [uZ 13 6,uH 14 17] (cD 14 sK (rB 17 [uZ 13 12,uH 14 18]))))
abbrev qV2:=sB 19 [uZ 13 8,uH 19 20] (cD 19 sK (sB 20 [uZ 13 10,uH 19 21] (cD 19 sK (rB 21 [uZ 13 11,uH 19 22]))))
abbrev qV3:=sB 24 [uZ 13 3,uH 23 25] (cD 23 sK (sB 25 [uZ 13 4,uH 23 26] (cD 23 sK (rB 26 [uZ 13 7,uH 23 27]))))
abbrev qV4:=cD 14 (sr [uO 1 0 3] .ret) (.seq qV2 (cD 19 (sr [uO 2 0 3] .ret) (.seq (sB 23 [uZ 13 2,uH 23 24] (cD 23 sK qV3)) (cD 23 (sr [uO 3 0 3] .ret) sK))))
abbrev qV5:qQ:=.seq (sB 10 [uI 1,vv 11 0] (cD 12 (sr [uO 0 0 3] .ret) sK)) (.seq (sr [uI 0 0 12] (.blk 0 (.seq (sB 14 [uZ 13 1,uH 14 15] (cD 14 sK qV1)) qV4))) (sr [uO 0 0 3] .ret))
def Kx:qK:=⟨2,28,[.t 4],sr [uO 0 0 3] (.seq (sB 4 [uI 0,uW 9] (cD 6 qV0 sK)) qV5)⟩
abbrev qWB:=bO 2 [uI 0,uN,uK 0,uJ,uW 9]
abbrev qWC:=bO 7 [uI 0,uN,uK 4,uJ,uR,vx 12 1,uH 2 13]
def K0:qK:=⟨1,14,[.t 2],sr [uO 0 0 1] (.seq (sr qWB (cD 7 (sr qWC .ret) sK)) (sr [uO 0 0 1] .ret))⟩
abbrev qV6:=sB 10 [uZ 3 10,uH 4 11] (cD 4 sK (sB 11 [uZ 3 11,uH 4 12] (cD 4 sK (rB 12 [uZ 3 12,uH 4 13]))))
abbrev qV7:=sB 7 [uZ 3 7,uH 4 8] (cD 4 sK (sB 8 [uZ 3 8,uH 4 9] (cD 4 sK (sB 9 [uZ 3 9,uH 4 10] (cD 4 sK qV6)))))
abbrev qV8:=sB 4 [uZ 3 2,uH 4 5] (cD 4 sK (sB 5 [uZ 3 3,uH 4 6] (cD 4 sK (sB 6 [uZ 3 4,uH 4 7] (cD 4 sK qV7)))))
def Ky:qK:=⟨1,14,[.t 2],sr [uV 0 1] (.seq (sr [uI 0 0 2] (.blk 0 (.seq qV8 (cD 4 (sr [u5 0 1] .ret) sK)))) (sr [uV 0 1] .ret))⟩
def kP:qK:=⟨1,5,[.t 2],sr [uV 0 1] (sB 2 [uI 0,v5 340 3 1 12,uH 2 4] .ret)⟩
abbrev qWD:=bO 8 [uI 0,uP 1489,uQ,uE 11 (uI 1),uE 11 (uW 0),ua 11,uH 4 14]
def K1:qK:=⟨2,15,[.t 4],sr [uV 0 3] (.seq (sB 4 [uI 0,uP 1372] (cD 6 (sB 6 [uI 1,v5 340 7 0 8,uH 4 8] .ret) sK)) (sr qWD .ret))⟩
def kQ:qK:=⟨1,5,[.t 2],sr [uV 0 1] (sB 2 [uI 0,v5 340 3 0 23,uH 2 4] .ret)⟩
abbrev qWI:=bO 3 [uI 0,uN,uK 0,uJ]
abbrev qWJ:=bO 9 [uI 0,uN,uK 3,uJ,uR,uW 0,uQ,uE 16 (uI 0),uE 16 uN,uE 16 (uK 2),uE 16 uJ,uE 16 (v5 340 20 (-2147483648) 2147483647),ua 16,uH 2 22]
abbrev qWL:=bO 24 [uI 0,uN,uK 3,uJ,uR,uW 0,uQ,uE 31 (uI 0),uE 31 uN,uE 31 (uK 2),uE 31 uJ,uE 31 (v5 340 35 1 6),ua 31,uH 2 37]
abbrev qWM:=bO 39 [uI 0,uN,uK 3,uJ,uR,uW 1,uQ,uE 46 (uI 0),uE 46 uN,uE 46 (uK 2),uE 46 uJ,uE 46 (v5 340 50 1 6),ua 46,uQ,uE 53 (uI 0),uE 53 uN,uE 53 (uK 3),uE 53 uJ,uE 53 (ur 1 0),uE 53 uJ,uE 53 (v5 340 59 (-2147483648) 2147483647),ua 53,uH 2 61]
abbrev qWN:=bO 63 [uI 0,uN,uK 3,uJ,uR,uW 0,uQ,uE 70 (uI 0),uE 70 uN,uE 70 (uK 2),uE 70 uJ,uE 70 (v5 340 74 0 3),ua 70,uH 2 76]
abbrev qWO:=bO 78 [uI 0,uN,uK 3,uJ,uR,uW 0,uQ,uE 85 (uI 0),uE 85 uN,uE 85 (uK 2),uE 85 uJ,uE 85 (uP 1494),ua 85,uH 2 91]
abbrev qWP:=bO 94 [uI 0,uN,uK 2,uJ,vv 98 0,uQ,uF 100 (uI 0),uF 100 uN,uF 100 (uK 0),uF 100 uJ,uF 100 (uW 11),uF 100 uQ,uE 106 (uI 0),uE 106 uN,uE 106 (uK 3),uE 106 uJ,uE 106 uR,uE 106 (vv 111 2),uF 100 (ua 106),uk 100,uQ,uF 115 (uI 0),uF 115 uN,uF 115 (uK 0),uF 115 uJ,uF 115 (uW 10),uF 115 uQ,uE 121 (uI 0),uE 121 uN,uE 121 (uK 3),uE 121 uJ,uE 121 uR,uE 121 (v5 340 126 1 4),uE 121 ud,uF 115 (ua 121),uk 115]
abbrev qWQ:=bO 130 [uI 3,uI 0,uN,uK 3,uJ,uR,un 131]
abbrev qWR:=bO 139 [uI 0,uN,uK 3,uJ,uI 3,uT 1 143,uJ,uP 1494,ud]
abbrev qWH:qQ:=.loop (.seq (sr qWQ (cD 137 sK (.exit 1))) (.seq (.blk 2 (sr qWR (cD 148 (sr [uV 0 1] .ret) sK))) (rB 137 [uI 3,ub 1,uH 3 139])))
abbrev qWE:qQ:=.seq (sB 92 [uZ 7 10,uH 92 93] (cD 92 sK (rB 93 [uZ 7 11,uH 92 94]))) (cD 92 (.seq (sr qWP (cD 130 (sr [uV 0 1] .ret) sK)) (.seq (sr [uO 0 0 2] (.blk 1 qWH)) (sr [u5 0 1] .ret))) sK)
abbrev qWF:=cD 38 (sr qWM .ret) (sB 62 [uZ 7 9,uH 62 63] (cD 62 (sr qWN .ret) (sB 77 [uZ 7 12,uH 77 78] (cD 77 (sr qWO .ret) qWE))))
abbrev qWG:=sB 8 [uZ 7 6,uH 8 9] (cD 8 (sr qWJ .ret) (sB 23 [uZ 7 7,uH 23 24] (cD 23 (sr qWL .ret) (sB 38 [uZ 7 8,uH 38 39] qWF))))
abbrev qWK:=bO 148 [uI 0,uN,uK 2,uJ,uW 0,uQ,uE 154 (uI 0),uE 154 uN,uE 154 (uK 3),uE 154 uJ,uE 154 uR,uE 154 (uW 0),ua 154,uH 2 161]
def K3:qK:=⟨1,162,[.t 2],sr [uV 0 1] (.seq (sr qWI (.blk 0 qWG)) (sr qWK .ret))⟩
abbrev qMN:=bO 3 [uI 0,uN,uK 0,uJ,uI 0,uG [uJ 3 6] (uP 1384),uU 1371 7,uH 3 10]
abbrev qMO:=bO 10 [uI 3,vk 11 0,uQ,uE 13 (uI 0),uE 13 uN,uE 13 (uK 4),uE 13 uJ,uE 13 uR,uE 13 (uI 3),uE 13 (vh 18 19),ua 13,uQ,uE 22 (uI 0),uE 22 uN,uE 22 (uK 0),uE 22 uJ,uE 22 (uI 0),uE 22 uN,uE 22 (uK 1),uE 22 uJ,uE 22 (uU 1385 26),ua 22,uQ,uE 33 (uI 0),uE 33 (uP 1386),ua 33,uH 2 36]
def U0:qK:=⟨1,37,[.t 2],sr [uV 0 1] (sr qMN (sr qMO .ret))⟩
abbrev qeM:=bO 3 [uI 0,uR,v5 340 5 1 600,ud]
abbrev qeN:=bO 7 [uI 3,uI 0,uR,un 8]
abbrev qeO:=bO 13 [uI 0,uI 3,uT 5 14,uP 1096,ud,uQ,uF 19 (uI 0),uF 19 (uI 3),uF 19 (uT 5 20),uF 19 (uK 0),uF 19 uJ,uF 19 (uW 1),uF 19 (uI 3),uF 19 (uW 0),uF 19 (uA (.beq true (.t 25) (.t 27))),uk 19]
abbrev qeL:qQ:=.loop (.seq (sr qeN (cD 11 sK (.exit 0))) (.seq (.blk 1 (sr qeO (cD 29 (sr [uV 0 1] .ret) sK))) (rB 11 [uI 3,ub 1,uH 3 13])))
def F710:qK:=⟨1,30,[.t 2],sr [uV 0 1] (.seq (sr qeM (cD 7 (sr [uV 0 1] .ret) sK)) (.seq (sr [uO 0 0 2] (.blk 0 qeL)) (sr [u5 0 1] .ret)))⟩
abbrev qZQ:=bO 7 [uI 0,uN,uK 0,uJ,uP 710,ud]
abbrev qZR:=bO 13 [uI 3,uI 0,uN,uK 0,uJ,uR,un 14]
abbrev qZS:=bO 22 [uI 0,uN,uK 0,uJ,uI 3,uT 5 26,uH 4 28]
abbrev qZT:=bO 28 [uI 5,uI 4,uN,uK 4,uJ,uR,un 29]
abbrev qZU:=bO 37 [uI 3,uI 5,vK 0 1 38 1 1 39,uC 5 uj,uX 6 0 2 40]
abbrev qZV:=bO 40 [uI 4,uN,uK 4,uJ,uI 5,uT 2 44,uY 2,uC 6 uj,uX 7 0 2 47]
abbrev qZW:=bO 47 [uS 7 0 2,uS 6 0 2,UF 1 1 48 49,uQ,uF 51 (uI 0),uF 51 uN,uF 51 (uK 0),uF 51 uJ,uF 51 (uS 7 0 2),uF 51 (uU 488 55),uF 51 ud,uk 51,uQ,uF 60 (uI 0),uF 60 uN,uF 60 (uK 0),uF 60 uJ,uF 60 (uL 7),uF 60 (uM 7 0),uF 60 (uT 5 64),uF 60 (uK 4),uF 60 uJ,uF 60 (uL 7),uF 60 (uM 7 1),uF 60 (uT 2 69),uF 60 (uY 2),uF 60 (uS 6 0 2),uF 60 (uA (.seq true [1,1] (.t 73) (.t 74))),uk 60]
abbrev qZN:qQ:=.seq (.blk 3 (sr qZU (sr qZV (sr qZW (cD 76 (sr [uV 0 1] .ret) sK))))) (rB 35 [uI 5,ub 1,uH 5 37])
abbrev qZO:qQ:=.seq (.blk 1 (sr qZS (sr [uO 0 0 4] (.blk 2 (.loop (.seq (sr qZT (cD 35 sK (.exit 2))) qZN)))))) (rB 20 [uI 3,ub 1,uH 3 22])
abbrev qZP:qQ:=.seq (sr qZQ (cD 13 (sr [uV 0 1] .ret) sK)) (.seq (sr [uO 0 0 2] (.blk 0 (.loop (.seq (sr qZR (cD 20 sK (.exit 0))) qZO)))) (sr [u5 0 1] .ret))
def F318:qK:=⟨1,77,[.t 2],sr [uV 0 1] qZP⟩
abbrev qdN:=bO 6 [uI 3,uI 0,uR,un 7]
abbrev qdO:=bO 12 [uI 0,uI 3,uT 1 13,uP 318,ud]
abbrev qdL:qQ:=.loop (.seq (sr qdN (cD 10 sK (.exit 0))) (.seq (.blk 1 (sr qdO (cD 17 (sr [uV 0 1] .ret) sK))) (rB 10 [uI 3,ub 1,uH 3 12])))
abbrev qdM:qQ:=.seq (sB 3 [uI 0,uR,vk 5 24] (cD 6 (sr [uV 0 1] .ret) sK)) (.seq (sr [uO 0 0 2] (.blk 0 qdL)) (sr [u5 0 1] .ret))
def F598:qK:=⟨1,18,[.t 2],sr [uV 0 1] qdM⟩
abbrev qeZ:=bO 6 [uI 4,uI 0,uN,uK 0,uJ,uR,un 7]
abbrev qe0:=bO 15 [uI 0,uN,uK 0,uJ,uI 4,uT 5 19,uK 0,uJ,uW 0]
abbrev qe1:=bO 24 [uI 0,uN,uK 0,uJ,uI 4,uT 5 28,uK 4,uJ,ur 2 0,uY 2,uC 4 uj,uX 5 0 2 34]
abbrev qe2:=bO 34 [uL 5,uM 5 1,uW 0,uQ,uE 38 (uL 5),uE 38 (uM 5 0),uE 38 (uI 4),uE 38 (vp 40 41),ua 38]
abbrev qe3:=bO 43 [uI 3,uI 4,uL 5,uM 5 0,vK 0 1 45 1 1 47,u9 2 1 0 48,uq 2 44,uH 3 50]
abbrev qeX:qQ:=.seq (sr qeZ (cD 13 sK (.exit 0))) (.seq (.blk 1 (.seq (sr qe0 (cD 24 (.exit 1) sK)) (sr qe1 (sr qe2 (cD 43 (rg qe3) sK))))) (rB 13 [uI 4,ub 1,uH 4 15]))
abbrev qeY:=sB 5 [vE 2,uH 3 6] (.seq (sr [uO 1 0 3] (.blk 0 (.loop qeX))) (sB 50 [uI 3,uH 2 51] .ret))
def F742:qK:=⟨1,52,[.t 2],sr [uo 0 1] qeY⟩
abbrev qWZ:=bO 8 [uI 0,uI 1,uU 1385 9,uQ,uE 12 (uI 2),uE 12 (uI 3),uE 12 (uU 1385 13),ua 12,uQ,uE 17 (uI 0),uE 17 (vv 18 1),ua 17,uQ,uE 21 (uI 2),uE 21 (vv 22 1),ua 21,uH 8 24]
def K8:qK:=⟨4,25,[.t 8],sr [uV 0 7] (sr qWZ .ret)⟩
abbrev qX7:=bO 6 [uI 0,v5 340 7 0 8,ud,uQ,uF 10 (uI 1),uF 10 (uI 2),uF 10 (uU 1385 11),uF 10 ud,uk 10]
abbrev qX8:=bO 15 [uI 1,uW 6,uQ,uF 18 (uI 1),uF 18 (uW 12),uk 18]
abbrev qX9:=bO 21 [uI 1,uP 1372,uQ,uE 24 (uI 2),uE 24 (uI 0),uE 24 (vp 25 26),ua 24,uH 6 28]
def kS:qK:=⟨3,29,[.t 6],sr [uV 0 5] (.seq (sr qX7 (cD 15 (sr [uV 0 5] .ret) sK)) (.seq (sr qX8 (cD 21 (sr [u5 0 5] .ret) sK)) (sr qX9 .ret)))⟩
abbrev qYA:=sB 6 [uZ 3 8,uH 4 7] (cD 4 sK (sB 7 [uZ 3 10,uH 4 8] (cD 4 sK (rB 8 [uZ 3 11,uH 4 9]))))
abbrev qYB:=sr [uI 0 0 2] (.blk 0 (.seq (sB 4 [uZ 3 3,uH 4 5] (cD 4 sK (sB 5 [uZ 3 7,uH 4 6] (cD 4 sK qYA)))) (cD 4 (sr [u5 0 1] .ret) sK)))
def kT:qK:=⟨1,10,[.t 2],sr [uV 0 1] (.seq qYB (sr [uV 0 1] .ret))⟩
abbrev qW5:=bO 13 [uI 2,uW 4,uQ,uE 16 (uI 1),uE 16 (uI 3),uE 16 (vh 17 18),ua 16]
abbrev qW6:=bO 20 [uI 1,uI 2,uI 3,uv 1499 21 22]
abbrev qW7:=bO 26 [uI 2,uW 3,uQ,uE 29 (uI 1),uE 29 (uI 3),uE 29 (vh 30 31),ua 29]
abbrev qW0:qQ:=.seq (sB 37 [uZ 36 7,uH 37 38] (cD 37 sK (rB 38 [uZ 36 8,uH 37 39]))) (cD 37 (sr [uO 5 0 7] .ret) (sB 40 [uZ 36 11,uH 40 41] (cD 40 (sr [uO 6 0 7] .ret) sK)))
abbrev qW1:=cD 42 (sB 43 [uI 2,uW 10] (cD 45 (sr [uO 6 0 7] .ret) sK)) (sB 46 [uZ 9 12,uH 46 47] (cD 46 (sB 47 [uI 2,uP 1500] (cD 49 (sr [uO 7 0 7] .ret) sK)) sK))
abbrev qW2:=cD 25 (sr qW7 (cD 33 (sr [uO 1 0 7] .ret) sK)) (sB 34 [uZ 9 6,uH 34 35] (cD 34 (sr [uI 2 0 35] (.blk 1 qW0)) (sB 42 [uZ 9 9,uH 42 43] qW1)))
abbrev qW3:=cD 12 (.seq (sr qW5 (cD 20 (sr [uO 2 0 7] .ret) sK)) (sr qW6 (cD 24 (sr [uO 3 0 7] .ret) sK))) (sB 25 [uZ 9 2,uH 25 26] qW2)
abbrev qW4:=sr [uI 0 0 8] (.blk 0 (sB 10 [uZ 9 5,uH 10 11] (cD 10 (sr [uO 4 0 7] .ret) (sB 12 [uZ 9 4,uH 12 13] qW3))))
def K9:qK:=⟨4,50,[.t 8],sr [uO 0 0 7] (.seq qW4 (sr [uO 0 0 7] .ret))⟩
abbrev qNC:=bO 8 [uI 0,uI 1,uI 2,uI 3,v8 1395 9 10 11 12,ud]
abbrev qND:=bO 14 [uI 0,uI 1,uI 2,uI 3,v8 1396 15 16 17 18,vv 19 0]
abbrev qNE:=bO 20 [uI 2,uI 3,uI 0,uI 1,v8 1396 21 22 23 24,vv 25 0]
abbrev qNB:qQ:=.seq (sr qNC (cD 14 (sr [uO 0 0 7] .ret) sK)) (.seq (sr qND (cD 20 (sr [uO 1 0 7] .ret) sK)) (.seq (sr qNE (cD 26 (sr [uO 2 0 7] .ret) sK)) (sr [uO 0 0 7] .ret)))
def U9:qK:=⟨4,27,[.t 8],sr [uO 0 0 7] qNB⟩
abbrev qNG:=bO 9 [uI 0,uI 1,uI 2,uI 3,v8 1395 10 11 12 13,ud]
abbrev qNH:=bO 15 [uI 0,uI 1,uI 2,uI 3,v8 1396 16 17 18 19,uH 9 20]
abbrev qNI:=bO 22 [uI 2,uI 3,uI 0,uI 1,v8 1396 23 24 25 26,uH 9 27]
abbrev qNF:qQ:=.seq (sB 20 [uI 9,uW 0] (cD 22 (rg qNI) sK)) (.seq (sB 27 [uI 9,uW 0] (cD 29 (sr [uO 8 0 7] .ret) sK)) (sB 29 [uI 9,uH 8 30] .ret))
def KA:qK:=⟨4,31,[.t 8],sr [uO 0 0 7] (.seq (sr qNG (cD 15 (sr [uO 0 0 7] .ret) sK)) (sr qNH qNF))⟩
abbrev qe4:=bO 4 [uI 0,uN,uK 0,uJ,uW 9,uQ,uE 10 (uI 1),uE 10 uN,uE 10 (uK 0),uE 10 uJ,uE 10 (uW 10),ua 10,uQ,uE 17 (uI 0),uE 17 uN,uE 17 (uK 2),uE 17 uJ,uE 17 (uI 1),uE 17 uN,uE 17 (uK 3),uE 17 uJ,uE 17 uR,uE 17 (vj 21 26),ua 17]
abbrev qe5:=bO 28 [uI 0,uN,uK 0,uJ,uW 10,uQ,uE 34 (uI 1),uE 34 uN,uE 34 (uK 0),uE 34 uJ,uE 34 (uW 9),ua 34,uQ,uE 41 (uI 1),uE 41 uN,uE 41 (uK 2),uE 41 uJ,uE 41 (uI 0),uE 41 uN,uE 41 (uK 3),uE 41 uJ,uE 41 uR,uE 41 (vj 45 50),ua 41]
abbrev qe6:=bO 52 [uI 0,uN,uK 0,uJ,uI 0,uN,uK 1,uJ,uI 1,uN,uK 0,uJ,uI 1,uN,uK 1,uJ,v8 1111 56 60 64 68,uH 4 69]
def F744:qK:=⟨2,70,[.t 4],sr [uO 0 0 3] (.seq (sr qe4 (cD 28 (sr [uO 8 0 3] .ret) sK)) (.seq (sr qe5 (cD 52 (sr [uO 8 0 3] .ret) sK)) (sr qe6 .ret)))⟩
def kM:qK:=Ye
abbrev qXI:=bO 3 [uL 1,uM 1 0,uL 3,uX 3 0 1 5]
abbrev qXJ:=bO 6 [uL 1,uM 1 1,uL 3,uX 3 1 1 8]
def XO:qK:=⟨1,11,[.l 2 (some 2)],sB 0 [ue 2 0,uj] (sr [uj 0 2] (sr qXI (sr qXJ (sB 9 [uS 3 0 2,ui 2 0 2] .ret))))⟩
def KI:qK:=toS 2 (some 2) (.agg [iI 0,iI 0]) 1419
abbrev qgC:=bO 3 [uL 1,uM 1 0,uL 3,uX 3 0 1 5]
abbrev qgD:=bO 6 [uL 1,uM 1 1,uL 3,uX 3 1 1 8]
abbrev qgE:=bO 9 [uL 1,uM 1 2,uL 3,uX 3 2 1 11]
abbrev qgF:=bO 12 [uL 1,uM 1 3,uP 147,uL 3,uX 3 3 1 15]
abbrev qgG:=bO 16 [uL 1,uM 1 4,uP 1178,uL 3,uX 3 4 1 19]
abbrev qgB:=sr [ut 0 2] (sr qgC (sr qgD (sr qgE (sr qgF (sr qgG (sB 20 [uS 3 0 5,ui 2 0 5] .ret))))))
def XS:qK:=⟨1,22,[.l 2 (some 5)],sB 0 [ue 5 0,ut] qgB⟩
def F504:qK:=toS 5 (some 5) (.agg [iI 0,iI 0,iI 0,.nils,.nils]) 858
abbrev qYJ:=bO 3 [uL 1,uM 1 0,uP 504,uL 3,uX 3 0 1 6]
def XP:qK:=⟨1,9,[.l 2 (some 1)],sB 0 [ue 1 0,vI] (sr [vI 0 2] (sr qYJ (sB 7 [uS 3 0 1,ui 2 0 1] .ret)))⟩
def kZ:qK:=toS 1 (some 1) (.agg [.nils]) 185
def F774:qK:=Qi 1 none
def F397:qK:=Q8 774
def qDS:qK:=Qi 1 (some 1)
def F859:qK:=Q8 1179
abbrev qcS:=bO 6 [uI 0,uN,uK 0,uJ,uR,uO 0]
abbrev qcT:=bO 13 [uI 12,ug 5 10 12,uY 5,uC 4 ut,uH 4 14,uX 5 0 5 16]
abbrev qcU:=bO 16 [uL 5,uM 5 4,uR,uO 0]
abbrev qcV:=bO 22 [uI 3,uI 4,uI 6,vK 0 1 24 1 1 25,u9 2 1 0 26,uq 2 23,uH 3 28]
abbrev qcQ:=sr [uy 19 0 20] (.seq (cD 21 sK (.exit 2)) (.seq (.blk 3 (sB 21 [uI 20,uH 6 22] (rg qcV))) (rB 28 [ux 20 1,uH 20 29])))
abbrev qcR:=sr [uy 11 0 12] (.seq (cD 13 sK (.exit 0)) (.seq (.blk 1 (sr qcT (sr qcU (.blk 2 (.loop qcQ))))) (rB 29 [ux 12 1,uH 12 30])))
def F554:qK:=⟨1,32,[.t 2],sr [uo 0 1] (sr [uo 0 2] (.seq (sr qcS (.blk 0 (.loop qcR))) (sB 30 [uI 3,uH 2 31] .ret)))⟩
abbrev qfM:=bO 2 [uI 0,vi 3 0,uQ,uE 5 (uI 0),uE 5 (vu 6 24),ua 5,uH 2 8]
def F796:qK:=⟨1,9,[.t 2],sr [uV 0 1] (sr qfM .ret)⟩
abbrev qLK:=bO 2 [uI 0,vi 3 1,uQ,uE 5 (uI 0),uE 5 (vt 6 6),ua 5,uH 2 8]
def Uv:qK:=⟨1,9,[.t 2],sr [uV 0 1] (sr qLK .ret)⟩
abbrev qLL:=bO 2 [uI 0,vi 3 (-2147483648),uQ,uE 5 (uI 0),uE 5 (vt 6 2147483647),ua 5,uH 2 8]
def Uw:qK:=⟨1,9,[.t 2],sr [uV 0 1] (sr qLL .ret)⟩
abbrev qX5:=bO 2 [uI 0,vi 3 1,uQ,uE 5 (uI 0),uE 5 (vt 6 12),ua 5,uH 2 8]
def kO:qK:=⟨1,9,[.t 2],sr [uV 0 1] (sr qX5 .ret)⟩
abbrev qWT:=bO 5 [uI 0,uW 9,uQ,uE 8 (uI 1),uE 8 (vi 9 0),ua 8,uQ,uE 12 (uI 1),uE 12 (vt 13 3),ua 12,uH 5 15]
abbrev qWU:=bO 18 [uI 0,uP 1487,ud,uQ,uF 22 (uI 0),uF 22 (uW 9),uk 22,uQ,uF 26 (uI 1),uF 26 (vv 27 0),uk 26,uH 18 29]
abbrev qWV:=bO 29 [uA (.build (.agg [iI 0,iI 0,iI 0,iI 0,iI 0,iI 0,iI 0,iI 0,iI 0,iI 0,iI 0,iI 0,iI 0]) [(1,1,.c (iI 1)),(2,1,.c (iI 3)),(3,1,.c (iI 3)),(4,1,.c (iI 3)),(5,1,.c (iI 1)),(6,1,.c (iI 1)),(7,1,.c (iI 3)),(8,1,.c (iI 2)),(10,1,.c (iI 2)),(11,1,.c (iI 2)),(12,1,.c (iI 1))]),uI 0,uA (.aidx 13 1 none (.t 30) (.t 31)),uH 4 32]
abbrev qWS:qQ:=.seq (.blk 0 (sr qWT (cD 5 (sB 15 [uI 1,ub 1,uH 4 17] .ret) (sr qWU (cD 18 (sr [uO 0 0 3] .ret) sK))))) (sr qWV .ret)
def K4:qK:=⟨2,33,[.t 4],sr [uO 0 0 3] qWS⟩
abbrev qWW:qQ:=.seq (sB 4 [uI 0,uW 9] (cD 6 (sB 6 [uI 1,vx 7 1,uH 4 8] .ret) sK)) (sr [uO 0 0 3] .ret)
def K5:qK:=⟨2,9,[.t 4],sr [uO 0 0 3] qWW⟩
abbrev qWA:=bO 2 [uI 0,uP 1487,uQ,uE 5 (uI 0),uE 5 (vv 6 1),ua 5,uQ,uE 9 (uI 0),uE 9 (vv 10 5),ua 9,uQ,uE 13 (uI 0),uE 13 (vv 14 6),ua 13,uH 2 16]
def Kz:qK:=⟨1,17,[.t 2],sr [uV 0 1] (sr qWA .ret)⟩
abbrev qX6:=bO 2 [uI 0,vi 3 0,uQ,uE 5 (uI 0),uE 5 (vt 6 8),ua 5,uH 2 8]
def kR:qK:=⟨1,9,[.t 2],sr [uV 0 1] (sr qX6 .ret)⟩
abbrev qWX:=bO 4 [uI 0,uP 1487,uQ,uE 7 (uI 1),uE 7 (uW 0),uE 7 uQ,uF 10 (uI 0),uF 10 (uP 1375),uF 10 uQ,uE 13 (uI 1),uE 13 (uP 1495),uF 10 (ua 13),uE 7 (uk 10),ua 7,uH 4 18]
def K6:qK:=⟨2,19,[.t 4],sr [uV 0 3] (sr qWX .ret)⟩
abbrev qWY:=bO 2 [uI 0,uP 796,ud,uH 2 5]
def K7:qK:=⟨1,6,[.t 2],sr [uV 0 1] (sr qWY .ret)⟩
abbrev qMS:=bO 5 [uL 1,uM 1 4,uR,uW 0,uQ,uF 10 (uL 1),uF 10 (uM 1 0),uF 10 (uL 1),uF 10 (uM 1 0),uF 10 (uL 1),uF 10 (uM 1 4),uF 10 uR,uD 14 (uC 19 (uF 10 (uL 1))),uD 15 (uF 10 (uM 1 4)),uD 16 (uF 10 uR),uD 12 (uC 17 (uF 10 (uU 1388 14))),uD 13 (uF 10 (uU 1387 12)),uC 22 (uF 10 (uu 19)),uk 10,uQ,uF 25 (uL 1),uF 25 (uM 1 0),uF 25 (uL 1),uF 25 (uM 1 1),uF 25 (uU 1389 27),uF 25 ud,uk 25]
abbrev qMT:=bO 32 [uL 1,uM 1 2,uW 0,uL 1,uM 1 3,uR,uW 0,uH 3 35,uI 39]
abbrev qMV:=bO 39 [uL 1,uM 1 3,uA (.call 397 [.t 41,.f 1390]),ud,uH 5 43]
abbrev qMW:=bO 47 [uL 1,uM 1 2,uP 1051,uH 3 50]
abbrev qMX:=bO 52 [uL 1,uM 1 2,uP 1050,uH 3 55]
abbrev qMY:=bO 57 [uL 1,uM 1 2,uP 1050,uQ,uE 61 (uL 1),uE 61 (uM 1 3),uE 61 uR,uE 61 (uW 1),ua 61,uQ,uE 67 (uL 1),uE 67 (uM 1 3),uE 67 (ur 1 0),uE 67 uJ,uE 67 (uP 1051),ua 67,uH 2 73]
abbrev qMZ:=bO 75 [uL 1,uM 1 2,vi 77 0,uQ,uE 79 (uL 1),uE 79 (uM 1 2),uE 79 (vu 81 4),ua 79,uH 3 83]
abbrev qM0:=bO 85 [uL 1,uM 1 3,uR,vi 88 1,uQ,uE 90 (uL 1),uE 90 (uM 1 3),uE 90 uR,uE 90 (vt 93 4),ua 90,uQ,uE 96 (uI 5),ua 96,uH 4 98]
abbrev qM1:=bO 100 [uL 1,uM 1 3,uR,uW 2,uQ,uE 105 (uI 5),ua 105,uH 4 107]
abbrev qM2:=bO 109 [uL 1,uM 1 2,uP 796,uH 3 112]
abbrev qMP:=cD 84 (rg qM0) (sB 99 [uZ 45 11,uH 99 100] (cD 99 (rg qM1) (sB 108 [uZ 45 12,uH 108 109] (cD 108 (rg qM2) sK))))
abbrev qMQ:=sB 56 [uZ 45 8,uH 56 57] (cD 56 (sr qMY .ret) (sB 74 [uZ 45 9,uH 74 75] (cD 74 (rg qMZ) (sB 84 [uZ 45 10,uH 84 85] qMP))))
abbrev qMR:=sB 43 [uL 1,uM 1 0] (.blk 0 (sB 46 [uZ 45 6,uH 46 47] (cD 46 (rg qMW) (sB 51 [uZ 45 7,uH 51 52] (cD 51 (rg qMX) qMQ)))))
abbrev qMU:=bO 112 [uI 3,uQ,uE 114 (uI 4),ua 114,uH 2 116]
def U8:qK:=⟨1,117,[.t 2],sB 0 [ue 5 0,uV] (.seq (sr qMS (cD 32 (sr [uV 0 1] .ret) sK)) (sr qMT (sr qMV (.seq qMR (sr qMU .ret)))))⟩
abbrev qeR:=bO 4 [uI 0,uR,vu 6 1,uQ,uF 8 (uI 0),uF 8 uR,uF 8 (vk 10 600),uk 8]
abbrev qeS:=bO 16 [uI 15,ug 5 13 15,uY 5,uC 3 ut,uH 3 17,uX 4 0 5 19]
abbrev qeT:=bO 19 [uS 4 0 5,uP 1097,ud,uQ,uF 23 (uL 4),uF 23 (uM 4 0),uF 23 (uW 1),uF 23 (uI 3),uF 23 (uW 0),uF 23 (uA (.beq true (.t 26) (.t 28))),uk 23]
abbrev qeP:=sr [uy 14 0 15] (.seq (cD 16 sK (.exit 0)) (.seq (.blk 1 (sr qeS (sr qeT (cD 30 (sr [uV 0 1] .ret) sK)))) (rB 30 [ux 15 1,uH 15 31])))
abbrev qeQ:qQ:=.seq (sr qeR (cD 12 (sr [uV 0 1] .ret) sK)) (.seq (sB 12 [uI 0,uR,uO 0] (.blk 0 (.loop qeP))) (sr [u5 0 1] .ret))
def F711:qK:=⟨1,32,[.t 2],sr [uV 0 1] qeQ⟩
def qDQ:qK:=Qi 2 (some 2)
def F712:qK:=Q8 1098
abbrev qcW:=bO 4 [uI 0,uN,uK 0,uJ,uL 3,uM 3 0,uT 5 8,uK 4,uJ,uL 3,uM 3 1,uT 2 13,uY 2,ui 4 0 2]
def F555:qK:=⟨2,18,[.l 4 (some 2)],sB 2 [ue 2 1,uj] (sr qcW .ret)⟩
abbrev qeW:=bO 4 [uL 3,uM 3 0,vi 6 0,uQ,uE 8 (uL 3),uE 8 (uM 3 0),uE 8 (uI 0),uE 8 uR,uE 8 (un 10),ua 8,uQ,uE 15 (uL 3),uE 15 (uM 3 1),uE 15 (vi 17 0),ua 15,uQ,uE 20 (uL 3),uE 20 (uM 3 1),uE 20 (uI 0),uE 20 (uL 3),uE 20 (uM 3 0),uE 20 (uT 5 23),uE 20 (uK 4),uE 20 uJ,uE 20 uR,uE 20 (un 22),ua 20,uH 4 31]
def F714:qK:=⟨2,32,[.t 4],sB 2 [ue 2 1,uV] (sr qeW .ret)⟩
abbrev qeU:=bO 4 [uS 2 0 2,uU 555 1,uC 3 uj,uX 4 0 2 6]
abbrev qeV:=bO 6 [uS 4 0 2,uS 2 0 2,UF 1 1 7 8,uQ,uF 10 (uw 0 1),uF 10 uJ,uF 10 (uS 4 0 2),uF 10 (uU 714 12),uF 10 ud,uk 10,uQ,uF 17 (uS 4 0 2),uD 13 (uC 19 (uF 17 (uS 2 0 2))),uD 12 (uC 18 (uF 17 (uU 555 1))),uC 20 (uF 17 (uA (.seq true [1,1] (.t 19) (.t 20)))),uk 17,uH 3 22]
def F713:qK:=⟨2,23,[.t 3],sB 1 [ue 2 0,uV] (sr qeU (sr qeV .ret))⟩
abbrev qZX:=bO 2 [uw 0 1,uJ,uP 711,ud]
abbrev qZY:=bO 6 [vM 554 1,uA (.mkfn 713 [.t 1]),uU 712 7,ud,uH 2 10]
def F319:qK:=⟨1,11,[.t 2],sB 0 [vU 1 0,uV] (.seq (sr qZX (cD 6 (sr [uV 0 1] .ret) sK)) (sr qZY .ret))⟩
abbrev qgH:=bO 2 [uS 1 0 1,uP 319,ud,uH 2 5]
def F860:qK:=⟨1,6,[.t 2],sB 0 [ue 1 0,uV] (sr qgH .ret)⟩
abbrev qb1:=bO 2 [uI 0,uR,vt 4 24,uQ,uE 6 (uI 0),uE 6 (uA (.call 859 [.t 7,.f 860])),uE 6 ud,ua 6,uH 2 10]
def F505:qK:=⟨1,11,[.t 2],sr [uV 0 1] (sr qb1 .ret)⟩
abbrev qZ1:=bO 6 [uI 0,uN,uK 0,uJ,uR,uO 0]
abbrev qZ2:=bO 13 [uI 12,ug 5 10 12,uY 5,uC 4 ut,uH 4 14,uX 5 0 5 16]
abbrev qZ3:=bO 16 [uL 5,uM 5 4,ur 2 0,uY 2,uC 5 uj,uX 6 0 2 20]
abbrev qZ4:=bO 20 [uL 6,uM 6 1,uW 0,uQ,uE 24 (uL 6),uE 24 (uM 6 0),uE 24 (uI 4),uE 24 (vp 26 27),ua 24,uQ,uE 30 (uL 5),uE 30 (uM 5 0),uE 30 (vv 32 1),ua 30]
abbrev qZ5:=bO 34 [uI 3,uI 4,uL 6,uM 6 0,vK 0 1 36 1 1 38,u9 2 1 0 39,uq 2 35,uH 3 41]
abbrev qZ0:=sr [uy 11 0 12] (.seq (cD 13 sK (.exit 0)) (.seq (.blk 1 (sr qZ2 (sr qZ3 (sr qZ4 (cD 34 (rg qZ5) sK))))) (rB 41 [ux 12 1,uH 12 42])))
def F376:qK:=⟨1,44,[.t 2],sr [uo 0 1] (sr [uo 0 2] (.seq (sr qZ1 (.blk 0 (.loop qZ0))) (sB 42 [uI 3,uH 2 43] .ret)))⟩
abbrev qYC:=bO 6 [uI 0,uP 1495,ud,uQ,uF 10 (uI 1),uF 10 (uI 2),uF 10 (uU 1389 11),uF 10 ud,uk 10]
abbrev qYD:=bO 15 [uI 1,uW 6,uQ,uF 18 (uI 1),uF 18 (uW 12),uk 18,uQ,uF 22 (uI 1),uF 22 (uP 1375),uF 22 uQ,uE 25 (uI 2),uE 25 (uI 0),uE 25 (vp 26 27),uF 22 (ua 25),uk 22,uH 6 30]
def kU:qK:=⟨3,31,[.t 6],sr [uV 0 5] (.seq (sr qYC (cD 15 (sr [uV 0 5] .ret) sK)) (sr qYD .ret))⟩
abbrev qYE:=bO 2 [uI 0,uW 3,uQ,uF 5 (uI 0),uF 5 (uW 7),uk 5,uQ,uF 9 (uI 0),uF 9 (uW 8),uk 9,uQ,uF 13 (uI 0),uF 13 (uW 10),uk 13,uQ,uF 17 (uI 0),uF 17 (uW 11),uk 17,uH 2 20]
def kV:qK:=⟨1,21,[.t 2],sr [uV 0 1] (sr qYE .ret)⟩
abbrev qXD:=bO 14 [uI 2,uW 4,uQ,uE 17 (uI 1),uE 17 (uI 3),uE 17 (vh 18 19),ua 17,uH 14 21]
abbrev qXE:=bO 22 [uI 1,uI 2,uI 3,uv 1501 23 24,uH 22 26]
abbrev qXF:=bO 28 [uI 2,uW 3,uQ,uE 31 (uI 1),uE 31 (uI 3),uE 31 (vh 32 33),ua 31]
abbrev qW8:qQ:=.seq (sB 39 [uZ 38 7,uH 39 40] (cD 39 sK (rB 40 [uZ 38 8,uH 39 41]))) (cD 39 (sr [uO 5 0 7] .ret) (sB 42 [uZ 38 11,uH 42 43] (cD 42 (sr [uO 6 0 7] .ret) sK)))
abbrev qW9:=cD 44 (sB 45 [uI 2,uW 10] (cD 47 (sr [uO 6 0 7] .ret) sK)) (sB 48 [uZ 9 12,uH 48 49] (cD 48 (sB 49 [uI 2,uP 1502] (cD 51 (sr [uO 7 0 7] .ret) sK)) sK))
abbrev qXA:=cD 27 (sr qXF (cD 35 (sr [uO 1 0 7] .ret) sK)) (sB 36 [uZ 9 6,uH 36 37] (cD 36 (sr [uI 2 0 37] (.blk 2 qW8)) (sB 44 [uZ 9 9,uH 44 45] qW9)))
abbrev qXB:=cD 12 (.blk 1 (sr qXD (cD 14 (sr [uO 2 0 7] .ret) (sr qXE (cD 22 (sr [uO 3 0 7] .ret) sK))))) (sB 27 [uZ 9 2,uH 27 28] qXA)
abbrev qXC:=sr [uI 0 0 8] (.blk 0 (sB 10 [uZ 9 5,uH 10 11] (cD 10 (sr [uO 4 0 7] .ret) (sB 12 [uZ 9 4,uH 12 13] qXB))))
def kA:qK:=⟨4,52,[.t 8],sr [uO 0 0 7] (.seq qXC (sr [uO 0 0 7] .ret))⟩
abbrev qNL:=bO 11 [uI 0,uW 1,uQ,uF 14 (uI 2),uF 14 (uW 1),uk 14,uQ,uF 18 (uI 0),uF 18 (uI 1),uF 18 (uU 1389 19),uF 18 ud,uk 18,uQ,uF 24 (uI 2),uF 24 (uI 3),uF 24 (uU 1389 25),uF 24 ud,uk 24]
abbrev qNM:=bO 29 [uI 0,uI 1,uI 2,uI 3,v8 1398 30 31 32 33,uH 10 34]
abbrev qNN:=bO 37 [uI 2,uI 3,uI 0,uI 1,v8 1398 38 39 40 41,uH 11 42]
abbrev qNJ:qQ:=.seq (sr qNN (sB 42 [uI 11,vv 43 0] (cD 44 (sB 44 [uI 11,uH 8 45,uO 2] .ret) sK))) (sB 7 [uO 8,uO 0] .ret)
abbrev qNK:qQ:=.seq (sr qNL (cD 29 (sB 7 [uO 0,uO 0] .ret) sK)) (.seq (sr qNM (sB 34 [uI 10,vv 35 0] (cD 36 (sB 36 [uI 10,uH 8 37,uO 1] .ret) sK))) qNJ)
def KB:qK:=⟨4,46,[.t 8,.t 9],sB 7 [uO 0,uO 0] qNK⟩
abbrev qe8:=bO 9 [uI 0,uN,uK 0,uJ,uL 3,uM 3 0,uT 5 13,uY 5,uI 0,uN,uK 0,uJ,uL 3,uM 3 1,uT 5 21,uY 5,uC 5 ut,ut,uX 6 0 5 17,uX 7 0 5 25]
abbrev qe9:=bO 26 [uL 6,uM 6 0,uL 6,uM 6 1,uL 7,uM 7 0,uL 7,uM 7 1,v8 1115 28 30 32 34,uH 26 35,uC 35 (uf 26 0),uf 26 1,uH 8 36,uI 37]
abbrev qfA:=bO 39 [uS 7 0 5,uS 6 0 5,uX 6 0 5 40,ui 7 0 5]
abbrev qfB:=bO 41 [uI 8,uW 6,uQ,uE 44 (uL 7),uE 44 (uM 7 0),uE 44 (uW 10),ua 44,uQ,uE 49 (uL 6),uE 49 (uM 6 2),uE 49 (uL 7),uE 49 (uM 7 3),uE 49 uR,uE 49 (vj 51 54),ua 49]
abbrev qfC:=bO 56 [uI 8,uI 9,uW 2,uH 4 57,uI 59]
abbrev qe7:qQ:=.seq (sB 37 [uI 9,uW 2] (cD 39 (rg qfA) sK)) (.seq (sr qfB (cD 56 (sB 3 [uO 8,uV] .ret) sK)) (sr qfC .ret))
def F751:qK:=⟨2,60,[.t 4,.t 5],sB 2 [ue 2 1,uO 0,uV] (sr qe8 (sr qe9 qe7))⟩
def F86:qK:=eqS0
abbrev qXR:=bO 4 [uL 2,uM 2 0,uL 3,uM 3 0,uu 6]
abbrev qXS:=bO 9 [uL 2,uM 2 1,uL 3,uM 3 1,uu 11]
def kG:qK:=⟨2,15,[.t 4],sB 1 [ue 2 0,ue 2 1,uV] (.seq (sr qXR (cD 9 (sr [uV 0 3] .ret) sK)) (.seq (sr qXS (cD 14 (sr [uV 0 3] .ret) sK)) (sr [u5 0 3] .ret)))⟩
def qDU:qK:=eqS 2 (some 2) 1422
abbrev qg9:=bO 4 [uL 2,uM 2 0,uL 3,uM 3 0,uu 6]
abbrev qhA:=bO 9 [uL 2,uM 2 1,uL 3,uM 3 1,uu 11]
abbrev qhB:=bO 14 [uL 2,uM 2 2,uL 3,uM 3 2,uu 16]
abbrev qhC:=bO 19 [uL 2,uM 2 3,uL 3,uM 3 3,uU 86 21,ud]
abbrev qhD:=bO 25 [uL 2,uM 2 4,uL 3,uM 3 4,uU 1184 27,ud]
abbrev qg8:qQ:=.seq (sr qhB (cD 19 (sr [uV 0 3] .ret) sK)) (.seq (sr qhC (cD 25 (sr [uV 0 3] .ret) sK)) (.seq (sr qhD (cD 31 (sr [uV 0 3] .ret) sK)) (sr [u5 0 3] .ret)))
def F870:qK:=⟨2,32,[.t 4],sB 1 [ue 5 0,ue 5 1,uV] (.seq (sr qg9 (cD 9 (sr [uV 0 3] .ret) sK)) (.seq (sr qhA (cD 14 (sr [uV 0 3] .ret) sK)) qg8))⟩
def F508:qK:=eqS 5 (some 5) 870
abbrev qYK:=bO 4 [uL 2,uM 2 0,uL 3,uM 3 0,uU 508 6,ud]
def ke:qK:=⟨2,11,[.t 4],sB 1 [ue 1 0,ue 1 1,uV] (.seq (sr qYK (cD 10 (sr [uV 0 3] .ret) sK)) (sr [u5 0 3] .ret))⟩
def F187:qK:=eqS 1 (some 1) 188
def qhL:List qG:=[oP 0 13 (.lload 1 0 (some 8)),oM 1 14 3,oP 2 15 (.call 104 [.t 13,.t 14]),oM 3 3 15]
def qhM:List qG:=[oP 0 19 (.lload 1 0 (some 8)),oP 1 20 (.call 106 [.t 19]),oP 2 21 (.call 105 [.t 20]),oM 3 18 21,oP 4 22 (.ext (.t 18) 0),oP 5 23 (.ext (.t 18) 1),oP 6 24 (.ext (.t 18) 2),oP 7 25 (.ext (.t 18) 3),oM 8 4 22,oM 9 5 23,oM 10 6 24,oM 11 7 25]
def qhN:List qG:=[oP 0 26 (.lload 1 0 (some 8)),oP 1 27 (.call 106 [.t 26]),oP 2 8 (.lalloc (.agg [.nils,.nils,iI 0,iI 0,.nils,.nils,.nils,.nils])),oN 3 (.lstore 8 0 8 (.t 27))]
def qhO:List qG:=[oP 0 29 (.lload 8 0 (some 8)),oP 1 30 (.call 107 [.t 29]),oM 2 28 30,oP 3 31 (.ext (.t 28) 0),oP 4 32 (.ext (.t 28) 1),oP 5 33 (.ext (.t 28) 2),oP 6 34 (.ext (.t 28) 3),oM 7 9 31,oM 8 10 32,oM 9 11 33,oM 10 12 34]
def qhP:List qG:=[oM 0 35 9,oM 1 36 4,oP 2 37 (.bin .neq (.t 35) (.t 36)),oM 3 38 37,oG 4 39 38 false (.mov (.t 10)),oG 5 40 38 false (.mov (.t 5)),oG 6 41 38 false (.bin .neq (.t 39) (.t 40)),oP 7 42 (.pick (.t 38) (.c (.bool true)) (.t 41)),oM 8 43 42,oG 9 44 43 false (.mov (.t 11)),oG 10 45 43 false (.mov (.t 6)),oG 11 46 43 false (.bin .neq (.t 44) (.t 45)),oP 12 47 (.pick (.t 43) (.c (.bool true)) (.t 46)),oM 13 48 47,oG 14 49 48 false (.mov (.t 12)),oG 15 50 48 false (.mov (.t 7)),oG 16 51 48 false (.bin .neq (.t 49) (.t 50)),oP 17 52 (.pick (.t 48) (.c (.bool true)) (.t 51))]
def qhQ:List qG:=[oP 0 53 (.lload 8 0 (some 8)),oP 1 54 (.lload 1 0 (some 8)),oP 2 55 (.call 106 [.t 54]),oP 3 56 (.call 108 [.t 53,.t 55]),oP 4 57 (.not (.t 56))]
def qhJ:qQ:=.seq (.reg true qhO) (.seq (.seq (.reg true qhP) (.cond (.t 52) (.seq (.reg true [oP 0 2 (.mov (.c (.bool false)))]) (.ret)) (.skip))) (.seq (.seq (.reg true qhQ) (.cond (.t 57) (.seq (.reg true [oP 0 2 (.mov (.c (.bool false)))]) (.ret)) (.skip))) (.seq (.reg true [oP 0 2 (.mov (.c (.bool true)))]) (.ret))))
def qhK:qQ:=.seq (.reg true [oP 0 3 (.mov (.c (iI 1048576)))]) (.seq (.reg true qhL) (.seq (.seq (.reg true [oM 0 16 3,oP 1 17 (.bin .lss (.t 16) (.c (iI 0)))]) (.cond (.t 17) (.seq (.reg true [oP 0 2 (.mov (.c (.bool true)))]) (.ret)) (.skip))) (.seq (.reg true qhM) (.seq (.reg true qhN) qhJ))))
def F8:qK:=⟨1,58,[.t 2],.seq (.reg true [oP 0 1 (.lbox 8 (.t 0)),oP 1 2 (.mov (.c (.bool false)))]) qhK⟩
def qM5:List qG:=[oP 0 9 (.lload 1 0 (some 8)),oM 1 10 3,oP 2 11 (.call 104 [.t 9,.t 10]),oM 3 3 11]
def qM6:List qG:=[oP 0 15 (.lload 1 0 (some 8)),oP 1 16 (.call 106 [.t 15]),oP 2 17 (.call 116 [.t 16]),oM 3 14 17,oP 4 18 (.ext (.t 14) 0),oP 5 19 (.ext (.t 14) 1),oM 6 4 18,oM 7 5 19]
def qM7:List qG:=[oP 0 20 (.lload 1 0 (some 8)),oP 1 21 (.call 106 [.t 20]),oP 2 6 (.lalloc (.agg [.nils,.nils,iI 0,iI 0,.nils,.nils,.nils,.nils])),oN 3 (.lstore 6 0 8 (.t 21))]
def qM8:List qG:=[oP 0 23 (.lload 6 0 (some 8)),oP 1 24 (.call 117 [.t 23]),oM 2 22 24,oP 3 25 (.ext (.t 22) 0),oP 4 26 (.ext (.t 22) 1),oM 5 7 25,oM 6 8 26]
def qM9:List qG:=[oM 0 27 7,oM 1 28 4,oP 2 29 (.bin .neq (.t 27) (.t 28)),oM 3 30 29,oG 4 31 30 false (.mov (.t 8)),oG 5 32 30 false (.mov (.t 5)),oG 6 33 30 false (.bin .neq (.t 31) (.t 32)),oP 7 34 (.pick (.t 30) (.c (.bool true)) (.t 33))]
def qNA:List qG:=[oP 0 35 (.lload 6 0 (some 8)),oP 1 36 (.lload 1 0 (some 8)),oP 2 37 (.call 106 [.t 36]),oP 3 38 (.call 108 [.t 35,.t 37]),oP 4 39 (.not (.t 38))]
def qM3:qQ:=.seq (.reg true qM8) (.seq (.seq (.reg true qM9) (.cond (.t 34) (.seq (.reg true [oP 0 2 (.mov (.c (.bool false)))]) (.ret)) (.skip))) (.seq (.seq (.reg true qNA) (.cond (.t 39) (.seq (.reg true [oP 0 2 (.mov (.c (.bool false)))]) (.ret)) (.skip))) (.seq (.reg true [oP 0 2 (.mov (.c (.bool true)))]) (.ret))))
def qM4:qQ:=.seq (.reg true [oP 0 3 (.mov (.c (iI 1048576)))]) (.seq (.reg true qM5) (.seq (.seq (.reg true [oM 0 12 3,oP 1 13 (.bin .lss (.t 12) (.c (iI 0)))]) (.cond (.t 13) (.seq (.reg true [oP 0 2 (.mov (.c (.bool true)))]) (.ret)) (.skip))) (.seq (.reg true qM6) (.seq (.reg true qM7) qM3))))
def F10:qK:=⟨1,40,[.t 2],.seq (.reg true [oP 0 1 (.lbox 8 (.t 0)),oP 1 2 (.mov (.c (.bool false)))]) qM4⟩
abbrev qaW:=bO 2 [vE 1,uI 0,uq 1 3,uH 2 5]
def F402:qK:=⟨1,6,[.t 2],sr [uo 0 1] (sr qaW .ret)⟩
abbrev qaV:=bO 4 [vE 1,uI 0,uq 1 5,uH 2 7]
def F401:qK:=⟨1,8,[.t 2],sr [uo 0 1] (.seq (sB 2 [uI 0,UC 1 3] (cD 4 (sr [uo 0 1] .ret) sK)) (sr qaV .ret))⟩
abbrev qV9:=bO 4 [vE 2,uI 0,uq 2 5,uH 2 7]
def qD0:qK:=⟨1,8,[.t 2],sr [uo 0 1] (.seq (sB 2 [uI 0,UC 1 3] (cD 4 (sr [uo 0 1] .ret) sK)) (sr qV9 .ret))⟩
abbrev qMM:=bO 2 [uL 1,uM 1 3,uD 3 (uC 5 (uL 1)),uD 4 (uM 1 4),uD 2 (uC 4 (uP 401)),uD 6 (uC 8 (uL 1)),uD 5 (uC 7 (uP 1373)),uX 1 3 1 5,uC 9 (uL 1),uX 1 4 1 8]
def Uz:qK:=⟨1,12,[.l 2 (some 5)],sB 0 [ue 5 0,ut] (sr qMM (sB 10 [uS 1 0 5,ui 2 0 5] .ret))⟩
abbrev qfO:=bO 5 [uL 1,uM 1 0,uR,UD 5 0 8,uA (.build (.agg [.nils]) [(0,1,.t 9)]),uC 2 vI,uX 3 0 1 10]
abbrev qfP:=bO 10 [uL 1,uM 1 0,uR,uO 0]
abbrev qfQ:=bO 15 [ug 5 12 14,uY 5,uC 4 ut,uX 5 0 5 17]
abbrev qfR:=bO 17 [uL 3,uM 3 0,uS 5 0 5,uP 1085,vV 5 1 0 21,uq 5 19,uL 3,uX 3 0 1 23]
abbrev qfN:qQ:=.loop (sr [uy 13 0 14] (.seq (cD 15 sK (.exit 0)) (.seq (.blk 1 (sr qfQ (rg qfR))) (rB 24 [ux 14 1,uH 14 25]))))
def F798:qK:=⟨1,27,[.l 2 (some 1)],sB 0 [ue 1 0,vI] (sr qfO (.seq (sr qfP (.blk 0 qfN)) (sB 25 [uS 3 0 1,ui 2 0 1] .ret)))⟩
abbrev qhS:=bO 5 [uQ,uI 0,uR,un 6]
abbrev qhT:=bO 11 [uI 0,uI 5,uI 1,ug 1 12 13,uc 1 14]
abbrev qhR:qQ:=.seq (.blk 1 (sr qhT (rB 15 [uI 1,ub 1,uH 1 17]))) (rB 9 [uI 5,ub 1,uH 5 11])
def F90:qK:=⟨2,19,[.t 4],sr [uO 0 0 3] (.seq (sr [uO 0 0 4] (.blk 0 (.loop (.seq (sr qhS (cD 9 sK (.exit 0))) qhR)))) (sB 17 [uI 1,uH 4 18] .ret))⟩
abbrev qhG:=bO 5 [uQ,uI 0,uR,un 6]
abbrev qhH:=bO 11 [uI 0,uI 5,uI 1,ug 2 12 13,uK 0,uc 1 14]
abbrev qhI:=bO 18 [uI 0,uI 5,uI 1,ug 2 19 20,uK 1,uc 1 21]
abbrev qhE:=sB 16 [uI 1,ub 1,uH 1 18] (sr qhI (rB 23 [uI 1,ub 1,uH 1 25]))
abbrev qhF:=sr [uO 0 0 4] (.blk 0 (.loop (.seq (sr qhG (cD 9 sK (.exit 0))) (.seq (.blk 1 (sr qhH qhE)) (rB 9 [uI 5,ub 1,uH 5 11])))))
def F885:qK:=⟨2,27,[.t 4],sr [uO 0 0 3] (.seq qhF (sB 25 [uI 1,uH 4 26] .ret))⟩
abbrev qcA:=bO 5 [uQ,uI 0,uR,un 6]
abbrev qcB:=bO 11 [uI 0,uI 5,uI 1,ug 5 12 13,uK 0,uc 1 14]
abbrev qcC:=bO 18 [uI 0,uI 5,uI 1,ug 5 19 20,uK 1,uc 1 21]
abbrev qcD:=bO 25 [uI 0,uI 5,uI 1,ug 5 26 27,uK 2,uc 1 28]
abbrev qcE:=bO 32 [uI 0,uI 5,uT 5 33,uK 3,uJ,uI 1,uU 90 37,uH 1 39]
abbrev qcF:=bO 39 [uI 0,uI 5,uT 5 40,uK 4,uJ,uI 1,uU 885 44,uH 1 46]
abbrev qb8:=sB 23 [uI 1,ub 1,uH 1 25] (sr qcD (sB 30 [uI 1,ub 1,uH 1 32] (sr qcE (rg qcF))))
abbrev qb9:qQ:=.seq (.blk 1 (sr qcB (sB 16 [uI 1,ub 1,uH 1 18] (sr qcC qb8)))) (rB 9 [uI 5,ub 1,uH 5 11])
def F524:qK:=⟨2,48,[.t 4],sr [uO 0 0 3] (.seq (sr [uO 0 0 4] (.blk 0 (.loop (.seq (sr qcA (cD 9 sK (.exit 0))) qb9)))) (sB 46 [uI 1,uH 4 47] .ret))⟩
abbrev qYZ:=bO 5 [uQ,uI 0,uR,un 6]
abbrev qY0:=bO 11 [uI 0,uI 5,uT 1 12,uK 0,uJ,uI 1,uU 524 16,uH 1 18]
abbrev qYY:=sr [uO 0 0 4] (.blk 0 (.loop (.seq (sr qYZ (cD 9 sK (.exit 0))) (.seq (.blk 1 (rg qY0)) (rB 9 [uI 5,ub 1,uH 5 11])))))
def kw:qK:=⟨2,20,[.t 4],sr [uO 0 0 3] (.seq qYY (sB 18 [uI 1,uH 4 19] .ret))⟩
abbrev qiG:=bO 5 [uQ,uI 0,uR,un 6]
abbrev qiH:=bO 11 [uI 0,uI 5,uT 1 12,uJ,uI 1,uu 15]
abbrev qiF:qQ:=.seq (.blk 1 (.seq (sr qiH (cD 17 (sr [uO (-1) 0 3] .ret) sK)) (rB 17 [uI 1,ub 1,uH 1 19]))) (rB 9 [uI 5,ub 1,uH 5 11])
def F92:qK:=⟨2,21,[.t 4],sr [uO 0 0 3] (.seq (sr [uO 0 0 4] (.blk 0 (.loop (.seq (sr qiG (cD 9 sK (.exit 0))) qiF)))) (sB 19 [uI 1,uH 4 20] .ret))⟩
def qTI:List qG:=[oP 0 16 (.lload 2 0 (some 8)),oM 1 17 5,oP 2 18 (.call 104 [.t 16,.t 17]),oM 3 5 18]
def qTJ:List qG:=[oP 0 22 (.lload 2 0 (some 8)),oP 2 24 (.lload 3 0 (some 2)),oP 8 6 (.lalloc (.agg [.nils,.nils,iI 0,iI 0,.nils,.nils,.nils,.nils])),oP 1 23 (.call 106 [.t 22]),oP 3 25 (.call 134 [.t 24]),oP 4 26 (.call 133 [.t 23,.t 25]),oM 5 21 26,oP 6 27 (.ext (.t 21) 0),oP 7 28 (.ext (.t 21) 1),oN 9 (.lstore 6 0 8 (.t 27)),oM 10 7 28]
def qTN:List qG:=[oP 0 29 (.lload 2 0 (some 8)),oP 1 30 (.call 106 [.t 29]),oP 2 8 (.lalloc (.agg [.nils,.nils,iI 0,iI 0,.nils,.nils,.nils,.nils])),oN 3 (.lstore 8 0 8 (.t 30))]
def qTO:List qG:=[oP 0 32 (.lload 8 0 (some 8)),oP 1 33 (.lload 3 0 (some 2)),oP 7 9 (.lalloc (.agg [.nils,.nils,iI 0,iI 0,.nils,.nils,.nils,.nils])),oP 2 34 (.call 134 [.t 33]),oP 3 35 (.call 135 [.t 32,.t 34]),oM 4 31 35,oP 5 36 (.ext (.t 31) 0),oP 6 37 (.ext (.t 31) 1),oN 8 (.lstore 9 0 8 (.t 36)),oM 9 10 37]
def qTP:List qG:=[oP 0 38 (.lload 9 0 (some 8)),oP 1 39 (.lload 6 0 (some 8)),oP 2 40 (.call 108 [.t 38,.t 39]),oP 3 41 (.not (.t 40)),oM 4 42 41,oG 5 43 42 false (.mov (.t 10)),oG 6 44 42 false (.mov (.t 7)),oG 7 45 42 false (.bin .neq (.t 43) (.t 44)),oP 8 46 (.pick (.t 42) (.c (.bool true)) (.t 45))]
def qTQ:List qG:=[oP 0 47 (.lload 8 0 (some 8)),oP 1 48 (.lload 2 0 (some 8)),oP 2 49 (.call 106 [.t 48]),oP 3 50 (.call 108 [.t 47,.t 49]),oP 4 51 (.not (.t 50))]
def qTR:List qG:=[oP 0 52 (.lload 8 0 (some 8)),oM 1 53 11,oP 2 54 (.call 136 [.t 52,.t 53]),oM 3 11 54]
def qTS:List qG:=[oM 0 55 11,oP 1 56 (.bin .lss (.t 55) (.c (iI 0))),oM 2 57 56,oG 3 58 57 false (.lload 9 0 (some 8)),oG 4 59 57 false (.lload 6 0 (some 8)),oG 5 60 57 false (.call 108 [.t 58,.t 59]),oG 6 61 57 false (.not (.t 60)),oP 7 62 (.pick (.t 57) (.c (.bool true)) (.t 61)),oM 8 63 62,oG 9 64 63 false (.mov (.t 10)),oG 10 65 63 false (.mov (.t 7)),oG 11 66 63 false (.bin .neq (.t 64) (.t 65)),oP 12 67 (.pick (.t 63) (.c (.bool true)) (.t 66))]
def qTT:List qG:=[oP 0 68 (.lload 9 0 (some 8)),oM 1 69 12,oP 2 70 (.call 136 [.t 68,.t 69]),oM 3 12 70]
def qTU:List qG:=[oP 0 71 (.lload 9 0 (some 8)),oM 1 72 13,oP 2 73 (.call 137 [.t 71,.t 72]),oM 3 13 73]
def qTK:List qG:=[oP 0 80 (.lload 2 0 (some 8)),oP 2 82 (.lload 3 0 (some 2)),oP 8 14 (.lalloc (.agg [.nils,.nils,iI 0,iI 0,.nils,.nils,.nils,.nils])),oP 1 81 (.call 106 [.t 80]),oP 3 83 (.call 134 [.t 82]),oP 4 84 (.call 135 [.t 81,.t 83]),oM 5 79 84,oP 6 85 (.ext (.t 79) 0),oP 7 86 (.ext (.t 79) 1),oN 9 (.lstore 14 0 8 (.t 85)),oM 10 15 86]
def qTL:List qG:=[oP 0 87 (.lload 14 0 (some 8)),oP 1 88 (.lload 6 0 (some 8)),oP 2 89 (.call 108 [.t 87,.t 88]),oP 3 90 (.not (.t 89)),oM 4 91 90,oG 5 92 91 false (.mov (.t 15)),oG 6 93 91 false (.mov (.t 7)),oG 7 94 91 false (.bin .neq (.t 92) (.t 93)),oP 8 95 (.pick (.t 91) (.c (.bool true)) (.t 94))]
def qTM:List qG:=[oP 0 96 (.lload 9 0 (some 8)),oM 1 97 13,oP 2 98 (.call 137 [.t 96,.t 97]),oM 3 13 98]
def qTD:qQ:=.seq (.seq (.reg true [oM 0 99 13,oP 1 100 (.bin .lss (.t 99) (.c (iI 0)))]) (.cond (.t 100) (.seq (.reg true [oP 0 4 (.mov (.c (.bool false)))]) (.ret)) (.skip))) (.seq (.seq (.reg true [oM 0 101 13,oM 1 102 12,oP 2 103 (.bin .neq (.t 101) (.t 102))]) (.cond (.t 103) (.seq (.reg true [oP 0 4 (.mov (.c (.bool false)))]) (.ret)) (.skip))) (.seq (.reg true [oP 0 4 (.mov (.c (.bool true)))]) (.ret)))
def qTE:qQ:=.seq (.seq (.reg true [oM 0 76 13,oM 1 77 12,oP 2 78 (.bin .neq (.t 76) (.t 77))]) (.cond (.t 78) (.seq (.reg true [oP 0 4 (.mov (.c (.bool false)))]) (.ret)) (.skip))) (.seq (.reg true qTK) (.seq (.seq (.reg true qTL) (.cond (.t 95) (.seq (.reg true [oP 0 4 (.mov (.c (.bool false)))]) (.ret)) (.skip))) (.seq (.reg true [oP 0 13 (.mov (.c (iI 1)))]) (.seq (.reg true qTM) qTD))))
def qTF:qQ:=.seq (.reg true qTT) (.seq (.reg true [oP 0 13 (.mov (.c (iI 1)))]) (.seq (.reg true qTU) (.seq (.seq (.reg true [oM 0 74 13,oP 1 75 (.bin .lss (.t 74) (.c (iI 0)))]) (.cond (.t 75) (.seq (.reg true [oP 0 4 (.mov (.c (.bool false)))]) (.ret)) (.skip))) qTE)))
def qTG:qQ:=.seq (.seq (.reg true qTQ) (.cond (.t 51) (.seq (.reg true [oP 0 4 (.mov (.c (.bool false)))]) (.ret)) (.skip))) (.seq (.reg true [oP 0 11 (.mov (.c (iI 1)))]) (.seq (.reg true qTR) (.seq (.seq (.reg true qTS) (.cond (.t 67) (.seq (.reg true [oP 0 4 (.mov (.c (.bool false)))]) (.ret)) (.skip))) (.seq (.reg true [oP 0 12 (.mov (.c (iI 1)))]) qTF))))
def qTH:qQ:=.seq (.seq (.reg true [oM 0 19 5,oP 1 20 (.bin .lss (.t 19) (.c (iI 0)))]) (.cond (.t 20) (.seq (.reg true [oP 0 4 (.mov (.c (.bool true)))]) (.ret)) (.skip))) (.seq (.reg true qTJ) (.seq (.reg true qTN) (.seq (.reg true qTO) (.seq (.seq (.reg true qTP) (.cond (.t 46) (.seq (.reg true [oP 0 4 (.mov (.c (.bool false)))]) (.ret)) (.skip))) qTG))))
def F12:qK:=⟨2,104,[.t 4],.seq (.reg true [oP 0 2 (.lbox 8 (.t 0)),oP 1 3 (.lbox 2 (.t 1)),oP 2 4 (.mov (.c (.bool false)))]) (.seq (.reg true [oP 0 5 (.mov (.c (iI 1048576)))]) (.seq (.reg true qTI) qTH))⟩
abbrev qgA:qQ:=.seq (sB 4 [uI 0,uI 1,vp 5 6] (cD 7 (sB 7 [uI 0,uH 4 8] .ret) sK)) (sB 8 [uI 1,uH 4 9] .ret)
def F856:qK:=⟨2,10,[.t 4],sr [uO 0 0 3] qgA⟩
abbrev qO3:=bO 4 [uQ,uI 0,uN,uK 0,uJ,uR,un 5]
abbrev qO4:=bO 13 [uI 3,uI 0,uN,uK 0,uJ,uI 4,uT 5 18,uK 1,uJ,uU 856 14,uH 3 23]
abbrev qO2:=sr [uO 0 0 3] (.blk 0 (.loop (.seq (sr qO3 (cD 11 sK (.exit 0))) (.seq (.blk 1 (rg qO4)) (rB 11 [uI 4,ub 1,uH 4 13])))))
def KH:qK:=⟨1,25,[.t 2],sr [uO 0 0 1] (sr [uO 0 0 2] (.seq qO2 (sB 23 [uI 3,uH 2 24] .ret)))⟩
abbrev qNY:=bO 2 [uI 0,uA (.conv .u64 (.t 3)),uA (.conv .u32 (.t 4)),uA (.conv .i32 (.t 5)),uA (.conv .i64 (.t 6)),uH 2 7]
def KD:qK:=⟨1,8,[.t 2],sr [uO 0 0 1] (sr qNY .ret)⟩
def KE:qK:=⟨1,4,[.t 2],sr [uO 0 0 1] (.seq (sr [uI 0 0 2] (cD 3 (sr [uO 1 0 1] .ret) sK)) (sr [uO 0 0 1] .ret))⟩
abbrev qfG:=bO 15 [uI 7,uI 8,vg 16 17,uP 1125,uH 6 19]
abbrev qfH:=bO 21 [uI 7,uI 8,vz 22 23,uP 1125,uH 6 25]
abbrev qfI:=bO 27 [uI 7,uI 8,uA (.bin .mul (.t 28) (.t 29)),uP 1125,uH 6 31]
abbrev qfJ:=bO 35 [uI 7,uI 8,uA (.bin .quo (.t 36) (.t 37)),uP 1125,uH 6 39]
abbrev qfK:=bO 41 [uI 7,uI 8,un 42,uP 1126,uH 6 45]
abbrev qfL:=bO 47 [uI 7,uI 8,vh 48 49,uP 1126,uH 6 51]
abbrev qfD:=cD 32 (.seq (sB 33 [uI 8,uW 0] (cD 35 (sr [uO 0 0 5] .ret) sK)) (sr qfJ .ret)) (sB 40 [uZ 13 5,uH 40 41] (cD 40 (sr qfK .ret) (sB 46 [uZ 13 6,uH 46 47] (cD 46 (sr qfL .ret) sK))))
abbrev qfE:=sB 20 [uZ 13 2,uH 20 21] (cD 20 (sr qfH .ret) (sB 26 [uZ 13 3,uH 26 27] (cD 26 (sr qfI .ret) (sB 32 [uZ 13 4,uH 32 33] qfD))))
abbrev qfF:=sB 10 [uI 2,uP 1125,uH 8 12] (.seq (sr [uI 0 0 12] (.blk 0 (sB 14 [uZ 13 1,uH 14 15] (cD 14 (sr qfG .ret) qfE)))) (sr [uO 0 0 5] .ret))
def F762:qK:=⟨3,52,[.t 6],sr [uO 0 0 5] (sB 8 [uI 1,uP 1125,uH 7 10] qfF)⟩
abbrev qXW:=bO 8 [uS 2 0 1,uP 798,uC 5 vI,uX 6 0 1 10]
abbrev qXX:=bO 10 [uL 6,uM 6 0,uR,uO 0]
abbrev qXY:=bO 16 [uL 6,uM 6 0,uI 7,uT 5 18,uH 8 20]
abbrev qXZ:=bO 20 [uI 8,uN,uK 0,uJ,uP 1375,ud]
abbrev qX0:=bO 26 [uI 8,uN,uK 1,uJ,uI 1,vg 30 31,vD 27,uK 1,uc 1 32]
abbrev qX1:=bO 34 [uI 8,uN,uK 1,uJ,vk 38 8]
abbrev qXU:=sB 15 [uI 14,uH 7 16] (sr qXY (.seq (sr qXZ (cD 26 (.exit 1) sK)) (sr qX0 (sr qX1 (cD 39 (sB 39 [uA (.build (.agg [.nils]) []),ui 4 0 1,uC 4 uV] .ret) sK)))))
abbrev qXV:qQ:=.seq (sr qXX (.blk 0 (.loop (sr [uy 13 0 14] (.seq (cD 15 sK (.exit 0)) (.seq (.blk 1 qXU) (rB 40 [ux 14 1,uH 14 41]))))))) (sB 41 [uS 6 0 1,ui 4 0 1,uC 4 u5] .ret)
def kI:qK:=⟨2,43,[.l 4 (some 1),.t 5],sB 1 [ue 1 0,uC 3 vI,uV] (sr qXW qXV)⟩
abbrev qTX:=bO 2 [ue 2 1,uO 0,uO 0,uO 0,uO 0]
abbrev qTY:=bO 12 [uI 0,uN,uK 0,uS 3 0 2,uU 751 15,uH 12 17,uC 17 (uf 12 0),uf 12 1,uH 4 18,uH 8 19]
abbrev qT0:=bO 19 [uL 3,uM 3 0,uL 3,uM 3 1,uH 5 21,uI 23]
abbrev qT1:=bO 24 [uI 6,uI 5,uH 5 25,uI 26]
abbrev qT2:=bO 3 [uO 0,uO 0,uO 0,uO 11]
abbrev qT3:=bO 31 [uI 0,uN,uK 0,uK 0,uJ,uI 5,uT 5 36,uY 5,uC 8 ut,uX 9 0 5 39]
abbrev qT4:=bO 39 [uL 9,uM 9 2,uI 0,uN,uK 1,uJ,uR,vj 41 46]
abbrev qT5:=bO 3 [uO 0,uO 0,uO 0,uO 3]
abbrev qT6:=bO 48 [uI 0,uN,uK 1,uJ,uL 9,uM 9 2,uT 1 52,uY 1,uL 9,uM 9 1,uD 14 (uC 9 vI),uD 10 (uC 58 (uU 1456 56)),uD 11 (uH 48 59),uD 12 (uC 59 (uf 48 0)),uD 13 (uf 48 1),uX 10 0 1 60,uH 11 61]
abbrev qT7:=bO 3 [uO 0,uO 0,uO 0,uO 9]
abbrev qTV:=sB 30 [uZ 27 7,uH 30 31] (cD 30 (sr qT3 (.seq (sr qT4 (cD 47 (sr qT5 .ret) sK)) (sr qT6 (sB 61 [uI 11,ud] (cD 63 (sr qT7 .ret) sK))))) sK)
abbrev qTZ:=bO 63 [uI 4,uI 5,uI 6,uH 4 64,uI 65,uI 66,uO 0]
abbrev qTW:qQ:=.seq (sr [uI 8 0 23] (cD 24 (rg qT1) sK)) (.seq (sr [uI 4 0 26] (.blk 0 (sB 28 [uZ 27 8,uH 28 29] (cD 28 (sr qT2 .ret) qTV)))) (sr qTZ .ret))
def Ki:qK:=⟨2,67,[.t 4,.t 5,.t 6,.t 7],sr qTX (sr qTY (sr qT0 qTW))⟩
def F566:qK:=⟨1,4,[.t 2],sr [uO 0 0 1] (.seq (sr [uI 0 0 2] (cD 3 (sr [uO 1 0 1] .ret) sK)) (sr [uO 0 0 1] .ret))⟩
abbrev qXG:=bO 2 [uI 0,uA (.conv .i32 (.t 3)),uA (.conv .i64 (.t 4)),uH 2 5]
def kC:qK:=⟨1,6,[.t 2],sr [uO 0 0 1] (sr qXG .ret)⟩
abbrev qNR:=bO 8 [uI 1,uP 1400,uI 2,uP 1400,uH 7 10,uI 12]
abbrev qNS:=bO 15 [uI 7,uI 8,vg 16 17,uP 1400,uH 6 19]
abbrev qNT:=bO 21 [uI 7,uI 8,vz 22 23,uP 1400,uH 6 25]
abbrev qNU:=bO 27 [uI 7,uI 8,uA (.bin .mul (.t 28) (.t 29)),uP 1400,uH 6 31]
abbrev qNV:=bO 35 [uI 7,uI 8,uA (.bin .quo (.t 36) (.t 37)),uP 1400,uH 6 39]
abbrev qNW:=bO 41 [uI 7,uI 8,un 42,uP 566,uH 6 45]
abbrev qNX:=bO 47 [uI 7,uI 8,vh 48 49,uP 566,uH 6 51]
abbrev qNO:=cD 32 (.seq (sB 33 [uI 8,uW 0] (cD 35 (sr [uO 0 0 5] .ret) sK)) (sr qNV .ret)) (sB 40 [uZ 13 5,uH 40 41] (cD 40 (sr qNW .ret) (sB 46 [uZ 13 6,uH 46 47] (cD 46 (sr qNX .ret) sK))))
abbrev qNP:=sB 20 [uZ 13 2,uH 20 21] (cD 20 (sr qNT .ret) (sB 26 [uZ 13 3,uH 26 27] (cD 26 (sr qNU .ret) (sB 32 [uZ 13 4,uH 32 33] qNO))))
abbrev qNQ:=sr qNR (.seq (sr [uI 0 0 12] (.blk 0 (sB 14 [uZ 13 1,uH 14 15] (cD 14 (sr qNS .ret) qNP)))) (sr [uO 0 0 5] .ret))
def KC:qK:=⟨3,52,[.t 6],sr [uO 0 0 5] qNQ⟩
abbrev qkX:qQ:=.seq (sB 4 [uI 0,uI 1,un 5] (cD 7 (sB 7 [uI 0,uH 4 8] .ret) sK)) (sB 8 [uI 1,uH 4 9] .ret)
def F978:qK:=⟨2,10,[.t 4],sr [uO 0 0 3] qkX⟩
abbrev qc6:=bO 5 [uI 4,uI 0,uR,un 6]
abbrev qc7:=bO 11 [uI 3,uI 0,uI 4,uT 1 13,uJ,vx 16 1,uT 1 12,uJ,ub 1,ug 1 12 17,uc 1 20]
abbrev qc5:=sr [uO 0 0 3] (.blk 0 (.loop (.seq (sr qc6 (cD 9 sK (.exit 0))) (.seq (.blk 1 (rg qc7)) (rB 9 [uI 4,ub 1,uH 4 11])))))
def F571:qK:=⟨1,23,[.t 2],sr [uo 0 1] (sB 4 [uA (.bslice 1 (iI 0) 7 [(0,.c (iI 0)),(1,.c (iI 0)),(2,.c (iI 0)),(3,.c (iI 0)),(4,.c (iI 0)),(5,.c (iI 0)),(6,.c (iI 0))]),uH 3 5] (.seq qc5 (sB 21 [uI 3,uH 2 22] .ret)))⟩
def qD3:qK:=Qi 2 (some 2)
def qY2:List qG:=[oP 0 1 (.lbox 4 (.t 0)),oP 1 2 (.lalloc (.agg [iI 0,iI 0,iI 0,.nils])),oP 2 3 (.mov (.c (iI 0))),oP 3 4 (.mov (.c (iI 0)))]
def qY3:List qG:=[oP 0 10 (.build (.agg [iI 0,iI 0,iI 0,.nils]) []),oN 1 (.lstore 2 0 4 (.t 10)),oP 2 3 (.mov (.c (iI 0))),oP 3 4 (.mov (.c (iI 1)))]
def qY4:List qG:=[oP 0 11 (.lload 1 0 (some 4)),oP 1 12 (.call 590 [.t 11]),oP 2 5 (.halloc 4 (.agg [iI 0,iI 0,iI 0,.nils])),oN 3 (.store 4 (.t 5) (.t 12))]
def qY5:List qG:=[oP 0 16 (.build (.agg [iI 0,iI 0,iI 0,.nils]) []),oN 1 (.lstore 2 0 4 (.t 16)),oP 2 3 (.mov (.c (iI 0))),oP 3 4 (.mov (.c (iI 3)))]
def qY6:List qG:=[oP 0 17 (.load (some 4) (.t 5)),oP 1 18 (.faddr 3 (.t 5)),oP 2 19 (.load none (.t 18)),oM 3 20 6,oP 4 21 (.iaddr 10 (.t 19) (.t 20)),oP 5 22 (.faddr 0 (.t 21)),oP 6 23 (.load none (.t 22)),oN 7 (.lstore 2 0 4 (.t 17)),oM 8 3 23,oP 9 4 (.mov (.c (iI 0)))]
def qY1:qQ:=.seq (.reg true qY4) (.seq (.reg true [oP 0 13 (.call 591 [.t 5]),oM 1 6 13]) (.seq (.seq (.reg true [oM 0 14 6,oP 1 15 (.bin .lss (.t 14) (.c (iI 0)))]) (.cond (.t 15) (.seq (.reg true qY5) (.ret)) (.skip))) (.seq (.reg true qY6) (.ret))))
def WO:qK:=⟨1,24,[.l 2 (some 4),.t 3,.t 4],.seq (.reg true qY2) (.seq (.seq (.reg true [oP 0 7 (.lload 1 0 (some 4)),oP 1 8 (.call 589 [.t 7]),oP 2 9 (.not (.t 8))]) (.cond (.t 9) (.seq (.reg true qY3) (.ret)) (.skip))) qY1)⟩
def qaD:List qG:=[oM 0 20 0,oP 1 21 (.call 61 [.t 20]),oP 2 3 (.lalloc (.agg [.nils])),oN 3 (.lstore 3 0 1 (.t 21))]
def qaE:List qG:=[oP 0 23 (.lload 3 0 (some 1)),oP 1 24 (.call 62 [.t 23]),oM 2 22 24,oP 3 25 (.ext (.t 22) 0),oP 4 26 (.ext (.t 22) 1),oM 5 4 25,oM 6 5 26]
def qaL:List qG:=[oP 0 28 (.lload 3 0 (some 1)),oP 1 29 (.call 63 [.t 28]),oM 2 27 29,oP 3 30 (.ext (.t 27) 0),oP 4 31 (.ext (.t 27) 1),oM 5 6 30,oM 6 7 31]
def qaO:List qG:=[oM 0 32 5,oP 1 33 (.bin .neq (.t 32) (.c (iI 0))),oM 2 34 33,oG 3 35 34 false (.mov (.t 7)),oG 4 36 34 false (.bin .neq (.t 35) (.c (iI 0))),oP 5 37 (.pick (.t 34) (.c (.bool true)) (.t 36)),oM 6 38 37,oG 7 39 38 false (.mov (.t 4)),oG 8 40 38 false (.len (.t 39)),oG 9 41 38 false (.bin .eql (.t 40) (.c (iI 0))),oP 10 42 (.pick (.t 38) (.c (.bool true)) (.t 41)),oM 11 43 42,oG 12 44 43 false (.mov (.t 4)),oG 13 45 43 false (.iaddr 1 (.t 44) (.c (iI 0))),oG 14 46 43 false (.load none (.t 45)),oG 15 47 43 false (.mov (.t 6)),oG 16 48 43 false (.call 64 [.t 46,.t 47]),oG 17 49 43 false (.not (.t 48)),oP 18 50 (.pick (.t 43) (.c (.bool true)) (.t 49))]
def qaP:List qG:=[oP 0 51 (.nop 3),oP 1 52 (.lload 3 0 none),oP 2 53 (.len (.t 52)),oP 3 54 (.mksl 1 (iI 0) (.t 53) (.t 53)),oM 4 8 54]
def qaQ:List qG:=[oM 0 55 10,oM 1 56 4,oP 2 57 (.len (.t 56)),oP 3 58 (.bin .lss (.t 55) (.t 57))]
def qaR:List qG:=[oP 0 62 (.lload 3 0 (some 1)),oM 1 63 4,oM 2 64 10,oP 3 65 (.iaddr 1 (.t 63) (.t 64)),oP 4 66 (.load none (.t 65)),oM 5 67 4,oM 6 68 10,oP 7 69 (.iaddr 1 (.t 67) (.t 68)),oP 8 70 (.load none (.t 69)),oP 9 71 (.len (.t 70)),oP 10 72 (.bin .sub (.t 71) (.c (iI 1))),oP 11 73 (.iaddr 1 (.t 66) (.t 72)),oP 12 74 (.load none (.t 73)),oP 13 75 (.call 65 [.t 62,.t 74]),oM 14 61 75,oP 15 76 (.ext (.t 61) 0),oP 16 77 (.ext (.t 61) 1),oM 17 11 76,oM 18 12 77]
def qaS:List qG:=[oM 0 78 12,oP 1 79 (.bin .neq (.t 78) (.c (iI 0))),oM 2 80 79,oG 3 81 80 false (.mov (.t 11)),oG 4 82 80 false (.len (.t 81)),oG 5 83 80 false (.mov (.t 4)),oG 6 84 80 false (.mov (.t 10)),oG 7 85 80 false (.iaddr 1 (.t 83) (.t 84)),oG 8 86 80 false (.load none (.t 85)),oG 9 87 80 false (.len (.t 86)),oG 10 88 80 false (.bin .neq (.t 82) (.t 87)),oP 11 89 (.pick (.t 80) (.c (.bool true)) (.t 88)),oM 12 90 89,oG 13 91 90 false (.mov (.t 10)),oG 14 92 90 false (.bin .gtr (.t 91) (.c (iI 0))),oG 15 93 90 false (.mov (.t 92)),oG 16 94 93 true (.mov (.t 4)),oG 17 95 93 true (.mov (.t 10)),oG 18 96 93 true (.bin .sub (.t 95) (.c (iI 1))),oG 19 97 93 true (.iaddr 1 (.t 94) (.t 96)),oG 20 98 93 true (.load none (.t 97)),oG 21 99 93 true (.iaddr 1 (.t 98) (.c (iI 0))),oG 22 100 93 true (.load none (.t 99)),oG 23 101 93 true (.mov (.t 4)),oG 24 102 93 true (.mov (.t 10)),oG 25 103 93 true (.iaddr 1 (.t 101) (.t 102)),oG 26 104 93 true (.load none (.t 103)),oG 27 105 93 true (.iaddr 1 (.t 104) (.c (iI 0))),oG 28 106 93 true (.load none (.t 105)),oG 29 107 93 true (.bin .geq (.t 100) (.t 106)),oG 30 108 90 false (.pick (.t 93) (.t 107) (.c (.bool false))),oP 31 109 (.pick (.t 90) (.c (.bool true)) (.t 108))]
def qaT:List qG:=[oM 0 110 13,oM 1 111 4,oM 2 112 10,oP 3 113 (.iaddr 1 (.t 111) (.t 112)),oP 4 114 (.load none (.t 113)),oP 5 115 (.len (.t 114)),oP 6 116 (.bin .lss (.t 110) (.t 115))]
def qaU:List qG:=[oM 0 119 13,oP 1 120 (.bin .gtr (.t 119) (.c (iI 0))),oM 2 121 120,oG 3 122 121 true (.mov (.t 4)),oG 4 123 121 true (.mov (.t 10)),oG 5 124 121 true (.iaddr 1 (.t 122) (.t 123)),oG 6 125 121 true (.load none (.t 124)),oG 7 126 121 true (.mov (.t 13)),oG 8 127 121 true (.bin .sub (.t 126) (.c (iI 1))),oG 9 128 121 true (.iaddr 1 (.t 125) (.t 127)),oG 10 129 121 true (.load none (.t 128)),oG 11 130 121 true (.mov (.t 4)),oG 12 131 121 true (.mov (.t 10)),oG 13 132 121 true (.iaddr 1 (.t 130) (.t 131)),oG 14 133 121 true (.load none (.t 132)),oG 15 134 121 true (.mov (.t 13)),oG 16 135 121 true (.iaddr 1 (.t 133) (.t 134)),oG 17 136 121 true (.load none (.t 135)),oG 18 137 121 true (.bin .geq (.t 129) (.t 136)),oP 19 138 (.pick (.t 121) (.t 137) (.c (.bool false))),oM 20 139 138,oG 21 140 139 false (.mov (.t 11)),oG 22 141 139 false (.mov (.t 4)),oG 23 142 139 false (.mov (.t 10)),oG 24 143 139 false (.iaddr 1 (.t 141) (.t 142)),oG 25 144 139 false (.load none (.t 143)),oG 26 145 139 false (.mov (.t 13)),oG 27 146 139 false (.iaddr 1 (.t 144) (.t 145)),oG 28 147 139 false (.load none (.t 146)),oG 29 148 139 false (.call 66 [.t 140,.t 147]),oG 30 149 139 false (.not (.t 148)),oP 31 150 (.pick (.t 139) (.c (.bool true)) (.t 149))]
def qaF:List qG:=[oM 0 151 8,oM 1 152 4,oM 2 153 10,oP 3 154 (.iaddr 1 (.t 152) (.t 153)),oP 4 155 (.load none (.t 154)),oM 5 156 13,oP 6 157 (.iaddr 1 (.t 155) (.t 156)),oP 7 158 (.load none (.t 157)),oM 8 159 10,oP 9 160 (.bin .add (.t 159) (.c (iI 1))),oP 10 161 (.iaddr 1 (.t 151) (.t 158)),oN 11 (.store 1 (.t 161) (.t 160))]
def qZ6:qQ:=.seq (.seq (.reg true qaT) (.cond (.t 116) (.skip) (.exit 2))) (.seq (.blk 3 (.seq (.seq (.reg true qaU) (.cond (.t 150) (.seq (.reg true [oP 0 2 (.mov (.c (.bool false)))]) (.ret)) (.skip))) (.reg true qaF))) (.reg true [oM 0 117 13,oP 1 118 (.bin .add (.t 117) (.c (iI 1))),oM 2 13 118]))
def qaG:List qG:=[oM 0 162 9,oM 1 163 4,oM 2 164 10,oP 3 165 (.iaddr 1 (.t 163) (.t 164)),oP 4 166 (.load none (.t 165)),oP 5 167 (.len (.t 166)),oP 6 168 (.bin .add (.t 162) (.t 167)),oM 7 9 168]
def qZ7:qQ:=.seq (.reg true qaR) (.seq (.seq (.reg true qaS) (.cond (.t 109) (.seq (.reg true [oP 0 2 (.mov (.c (.bool false)))]) (.ret)) (.skip))) (.seq (.seq (.reg true [oP 0 13 (.mov (.c (iI 0)))]) (.blk 2 (.loop qZ6))) (.reg true qaG)))
def qZ8:qQ:=.seq (.reg true [oP 0 10 (.mov (.c (iI 0)))]) (.blk 0 (.loop (.seq (.seq (.reg true qaQ) (.cond (.t 58) (.skip) (.exit 0))) (.seq (.blk 1 qZ7) (.reg true [oM 0 59 10,oP 1 60 (.bin .add (.t 59) (.c (iI 1))),oM 2 10 60])))))
def qaH:List qG:=[oM 0 169 9,oP 1 170 (.nop 3),oP 2 171 (.lload 3 0 none),oP 3 172 (.len (.t 171)),oP 4 173 (.bin .neq (.t 169) (.t 172))]
def qaI:List qG:=[oM 0 174 14,oP 1 175 (.nop 3),oP 2 176 (.lload 3 0 none),oP 3 177 (.len (.t 176)),oP 4 178 (.bin .lss (.t 174) (.t 177))]
def qaJ:List qG:=[oM 0 181 15,oP 1 182 (.nop 3),oP 2 183 (.lload 3 0 none),oM 3 184 14,oP 4 185 (.iaddr 5 (.t 183) (.t 184)),oP 5 186 (.faddr 4 (.t 185)),oP 6 187 (.load none (.t 186)),oP 7 188 (.len (.t 187)),oP 8 189 (.bin .lss (.t 181) (.t 188))]
def qaK:List qG:=[oM 0 192 8,oM 1 193 14,oP 2 194 (.iaddr 1 (.t 192) (.t 193)),oP 3 195 (.load none (.t 194)),oP 4 196 (.bin .eql (.t 195) (.c (iI 0))),oM 5 197 196,oG 6 198 197 false (.mov (.t 8)),oG 7 199 197 false (.nop 3),oG 8 200 197 false (.lload 3 0 none),oG 9 201 197 false (.mov (.t 14)),oG 10 202 197 false (.iaddr 5 (.t 200) (.t 201)),oG 11 203 197 false (.faddr 4 (.t 202)),oG 12 204 197 false (.load none (.t 203)),oG 13 205 197 false (.mov (.t 15)),oG 14 206 197 false (.iaddr 2 (.t 204) (.t 205)),oG 15 207 197 false (.faddr 0 (.t 206)),oG 16 208 197 false (.load none (.t 207)),oG 17 209 197 false (.iaddr 1 (.t 198) (.t 208)),oG 18 210 197 false (.load none (.t 209)),oG 19 211 197 false (.mov (.t 8)),oG 20 212 197 false (.mov (.t 14)),oG 21 213 197 false (.iaddr 1 (.t 211) (.t 212)),oG 22 214 197 false (.load none (.t 213)),oG 23 215 197 false (.bin .neq (.t 210) (.t 214)),oP 24 216 (.pick (.t 197) (.c (.bool true)) (.t 215))]
def qZ9:qQ:=.loop (.seq (.seq (.reg true qaJ) (.cond (.t 189) (.skip) (.exit 6))) (.seq (.blk 7 (.seq (.reg true qaK) (.cond (.t 216) (.seq (.reg true [oP 0 2 (.mov (.c (.bool false)))]) (.ret)) (.skip)))) (.reg true [oM 0 190 15,oP 1 191 (.bin .add (.t 190) (.c (iI 1))),oM 2 15 191])))
def qaA:qQ:=.loop (.seq (.seq (.reg true qaI) (.cond (.t 178) (.skip) (.exit 4))) (.seq (.blk 5 (.seq (.reg true [oP 0 15 (.mov (.c (iI 0)))]) (.blk 6 qZ9))) (.reg true [oM 0 179 14,oP 1 180 (.bin .add (.t 179) (.c (iI 1))),oM 2 14 180])))
def qaM:List qG:=[oP 0 218 (.lload 3 0 (some 1)),oP 1 219 (.call 67 [.t 218]),oM 2 217 219,oP 3 220 (.ext (.t 217) 0),oP 4 221 (.ext (.t 217) 1),oP 5 16 (.lalloc (.agg [.nils])),oN 6 (.lstore 16 0 1 (.t 220)),oM 7 17 221]
def qaN:List qG:=[oM 0 222 17,oP 1 223 (.bin .eql (.t 222) (.c (iI 0))),oM 2 224 223,oG 3 225 224 true (.nop 16),oG 4 226 224 true (.lload 16 0 none),oG 5 227 224 true (.len (.t 226)),oG 6 228 224 true (.mov (.t 6)),oG 7 229 224 true (.len (.t 228)),oG 8 230 224 true (.bin .eql (.t 227) (.t 229)),oP 9 231 (.pick (.t 224) (.t 230) (.c (.bool false))),oM 10 232 231,oG 11 233 232 true (.lload 16 0 (some 1)),oG 12 234 232 true (.call 68 [.t 233]),oP 13 235 (.pick (.t 232) (.t 234) (.c (.bool false))),oM 14 236 235,oG 15 237 236 true (.nop 16),oG 16 238 236 true (.lload 16 0 none),oG 17 239 236 true (.len (.t 238)),oG 18 240 236 true (.nop 3),oG 19 241 236 true (.lload 3 0 none),oG 20 242 236 true (.len (.t 241)),oG 21 243 236 true (.bin .eql (.t 239) (.t 242)),oG 22 244 236 true (.mov (.t 4)),oG 23 245 236 true (.len (.t 244)),oG 24 246 236 true (.bin .eql (.t 245) (.c (iI 1))),oG 25 247 236 true (.beq false (.t 243) (.t 246)),oP 26 248 (.pick (.t 236) (.t 247) (.c (.bool false))),oM 27 2 248]
def qaB:qQ:=.seq (.reg true [oP 0 9 (.mov (.c (iI 0)))]) (.seq qZ8 (.seq (.seq (.reg true qaH) (.cond (.t 173) (.seq (.reg true [oP 0 2 (.mov (.c (.bool false)))]) (.ret)) (.skip))) (.seq (.seq (.reg true [oP 0 14 (.mov (.c (iI 0)))]) (.blk 4 qaA)) (.seq (.reg true qaM) (.seq (.reg true qaN) (.ret))))))
def qaC:qQ:=.seq (.seq (.reg true [oM 0 18 0,oP 1 19 (.call 60 [.t 18,.c (.nils)])]) (.cond (.t 19) (.seq (.reg true [oP 0 2 (.mov (.c (.bool true)))]) (.ret)) (.skip))) (.seq (.reg true qaD) (.seq (.reg true qaE) (.seq (.reg true qaL) (.seq (.seq (.reg true qaO) (.cond (.t 50) (.seq (.reg true [oP 0 2 (.mov (.c (.bool false)))]) (.ret)) (.skip))) (.seq (.reg true qaP) qaB)))))
def F3:qK:=⟨1,249,[.t 2],.seq (.reg true [oP 0 2 (.mov (.c (.bool false)))]) qaC⟩
abbrev qiI:=bO 4 [uL 2,uM 2 0,uL 3,uM 3 0,un 6,uQ,uF 10 (uL 2),uF 10 (uM 2 0),uF 10 (uL 3),uF 10 (uM 3 0),uF 10 (vh 12 14),uF 10 uQ,uE 16 (uL 2),uE 16 (uM 2 1),uE 16 (uL 3),uE 16 (uM 3 1),uE 16 (un 18),uF 10 (ua 16),uk 10,uH 4 23]
def F948:qK:=⟨2,24,[.t 4],sB 1 [ue 2 0,ue 2 1,uV] (sr qiI .ret)⟩
abbrev qc0:=bO 7 [uI 4,uI 0,uN,uK 0,uJ,uR,un 8]
abbrev qc1:=bO 16 [uI 5,uI 0,uN,uK 0,uJ,uI 4,uT 5 21,uK 4,uJ,uR,un 17]
abbrev qc2:=bO 29 [uI 4,uI 5,vK 0 1 30 1 1 31,uC 5 uj,uX 6 0 2 32]
abbrev qc3:=bO 32 [uS 6 0 2,uI 0,uN,uK 0,uJ,uI 4,uT 5 37,uK 4,uJ,uI 5,uT 2 41,uY 2,uU 948 33]
abbrev qc4:=bO 45 [uI 3,uS 6 0 2,uI 0,uN,uK 0,uJ,uI 4,uT 5 51,uK 4,uJ,uI 5,uT 2 55,uY 2,vC 0 2 47 2 2 58,vG 4 1 0 59,uq 4 46,uH 3 61]
abbrev qcY:qQ:=.loop (.seq (sr qc1 (cD 27 sK (.exit 2))) (.seq (.blk 3 (sr qc2 (sr qc3 (cD 45 (rg qc4) sK)))) (rB 27 [uI 5,ub 1,uH 5 29])))
abbrev qcZ:qQ:=.loop (.seq (sr qc0 (cD 14 sK (.exit 0))) (.seq (.blk 1 (sr [uO 0 0 4] (.blk 2 qcY))) (rB 14 [uI 4,ub 1,uH 4 16])))
def F569:qK:=⟨1,63,[.t 2],sr [uo 0 1] (sB 6 [vE 4,uH 3 7] (.seq (sr [uO 0 0 3] (.blk 0 qcZ)) (sB 61 [uI 3,uH 2 62] .ret)))⟩
abbrev qN1:=bO 11 [uI 7,uI 6,uR,un 12]
abbrev qN2:=bO 17 [uI 6,uI 7,uT 4 18,uK 0,uY 2,uC 7 uj,uX 8 0 2 22]
abbrev qN3:=bO 22 [uI 6,uI 7,uT 4 23,uK 2,uY 2,uC 8 uj,uX 9 0 2 27]
abbrev qN4:=bO 27 [uL 9,uM 9 1,vk 29 0,uQ,uE 31 (uL 8),uE 31 (uM 8 1),uE 31 (vk 33 0),uE 31 uQ,uF 35 (uL 8),uF 35 (uM 8 0),uF 35 (uW 0),uF 35 uQ,uE 39 (uI 1),uF 35 (ua 39),uE 31 (uk 35),ua 31]
abbrev qNZ:qQ:=.seq (.blk 1 (sr qN2 (sr qN3 (sr qN4 (cD 43 (rB 43 [uI 5,ub 1,uH 5 45]) sK))))) (rB 15 [uI 7,ub 1,uH 7 17])
abbrev qN0:=sB 9 [uI 0,uP 569,uH 6 11] (.seq (sr [uO 0 0 6] (.blk 0 (.loop (.seq (sr qN1 (cD 15 sK (.exit 0))) qNZ)))) (sB 45 [uI 5,uH 4 46] .ret))
def KF:qK:=⟨2,47,[.t 4],sr [uO 0 0 3] (sr [uO 0 0 4] qN0)⟩
abbrev qPW:=bO 5 [uI 0,uI 0,uN,uK 4,uJ,uI 1,uI 2,uD 8 (uH 14 1),uD 9 (uI 2),uD 7 (uC 12 (uG [uJ 4 9] (uU 978 11))),uC 15 (uG [uJ 4 9] (uU 856 14)),vK 0 1 13 1 1 16,u9 2 1 0 17,uq 2 10,vD 6,uK 4,uc 1 19]
def KT:qK:=⟨3,22,[],rg qPW⟩
abbrev qQA:=bO 5 [uI 0,uN,uK 1,uJ,uH 5 9]
abbrev qQB:=bO 9 [uI 0,uI 0,uN,uK 0,uJ,uI 5,uT 5 14,uK 2,uJ,vD 10,uK 1,uc 1 18]
abbrev qQC:=bO 20 [uI 0,uN,uK 0,uJ,uI 5,uS 3 0 5,ug 5 24 25,uc 5 26]
def KV:qK:=⟨2,29,[.t 4],sB 2 [ue 5 1,uO 0] (sr qQA (sr qQB (sr qQC (sB 27 [uI 5,uH 4 28] .ret))))⟩
abbrev qXH:=bO 2 [uI 0,vN 0 1 13,uU 1282 3,vH 0 1 2 1 1 5,ui 2 0 2]
def kD:qK:=⟨1,7,[.l 2 (some 2)],sr [uj 0 1] (sr qXH .ret)⟩
abbrev qOF:=bO 23 [uI 10,uI 1,uN,uK 0,uJ,uR,un 24]
abbrev qOG:=bO 32 [uI 1,uN,uK 0,uJ,uI 10,uT 5 36,uH 11 38]
abbrev qOQ:=bO 38 [uI 11,uN,uK 0,uJ,uI 11,uN,uK 1,uJ,uI 11,uN,uK 2,uJ,uI 11,uN,uK 3,uJ,uD 18 (uC 11 ut),uD 16 (uC 54 (uG [uJ 3 41,uJ 7 45,uJ 11 49] (uP 402))),uD 17 (vY 0 1 42 1 1 46 2 1 50 3 1 55),ui 12 0 5]
abbrev qOX:=bO 59 [uL 12,uM 12 1,uI 2,vg 61 62,uL 12,uX 12 1 1 63]
abbrev qOY:=bO 64 [uI 13,uI 11,uN,uK 4,uJ,uR,un 65]
abbrev qOZ:=bO 73 [uL 12,uM 12 4,vL,u9 2 1 0 76,uq 2 75,uL 12,uX 12 4 1 78]
abbrev qOD:=sr [uO 1 0 12] (.blk 2 (.loop (.seq (sr qOY (cD 71 sK (.exit 2))) (.seq (.blk 3 (rg qOZ)) (rB 71 [uI 13,ub 1,uH 13 73])))))
abbrev qO0:=bO 79 [uI 9,uI 0,uS 12 0 5,uU 1282 81,vJ 1 0 1 0 83,uq 1 80,uH 9 85]
abbrev qOE:qQ:=.seq (.blk 1 (sr qOG (sr qOQ (.seq (sB 56 [uL 12,uM 12 0,uP 1372] (cD 59 (rg qOX) sK)) (.seq qOD (rg qO0)))))) (rB 30 [uI 10,ub 1,uH 10 32])
abbrev qO1:=bO 88 [uI 16,uI 15,uR,un 89]
abbrev qOH:=bO 94 [uI 15,uI 16,uT 4 95,uK 0,uY 2,uC 16 uj,uX 17 0 2 99]
abbrev qOI:=bO 99 [uI 15,uI 16,uT 4 100,uK 2,uY 2,uC 17 uj,uX 18 0 2 104]
abbrev qOJ:=bO 107 [uL 17,uM 17 0,uW 0,uQ,uE 111 (uL 18),uE 111 (uM 18 1),uE 111 (uW 0),ua 111,uH 107 115]
abbrev qOK:=bO 115 [uI 9,uL 18,uM 18 0,uT 1 116,uJ,vH 0 1 1 1 1 120,ui 14 0 2]
abbrev qOL:=bO 122 [uL 17,uM 17 0,uW 0,uH 122 125]
abbrev qOM:=bO 131 [uI 0,uN,uK 0,uJ,uI 9,uL 18,uM 18 0,uT 1 136,uJ,uT 5 135,uK 4,uJ,uL 18,uM 18 1,vx 145 1,uS 14 0 2,ug 2 143 146,uc 2 147]
abbrev qN5:qQ:=.seq (sB 126 [uL 7,uM 7 0,uW 0] (cD 129 (rB 129 [uI 0,uP 1418,ui 14 0 2]) sK)) (sr qOM (.exit 5))
abbrev qON:=bO 149 [uL 17,uM 17 1,vk 151 0,uQ,uE 153 (uL 18),uE 153 (uM 18 1),uE 153 (vk 155 0),ua 153,uH 149 157]
abbrev qOO:=bO 161 [uL 17,uM 17 1,vk 163 0,uH 161 164]
abbrev qOP:=bO 164 [uI 9,uL 18,uM 18 0,uT 1 165,uJ,vH 0 1 1 1 1 169,ui 19 0 2]
abbrev qOR:=bO 171 [uL 18,uM 18 1,vk 173 0,uH 171 174]
abbrev qOS:=bO 174 [uI 9,uL 17,uM 17 0,uT 1 175,uJ,vH 0 1 1 1 1 179,ui 20 0 2]
abbrev qN6:=cD 149 (sB 157 [uI 0,uP 1418,ui 19 0 2] (rB 159 [uS 19 0 2,ui 20 0 2])) (sr qOO (cD 161 (rg qOP) (sr qOR (cD 171 (rg qOS) sK))))
abbrev qOT:=bO 183 [uI 0,uN,uK 0,uJ,uI 9,uL 17,uM 17 0,uT 1 188,uJ,uT 5 187,uK 4,uJ,uL 17,uM 17 1,vx 197 1,uS 19 0 2,ug 2 195 198,uc 2 199]
abbrev qOU:=bO 203 [uI 0,uN,uK 0,uJ,uI 9,uL 18,uM 18 0,uT 1 208,uJ,uT 5 207,uK 4,uJ,uL 18,uM 18 1,vx 217 1,uS 20 0 2,ug 2 215 218,uc 2 219]
abbrev qN7:qQ:=.seq (sB 180 [uL 17,uM 17 1,vk 182 0] (cD 183 (rg qOT) sK)) (sB 200 [uL 18,uM 18 1,vk 202 0] (cD 203 (rg qOU) sK))
abbrev qN8:=sB 105 [vL,uC 19 uj,uX 20 0 2 106] (.seq (.blk 6 (sr qOJ (cD 107 (sr qOK (.exit 5)) (sr qOL (cD 122 (sB 125 [uS 7 0 2,ui 14 0 2] qN5) (sr qON qN6)))))) qN7)
abbrev qN9:qQ:=.seq (.blk 5 (sr qOH (sr qOI (sB 104 [vL,uC 18 uj,uX 19 0 2 105] qN8)))) (rB 92 [uI 16,ub 1,uH 16 94])
abbrev qOV:=bO 222 [uI 22,uI 21,uR,un 223]
abbrev qOW:=bO 228 [uI 0,uI 9,uI 21,uI 22,uT 2 231,uK 0,uJ,uT 1 230,uJ,uI 9,uI 21,uI 22,uT 2 239,uK 1,uJ,uT 1 238,uJ,uv 1280 229 237]
abbrev qOA:=sr [uO 0 0 21] (.blk 7 (.loop (.seq (sr qOV (cD 226 sK (.exit 7))) (.seq (.blk 8 (rg qOW)) (rB 226 [uI 22,ub 1,uH 22 228])))))
abbrev qOB:qQ:=.seq (sr [uO 0 0 15] (.blk 4 (.loop (.seq (sr qO1 (cD 92 sK (.exit 4))) qN9)))) (sB 220 [uI 1,uP 742,uH 21 222] (.seq qOA (sB 246 [uS 14 0 2,ui 8 0 2] .ret)))
abbrev qOC:qQ:=.seq (sr [uO 1 0 9] (.blk 0 (.loop (.seq (sr qOF (cD 30 sK (.exit 0))) qOE)))) (sB 85 [vL,uC 13 uj,uX 14 0 2 86] (sB 86 [uI 1,uP 569,uH 15 88] qOB))
def KG:qK:=⟨4,248,[.l 8 (some 2)],sB 6 [ue 2 3,uj] (sB 22 [uA (.bslice 1 (iI 0) 1 [(0,.c (iI (-1)))]),uH 9 23] qOC)⟩
abbrev qPR:=bO 4 [uI 0,uN,uK 0,uJ,uI 0,uN,uK 1,uJ,uI 0,uN,uK 2,uJ,uI 0,uN,uK 3,uJ,vL,uD 19 (uC 2 ut),uD 17 (uC 21 (u9 2 1 0 21)),uD 18 (vO 0 1 8 1 1 12 2 1 16 3 1 20 4 1 22),ui 3 0 5]
abbrev qPS:=bO 23 [uI 4,uI 0,uN,uK 4,uJ,uR,un 24]
abbrev qPT:=bO 32 [uL 3,uM 3 4,vL,u9 2 1 0 35,uq 2 34,uL 3,uX 3 4 1 37]
abbrev qPQ:=sr [uO 0 0 3] (.blk 0 (.loop (.seq (sr qPS (cD 30 sK (.exit 0))) (.seq (.blk 1 (rg qPT)) (rB 30 [uI 4,ub 1,uH 4 32])))))
def KQ:qK:=⟨1,40,[.l 2 (some 5)],sr [ut 0 1] (sr qPR (.seq qPQ (sB 38 [uS 3 0 5,ui 2 0 5] .ret)))⟩
abbrev qiU:=bO 6 [uI 0,uN,uK 0,uJ,uL 3,uM 3 0,uT 5 10,uP 1277,uC 4 (vP 5),uc 5 14]
abbrev qiV:=bO 14 [uI 0,uN,uK 0,uJ,uL 3,uM 3 1,uT 5 18,uP 1277,uC 5 (vP 5),uc 5 22]
def F969:qK:=⟨2,24,[.t 4],sB 2 [ue 2 1,uO 0] (.seq (.reg false qiU) (.seq (.reg false qiV) (sB 22 [uA (.call 744 [.t 5,.t 6]),uH 4 23] .ret)))⟩
abbrev qiZ:=bO 7 [uI 0,uN,uK 0,uJ,uL 3,uM 3 0,uT 5 11,uH 6 14]
abbrev qi0:=bO 14 [uI 0,uN,uK 0,uJ,uL 3,uM 3 1,uT 5 18,uH 7 21]
abbrev qi1:=bO 21 [uI 6,uN,uK 0,uJ,uI 6,uN,uK 1,uJ,uI 7,uN,uK 0,uJ,uI 7,uN,uK 1,uJ,v8 1110 25 29 33 37,uW 2]
abbrev qi2:=bO 39 [uL 3,uM 3 1,uL 3,uM 3 0,uH 4 41,uI 43]
abbrev qi3:=bO 43 [uL 3,uM 3 0,uL 3,uM 3 1,uH 4 45,uI 47]
def F971:qK:=⟨2,48,[.t 4,.t 5],sB 2 [ue 2 1,uO 0,uO 0] (sr qiZ (sr qi0 (.seq (sr qi1 (cD 39 (sr qi2 .ret) sK)) (sr qi3 .ret))))⟩
abbrev qf0:=bO 13 [uI 1,uS 5 0 2,uU 971 14,uH 13 16,uC 16 (uf 13 0),uf 13 1,uH 8 17,uI 18]
abbrev qf1:=bO 18 [uI 1,uN,uK 0,uJ,uI 8,uT 5 22,uH 10 24]
abbrev qf2:=bO 24 [uI 1,uN,uK 0,uJ,uI 9,uT 5 28,uH 11 30]
abbrev qf3:=bO 37 [uI 11,uN,uK 4,uJ,uR,uA (.bin .mul (.c (iI 3)) (.t 42)),vf 2 43,uH 6 44,uO 0]
abbrev qf4:=bO 46 [uI 11,uN,uK 4,uJ,uR,uH 6 51,uO 0]
abbrev qf5:=bO 55 [uI 10,uN,uK 4,uJ,uR,vf 1 60,uH 6 61,uO 0]
abbrev qf6:=bO 63 [uI 10,uN,uK 2,uJ,uI 0,uR,vj 67 69]
abbrev qf7:=bO 70 [uI 0,uI 10,uN,uK 2,uJ,uT 1 71,uH 12 76]
abbrev qf8:=bO 76 [uI 12,uD 2 (uH 79 10),uD 3 uN,uD 4 (uK 1),uD 5 uJ,uD 1 (uC 77 (uG [uJ 5 81] (uP 1177))),uC 82 (vg 78 82),vk 83 8]
abbrev qf9:=bO 84 [uI 12,uN,uK 0,uJ,uR,vx 89 1,uI 12,uG [uJ 3 87] (uA (.call 1174 [.t 91,.c (.bool false)])),vg 90 92,uH 6 93,uO 0]
abbrev qfW:qQ:=.seq (sr qf6 (cD 70 (sB 5 [uO 0,uO 3] .ret) sK)) (sr qf7 (.seq (sr qf8 (cD 84 (sB 5 [uO 0,uO 9] .ret) sK)) (sr qf9 .ret)))
abbrev qfX:=cD 52 (sB 5 [uO 1,uO 0] .ret) (sB 54 [uZ 33 6,uH 54 55] (cD 54 (sr qf5 .ret) (sB 62 [uZ 33 7,uH 62 63] (cD 62 qfW sK))))
abbrev qfY:=sB 36 [uZ 33 3,uH 36 37] (cD 36 (sr qf3 .ret) (sB 45 [uZ 33 4,uH 45 46] (cD 45 (sr qf4 .ret) (sB 52 [uZ 33 5,uH 52 53] qfX))))
abbrev qfZ:=sB 30 [uI 1,uS 5 0 2,uU 969 31] (.blk 0 (sB 34 [uZ 33 8,uH 34 35] (cD 34 (sB 5 [uO 0,uO 11] .ret) qfY)))
def F855:qK:=⟨3,94,[.t 6,.t 7],sB 4 [ue 2 2,uO 0,uO 0] (sr qf0 (sr qf1 (sr qf2 (.seq qfZ (sB 5 [uO 0,uO 0] .ret)))))⟩
def F857:qK:=⟨1,5,[.t 2],sr [uO 0 0 1] (.seq (sB 2 [uI 0,uW 7] (cD 4 (sr [uO 1 0 1] .ret) sK)) (sr [uO 2 0 1] .ret))⟩
abbrev qiX:=bO 4 [uI 0,uN,uK 1,uJ,uH 4 8]
abbrev qiY:=bO 10 [uI 0,uN,uK 0,uJ,uI 4,uT 5 14,uK 2,uJ,uH 4 18]
abbrev qiW:qQ:=.loop (.seq (sB 8 [uI 4,vi 9 0] (cD 10 sK (.exit 0))) (.seq (.blk 1 (rB 18 [uI 3,ub 1,uH 3 20])) (rg qiY)))
def F970:qK:=⟨1,22,[.t 2],sr [uO 0 0 1] (sr [uO 0 0 2] (.seq (sr qiX (.blk 0 qiW)) (sB 20 [uI 3,uH 2 21] .ret)))⟩
abbrev qhY:=bO 2 [uI 0,uN,uK 0,uJ,uI 0,uN,uK 1,uJ,uI 0,uN,uK 2,uJ,uI 0,uN,uK 3,uJ,uD 17 (uC 19 (vE 2)),uD 18 (uI 0),uD 19 uN,uD 20 (uK 4),uD 21 uJ,uD 16 (uC 18 (uG [uJ 3 5,uJ 7 9,uJ 11 13,uJ 21 23] (uP 402))),uC 24 (uG [uJ 3 5,uJ 7 9,uJ 11 13] (uq 2 20)),vO 0 1 6 1 1 10 2 1 14 3 1 19 4 1 25,ui 2 0 5]
def XT:qK:=⟨1,27,[.l 2 (some 5)],sr [ut 0 1] (sr qhY .ret)⟩
abbrev qPU:=bO 3 [uI 0,uN,uK 0,uJ,uI 1,uI 0,uN,uK 1,uJ,uA (.build (.agg [iI 0,iI 0,iI 0,.nils,.nils]) [(2,1,.t 12)]),ug 5 7 8,uc 5 13]
abbrev qPV:=bO 14 [uI 0,uI 1,vD 15,uK 1,uc 1 16]
def KR:qK:=⟨2,19,[],sr qPU (rg qPV)⟩
def KS:qK:=⟨1,5,[.l 2 (some 2)],sr [uj 0 1] (sB 2 [uI 0,vH 0 1 1 1 1 3,ui 2 0 2] .ret)⟩
abbrev qPZ:=bO 13 [uI 0,uI 2,uN,uK 0,uJ,uI 2,uN,uK 1,uJ,uI 2,uN,uK 2,uJ,uI 2,uN,uK 3,uJ,uG [uJ 4 17,uJ 8 21,uJ 12 25] (uP 402),vY 0 1 18 1 1 22 2 1 26 3 1 31,uU 1282 14,uH 7 33]
abbrev qP0:=bO 33 [uI 0,uI 2,uN,uK 0,uJ,uI 2,uN,uK 1,uJ,uI 2,uN,uK 2,uJ,uI 2,uN,uK 3,uJ,uG [uJ 4 37,uJ 8 41,uJ 12 45] (uP 402),vY 0 1 38 1 1 42 2 1 46 3 1 51,uU 1282 34,uH 8 53]
abbrev qP2:=bO 53 [uI 1,uN,uK 4,uJ,ur 2 0,uY 2,uI 7,uD 9 (uH 63 1),uD 10 uN,uD 11 (uK 4),uD 12 uJ,uD 13 (ur 2 1),uD 14 (uY 2),uD 15 (uI 8),uD 7 (uC 60 (uG [uJ 3 56,uY 2 5 58,uJ 12 65,uY 2 14 67] (uP 1279))),uD 8 (vC 0 2 59 2 2 61),uC 69 (uG [uJ 3 56,uY 2 5 58,uJ 12 65,uY 2 14 67] (uP 1279)),vC 0 2 68 2 2 70,vR 4 2 0 62 1 71,uH 9 72]
abbrev qP3:=bO 72 [uI 10,uI 2,uN,uK 4,uJ,uR,un 73]
abbrev qP4:=bO 81 [uI 0,uI 1,uN,uK 1,uJ,ve 0 1 4 1 1 86,uU 1282 82,uH 11 88]
abbrev qP5:=bO 88 [uI 0,uP 1418,uC 11 uj,uX 12 0 2 90]
abbrev qP6:=bO 90 [uI 0,uP 1418,uC 12 uj,uX 13 0 2 92]
abbrev qP7:=bO 92 [uI 0,uN,uK 0,uJ,uI 11,uS 12 0 2,uS 13 0 2,vS 2 2 0 98 1 99,ug 5 96 97,uK 4,uc 1 100]
abbrev qP8:=bO 102 [uI 0,uN,uK 0,uJ,uI 7,uI 0,uN,uK 0,uJ,uI 7,uT 5 111,uK 4,uJ,uS 12 0 2,u9 2 1 0 116,uG [uJ 3 105] (uq 2 115),ug 5 106 107,uK 4,uc 1 118]
abbrev qP9:=bO 120 [uI 0,uN,uK 0,uJ,uI 8,uI 0,uN,uK 0,uJ,uI 8,uT 5 129,uK 4,uJ,uS 13 0 2,u9 2 1 0 134,uG [uJ 3 123] (uq 2 133),ug 5 124 125,uK 4,uc 1 136]
abbrev qP1:=bO 138 [uI 9,uI 2,uN,uK 4,uJ,uI 10,uT 2 143,uY 2,uI 11,uG [uJ 4 142,uY 2 7 145] (uP 1279),vC 0 2 146 2 2 148,vG 4 1 0 149,uq 4 139,uH 9 151]
abbrev qPX:qQ:=.seq (.blk 1 (sr qP4 (sr qP5 (sr qP6 (sr qP7 (sr qP8 (sr qP9 (rg qP1)))))))) (rB 79 [uI 10,ub 1,uH 10 81])
abbrev qPY:=sr qP2 (.seq (sr [uO 0 0 9] (.blk 0 (.loop (.seq (sr qP3 (cD 79 sK (.exit 0))) qPX)))) (sB 151 [uI 9,uH 6 152] .ret))
def KU:qK:=⟨3,153,[.t 6],sr [uo 0 5] (sr qPZ (sr qP0 qPY))⟩
abbrev qQH:=bO 12 [uI 2,uN,uK 3,uJ,ur 1 0,uJ,uH 7 18]
abbrev qQI:=bO 18 [uI 2,uN,uK 0,uJ,uW 10]
abbrev qQP:=bO 23 [uI 2,uN,uK 3,uJ,uI 1,uN,uK 2,uJ,uT 1 27,uJ,uH 7 33]
abbrev qQQ:=bO 33 [uI 1,uN,uK 2,uJ,uW 0]
abbrev qQR:=bO 38 [uI 2,uN,uK 3,uJ,ur 1 1,uJ,uH 7 44]
abbrev qQS:=bO 44 [uI 0,uI 2,uN,uK 1,uJ,uI 7,vT 0 1 12 1 1 49 2 1 50,uU 1282 45,uH 8 52]
abbrev qQT:=bO 53 [uI 10,uI 1,uN,uK 4,uJ,uR,un 54]
abbrev qQU:=bO 62 [uI 9,uI 0,uI 2,uN,uK 1,uJ,ve 0 1 3 1 1 68,uU 1282 64,vJ 1 0 1 0 70,uq 1 63,uH 9 72]
abbrev qQG:=sr [uO 0 0 9] (.blk 0 (.loop (.seq (sr qQT (cD 60 sK (.exit 0))) (.seq (.blk 1 (rg qQU)) (rB 60 [uI 10,ub 1,uH 10 62])))))
abbrev qQV:=bO 75 [uI 2,uN,uK 4,uJ,ur 2 0,uY 2,uI 8,uG [uJ 3 78,uY 2 5 80] (uP 1279),vC 0 2 81 2 2 83,vG 4 1 0 84,uH 6 85]
abbrev qQJ:=bO 85 [uI 11,uI 9,uR,un 86]
abbrev qQK:=bO 91 [uI 2,uN,uK 4,uJ,ur 2 0,uY 2,uC 11 uj,uX 12 0 2 97]
abbrev qQL:=bO 97 [uI 11,ub 1,uI 9,uR,un 99]
abbrev qQM:=bO 102 [uI 9,uI 11,ub 1,uT 1 103,uJ,uP 1279,ui 12 0 2]
abbrev qQN:=bO 108 [uI 0,uN,uK 0,uJ,uI 9,uI 11,uT 1 113,uJ,uI 1,uN,uK 4,uJ,uI 11,uT 2 120,uY 2,uS 12 0 2,vS 2 2 0 123 1 124,ug 5 112 116,uK 4,uc 1 125]
abbrev qQD:qQ:=.seq (sr qQJ (cD 89 sK (.exit 2))) (.seq (.blk 3 (sr qQK (.seq (sr qQL (cD 102 (rg qQM) sK)) (rg qQN)))) (rB 89 [uI 11,ub 1,uH 11 91]))
abbrev qQO:=bO 127 [uI 0,uI 8,uI 9,ur 1 0,uJ,uv 1280 128 129]
abbrev qQE:qQ:=.seq (sB 72 [uI 9,uR,uW 0] (cD 75 (sr qQV .ret) sK)) (.seq (sr [uO 0 0 10] (.blk 2 (.loop qQD))) (sr qQO (sB 133 [vE 4,uH 6 134] .ret)))
abbrev qQF:=sr qQH (.seq (sr qQI (cD 23 (rg qQP) (sr qQQ (cD 38 (rg qQR) sK)))) (sr qQS (sB 52 [vE 1,uH 9 53] (.seq qQG qQE))))
def KW:qK:=⟨3,135,[.t 6],sr [uo 0 5] qQF⟩
abbrev qjB:=bO 16 [uI 1,uN,uK 0,uJ,uI 3,uT 5 20,uP 924,uC 10 (vP 5),uc 5 23]
abbrev qjC:=bO 23 [uI 1,uN,uK 0,uJ,uI 4,uT 5 27,uP 924,uC 11 (vP 5),uc 5 30]
abbrev qjG:=bO 35 [uI 1,uI 0,uw 2 11,uJ,uT 1 37,uw 1 11,uJ,uI 4,uD 10 (uC 12 uj),uD 8 (uC 43 (uG [uJ 3 38,uJ 6 41] (uP 1279))),uD 9 (v8 1176 36 40 42 44),ui 13 0 2]
abbrev qjH:=bO 45 [uL 13,uM 13 1,uI 4,uu 47]
abbrev qjI:=bO 49 [uI 1,uI 4,uL 13,uM 13 1,uv 1280 50 51]
abbrev qi9:=sB 33 [uI 2,uW 7] (cD 35 (sr qjG (.seq (sr qjH (cD 49 (rg qjI) sK)) (sB 54 [vE 4,uH 10 55] .ret))) sK)
abbrev qjJ:=bO 63 [uI 14,uw 4 11,uJ,ur 2 0,uY 2,uw 4 12,uJ,ur 2 0,uY 2,vC 0 2 68 2 2 72,uw 4 11,uJ,ur 2 1,uY 2,uw 4 12,uJ,ur 2 1,uY 2,vC 0 2 77 2 2 81,vR 4 2 0 73 1 82,uq 4 64,uH 14 84]
abbrev qjK:=bO 90 [uI 15,uw 4 12,uJ,uR,un 91]
abbrev qjL:=bO 97 [uI 14,uw 4 12,uJ,uI 15,uT 2 100,uY 2,uI 1,vN 0 1 5,uG [uJ 2 99,uY 2 5 102] (uU 1282 104),uG [uJ 2 99,uY 2 5 102] (uP 1279),vC 0 2 103 2 2 107,vG 4 1 0 108,uq 4 98,uH 14 110]
abbrev qjA:=sr [uO 0 0 14] (.blk 1 (.loop (.seq (sr qjK (cD 95 sK (.exit 1))) (.seq (.blk 2 (rg qjL)) (rB 95 [uI 15,ub 1,uH 15 97])))))
abbrev qjD:=bO 116 [uw 2 12,uJ,uw 3 12,uJ,ur 1 0,uJ,uw 2 11,uJ,uv 762 118 122,uL 16,uX 16 2 1 125]
abbrev qjE:=bO 126 [uw 1 12,uJ,uw 2 12,uJ,uw 2 11,uJ,uD 7 (uC 133 (uw 4 12)),uD 8 uJ,uD 9 (ur 2 1),uD 10 (uY 2),uD 6 (uC 132 (vJ 1 0 1 0 132)),uC 137 (u9 2 1 0 137),vd 0 1 8 1 1 128 2 1 130 3 1 133 4 1 138,ui 16 0 5]
abbrev qjF:=bO 139 [uI 14,uw 4 12,uJ,ur 2 0,uY 2,uI 1,uS 16 0 5,uG [uJ 2 141,uY 2 4 143] (uU 1282 145),uG [uJ 2 141,uY 2 4 143] (uP 1279),vC 0 2 144 2 2 148,vG 4 1 0 149,uq 4 140,uH 14 151]
abbrev qi4:=sB 112 [vN 0 1 6,uC 15 ut,uX 16 0 5 113] (.seq (sB 113 [uw 0 12,uJ,uW 8] (cD 116 (rg qjD) (rg qjE))) (rg qjF))
abbrev qi5:=sB 111 [uZ 60 5,uH 111 112] (cD 111 qi4 (sB 152 [uZ 60 6,uH 152 153] (cD 152 (rB 153 [uI 1,uA (.call 1283 [.t 154,.t 11,.t 12]),uH 14 155]) sK)))
abbrev qi6:=sB 85 [uZ 60 3,uH 85 86] (cD 85 (rB 86 [uI 1,uA (.call 1281 [.t 87,.t 11,.t 12]),uH 14 88]) (sB 89 [uZ 60 4,uH 89 90] (cD 89 qjA qi5)))
abbrev qi7:=sr [uI 2 0 59] (.blk 0 (.seq (sB 61 [uZ 60 1,uH 61 62] (cD 61 sK (rB 62 [uZ 60 2,uH 61 63]))) (cD 61 (rg qjJ) qi6)))
abbrev qi8:=sB 55 [uI 1,uI 4,uU 1278 56] (sB 58 [vE 4,uH 14 59] (.seq qi7 (sB 155 [uI 14,uH 10 156] .ret)))
def F972:qK:=⟨5,157,[.t 10],sr [uo 0 9] (sr qjB (sr qjC (sB 30 [uI 1,uI 3,uU 1278 31] (.seq qi9 qi8))))⟩
abbrev qQX:=bO 5 [uL 3,uM 3 0,uW 2,uQ,uE 9 (uI 0),uE 9 uN,uE 9 (uK 0),uE 9 uJ,uE 9 (uL 3),uE 9 (uM 3 1),uE 9 (uT 5 13),uE 9 (uK 4),uE 9 uJ,uE 9 uR,uE 9 (vk 19 0),ua 9]
abbrev qQY:=bO 23 [uI 0,uN,uK 0,uJ,uI 5,uT 5 27,uK 4,uJ,ur 2 0,uY 2,ui 3 0 2]
abbrev qQW:=sB 21 [uL 3,uM 3 1,uH 5 23] (sr qQY (rB 33 [uI 0,uI 5,uU 1278 34]))
def KX:qK:=⟨2,38,[.l 4 (some 2)],sB 2 [ue 2 1,uj] (.seq (.blk 0 (.loop (.seq (sr qQX (cD 21 sK (.exit 0))) (.blk 1 qQW)))) (sB 36 [uS 3 0 2,ui 4 0 2] .ret))⟩
abbrev qjN:=bO 5 [uI 0,uS 4 0 2,uU 1284 6,ui 4 0 2]
abbrev qjO:=bO 8 [uI 0,uS 5 0 2,uU 1284 9,ui 5 0 2]
abbrev qjP:=bO 22 [uL 4,uM 4 0,uW 1,uQ,uE 26 (uL 5),uE 26 (uM 5 0),uE 26 (uW 1),ua 26,uH 22 30]
abbrev qjQ:=bO 30 [uI 0,uL 4,uM 4 1,uL 5,uM 5 1,uv 1280 31 33]
abbrev qjR:=bO 37 [uS 4 0 2,uS 5 0 2,UF 1 1 38 39,uH 37 40]
abbrev qjS:=bO 40 [uI 0,uL 4,uM 4 1,uU 1278 41]
abbrev qjT:=bO 45 [uL 4,uM 4 0,uW 2,uH 45 48]
abbrev qjU:=bO 48 [uI 0,uN,uK 0,uJ,uL 4,uM 4 1,uS 5 0 2,u9 2 1 0 55,ug 5 52 54,uK 4,uc 1 56]
abbrev qjV:=bO 11 [uI 0,uN,uK 0,uJ,uL 5,uM 5 1,uS 4 0 2,u9 2 1 0 18,ug 5 15 17,uK 4,uc 1 19]
abbrev qjM:=sr qjN (sr qjO (.blk 0 (sr qjP (cD 22 (rg qjQ) (sr qjR (cD 37 (rg qjS) (sr qjT (cD 45 (rg qjU) (rg qjV)))))))))
def F973:qK:=⟨3,59,[],sB 3 [ue 2 1,ue 2 2] qjM⟩
abbrev qdS:=bO 15 [uI 1,uN,uK 4,uJ,uI 2,uT 2 19,uY 2,uC 7 uj,uX 8 0 2 22]
abbrev qdT:=bO 22 [uI 1,uS 8 0 2,uU 969 23,uH 9 25]
abbrev qdU:=bO 26 [uI 0,uI 1,uS 8 0 2,uv 855 27 28,uH 26 30,uC 30 (uf 26 0),uf 26 1,uH 10 31,uI 32]
abbrev qdV:=bO 35 [uI 10,uI 1,uP 970,uI 9,uP 857,vg 38 40,vp 36 41]
abbrev qdW:=bO 43 [uI 1,uS 8 0 2,uU 971 44,uH 43 46,uC 46 (uf 43 0),uf 43 1,uH 12 47,uI 48]
abbrev qdX:=bO 48 [uI 1,vE 2,uI 1,uN,uK 4,uJ,uI 2,uA (.slc 2 (.t 54) none (some (.t 55)) none),uD 9 (uH 58 1),uD 10 uN,uD 11 (uK 4),uD 12 uJ,uD 13 (uI 2),uD 14 (ub 1),uD 15 (uA (.slc 2 (.t 61) (some (.t 63)) none none)),uD 8 (uC 56 (uG [uJ 12 60] (uq 2 50))),uC 64 (uq 2 57),vD 49,uK 4,uc 1 65]
abbrev qdY:=bO 67 [uI 0,uI 1,uI 9,uI 12,uI 13,uA (.call 972 [.t 68,.t 69,.t 70,.t 71,.t 72]),uH 14 73]
abbrev qdZ:=bO 73 [uI 15,uI 14,uR,un 74]
abbrev qd0:=bO 79 [uI 1,uI 14,uI 15,uT 4 81,uK 0,uY 2,uI 14,uI 15,uT 4 86,uK 2,uY 2,uv 973 80 85]
abbrev qdR:=sr [uO 0 0 14] (.blk 0 (.loop (.seq (sr qdZ (cD 77 sK (.exit 0))) (.seq (.blk 1 (rg qd0)) (rB 77 [uI 15,ub 1,uH 15 79])))))
abbrev qdP:qQ:=.seq (sr qdV (cD 42 (sB 5 [uO 0,uO 4] .ret) sK)) (sr qdW (sr qdX (sr qdY (.seq qdR (sB 91 [uI 9,uH 6 92,uO 0] .ret)))))
abbrev qdQ:=sr qdT (sr qdU (.seq (sB 32 [uI 11,vv 33 0] (cD 34 (sB 34 [uI 11,uC 5 (uO 0),uI 35] .ret) sK)) qdP))
def F600:qK:=⟨3,93,[.t 6,.t 7],sB 5 [uO 0,uO 0] (sr qdS qdQ)⟩
abbrev qfV:=bO 2 [uI 0,uN,uK 0,uJ,uR,uI 0,uG [uJ 3 5] (uP 970),vz 7 9,uH 2 10]
def F854:qK:=⟨1,11,[.t 2],sr [uO 0 0 1] (sr qfV .ret)⟩
abbrev qbR:=bO 14 [uI 1,uP 854,uI 1,uP 854,uA (.build (.agg [.nils,iI 0,iI 0]) [(1,1,.t 16),(2,1,.t 18)]),vU 3 19,uH 8 20]
abbrev qbS:=bO 20 [uI 1,uN,uK 4,uJ,uR,vk 25 0]
abbrev qbT:=bO 26 [uI 8,uN,uK 0,uJ,uR,uI 2,vj 31 32]
abbrev qbU:=bO 34 [uI 1,uN,uK 4,uJ,uR,vx 39 1,uH 9 40]
abbrev qbV:=bO 41 [uI 0,uI 1,uI 1,uN,uK 4,uJ,uI 9,uT 2 47,uY 2,uv 855 42 43,uH 41 51,uC 51 (uf 41 0),uf 41 1,uH 10 52,uI 53]
abbrev qbW:=bO 56 [uI 0,uI 1,uI 9,uv 600 57 58,uH 56 60,uC 60 (uf 56 0),uf 56 1,uH 13 61,uI 62]
abbrev qbX:=bO 64 [uI 8,uI 14,uH 6 65,uI 66]
abbrev qbY:=bO 66 [uI 8,uI 8,uN,uK 0,uJ,uI 13,vJ 1 0 1 0 72,uq 1 71,vD 67,uK 0,uc 1 74]
abbrev qbZ:=bO 76 [uI 8,uI 8,uN,uK 1,uJ,uI 1,uG [uJ 4 80] (uP 854),uU 856 81,vD 77,uK 1,uc 1 84]
abbrev qb0:=bO 86 [uI 8,uI 8,uN,uK 2,uJ,uI 12,uI 10,vg 92 93,uI 13,uG [uJ 4 90] (uP 857),vz 94 96,uU 856 91,vD 87,uK 2,uc 1 98]
abbrev qbP:=sB 53 [uI 1,uP 854,uH 12 55] (sr qbW (.seq (sB 62 [uI 14,vv 63 0] (cD 64 (sr qbX .ret) sK)) (sr qbY (sr qbZ (rg qb0)))))
abbrev qbQ:qQ:=.loop (.seq (sr qbS (cD 26 sK (.exit 0))) (.blk 1 (.seq (sr qbT (cD 33 (sB 33 [uI 8,uH 6 34,uO 12] .ret) sK)) (sr qbU (sr qbV qbP)))))
def F503:qK:=⟨3,102,[.t 6,.t 7],sB 5 [vQ,uO 0] (sr qbR (.seq (.blk 0 qbQ) (sB 100 [uI 8,uH 6 101,uO 0] .ret)))⟩
abbrev qcX:=bO 4 [uL 2,uM 2 0,uL 3,uM 3 0,un 6,uQ,uF 10 (uL 2),uF 10 (uM 2 0),uF 10 (uL 3),uF 10 (uM 3 0),uF 10 (vh 12 14),uF 10 uQ,uE 16 (uL 2),uE 16 (uM 2 1),uE 16 (uL 3),uE 16 (uM 3 1),uE 16 (un 18),uF 10 (ua 16),uk 10,uH 4 23]
def F556:qK:=⟨2,24,[.t 4],sB 1 [ue 2 0,ue 2 1,uV] (sr qcX .ret)⟩
abbrev qgI:=bO 5 [uI 0,uN,uK 1,uJ,uH 5 9]
abbrev qgJ:=bO 9 [uI 0,uI 0,uN,uK 0,uJ,uI 5,uT 5 14,uK 2,uJ,vD 10,uK 1,uc 1 18]
abbrev qgK:=bO 20 [uI 0,uN,uK 0,uJ,uI 5,uS 3 0 5,ug 5 24 25,uc 5 26]
def F863:qK:=⟨2,29,[.t 4],sB 2 [ue 5 1,uO 0] (sr qgI (sr qgJ (sr qgK (sB 27 [uI 5,uH 4 28] .ret))))⟩
abbrev qgL:=bO 2 [uL 1,uM 1 0,uL 1,uM 1 1,uL 1,uM 1 2,uL 1,uM 1 3,uD 9 (uC 11 (uL 1)),uD 10 (uM 1 4),uD 11 uR,uD 12 (vx 14 1),uD 8 (uC 10 (uP 401)),uC 15 (UE 2 15 15),vO 0 1 4 1 1 6 2 1 8 3 1 11 4 1 16,ui 2 0 5]
def F864:qK:=⟨1,18,[.l 2 (some 5)],sB 0 [ue 5 0,ut] (.seq (.reg false qgL) .ret)⟩
abbrev qgM:=bO 10 [uI 0,uS 6 0 2,vD 11,uK 2,uc 2 12]
abbrev qgN:=bO 14 [uI 0,uN,uK 0,uJ,uI 3,uL 5,uM 5 0,uT 1 19,uJ,uT 5 18,uK 4,uJ,uL 5,uM 5 1,vx 28 1,uS 6 0 2,ug 2 26 29,uc 2 30]
def F866:qK:=⟨4,32,[],sB 4 [ue 2 1,ue 2 2] (sB 7 [uL 5,uM 5 1,uW 0] (cD 10 (rg qgM) (rg qgN)))⟩
abbrev qPN:=bO 5 [uI 0,uN,uK 0,uJ,uR,ub 1,uO 0]
abbrev qPO:=bO 13 [uL 3,uM 3 0,uW 1,uQ,uF 17 (uI 0),uF 17 uN,uF 17 (uK 0),uF 17 uJ,uF 17 (uL 3),uF 17 (uM 3 1),uF 17 (uT 5 21),uF 17 (uK 4),uF 17 uJ,uF 17 uR,uF 17 (uW 0),uk 17]
abbrev qPP:=bO 30 [uI 0,uN,uK 0,uJ,uL 3,uM 3 1,uT 5 34,uK 4,uJ,ur 2 0,uY 2,ui 3 0 2]
abbrev qPL:qQ:=.seq (.blk 1 (.seq (sr qPO (cD 29 (sB 29 [uS 3 0 2,ui 4 0 2,uC 4 u5] .ret) sK)) (rg qPP))) (rB 41 [ux 12 1,uH 12 42])
abbrev qPM:qQ:=.seq (sr qPN (.blk 0 (.loop (sr [uy 11 0 12] (.seq (cD 13 sK (.exit 0)) qPL))))) (sB 42 [vL,ui 4 0 2,uC 4 uV] .ret)
def KO:qK:=⟨2,44,[.l 4 (some 2),.t 5],sB 2 [ue 2 1,uj,uV] qPM⟩
def qD1:qK:=Qi 5 (some 5)
def qDX:qK:=Q8 1482
abbrev qPK:=bO 2 [uL 1,uM 1 0,vi 4 2,uQ,uE 6 (uL 1),uE 6 (uM 1 0),uE 6 (vt 8 12),ua 6,uH 2 10]
def KN:qK:=⟨1,11,[.t 2],sB 0 [ue 5 0,uV] (sr qPK .ret)⟩
abbrev qVZ:=bO 2 [uL 1,uM 1 0,uW 13,uH 2 5]
def Kw:qK:=⟨1,6,[.t 2],sB 0 [ue 5 0,uV] (sr qVZ .ret)⟩
abbrev qXT:=bO 2 [uL 1,uM 1 0,uW 0,uH 2 5]
def kH:qK:=⟨1,6,[.t 2],sB 0 [ue 5 0,uV] (sr qXT .ret)⟩
abbrev qUV:=bO 5 [uL 1,uM 1 0,uL 1,uM 1 1,uL 1,uM 1 2,uL 1,uM 1 3,uL 1,uM 1 4,uR,ub 1,UE 2 17 17,vO 0 1 7 1 1 9 2 1 11 3 1 13 4 1 18,uP 1097,uH 2 20]
abbrev qUW:=bO 23 [uL 1,uM 1 1,uW 0,uQ,uE 27 (uL 1),uE 27 (uM 1 2),uE 27 (uW 0),ua 27,uQ,uE 32 (uL 1),uE 32 (uM 1 3),uE 32 uR,uE 32 (uW 0),ua 32,uQ,uE 38 (uL 1),uE 38 (uM 1 4),uE 38 uR,uE 38 (vt 41 1),ua 38,uH 2 43]
abbrev qUU:=sB 3 [uS 1 0 5,uP 1254,uH 3 5] (cD 3 (sr qUV .ret) (sB 21 [uS 1 0 5,uP 1368,uH 21 23] (cD 21 (sr qUW .ret) sK)))
abbrev qUX:=bO 43 [uS 1 0 5,uP 1455,uQ,uE 46 (uL 1),uE 46 (uM 1 1),uE 46 (uW 0),ua 46,uQ,uE 51 (uL 1),uE 51 (uM 1 3),uE 51 uR,uE 51 (uW 0),ua 51,uQ,uE 57 (uL 1),uE 57 (uM 1 4),uE 57 uR,uE 57 (uW 0),ua 57,uH 2 62]
def Ko:qK:=⟨1,63,[.t 2],sB 0 [ue 5 0,uV] (.seq (.blk 0 qUU) (sr qUX .ret))⟩
abbrev qUT:=bO 2 [uS 1 0 5,uP 1358,ud,uH 2 5]
def Kn:qK:=⟨1,6,[.t 2],sB 0 [ue 5 0,uV] (sr qUT .ret)⟩
def qD2:qK:=Qi 2 (some 2)
def qDY:qK:=Q8 1483
abbrev qUZ:=bO 5 [uI 0,uN,uK 2,uY 2,u9 2 1 0 9,uH 3 10]
abbrev qU0:=bO 10 [uI 0,uN,uK 0,uJ,uR,uO 0]
abbrev qU1:=bO 17 [ug 5 14 16,uY 5,uC 4 ut,uX 5 0 5 19]
abbrev qU2:=bO 19 [uI 3,uL 5,uM 5 4,uq 2 20,uH 3 23]
abbrev qUY:qQ:=.loop (sr [uy 15 0 16] (.seq (cD 17 sK (.exit 0)) (.seq (.blk 1 (sr qU1 (rg qU2))) (rB 23 [ux 16 1,uH 16 24]))))
def Kp:qK:=⟨1,26,[.t 2],sr [uo 0 1] (sr qUZ (.seq (sr qU0 (.blk 0 qUY)) (sB 24 [uI 3,uH 2 25] .ret)))⟩
abbrev qX4:=bO 4 [uI 1,vi 5 0,uQ,uE 7 (uI 1),uE 7 (uI 0),uE 7 uN,uE 7 (uK 0),uE 7 uJ,uE 7 uR,uE 7 (un 8),ua 7,uH 4 15]
def kN:qK:=⟨2,16,[.t 4],sr [uV 0 3] (sr qX4 .ret)⟩
abbrev qU4:=bO 5 [uI 0,uL 3,uM 3 1,uU 1484 6,ud]
abbrev qU5:=bO 10 [uI 0,uN,uK 0,uJ,uL 3,uM 3 1,uT 5 14,uY 5,uC 4 ut,uX 5 0 5 18]
abbrev qU6:=bO 18 [uL 3,uM 3 0,uW 1,uQ,uE 22 (uS 5 0 5),uE 22 (uP 1254),ua 22,uQ,uF 26 (uL 3),uF 26 (uM 3 0),uF 26 (uW 2),uF 26 uQ,uE 30 (uS 5 0 5),uE 30 (uP 1368),uF 26 (ua 30),uk 26,uH 4 34]
def Kr:qK:=⟨2,35,[.t 4],sB 2 [ue 2 1,uV] (.seq (sr qU4 (cD 10 (sr [uV 0 3] .ret) sK)) (sr qU5 (sr qU6 .ret)))⟩
abbrev qU3:=bO 3 [uz 1,uS 2 0 2,uU 1362 4,ud,uH 3 7]
def Kq:qK:=⟨2,8,[.t 3],sB 1 [ue 2 0,uV] (sr qU3 .ret)⟩
def qDZ:qK:=Q8 1485
abbrev qU8:=bO 4 [uL 3,uM 3 0,uL 3,uM 3 1,un 6,uQ,uE 10 (uI 0),uE 10 (uL 3),uE 10 (uM 3 0),uE 10 (uU 1484 11),ua 10,uQ,uE 16 (uI 0),uE 16 (uL 3),uE 16 (uM 3 1),uE 16 (uU 1484 17),ua 16,uQ,uE 22 (uI 0),uE 22 uN,uE 22 (uK 0),uE 22 uJ,uE 22 (uL 3),uE 22 (uM 3 0),uE 22 (uT 5 26),uE 22 (uY 5),uE 22 (uP 1254),ua 22,uQ,uE 33 (uI 0),uE 33 uN,uE 33 (uK 0),uE 33 uJ,uE 33 (uL 3),uE 33 (uM 3 1),uE 33 (uT 5 37),uE 33 (uY 5),uE 33 (uP 1254),ua 33,uH 4 43]
def Kt:qK:=⟨2,44,[.t 4],sB 2 [ue 2 1,uV] (sr qU8 .ret)⟩
abbrev qU7:=bO 3 [uz 1,uS 2 0 2,uU 1365 4,ud,uH 3 7]
def Ks:qK:=⟨2,8,[.t 3],sB 1 [ue 2 0,uV] (sr qU7 .ret)⟩
abbrev qVE:=bO 12 [uI 0,uN,uK 0,uJ,uR,uA (.mksl 1 (iI 0) (.t 17) (.t 17)),uH 5 18]
abbrev qVF:=bO 18 [uI 0,uP 1360,uI 1,uq 2 20,uR,uO 0]
abbrev qVK:=bO 25 [ug 2 22 24,uY 2,uC 6 uj,uX 7 0 2 27]
abbrev qVL:=bO 27 [uI 5,uL 7,uM 7 1,uT 1 28,uJ,ub 1,ug 1 28 30,uc 1 33]
abbrev qVC:qQ:=.loop (sr [uy 23 0 24] (.seq (cD 25 sK (.exit 0)) (.seq (.blk 1 (sr qVK (rg qVL))) (rB 34 [ux 24 1,uH 24 35]))))
abbrev qVM:=bO 35 [uI 0,uN,uK 4,uJ,uR,uO 0]
abbrev qVN:=bO 42 [ug 2 39 41,uY 2,uC 8 uj,uX 9 0 2 44]
abbrev qVO:=bO 44 [uI 5,uL 9,uM 9 0,uT 1 45,uJ,ub 1,ug 1 45 47,uc 1 50]
abbrev qVP:=bO 51 [uI 5,uL 9,uM 9 1,uT 1 52,uJ,ub 1,ug 1 52 54,uc 1 57]
abbrev qVD:qQ:=.loop (sr [uy 40 0 41] (.seq (cD 42 sK (.exit 2)) (.seq (.blk 3 (sr qVN (sr qVO (rg qVP)))) (rB 58 [ux 41 1,uH 41 59]))))
abbrev qVG:=bO 59 [uI 0,uN,uK 0,uJ,uR,uO 0]
abbrev qVH:=bO 66 [uI 65,ug 5 63 65,uY 5,uC 10 ut,uH 10 67,uX 11 0 5 69]
abbrev qVI:=bO 73 [uS 11 0 5,uP 1368,uQ,uE 76 (uL 11),uE 76 (uM 11 4),uE 76 uR,uE 76 (uW 0),ua 76,uH 73 81]
abbrev qU9:=sB 70 [uS 11 0 5,uP 1455,uH 70 72] (cD 70 (rg [uO 0 0 11]) (sr qVI (cD 73 (rg [uO 2 0 11]) sK)))
abbrev qVJ:=bO 81 [uI 5,uI 10,uT 1 82,uJ,uI 12,uu 85]
abbrev qVA:qQ:=.seq (.blk 5 (sr qVH (sr [uO 1 0 11] (.seq (.blk 6 qU9) (sr qVJ (cD 87 (sr [uV 0 3] .ret) sK)))))) (rB 87 [ux 65 1,uH 65 88])
abbrev qVB:qQ:=.seq (sr qVF (.blk 0 qVC)) (.seq (sr qVM (.blk 2 qVD)) (.seq (sr qVG (.blk 4 (.loop (sr [uy 64 0 65] (.seq (cD 66 sK (.exit 4)) qVA))))) (sr [u5 0 3] .ret)))
def Ku:qK:=⟨2,89,[.t 4],sr [uV 0 3] (sr qVE qVB)⟩
abbrev qVT:=bO 6 [uI 0,uN,uK 0,uJ,uR,uO 0]
abbrev qVU:=bO 13 [ug 5 10 12,uY 5,uC 4 ut,uX 5 0 5 15]
abbrev qVV:=bO 15 [uI 3,uS 5 0 5,uP 1455,uP 566,vg 16 19,uH 3 20]
abbrev qVQ:qQ:=.loop (sr [uy 11 0 12] (.seq (cD 13 sK (.exit 0)) (.seq (.blk 1 (sr qVU (rg qVV))) (rB 20 [ux 12 1,uH 12 21]))))
abbrev qVW:=bO 21 [uI 0,uN,uK 1,uJ,uH 6 25]
abbrev qVX:=bO 28 [uI 0,uI 6,uU 1484 29,ud,uQ,uF 33 (uI 0),uF 33 uN,uF 33 (uK 0),uF 33 uJ,uF 33 (uI 6),uF 33 (uT 5 37),uF 33 (uY 5),uF 33 (uP 1455),uF 33 ud,uk 33]
abbrev qVY:=bO 43 [uI 0,uN,uK 0,uJ,uI 6,uT 5 47,uK 2,uJ,uH 6 51]
abbrev qVR:=sr [uy 26 0 27] (.seq (cD 28 sK (.exit 2)) (.seq (.blk 3 (.seq (sr qVX (cD 43 (sr [uV 0 1] .ret) sK)) (rg qVY))) (rB 51 [ux 27 1,uH 27 52])))
abbrev qVS:qQ:=.seq (sB 25 [uI 3,uO 0] (.blk 2 (.loop qVR))) (sB 52 [uI 6,uW (-1),uH 2 54] .ret)
def Kv:qK:=⟨1,55,[.t 2],sr [uV 0 1] (sr [uO 0 0 2] (.seq (sr qVT (.blk 0 qVQ)) (sr qVW qVS)))⟩
abbrev qMF:=bO 8 [uz 2,uN,uK 0,uJ,uR,vu 13 1,uQ,uF 15 (uz 2),uF 15 uN,uF 15 (uK 0),uF 15 uJ,uF 15 uR,uF 15 (vk 20 1500),uk 15,uQ,uF 23 (uz 2),uF 23 uN,uF 23 (uK 4),uF 23 uJ,uF 23 uR,uF 23 (uz 2),uF 23 uN,uF 23 (uK 0),uF 23 uJ,uF 23 uR,uF 23 (vp 28 33),uk 23]
abbrev qMG:=bO 35 [uz 2,uN,uK 0,uJ,uA (.call 1356 [.t 39,.f 1357]),uQ,uF 41 (uz 2),uF 41 (uP 1360),uF 41 (uI 1),uF 41 (uq 2 43),uF 41 (uA (.mkfn 1361 [.t 2])),uF 41 (uU 1359 45),uk 41,uQ,uF 49 (uz 2),uF 49 uN,uF 49 (uK 4),uF 49 uJ,uF 49 (uA (.mkfn 1364 [.t 2])),uF 49 (uU 1363 53),uk 49]
abbrev qMH:=bO 56 [uz 2,uI 1,uU 1366 57,ud,uQ,uF 61 (uz 2),uF 61 (uP 1367),uF 61 ud,uk 61]
abbrev qMI:=bO 65 [uz 2,uN,uK 0,uJ,uR,uO 0]
abbrev qMJ:=bO 72 [uI 71,ug 5 69 71,uY 5,uC 5 ut,uH 5 73,uX 6 0 5 75]
abbrev qMK:=bO 78 [uz 2,uI 5,vH 0 1 2 1 1 80,uU 1256 79,uH 78 82,uC 82 (uf 78 0),uf 78 1,uC 6 uj,uX 7 0 2 83,uI 84]
abbrev qMC:=sB 75 [uS 6 0 5,uP 1368] (cD 77 (sr qMK (sB 84 [uI 8,ud] (cD 86 (sr [uV 0 3] .ret) sK))) sK)
abbrev qMD:=sr qMI (.blk 0 (.loop (sr [uy 70 0 71] (.seq (cD 72 sK (.exit 0)) (.seq (.blk 1 (sr qMJ qMC)) (rB 86 [ux 71 1,uH 71 87]))))))
abbrev qME:qQ:=.seq (sr qMF (cD 35 (sr [uV 0 3] .ret) sK)) (.seq (sr qMG (cD 56 (sr [uV 0 3] .ret) sK)) (.seq (sr qMH (cD 65 (sr [uV 0 3] .ret) sK)) (.seq qMD (sr [u5 0 3] .ret))))
def Uy:qK:=⟨2,88,[.t 4],sB 1 [vU 1 0,uC 3 uV] qME⟩
def F867:qK:=⟨1,4,[.t 2],sB 0 [vU 5 0,uV] (sB 2 [uA (.call 1068 [.t 1,.c (.nils)]),uH 2 3] .ret)⟩
abbrev qML:=bO 4 [vE 2,uI 0,uq 2 5,uH 2 7]
def qDP:qK:=⟨1,8,[.t 2],sr [uo 0 1] (.seq (sB 2 [uI 0,UC 1 3] (cD 4 (sr [uo 0 1] .ret) sK)) (sr qML .ret))⟩
abbrev qO5:=bO 4 [vE 2,uI 0,uq 2 5,uH 2 7]
def qDT:qK:=⟨1,8,[.t 2],sr [uo 0 1] (.seq (sB 2 [uI 0,UC 1 3] (cD 4 (sr [uo 0 1] .ret) sK)) (sr qO5 .ret))⟩
abbrev qgP:=bO 5 [uL 1,uM 1 0,uR,uD 4 (uC 9 (uL 1)),uD 5 (uM 1 1),uD 6 (uL 1),uD 7 (uS 1 2 2),uD 8 (uL 1),uD 9 (uM 1 4),uD 12 (uC 2 vF),uC 15 (uP 1070),uD 3 (uC 8 (UD 5 0 8)),uD 11 (uC 16 (uA (.build (.agg [.nils,iI 0,iI 0,iI 0,.nils]) [(0,1,.t 9),(1,1,.t 11),(2,2,.t 13),(4,1,.t 16)]))),ui 3 0 5]
abbrev qgQ:=bO 17 [uL 1,uM 1 0,uR,uO 0]
abbrev qgR:=bO 22 [ug 5 19 21,uY 5,uC 4 ut,uX 5 0 5 24]
abbrev qgS:=bO 24 [uL 5,uM 5 3,uD 3 (uC 27 (uL 5)),uD 4 (uM 5 4),uD 2 (uC 26 (uP 401)),uD 6 (uC 30 (uL 5)),uD 5 (uC 29 (uP 1181)),uX 5 3 1 27,uC 31 (uL 5),uX 5 4 1 30]
abbrev qgT:=bO 32 [uL 3,uM 3 0,uS 5 0 5,vV 5 1 0 35,uq 5 34,uL 3,uX 3 0 1 37]
abbrev qgO:qQ:=.loop (sr [uy 20 0 21] (.seq (cD 22 sK (.exit 0)) (.seq (.blk 1 (sr qgR (sr qgS (rg qgT)))) (rB 38 [ux 21 1,uH 21 39]))))
def F868:qK:=⟨1,41,[.l 2 (some 5)],sB 0 [ue 5 0,vF] (.seq (.reg false qgP) (.seq (sr qgQ (.blk 0 qgO)) (sB 39 [uS 3 0 5,ui 2 0 5] .ret)))⟩
abbrev qYF:=bO 5 [uI 0,uN,uK 0,uJ,uI 1,uT 5 9,uY 5,uC 4 ut,uX 5 0 5 12]
abbrev qYG:=bO 12 [uL 5,uM 5 0,uL 5,uM 5 1,uL 5,uM 5 2,uL 5,uM 5 3,uL 5,uM 5 4,uR,ub 1,UE 2 24 24,vO 0 1 14 1 1 16 2 1 18 3 1 20 4 1 25,ui 4 0 5]
def kW:qK:=⟨2,27,[.l 4 (some 5)],sr [ut 0 3] (sr qYF (sr qYG .ret))⟩
abbrev qXK:=bO 4 [uI 0,uL 3,uM 3 0,uD 4 (uH 9 0),uD 5 (uL 3),uD 6 (uM 3 1),uD 3 (uC 7 (uU 1509 5)),uC 11 (uU 1509 9),uA (.bslice 5 (.agg [iI 0,iI 0,iI 0,.nils,.nils]) 2 [(0,.t 8),(1,.t 12)]),uA (.build (.agg [.nils]) [(0,1,.t 13)]),ui 4 0 1]
def kE:qK:=⟨2,15,[.l 4 (some 1)],sB 2 [ue 2 1,vI] (sr qXK .ret)⟩
abbrev qQZ:=bO 2 [ue 2 1,uO 0,uO 0,uO 0]
abbrev qQ0:=bO 8 [uI 0,uS 3 0 2,uU 1420 9,uC 6 (va 1),uc 1 11]
abbrev qQ1:=bO 12 [vZ 0 1 0 1 1 1,uU 751 7,uH 12 14,uC 14 (uf 12 0),uf 12 1,uH 4 15,uH 8 16]
abbrev qQ2:=bO 17 [uI 4,uL 3,uM 3 1,uL 3,uM 3 0,uH 4 18,uI 20,uI 22]
abbrev qQ3:=bO 22 [uI 4,uL 3,uM 3 0,uL 3,uM 3 1,uH 4 23,uI 25,uI 27]
def KY:qK:=⟨2,28,[.t 4,.t 5,.t 6],sr qQZ (sr qQ0 (sr qQ1 (.seq (sr [uI 8 0 16] (cD 17 (sr qQ2 .ret) sK)) (sr qQ3 .ret))))⟩
abbrev qXM:=bO 6 [uI 0,uP 554,uR,uO 0]
abbrev qXN:=bO 11 [ug 2 8 10,uY 2,uC 4 uj,uX 5 0 2 13]
abbrev qXO:=bO 13 [uI 0,uS 5 0 2,uU 555 14,uC 5 uj,uX 6 0 2 16]
abbrev qXP:=bO 16 [uS 5 0 2,uS 6 0 2,uU 556 17,uQ,uE 20 (uL 5),uE 20 (uM 5 1),uE 20 (vk 22 0),ua 20,uQ,uE 25 (uL 6),uE 25 (uM 6 1),uE 25 (vk 27 0),ua 25]
abbrev qXQ:=bO 29 [uI 3,uS 5 0 2,uS 6 0 2,vC 0 2 31 2 2 32,vG 4 1 0 33,uq 4 30,uH 3 35]
abbrev qXL:=sr [uy 9 0 10] (.seq (cD 11 sK (.exit 0)) (.seq (.blk 1 (sr qXN (sr qXO (sr qXP (cD 29 (rg qXQ) sK))))) (rB 35 [ux 10 1,uH 10 36])))
def kF:qK:=⟨1,38,[.t 2],sr [uo 0 1] (sr [uo 0 2] (.seq (sr qXM (.blk 0 (.loop qXL))) (sB 36 [uI 3,uH 2 37] .ret)))⟩
abbrev qPC:=bO 15 [uI 0,uN,uK 0,uS 3 0 2,uD 5 (uH 21 0),uD 6 uN,uD 7 (uK 5),uD 8 uJ,uD 4 (uC 19 (uG [uJ 8 23] (uU 1420 18))),uC 24 (uA (.build (.agg [.nils,.nils,.nilm]) [(0,1,.t 20),(1,1,.t 24)])),vU 3 25,uH 6 26]
abbrev qPD:=bO 27 [uI 6,vZ 0 1 0 1 1 1,uU 1305 28,uH 27 30,uC 30 (uf 27 0),uf 27 1,uf 27 2,uf 27 3,uH 7 31,uI 32,uI 33,uI 34]
abbrev qPE:=bO 38 [uI 0,uN,uK 0,uS 3 0 2,uU 1285 41,uH 38 43,uC 43 (uf 38 0),uf 38 1,uf 38 2,uH 11 44,uI 45,uI 46]
abbrev qPF:=bO 46 [uI 0,uN,uK 0,uK 0,uJ,uI 13,uT 5 51,uK 4,uJ,uR,uH 14 56]
abbrev qPG:=bO 59 [uI 14,uA (.bin .mul (.c (iI 3)) (.t 60)),vf 2 61,uH 4 62,uO 0]
abbrev qPH:=bO 69 [uI 0,uN,uK 0,uK 0,uJ,uI 12,uT 5 74,uK 4,uJ,uR,vf 1 79,uH 4 80,uO 0]
abbrev qPI:=bO 82 [uI 0,uN,uK 5,uJ,uI 0,uN,uK 0,uK 0,uJ,uI 12,uT 5 91,uK 2,uJ,uT 1 86,uY 1,uC 14 (va 1),uc 1 97]
abbrev qPJ:=bO 97 [uw 0 15,uJ,uR,vx 100 1,uG [uJ 1 98] (vM 1421 15),uR,vg 101 103,uH 4 104,uO 0]
abbrev qPA:=sB 68 [uZ 57 6,uH 68 69] (cD 68 (sr qPH .ret) (sB 81 [uZ 57 7,uH 81 82] (cD 81 (sr qPI (sr qPJ .ret)) sK)))
abbrev qPB:=cD 63 (sB 64 [uI 14,uH 4 65,uO 0] .ret) (sB 66 [uZ 57 5,uH 66 67] (cD 66 (sB 3 [uO 1,uO 0] .ret) qPA))
abbrev qO8:=sr [uI 7 0 56] (.blk 0 (sB 58 [uZ 57 3,uH 58 59] (cD 58 (sr qPG .ret) (sB 63 [uZ 57 4,uH 63 64] qPB))))
abbrev qO9:qQ:=.seq (sB 34 [uI 10,vv 35 0] (cD 36 (sB 36 [uI 10,uC 3 (uO 0),uI 37] .ret) sK)) (sr qPE (sr qPF (.seq qO8 (sB 3 [uO 0,uO 0] .ret))))
def KL:qK:=⟨2,105,[.t 4,.t 5],sB 2 [ue 2 1,uO 0,uO 0] (sr qPC (sr qPD qO9))⟩
abbrev qQ5:=bO 6 [uI 0,uN,uK 0,uJ,uR,uO 0]
abbrev qQ6:=bO 13 [ug 5 10 12,uY 5,uC 5 ut,uX 6 0 5 15]
abbrev qQ7:=bO 15 [uI 2,uS 6 0 5,uP 1254,uP 566,vg 16 19,uH 2 20]
abbrev qQ8:=bO 20 [uI 3,uS 6 0 5,uP 1368,uP 566,vg 21 24,uH 3 25]
abbrev qQ9:=bO 25 [uI 4,uS 6 0 5,uP 1455,uP 566,vg 26 29,uH 4 30]
abbrev qQ4:=sr [uy 11 0 12] (.seq (cD 13 sK (.exit 0)) (.seq (.blk 1 (sr qQ6 (sr qQ7 (sr qQ8 (rg qQ9))))) (rB 30 [ux 12 1,uH 12 31])))
abbrev qRA:=bO 31 [uI 2,uI 3,uI 4,uH 2 32,uI 33,uI 34]
def KZ:qK:=⟨1,35,[.t 2,.t 3,.t 4],sB 1 [uO 0,uO 0,uO 0] (.seq (sr qQ5 (.blk 0 (.loop qQ4))) (sr qRA .ret))⟩
abbrev qRC:=bO 7 [uI 0,uI 1,uI 2,uI 0,uR,uA (.slcm 2 (.t 8) (.t 9) (.t 10) (.t 12))]
abbrev qRD:=bO 19 [uI 0,uI 1,uA (.slc 2 (.t 20) none (some (.t 21)) none),uI 0,uI 2,uA (.slc 2 (.t 23) (some (.t 24)) none none),uA (.appx 2 (.t 22) (.t 25)),(λ_ _=>.mk 7 (some 0) none (.mov (.t 26)) [])]
abbrev qRE:=bO 26 [uI 0,uI 0,uR,uI 7,uA (.slcx 2 (.t 27) (some (.t 29)) (some (.t 30))),uB (.clear 2 (.agg [iI 0,iI 0]) (.t 31))]
abbrev qRB:=sB 17 [uI 0,uR,uH 7 19] (sr qRD (sr qRE (sB 31 [uI 0,uH 6 32] .ret)))
def Ka:qK:=⟨3,33,[.t 6],sr [uo 0 5] (sr qRC (.seq (sB 13 [uI 1,uI 2,vh 14 15] (cD 16 (sB 16 [uI 0,uH 6 17] .ret) sK)) qRB))⟩
abbrev qRF:=bO 3 [uI 0,uN,uK 0,uJ,uI 1,uI 0,uN,uK 1,uJ,uA (.build (.agg [iI 0,iI 0,iI 0,.nils,.nils]) [(2,1,.t 12)]),ug 5 7 8,uc 5 13]
abbrev qRG:=bO 14 [uI 0,uI 1,vD 15,uK 1,uc 1 16]
def XN:qK:=⟨2,19,[],sr qRF (rg qRG)⟩
def KP:qK:=⟨0,2,[.l 0 (some 2)],sr [.mk 0 (some 0) none (.lalloc (.agg [iI 0,iI 0])) []] (sB 0 [vZ 0 1 0 1 1 0,ui 0 0 2] .ret)⟩
abbrev qTC:=bO 5 [uI 0,uI 0,uN,uK 4,uJ,uI 1,uI 2,uA (.min (.t 11) (.t 12)),uI 1,uI 2,uA (.max (.t 14) (.t 15)),vK 0 1 13 1 1 16,u9 2 1 0 17,uq 2 10,vD 6,uK 4,uc 1 19]
def Kh:qK:=⟨3,22,[],rg qTC⟩
def kX:qK:=⟨1,5,[.l 2 (some 2)],sr [uj 0 1] (sB 2 [uI 0,vH 0 1 2 1 1 3,ui 2 0 2] .ret)⟩
abbrev qX2:=bO 2 [uI 0,vN 0 1 13,uU 863 3,uP 1521,ui 2 0 2]
def kJ:qK:=⟨1,7,[.l 2 (some 2)],sr [uj 0 1] (sr qX2 .ret)⟩
def kK:qK:=⟨1,5,[.l 2 (some 2)],sr [uj 0 1] (sB 2 [uI 0,vH 0 1 1 1 1 3,ui 2 0 2] .ret)⟩
abbrev qRN:=bO 20 [uI 0,uN,uK 5,uJ,uL 4,uM 4 2,uT 1 24,uY 1,uL 4,uM 4 1,uU 1456 28,uH 20 31,uC 31 (uf 20 0),uf 20 1,uC 5 (va 1),uc 1 32,uI 33]
abbrev qRO:=bO 33 [uw 0 6,uJ,uR,uA (.mksl 1 (iI 0) (.t 36) (.t 36)),uH 8 37]
abbrev qRW:=bO 37 [uw 0 6,uJ,uA (.slc 5 (.t 39) (some (.c (iI 1))) none none),uR,uO 0]
abbrev qRZ:=bO 43 [uI 42,ug 5 40 42,uY 5,uC 9 ut,uH 9 44,uX 10 0 5 46]
abbrev qR0:=bO 46 [uI 8,uI 9,ub 1,uI 0,uN,uK 0,uS 10 0 5,uP 864,uU 863 52,ug 1 47 49,uc 1 55]
abbrev qRM:qQ:=.loop (sr [uy 41 0 42] (.seq (cD 43 sK (.exit 0)) (.seq (.blk 1 (sr qRZ (rg qR0))) (rB 56 [ux 42 1,uH 42 57]))))
abbrev qR1:=bO 61 [ug 4 58 60,uY 4,uC 11 (uA (.lalloc (.agg [iI 0,iI 0,iI 0,iI 0]))),uX 12 0 4 63]
abbrev qR2:=bO 63 [uI 0,uN,uK 0,uP 1457,uC 12 uj,uX 13 0 2 67]
abbrev qR3:=bO 67 [uI 0,uN,uK 0,uL 12,uS 12 0 2,uS 13 0 2,uI 8,v8 866 70 72 73 74]
abbrev qR4:=bO 75 [uI 0,uN,uK 0,uL 12,uS 12 2 2,uS 13 0 2,uI 8,v8 866 78 80 81 82]
abbrev qRH:=sr [uy 59 0 60] (.seq (cD 61 sK (.exit 2)) (.seq (.blk 3 (sr qR1 (sr qR2 (sr qR3 (rg qR4))))) (rB 83 [ux 60 1,uH 60 84])))
abbrev qRP:=bO 84 [uI 8,uI 2,uA (.iaddr 1 (.t 85) (.c (iI 0))),uc 1 86]
abbrev qRQ:=bO 91 [ug 2 88 90,uY 2,uC 14 uj,uX 15 0 2 93]
abbrev qRR:=bO 93 [uS 15 0 2,uU 555 6,uC 15 uj,uX 16 0 2 95]
abbrev qRS:=bO 95 [uL 15,uM 15 1,vk 97 0,uQ,uE 99 (uL 16),uE 99 (uM 16 1),uE 99 (uW 0),ua 99]
abbrev qRT:=bO 103 [uI 0,uN,uK 0,uS 15 0 2,uI 8,uL 16,uM 16 0,uT 1 108,uJ,uD 10 (uH 114 8),uD 9 (uC 112 (uP 1458)),uC 114 (v8 866 106 107 113 114)]
abbrev qRI:=sr [uy 89 0 90] (.seq (cD 91 sK (.exit 4)) (.seq (.blk 5 (sr qRQ (sr qRR (sr qRS (cD 103 (rg qRT) sK))))) (rB 115 [ux 90 1,uH 90 116])))
abbrev qRU:=bO 120 [ug 2 117 119,uY 2,uC 17 uj,uX 18 0 2 122]
abbrev qRV:=bO 122 [uI 0,uN,uK 0,uI 8,uL 18,uM 18 0,uT 1 126,uJ,uI 8,uL 18,uM 18 1,uT 1 131,uJ,uv 1295 125 130]
abbrev qRJ:qQ:=.loop (sr [uy 118 0 119] (.seq (cD 120 sK (.exit 6)) (.seq (.blk 7 (sr qRU (rg qRV))) (rB 136 [ux 119 1,uH 119 137]))))
abbrev qRX:=bO 137 [uA (.call 1257 []),uU 555 6,uC 18 uj,uX 19 0 2 139]
abbrev qRY:=bO 142 [uI 0,uN,uK 0,uI 2,uI 8,uL 19,uM 19 0,uT 1 147,uJ,uv 1295 145 146]
abbrev qRK:qQ:=.seq (sB 116 [vM 376 6,uR,uO 0] (.blk 6 qRJ)) (sr qRX (sB 139 [uL 19,uM 19 1,uW 0] (cD 142 (rg qRY) sK)))
abbrev qRL:qQ:=.seq (sB 57 [vM 1421 6,uR,uO 0] (.blk 2 (.loop qRH))) (sr qRP (.seq (sB 87 [vM 554 6,uR,uO 0] (.blk 4 (.loop qRI))) qRK))
def Kb:qK:=⟨3,153,[],sr [ue 5 1 0 3] (.seq (.reg false qRN) (sr qRO (.seq (sr qRW (.blk 0 qRM)) qRL)))⟩
abbrev qX3:=bO 3 [uz 0,uN,uK 0,uw 0 1,uJ,uw 1 1,uJ,uw 2 1,uJ,uw 3 1,uJ,uD 12 (uC 15 (uz 2)),uD 11 (uC 14 (uG [uz 0 0 3,uJ 4 7,uJ 6 9,uJ 8 11,uz 2 12 15] (uP 401))),uC 16 (UE 2 16 16),vO 0 1 8 1 1 10 2 1 12 3 1 15 4 1 17,uU 863 6,uH 3 19]
def kL:qK:=⟨3,20,[.t 3],sr [uO 0 0 2] (.seq (.reg false qX3) .ret)⟩
abbrev qR8:=bO 2 [vU 1 0,ue 5 1,vU 5 2,uo]
abbrev qR9:=bO 16 [uw 4 5,uJ,uR,uC 6 (uA (.halloc 1 (iI 0))),uc 1 19]
abbrev qSC:=bO 24 [uL 4,uM 4 4,ur 2 0,uY 2,uI 9,uD 7 (uC 31 (uL 4)),uD 8 (uM 4 4),uD 9 (ur 2 1),uD 10 (uY 2),uD 11 (uI 10),uD 5 (uC 29 (uG [uY 2 3 27,uY 2 10 34] (uP 1458))),uD 6 (vC 0 2 28 2 2 30),uC 36 (uG [uY 2 3 27,uY 2 10 34] (uP 1458)),vC 0 2 35 2 2 37,vR 4 2 0 31 1 38,uH 11 39]
abbrev qSD:=bO 39 [uw 4 5,uJ,uR,uO 0]
abbrev qSE:=bO 44 [uI 43,ug 2 41 43,uY 2,uC 12 uj,uH 12 45,uX 13 0 2 47]
abbrev qSF:=bO 47 [uz 3,uN,uK 0,uL 4,uM 4 1,uA (.mksl 2 (.agg [iI 0,iI 0]) (.c (iI 2)) (.c (iI 2))),vT 0 1 4 1 1 52 4 1 53,uU 863 50,uH 14 55]
abbrev qSG:=bO 55 [uz 3,uN,uK 0,uP 1457,uC 14 uj,uX 15 0 2 59]
abbrev qSH:=bO 59 [uz 3,uN,uK 0,uP 1457,uC 15 uj,uX 16 0 2 63]
abbrev qSI:=bO 63 [uz 3,uN,uK 0,uK 0,uJ,uI 14,uS 15 0 2,uS 16 0 2,vS 2 2 0 70 1 71,ug 5 68 69,uK 4,uc 1 72]
abbrev qSJ:=bO 74 [uz 3,uN,uK 0,uK 0,uJ,uI 9,uT 5 79,uK 4,uJ,uI 12,uS 15 0 2,ug 2 83 84,uc 2 85]
abbrev qSA:=bO 86 [uz 3,uN,uK 0,uK 0,uJ,uI 10,uT 5 91,uK 4,uJ,uI 12,uS 16 0 2,ug 2 95 96,uc 2 97]
abbrev qSB:=bO 98 [uI 11,uS 13 0 2,uI 14,uP 1458,vC 0 2 100 2 2 102,vG 4 1 0 103,uq 4 99,uH 11 105]
abbrev qR5:qQ:=.seq (.blk 1 (sr qSE (sr qSF (sr qSG (sr qSH (sr qSI (sr qSJ (sr qSA (rg qSB))))))))) (rB 105 [ux 43 1,uH 43 106])
abbrev qR6:=sr qSC (.seq (sr qSD (.blk 0 (.loop (sr [uy 42 0 43] (.seq (cD 44 sK (.exit 0)) qR5))))) (sB 106 [uI 11,uH 6 107] .ret))
abbrev qR7:=sB 19 [uA (.mkfn 1459 [.t 3,.t 5,.t 7]),uH 8 20] (sB 20 [uI 8,uA (.callv (.t 21) []),uH 9 22] (sB 22 [uI 8,uA (.callv (.t 23) []),uH 10 24] qR6))
def Kc:qK:=⟨3,108,[.t 6],sr qR8 (sr qR9 qR7)⟩
abbrev qSL:=bO 7 [uL 3,uM 3 4,uR,uO 0]
abbrev qSM:=bO 12 [ug 2 9 11,uY 2,uC 6 uj,uX 7 0 2 14]
abbrev qSN:=bO 14 [uI 5,uS 7 0 2,uI 0,uN,uK 0,vN 0 1 5,uU 863 19,uP 1458,vC 0 2 16 2 2 22,vG 4 1 0 23,uq 4 15,uH 5 25]
abbrev qSK:qQ:=.loop (sr [uy 10 0 11] (.seq (cD 12 sK (.exit 0)) (.seq (.blk 1 (sr qSM (rg qSN))) (rB 25 [ux 11 1,uH 11 26]))))
def Kd:qK:=⟨2,28,[.t 4],sB 2 [ue 5 1,uo] (sr [uo 0 4] (.seq (sr qSL (.blk 0 qSK)) (sB 26 [uI 5,uH 4 27] .ret)))⟩
abbrev qSP:=bO 11 [uL 5,uM 5 1,uL 5,uM 5 2,uL 4,uM 4 2,uD 7 (uC 18 (uL 5)),uD 8 (uM 5 4),uD 9 (ur 2 1),uD 10 (uY 2),uD 6 (uC 17 (vJ 1 0 1 0 17)),uC 22 (u9 2 1 0 22),vd 0 1 8 1 1 13 2 1 15 3 1 18 4 1 23,ui 7 0 5]
abbrev qSQ:=bO 24 [uL 5,uM 5 2,uL 5,uM 5 3,ur 1 0,uJ,uL 4,uM 4 2,uv 1118 26 30,uL 7,uX 7 2 1 33]
abbrev qSR:=bO 34 [uL 5,uM 5 4,ur 2 0,uY 2,uI 0,uN,uK 0,uS 7 0 5,uG [uY 2 3 37] (uU 863 41),uG [uY 2 3 37] (uP 1458),vC 0 2 38 2 2 44,vG 4 1 0 45,uH 6 46]
abbrev qSO:=sB 7 [vN 0 1 6,uC 6 ut,uX 7 0 5 8] (.seq (sB 8 [uL 5,uM 5 0,uW 7] (cD 11 (rg qSP) (rg qSQ))) (sr qSR .ret))
def Ke:qK:=⟨3,47,[.t 6],sB 3 [ue 5 1,ue 5 2,uo] qSO⟩
abbrev qSW:=bO 12 [uL 5,uM 5 3,ur 1 0,uJ,uH 7 16]
abbrev qSX:=bO 19 [uL 5,uM 5 3,uL 4,uM 4 2,uT 1 21,uJ,uH 7 25]
abbrev qS1:=bO 28 [uL 5,uM 5 3,ur 1 1,uJ,uH 7 32]
abbrev qSV:=sB 16 [uL 5,uM 5 0,uW 10] (cD 19 (rg qSX) (sB 25 [uL 4,uM 4 2,uW 0] (cD 28 (rg qS1) sK)))
abbrev qS2:=bO 32 [uI 0,uN,uK 0,uL 5,uM 5 1,uI 7,vT 0 1 12 1 1 37 2 1 38,uU 863 35,uH 8 40]
abbrev qS3:=bO 40 [uL 4,uM 4 4,uR,uW 0]
abbrev qS4:=bO 44 [uL 5,uM 5 4,ur 2 0,uY 2,uI 8,uG [uY 2 3 47] (uP 1458),vC 0 2 48 2 2 50,vG 4 1 0 51,uH 6 52]
abbrev qS5:=bO 52 [uL 4,uM 4 4,uR,uO 0]
abbrev qS6:=bO 57 [ug 2 54 56,uY 2,uC 10 uj,uX 11 0 2 59]
abbrev qS7:=bO 59 [uI 9,uI 0,uN,uK 0,uL 5,uM 5 1,uS 11 0 2,uL 5,uM 5 4,ur 2 0,uY 2,vS 2 2 0 66 1 70,vT 0 1 3 1 1 65 4 1 71,uU 863 63,vJ 1 0 1 0 73,uq 1 60,uH 9 75]
abbrev qSS:qQ:=.loop (sr [uy 55 0 56] (.seq (cD 57 sK (.exit 0)) (.seq (.blk 1 (sr qS6 (rg qS7))) (rB 75 [ux 56 1,uH 56 76]))))
abbrev qSY:=bO 76 [uI 9,uR,vx 78 1,uO 0]
abbrev qSZ:=bO 82 [uI 0,uN,uK 0,uK 0,uJ,uI 9,uI 12,uT 1 88,uJ,uT 5 87,uK 4,uJ,uI 9,uI 12,ub 1,uT 1 95,uJ,uG [uJ 4 86,uJ 8 90,uJ 11 93] (uP 1458),uA (.iaddr 2 (.t 94) (.c (iI 1))),uc 2 100]
abbrev qST:=sr [uy 79 0 80] (.seq (cD 81 sK (.exit 2)) (.seq (.blk 3 (sB 81 [uI 80,uH 12 82] (rg qSZ))) (rB 101 [ux 80 1,uH 80 102])))
abbrev qS0:=bO 102 [uI 0,uN,uK 0,uI 8,uI 9,ur 1 0,uJ,uv 1295 105 106]
abbrev qSU:=sr [uo 0 8] (.seq (sr qS5 (.blk 0 qSS)) (.seq (sr qSY (.blk 2 (.loop qST))) (sr qS0 (sr [uo 0 5] .ret))))
def Kf:qK:=⟨3,111,[.t 6],sB 3 [ue 5 1,ue 5 2,uo] (sr qSW (.seq qSV (sr qS2 (.seq (sr qS3 (cD 44 (sr qS4 .ret) sK)) qSU))))⟩
abbrev qj0:=bO 18 [uI 0,uN,uK 0,uK 4,uJ,uI 1,uT 2 23,uY 2,uC 6 uj,uX 7 0 2 26]
abbrev qj1:=bO 27 [uI 0,uS 7 0 2,uU 1183 28,uH 27 30,uC 30 (uf 27 0),uf 27 1,uH 8 31,uI 32]
abbrev qkA:=bO 34 [uI 9,uC 3 (uO 0),uo,uI 35]
abbrev qkB:=bO 36 [uI 0,uN,uK 0,uS 7 0 2,uU 1285 39,uH 36 41,uC 41 (uf 36 0),uf 36 1,uf 36 2,uH 10 42,uI 43,uI 44]
abbrev qkC:=bO 45 [uI 0,uN,uK 0,uP 1286,uH 45 49,uC 49 (uf 45 0),uf 45 1,uf 45 2,uH 13 50,uI 51,uI 52]
abbrev qkD:=bO 52 [uI 8,uI 15,ub 2,uI 10,uW 7,uP 566,vz 55 58,vp 53 59]
abbrev qkE:=bO 60 [uI 0,uI 0,uN,uK 0,uK 4,uJ,uI 1,uI 1,ub 1,uv 1287 66 67,vD 61,uK 0,uK 4,uc 1 70]
abbrev qkF:=bO 73 [uI 0,uN,uK 0,uK 0,uJ,uI 11,uT 5 78,uY 5,uI 0,uN,uK 0,uK 0,uJ,uI 12,uT 5 86,uY 5,uC 15 ut,ut,uX 16 0 5 81,uX 17 0 5 89]
abbrev qkG:=bO 89 [uI 0,uN,uK 0,uI 11,uU 1288 92]
abbrev qkH:=bO 96 [uI 0,uS 16 0 5,uI 12,uv 1289 97 98]
abbrev qj2:=bO 100 [uI 10,uH 4 101,uo,uO 0]
abbrev qj3:=bO 101 [uI 0,uN,uK 0,uI 12,uU 1288 104]
abbrev qj4:=bO 110 [uL 16,uM 16 4,ur 2 0,uY 2,uL 17,uM 17 4,ur 2 0,uY 2,vC 0 2 114 2 2 118,uL 16,uM 16 4,ur 2 1,uY 2,uL 17,uM 17 4,ur 2 1,uY 2,vC 0 2 123 2 2 127,vR 4 2 0 119 1 128,uH 18 129]
abbrev qj5:=bO 131 [uI 0,uS 16 0 5,uS 17 0 5,uv 1290 132 133,uH 18 135]
abbrev qj6:=bO 137 [uI 0,uS 17 0 5,uU 1291 138,uH 18 140]
abbrev qj7:=bO 142 [uI 0,uS 16 0 5,uS 17 0 5,uv 1292 143 144,uH 18 146]
abbrev qj8:=bO 148 [uI 0,uS 16 0 5,uS 17 0 5,uv 1293 149 150,uH 18 152]
abbrev qjW:=cD 136 (rg qj6) (sB 141 [uZ 107 5,uH 141 142] (cD 141 (rg qj7) (sB 147 [uZ 107 6,uH 147 148] (cD 147 (rg qj8) sK))))
abbrev qjX:qQ:=.seq (sB 108 [uZ 107 1,uH 108 109] (cD 108 sK (rB 109 [uZ 107 2,uH 108 110]))) (cD 108 (rg qj4) (sB 130 [uZ 107 3,uH 130 131] (cD 130 (rg qj5) (sB 136 [uZ 107 4,uH 136 137] qjW))))
abbrev qj9:=bO 152 [uI 10,uI 18,uH 4 153,uI 154,uO 0]
abbrev qjY:qQ:=.seq (sB 94 [uI 10,uW 7] (cD 96 (sr qkH (sr qj2 .ret)) sK)) (sr qj3 (sr [uo 0 17] (.seq (sr [uI 10 0 106] (.blk 0 qjX)) (sr qj9 .ret))))
abbrev qjZ:=sr qkC (.seq (sr qkD (cD 60 (sB 3 [uO 0,uo,uO 4] .ret) sK)) (sr qkE (sr qkF (sr qkG qjY))))
def F975:qK:=⟨2,155,[.t 4,.t 5,.t 6],sB 3 [uO 0,uo,uO 0] (sr qj0 (sr qj1 (.seq (sB 32 [uI 9,vv 33 0] (cD 34 (sr qkA .ret) sK)) (sr qkB qjZ))))⟩
abbrev qS9:=bO 5 [uL 3,uM 3 0,uW 2,uQ,uE 9 (uI 0),uE 9 uN,uE 9 (uK 0),uE 9 uJ,uE 9 (uL 3),uE 9 (uM 3 1),uE 9 (uT 5 13),uE 9 (uK 4),uE 9 uJ,uE 9 uR,uE 9 (vk 19 0),ua 9]
abbrev qTA:=bO 21 [uI 0,uN,uK 0,uJ,uL 3,uM 3 1,uT 5 25,uK 4,uJ,ur 2 0,uY 2,uC 4 uj,uX 5 0 2 32]
abbrev qTB:=bO 32 [uI 0,uL 3,uM 3 1,uU 1288 33]
abbrev qS8:qQ:=.seq (.blk 0 (.loop (.seq (sr qS9 (cD 21 sK (.exit 0))) (.blk 1 (sr qTA (sr qTB (rB 36 [uS 5 0 2,ui 3 0 2]))))))) (sB 37 [uS 3 0 2,ui 4 0 2] .ret)
def Kg:qK:=⟨2,39,[.l 4 (some 2)],sB 2 [ue 2 1,uj] qS8⟩
abbrev qkJ:=bO 5 [uI 0,uS 4 0 2,uU 1294 6,ui 4 0 2]
abbrev qkK:=bO 8 [uI 0,uS 5 0 2,uU 1294 9,ui 5 0 2]
abbrev qkL:=bO 22 [uL 4,uM 4 0,uW 1,uQ,uE 26 (uL 5),uE 26 (uM 5 0),uE 26 (uW 1),ua 26,uH 22 30]
abbrev qkM:=bO 30 [uI 0,uL 4,uM 4 1,uL 5,uM 5 1,uv 1295 31 33]
abbrev qkN:=bO 37 [uS 4 0 2,uS 5 0 2,UF 1 1 38 39,uH 37 40]
abbrev qkO:=bO 40 [uI 0,uL 4,uM 4 1,uU 1288 41]
abbrev qkP:=bO 45 [uL 4,uM 4 0,uW 2,uH 45 48]
abbrev qkQ:=bO 48 [uI 0,uN,uK 0,uJ,uL 4,uM 4 1,uS 5 0 2,u9 2 1 0 55,ug 5 52 54,uK 4,uc 1 56]
abbrev qkR:=bO 11 [uI 0,uN,uK 0,uJ,uL 5,uM 5 1,uS 4 0 2,u9 2 1 0 18,ug 5 15 17,uK 4,uc 1 19]
abbrev qkI:=sr qkJ (sr qkK (.blk 0 (sr qkL (cD 22 (rg qkM) (sr qkN (cD 37 (rg qkO) (sr qkP (cD 45 (rg qkQ) (rg qkR)))))))))
def F976:qK:=⟨3,59,[],sB 3 [ue 2 1,ue 2 2] qkI⟩
abbrev qd2:=bO 11 [uI 0,uI 1,uU 975 12,uH 11 14,uC 14 (uf 11 0),uf 11 1,uf 11 2,uH 6 15,uI 16,uI 17]
abbrev qd3:=bO 21 [ug 4 18 20,uY 4,uC 9 (uA (.lalloc (.agg [iI 0,iI 0,iI 0,iI 0]))),uX 10 0 4 23]
abbrev qd4:=bO 23 [uI 0,uN,uK 0,uL 10,uS 10 0 2,uL 10,uS 10 2 2,uv 976 26 28]
abbrev qd1:qQ:=.loop (sr [uy 19 0 20] (.seq (cD 21 sK (.exit 0)) (.seq (.blk 1 (sr qd3 (rg qd4))) (rB 31 [ux 20 1,uH 20 32]))))
abbrev qd5:=bO 32 [uI 6,uI 8,uH 4 33,uI 34]
def F602:qK:=⟨2,35,[.t 4,.t 5],sB 3 [uO 0,uO 0] (sr qd2 (.seq (sB 17 [uI 7,uR,uO 0] (.blk 0 qd1)) (sr qd5 .ret)))⟩
abbrev qO6:=bO 6 [uI 0,uP 1286,uH 6 8,uC 8 (uf 6 0),uf 6 1,uf 6 2,uH 3 9,uI 10,uI 11]
abbrev qO7:=bO 11 [uI 3,uI 4,vg 12 13,uH 2 14]
def KJ:qK:=⟨1,15,[.t 2],sr [uO 0 0 1] (sr qO6 (sr qO7 .ret))⟩
abbrev qgX:=bO 9 [uI 0,uI 0,uI 0,uN,uK 0,uJ,uN,uK 0,uD 9 (uH 19 0),uD 10 uN,uD 11 (uK 0),uD 12 uJ,uD 13 uN,uD 14 (uK 0),uD 8 (uC 17 (uG [uJ 12 21] (uP 1182))),uC 24 (uP 1182),vD 10,uK 3,uc 1 18,vD 11,uK 4,uc 1 25]
abbrev qgY:=bO 29 [uI 0,uN,uK 0,uJ,uN,uK 0,uK 4,uJ,uR,vk 38 0]
abbrev qg0:=bO 39 [uI 0,uN,uK 2,uJ,uR,uI 1,vh 44 45]
abbrev qg1:=bO 46 [uI 0,uN,uK 0,uJ,uN,uK 0,uK 4,uJ,uR,vx 55 1,uH 5 56]
abbrev qg2:=bO 56 [uI 0,uN,uK 0,uJ,uN,uK 0,uP 1182,uH 6 63]
abbrev qg3:=bO 64 [uI 0,uN,uK 0,uJ,uI 0,uN,uK 0,uJ,uN,uK 0,uK 4,uJ,uI 5,uT 2 76,uY 2,uU 1183 68,uH 64 80,uC 80 (uf 64 0),uf 64 1,uH 7 81,uI 82]
abbrev qg4:=bO 86 [uI 0,uN,uK 0,uJ,uI 5,uU 602 90,uH 86 92,uC 92 (uf 86 0),uf 86 1,uH 9 93,uH 8 94]
abbrev qg5:=bO 97 [uI 0,uN,uK 1,uJ,uI 9,vx 102 1,uT 1 101,uJ,ub 1,ug 1 101 103,uc 1 106]
abbrev qg6:=bO 107 [uI 0,uI 0,uN,uK 2,uJ,uI 9,vJ 1 0 1 0 113,uq 1 112,vD 108,uK 2,uc 1 115]
abbrev qg7:=bO 117 [uI 0,uI 0,uN,uK 3,uJ,uI 0,uN,uK 0,uJ,uN,uK 0,uG [uJ 4 121] (uP 1182),uA (.max (.t 122) (.t 129)),vD 118,uK 3,uc 1 130]
abbrev qgZ:=bO 132 [uI 0,uI 0,uN,uK 4,uJ,uI 6,vx 138 2,uI 9,uW 7,uD 11 (uH 144 7),uD 9 (uC 141 (uG [uJ 4 136] (uP 566))),uD 10 (vg 139 142),uC 144 (vg 143 144),uA (.max (.t 137) (.t 145)),vD 133,uK 4,uc 1 146]
abbrev qgU:qQ:=.seq (sB 94 [uI 8,vv 95 0] (cD 96 (sB 96 [uI 8,uH 4 97] .ret) sK)) (sr qg5 (sr qg6 (sr qg7 (rg qgZ))))
abbrev qgV:=sr qg2 (sr qg3 (.seq (sB 82 [uI 8,vv 83 0] (cD 84 (sB 84 [uI 8,uH 4 85] .ret) sK)) (sr qg4 qgU)))
abbrev qgW:qQ:=.seq (.blk 0 (.loop (.seq (sr qgY (cD 39 sK (.exit 0))) (.blk 1 (.seq (sr qg0 (cD 46 (sr [uO 12 0 3] .ret) sK)) (sr qg1 qgV)))))) (sr [uO 0 0 3] .ret)
def F869:qK:=⟨2,149,[.t 4],sr [uO 0 0 3] (sr qgX qgW)⟩
abbrev qb4:=bO 10 [uI 0,uP 505,ud,uQ,uF 14 (uS 4 0 5),uF 14 (uP 867),uF 14 ud,uk 14,uH 10 18]
abbrev qb5:=bO 19 [uI 2,vu 20 0,uQ,uF 22 (uI 2),uF 22 (vk 23 4000),uk 22,uH 19 25]
abbrev qb6:=bO 25 [uS 4 0 5,uD 2 (uH 28 0),uD 1 (uC 26 (uP 868)),uC 28 (uA (.build (.agg [.nils,iI 0,iI 0,iI 0,.nils,.nils]) [(0,5,.t 27),(5,1,.t 28)])),vU 6 29,uA (.mksl 1 (iI 0) (.c (iI 7)) (.c (iI 7))),uA (.build (.agg [.nilp,.nils,.nils,iI 0,iI 0]) [(0,1,.t 30),(1,1,.t 31)]),vU 5 32,uH 8 33]
abbrev qb7:=bO 33 [uI 8,uI 2,uU 869 34,uH 9 36]
abbrev qb2:qQ:=.seq (sr qb7 (sB 36 [uI 9,vv 37 0] (cD 38 (sB 38 [uI 9,uC 5 vQ,uI 39] .ret) sK))) (sB 39 [uI 8,uH 6 40,uO 0] .ret)
abbrev qb3:qQ:=.seq (.blk 0 (sr qb4 (cD 10 (sB 5 [vQ,uO 1] .ret) (sr qb5 (cD 19 (sB 5 [vQ,uO 2] .ret) sK))))) (.seq (.reg false qb6) qb2)
def F507:qK:=⟨3,41,[.t 6,.t 7],sB 3 [ue 5 1,uC 5 vQ,uO 0] qb3⟩
def qDV:qK:=XE
abbrev qhV:=bO 4 [uL 2,uM 2 3,uI 1,uU 338 6,uH 1 8]
abbrev qhW:=bO 10 [uL 2,uM 2 4,uI 1,uU 1242 12,uH 1 14]
abbrev qhU:=sr qhW (.seq (sB 14 [uI 1,vu 15 0] (cD 16 (sr [uO (-1) 0 3] .ret) sK)) (sB 16 [uI 1,uH 4 17] .ret))
def F922:qK:=⟨2,18,[.t 4],sB 1 [ue 5 0,uC 3 (uO 0)] (sr qhV (.seq (sB 8 [uI 1,vu 9 0] (cD 10 (sr [uO (-1) 0 3] .ret) sK)) qhU))⟩
def F542:qK:=szS 5 (some 5) 922
def F543:qK:=XE
abbrev qYM:=bO 4 [uL 2,uM 2 0,uI 1,uU 542 6,uH 1 8]
abbrev qYN:=bO 10 [uL 2,uM 2 4,uI 1,uU 543 12,uH 1 14]
abbrev qYL:=sr qYN (.seq (sB 14 [uI 1,vu 15 0] (cD 16 (sr [uO (-1) 0 3] .ret) sK)) (sB 16 [uI 1,uH 4 17] .ret))
def kj:qK:=⟨2,18,[.t 4],sB 1 [ue 5 0,uC 3 (uO 0)] (sr qYM (.seq (sB 8 [uI 1,vu 9 0] (cD 10 (sr [uO (-1) 0 3] .ret) sK)) qYL))⟩
abbrev qiJ:=bO 2 [uI 0,uN,uK 0,uJ,v5 340 6 2 12,uH 2 7]
def F950:qK:=⟨1,8,[.t 2],sr [uV 0 1] (sr qiJ .ret)⟩
abbrev qiM:=bO 6 [uI 0,uN,uK 0,uJ,uR,uH 6 11]
abbrev qiN:=bO 15 [uL 3,uM 3 0,vv 17 2,uQ,uF 19 (uI 0),uF 19 uN,uF 19 (uK 0),uF 19 uJ,uF 19 (uL 3),uF 19 (uM 3 1),uF 19 (uT 5 23),uF 19 (uK 4),uF 19 uJ,uF 19 uR,uF 19 (uW 0),uk 19]
abbrev qiO:=bO 32 [uI 0,uN,uK 0,uJ,uL 3,uM 3 1,uT 5 36,uK 4,uJ,ur 2 0,uY 2,ui 3 0 2]
abbrev qiK:qQ:=.seq (.blk 1 (.seq (sr qiN (cD 31 (sB 31 [uS 3 0 2,ui 4 0 2,uC 4 u5] .ret) sK)) (rg qiO))) (rB 13 [uI 6,vx 14 1,uH 6 15])
abbrev qiL:qQ:=.seq (sr qiM (.blk 0 (.loop (.seq (sB 11 [uI 6,vi 12 0] (cD 13 sK (.exit 0))) qiK)))) (sB 43 [uS 3 0 2,ui 4 0 2,uC 4 uV] .ret)
def F951:qK:=⟨2,45,[.l 4 (some 2),.t 5],sB 2 [ue 2 1,uj,uV] qiL⟩
abbrev qT9:=bO 6 [uI 0,uN,uK 0,uJ,uW 0,uH 6 11]
abbrev qUA:=bO 11 [uI 0,uN,uK 1,uJ,uW 0,uQ,uE 17 (uI 0),uE 17 uN,uE 17 (uK 3),uE 17 uJ,uE 17 uR,uE 17 (uW 0),ua 17,uQ,uE 25 (uI 0),uE 25 uN,uE 25 (uK 4),uE 25 uJ,uE 25 uR,uE 25 (uW 0),ua 25,uQ,uE 33 (uI 0),uE 33 uN,uE 33 (uK 2),uE 33 uJ,uE 33 (uI 1),uE 33 (vx 38 1),uE 33 (v7 340 37 (-1) 39),ua 33,uH 4 41]
abbrev qUB:=bO 42 [uI 0,uN,uK 0,uJ,uW 13,uH 42 47]
abbrev qUC:=bO 47 [uI 0,uN,uK 1,uJ,uW 0,uQ,uE 53 (uI 0),uE 53 uN,uE 53 (uK 2),uE 53 uJ,uE 53 (uW 0),ua 53,uQ,uE 60 (uI 0),uE 60 uN,uE 60 (uK 3),uE 60 uJ,uE 60 uR,uE 60 (uW 0),ua 60,uQ,uE 68 (uI 0),uE 68 uN,uE 68 (uK 4),uE 68 uJ,uE 68 uR,uE 68 (vu 73 2),ua 68,uH 4 75]
abbrev qUD:=bO 78 [uI 0,uP 1277,uC 4 (vP 5),uc 5 80]
abbrev qT8:=cD 42 (sr qUC .ret) (sB 76 [uI 0,uP 950,uH 76 78] (cD 76 (sr qUD (sB 80 [vM 1096 5,uH 4 81] .ret)) sK))
def Kj:qK:=⟨2,82,[.t 4],sr [uV 0 3] (.seq (.blk 0 (sr qT9 (cD 6 (sr qUA .ret) (sr qUB qT8)))) (sr [uV 0 3] .ret))⟩
abbrev qUF:=bO 4 [uI 0,uN,uK 2,uY 2,u9 2 1 0 8,uH 3 9]
abbrev qUG:=bO 9 [uI 4,uI 0,uN,uK 0,uJ,uR,un 10]
abbrev qUH:=bO 18 [uI 3,uI 0,uN,uK 0,uJ,uI 4,uT 5 23,uK 4,uJ,uq 2 19,uH 3 28]
abbrev qUE:=sr [uO 0 0 3] (.blk 0 (.loop (.seq (sr qUG (cD 16 sK (.exit 0))) (.seq (.blk 1 (rg qUH)) (rB 16 [uI 4,ub 1,uH 4 18])))))
def Kk:qK:=⟨1,30,[.t 2],sr [uo 0 1] (sr qUF (.seq qUE (sB 28 [uI 3,uH 2 29] .ret)))⟩
abbrev qUI:=bO 5 [uL 3,uM 3 1,uI 0,uN,uK 0,uJ,uR,vx 12 1,v7 340 7 0 13,ud]
abbrev qUJ:=bO 15 [uI 0,uN,uK 0,uJ,uL 3,uM 3 1,uT 5 19,uH 5 22]
abbrev qUK:=bO 22 [uL 3,uM 3 0,uW 1,uQ,uE 26 (uI 5),uE 26 (uP 950),ua 26,uQ,uF 30 (uL 3),uF 30 (uM 3 0),uF 30 (uW 2),uF 30 uQ,uE 34 (uI 5),uE 34 uN,uE 34 (uK 0),uE 34 uJ,uE 34 (uW 13),uF 30 (ua 34),uk 30,uH 4 41]
def Kl:qK:=⟨2,42,[.t 4],sB 2 [ue 2 1,uV] (.seq (sr qUI (cD 15 (sr [uV 0 3] .ret) sK)) (sr qUJ (sr qUK .ret)))⟩
abbrev qUO:=bO 5 [uI 4,uI 0,uN,uK 0,uJ,uR,un 6]
abbrev qUP:=bO 14 [uI 0,uN,uK 0,uJ,uI 4,uT 5 18,uK 0,uJ,uW 0]
abbrev qUL:qQ:=.seq (.blk 1 (sr qUP (cD 23 (rB 23 [uI 3,ub 1,uH 3 25]) sK))) (rB 12 [uI 4,ub 1,uH 4 14])
abbrev qUQ:=bO 25 [uI 0,uN,uK 1,uJ,uH 5 29]
abbrev qUR:=bO 33 [uI 5,uI 0,uN,uK 0,uJ,uR,vx 39 1,v7 340 34 0 40,ud,uQ,uF 43 (uI 0),uF 43 uN,uF 43 (uK 0),uF 43 uJ,uF 43 (uI 5),uF 43 (uT 5 47),uF 43 (uK 0),uF 43 uJ,uF 43 (vv 51 0),uk 43]
abbrev qUS:=bO 53 [uI 0,uN,uK 0,uJ,uI 5,uT 5 57,uK 2,uJ,uH 5 61]
abbrev qUM:qQ:=.seq (sB 29 [uI 3,vk 30 0] (cD 31 sK (.exit 2))) (.seq (.blk 3 (.seq (sr qUR (cD 53 (sr [uV 0 1] .ret) sK)) (rg qUS))) (rB 31 [uI 3,vx 32 1,uH 3 33]))
abbrev qUN:qQ:=.seq (sr [uO 0 0 3] (.blk 0 (.loop (.seq (sr qUO (cD 12 sK (.exit 0))) qUL)))) (sr qUQ (.seq (.blk 2 (.loop qUM)) (sB 61 [uI 5,uW (-1),uH 2 63] .ret)))
def Km:qK:=⟨1,64,[.t 2],sr [uV 0 1] (sr [uO 0 0 2] qUN)⟩
abbrev qLT:=bO 17 [uI 0,uN,uK 0,uJ,uR,uH 7 22]
abbrev qLU:=bO 22 [uI 7,v5 340 23 1 1500,ud,uQ,uF 26 (uI 2),uF 26 uR,uF 26 (uI 7),uF 26 (vp 28 29),uk 26]
abbrev qL3:=bO 32 [uI 9,uI 0,uN,uK 0,uJ,uR,un 33]
abbrev qL6:=bO 41 [uI 0,uN,uK 0,uJ,uI 9,uT 5 45,uI 7,uU 1351 47,ud]
abbrev qL7:=bO 50 [uI 8,uA (.bslice 1 (iI 0) 1 [(0,.c (iI 0))]),uq 1 51,uH 8 53]
abbrev qLS:qQ:=.seq (sr qL3 (cD 39 sK (.exit 0))) (.seq (.blk 1 (.seq (sr qL6 (cD 50 (sr [uV 0 5] .ret) sK)) (rg qL7))) (rB 39 [uI 9,ub 1,uH 9 41]))
abbrev qL8:=bO 53 [uI 0,uP 1352,uI 1,uq 2 55,uH 10 57]
abbrev qL9:=bO 57 [uI 11,uI 10,uR,un 58]
abbrev qMA:=bO 63 [uI 0,uI 10,uI 11,uT 2 65,uY 2,uU 1353 64,ud]
abbrev qMB:=bO 70 [uI 8,uI 10,uI 11,uT 2 72,uK 1,uJ,uT 1 71,uJ,ub 1,ug 1 71 76,uc 1 79]
abbrev qLM:qQ:=.seq (sr qL9 (cD 61 sK (.exit 2))) (.seq (.blk 3 (.seq (sr qMA (cD 70 (sr [uV 0 5] .ret) sK)) (rg qMB))) (rB 61 [uI 11,ub 1,uH 11 63]))
abbrev qLV:=bO 80 [uI 12,uI 2,uR,un 81]
abbrev qLW:=bO 86 [uI 2,uI 12,uT 2 87,uY 2,uC 12 uj,uX 13 0 2 90]
abbrev qLX:=bO 90 [uL 13,uM 13 1,uI 7,vx 93 1,v7 340 92 1 94,ud,uQ,uF 97 (uL 13),uF 97 (uM 13 0),uF 97 (uL 13),uF 97 (uM 13 1),uF 97 (vx 101 1),uF 97 (v7 340 99 0 102),uF 97 ud,uk 97,uQ,uF 106 (uI 0),uF 106 uN,uF 106 (uK 0),uF 106 uJ,uF 106 (uL 13),uF 106 (uM 13 0),uF 106 (uT 5 110),uF 106 (uP 950),uF 106 ud,uk 106,uQ,uF 117 (uI 0),uF 117 uN,uF 117 (uK 0),uF 117 uJ,uF 117 (uL 13),uF 117 (uM 13 1),uF 117 (uT 5 121),uF 117 (uP 950),uF 117 ud,uk 117]
abbrev qLY:=bO 127 [uI 8,uL 13,uM 13 0,uT 1 128,uJ,ub 1,ug 1 128 130,uc 1 133]
abbrev qLZ:=bO 134 [uI 8,uL 13,uM 13 1,uT 1 135,uJ,ub 1,ug 1 135 137,uc 1 140]
abbrev qLN:qQ:=.seq (.blk 5 (sr qLW (.seq (sr qLX (cD 127 (sr [uV 0 5] .ret) sK)) (sr qLY (rg qLZ))))) (rB 84 [uI 12,ub 1,uH 12 86])
abbrev qL0:=bO 141 [uI 14,uI 0,uN,uK 0,uJ,uR,un 142]
abbrev qL1:=bO 150 [uI 0,uN,uK 0,uJ,uI 14,uT 5 154,uH 15 156]
abbrev qL2:=bO 156 [uI 15,uP 950,uQ,uE 159 (uI 8),uE 159 (uI 14),uE 159 (uT 1 160),uE 159 uJ,uE 159 (vv 163 1),ua 159,uQ,uF 166 (uI 15),uF 166 uN,uF 166 (uK 0),uF 166 uJ,uF 166 (uW 13),uF 166 uQ,uE 172 (uI 8),uE 172 (uI 14),uE 172 (uT 1 173),uE 172 uJ,uE 172 (uI 15),uE 172 uN,uE 172 (uK 4),uE 172 uJ,uE 172 uR,uE 172 (uA (.bin .sub (.c (iI 2)) (.t 181))),uE 172 (uu 176),uF 166 (ua 172),uk 166]
abbrev qL4:=bO 185 [uI 15,uN,uK 0,uJ,uW 13]
abbrev qL5:=bO 191 [uI 0,uI 14,vH 0 1 2 1 1 193,uU 951 192,uH 191 195,uC 195 (uf 191 0),uf 191 1,uC 15 uj,uX 16 0 2 196,uI 197]
abbrev qLO:qQ:=.seq (sr qL2 (cD 185 (sr [uV 0 5] .ret) sK)) (sr qL4 (cD 190 (sr qL5 (sB 197 [uI 17,ud] (cD 199 (sr [uV 0 5] .ret) sK))) sK))
abbrev qLP:=sr [uO 0 0 13] (.blk 6 (.loop (.seq (sr qL0 (cD 148 sK (.exit 6))) (.seq (.blk 7 (sr qL1 qLO)) (rB 148 [uI 14,ub 1,uH 14 150])))))
abbrev qLQ:qQ:=.seq (sr [uO 0 0 11] (.blk 4 (.loop (.seq (sr qLV (cD 84 sK (.exit 4))) qLN)))) (.seq qLP (sB 199 [uI 0,uP 1354,uH 6 201] .ret))
abbrev qLR:qQ:=.seq (sr [uO 0 0 8] (.blk 0 (.loop qLS))) (sr qL8 (.seq (sr [uO 0 0 10] (.blk 2 (.loop qLM))) qLQ))
def Ux:qK:=⟨3,202,[.t 6],sr [uV 0 5] (sr qLT (.seq (sr qLU (cD 31 (sr [uV 0 5] .ret) sK)) (sB 31 [vE 1,uH 8 32] qLR)))⟩
abbrev qhX:=bO 2 [uI 0,uI 0,uN,uK 4,uJ,uA (.call 1058 [.t 3,.c (.nils),.t 7]),uH 2 8]
def F923:qK:=⟨1,9,[.t 2],sr [uV 0 1] (sr qhX .ret)⟩
abbrev qcH:=bO 6 [uI 0,uP 598,ud,uQ,uF 10 (uI 1),uF 10 (uP 923),uF 10 ud,uk 10]
abbrev qcG:qQ:=.seq (sr qcH (cD 14 (sr [uO 1 0 5] .ret) sK)) (.seq (sB 14 [uI 2,v5 340 15 0 4000,ud] (cD 17 (sr [uO 2 0 5] .ret) sK)) (sr [uO 0 0 5] .ret))
def F544:qK:=⟨3,18,[.t 6],sr [uO 0 0 5] qcG⟩
abbrev qcJ:=bO 4 [uI 0,uN,uK 1,uJ,uI 0,uN,uK 2,uY 2,vE 2,uI 0,uN,uK 4,uJ,uD 15 (uC 2 vF),uD 13 (uC 17 (uG [uJ 3 7,uY 2 7 11] (uq 2 13))),uD 14 (uA (.build (.agg [.nils,iI 0,iI 0,iI 0,.nils]) [(1,1,.t 8),(2,2,.t 12),(4,1,.t 18)])),ui 3 0 5]
abbrev qcK:=bO 19 [uI 4,uI 0,uN,uK 0,uJ,uR,un 20]
abbrev qcL:=bO 28 [uL 3,uM 3 0,uI 0,uN,uK 0,uJ,uI 4,uT 5 34,uP 924,vV 5 1 0 37,uq 5 30,uL 3,uX 3 0 1 39]
abbrev qcI:=sr [uO 0 0 3] (.blk 0 (.loop (.seq (sr qcK (cD 26 sK (.exit 0))) (.seq (.blk 1 (rg qcL)) (rB 26 [uI 4,ub 1,uH 4 28])))))
def F545:qK:=⟨1,42,[.l 2 (some 5)],sr [vF 0 1] (sr qcJ (.seq qcI (sB 40 [uS 3 0 5,ui 2 0 5] .ret)))⟩
abbrev qcM:=bO 3 [uL 1,uM 1 0,uL 3,uX 3 0 1 5]
abbrev qcN:=bO 6 [uL 1,uM 1 1,uL 3,uX 3 1 1 8]
def XR:qK:=⟨1,11,[.l 2 (some 2)],sB 0 [ue 2 0,uj] (sr [uj 0 2] (sr qcM (sr qcN (sB 9 [uS 3 0 2,ui 2 0 2] .ret))))⟩
def KM:qK:=toS 2 (some 2) (.agg [iI 0,iI 0]) 547
abbrev qh0:=bO 3 [uL 1,uM 1 0,uL 3,uX 3 0 1 5]
abbrev qh1:=bO 6 [uL 1,uM 1 1,uL 3,uX 3 1 1 8]
abbrev qh2:=bO 9 [uL 1,uM 1 2,uL 3,uX 3 2 1 11]
abbrev qh3:=bO 12 [uL 1,uM 1 3,uP 147,uL 3,uX 3 3 1 15]
abbrev qh4:=bO 16 [uL 1,uM 1 4,uP 1243,uL 3,uX 3 4 1 19]
abbrev qhZ:=sr [ut 0 2] (sr qh0 (sr qh1 (sr qh2 (sr qh3 (sr qh4 (sB 20 [uS 3 0 5,ui 2 0 5] .ret))))))
def XU:qK:=⟨1,22,[.l 2 (some 5)],sB 0 [ue 5 0,ut] qhZ⟩
def F546:qK:=toS 5 (some 5) (.agg [iI 0,iI 0,iI 0,.nils,.nils]) 925
abbrev qh5:=bO 3 [uL 1,uM 1 0,uL 3,uX 3 0 1 5]
abbrev qh6:=bO 6 [uL 1,uM 1 1,uL 3,uX 3 1 1 8]
def XV:qK:=⟨1,11,[.l 2 (some 2)],sB 0 [ue 2 0,uj] (sr [uj 0 2] (sr qh5 (sr qh6 (sB 9 [uS 3 0 2,ui 2 0 2] .ret))))⟩
def F548:qK:=toS 2 (some 2) (.agg [iI 0,iI 0]) 926
abbrev qYP:=bO 3 [uL 1,uM 1 0,uP 546,uL 3,uX 3 0 1 6]
abbrev qYQ:=bO 7 [uL 1,uM 1 1,uL 3,uX 3 1 1 9]
abbrev qYR:=bO 10 [uL 1,uS 1 2 2,uP 547,uL 3,uX 3 2 2 13]
abbrev qYS:=bO 14 [uL 1,uM 1 4,uP 548,uL 3,uX 3 4 1 17]
abbrev qYO:=sr [vF 0 2] (sr qYP (sr qYQ (sr qYR (sr qYS (sB 18 [uS 3 0 5,ui 2 0 5] .ret)))))
def XQ:qK:=⟨1,20,[.l 2 (some 5)],sB 0 [ue 5 0,vF] qYO⟩
abbrev qcO:=bO 4 [uL 2,uM 2 0,uL 3,uM 3 0,uu 6]
abbrev qcP:=bO 9 [uL 2,uM 2 1,uL 3,uM 3 1,uu 11]
def F550:qK:=⟨2,15,[.t 4],sB 1 [ue 2 0,ue 2 1,uV] (.seq (sr qcO (cD 9 (sr [uV 0 3] .ret) sK)) (.seq (sr qcP (cD 14 (sr [uV 0 3] .ret) sK)) (sr [u5 0 3] .ret)))⟩
def qDW:qK:=eqS 2 (some 2) 550
abbrev qh8:=bO 4 [uL 2,uM 2 0,uL 3,uM 3 0,uu 6]
abbrev qh9:=bO 9 [uL 2,uM 2 1,uL 3,uM 3 1,uu 11]
abbrev qiA:=bO 14 [uL 2,uM 2 2,uL 3,uM 3 2,uu 16]
abbrev qiB:=bO 19 [uL 2,uM 2 3,uL 3,uM 3 3,uU 86 21,ud]
abbrev qiC:=bO 25 [uL 2,uM 2 4,uL 3,uM 3 4,uU 1244 27,ud]
abbrev qh7:qQ:=.seq (sr qiA (cD 19 (sr [uV 0 3] .ret) sK)) (.seq (sr qiB (cD 25 (sr [uV 0 3] .ret) sK)) (.seq (sr qiC (cD 31 (sr [uV 0 3] .ret) sK)) (sr [u5 0 3] .ret)))
def F927:qK:=⟨2,32,[.t 4],sB 1 [ue 5 0,ue 5 1,uV] (.seq (sr qh8 (cD 9 (sr [uV 0 3] .ret) sK)) (.seq (sr qh9 (cD 14 (sr [uV 0 3] .ret) sK)) qh7))⟩
def F549:qK:=eqS 5 (some 5) 927
abbrev qiD:=bO 4 [uL 2,uM 2 0,uL 3,uM 3 0,uu 6]
abbrev qiE:=bO 9 [uL 2,uM 2 1,uL 3,uM 3 1,uu 11]
def F928:qK:=⟨2,15,[.t 4],sB 1 [ue 2 0,ue 2 1,uV] (.seq (sr qiD (cD 9 (sr [uV 0 3] .ret) sK)) (.seq (sr qiE (cD 14 (sr [uV 0 3] .ret) sK)) (sr [u5 0 3] .ret)))⟩
def F551:qK:=eqS 2 (some 2) 928
abbrev qYU:=bO 4 [uL 2,uM 2 0,uL 3,uM 3 0,uU 549 6,ud]
abbrev qYV:=bO 10 [uL 2,uM 2 1,uL 3,uM 3 1,uu 12]
abbrev qYW:=bO 15 [uL 2,uS 2 2 2,uL 3,uS 3 2 2,uU 550 17,ud]
abbrev qYX:=bO 21 [uL 2,uM 2 4,uL 3,uM 3 4,uU 551 23,ud]
abbrev qYT:qQ:=.seq (sr qYV (cD 15 (sr [uV 0 3] .ret) sK)) (.seq (sr qYW (cD 21 (sr [uV 0 3] .ret) sK)) (.seq (sr qYX (cD 27 (sr [uV 0 3] .ret) sK)) (sr [u5 0 3] .ret)))
def kq:qK:=⟨2,28,[.t 4],sB 1 [ue 5 0,ue 5 1,uV] (.seq (sr qYU (cD 10 (sr [uV 0 3] .ret) sK)) qYT)⟩
abbrev qZJ:=bO 3 [ue 5 1,uC 5 vF,uo,uO 0]
abbrev qZK:=bO 11 [uI 0,uS 4 0 5,uI 2,uv 507 12 13,uH 11 15,uC 15 (uf 11 0),uf 11 1,uH 9 16,uI 17]
abbrev qZL:=bO 19 [vX,uI 10,uX 6 0 5 20,uC 6 uo,uI 21]
abbrev qZM:=bO 21 [uI 9,uN,uK 0,uJ,uN,uK 0,uY 5,uI 9,uN,uK 1,uJ,uX 6 0 5 28,uH 7 32,uO 0]
def F253:qK:=⟨3,33,[.l 6 (some 5),.t 7,.t 8],sr qZJ (sr qZK (.seq (sB 17 [uI 10,vv 18 0] (cD 19 (sr qZL .ret) sK)) (sr qZM .ret)))⟩
abbrev qiR:=bO 5 [uQ,uI 0,uR,un 6]
abbrev qiS:=bO 11 [uI 0,uI 5,uI 1,ug 2 12 13,uK 0,uc 1 14]
abbrev qiT:=bO 18 [uI 0,uI 5,uI 1,ug 2 19 20,uK 1,uc 1 21]
abbrev qiP:=sB 16 [uI 1,ub 1,uH 1 18] (sr qiT (rB 23 [uI 1,ub 1,uH 1 25]))
abbrev qiQ:=sr [uO 0 0 4] (.blk 0 (.loop (.seq (sr qiR (cD 9 sK (.exit 0))) (.seq (.blk 1 (sr qiS qiP)) (rB 9 [uI 5,ub 1,uH 5 11])))))
def F968:qK:=⟨2,27,[.t 4],sr [uO 0 0 3] (.seq qiQ (sB 25 [uI 1,uH 4 26] .ret))⟩
abbrev qdA:=bO 5 [uQ,uI 0,uR,un 6]
abbrev qdB:=bO 11 [uI 0,uI 5,uI 1,ug 5 12 13,uK 0,uc 1 14]
abbrev qdC:=bO 18 [uI 0,uI 5,uI 1,ug 5 19 20,uK 1,uc 1 21]
abbrev qdD:=bO 25 [uI 0,uI 5,uI 1,ug 5 26 27,uK 2,uc 1 28]
abbrev qdE:=bO 32 [uI 0,uI 5,uT 5 33,uK 3,uJ,uI 1,uU 90 37,uH 1 39]
abbrev qdF:=bO 39 [uI 0,uI 5,uT 5 40,uK 4,uJ,uI 1,uU 968 44,uH 1 46]
abbrev qc8:=sB 23 [uI 1,ub 1,uH 1 25] (sr qdD (sB 30 [uI 1,ub 1,uH 1 32] (sr qdE (rg qdF))))
abbrev qc9:qQ:=.seq (.blk 1 (sr qdB (sB 16 [uI 1,ub 1,uH 1 18] (sr qdC qc8)))) (rB 9 [uI 5,ub 1,uH 5 11])
def F595:qK:=⟨2,48,[.t 4],sr [uO 0 0 3] (.seq (sr [uO 0 0 4] (.blk 0 (.loop (.seq (sr qdA (cD 9 sK (.exit 0))) qc9)))) (sB 46 [uI 1,uH 4 47] .ret))⟩
abbrev qdI:=bO 5 [uQ,uI 0,uR,un 6]
abbrev qdJ:=bO 11 [uI 0,uI 5,uI 1,ug 2 12 13,uK 0,uc 1 14]
abbrev qdK:=bO 18 [uI 0,uI 5,uI 1,ug 2 19 20,uK 1,uc 1 21]
abbrev qdG:=sB 16 [uI 1,ub 1,uH 1 18] (sr qdK (rB 23 [uI 1,ub 1,uH 1 25]))
abbrev qdH:=sr [uO 0 0 4] (.blk 0 (.loop (.seq (sr qdI (cD 9 sK (.exit 0))) (.seq (.blk 1 (sr qdJ qdG)) (rB 9 [uI 5,ub 1,uH 5 11])))))
def F596:qK:=⟨2,27,[.t 4],sr [uO 0 0 3] (.seq qdH (sB 25 [uI 1,uH 4 26] .ret))⟩
abbrev qY7:=bO 4 [uL 2,uM 2 0,uI 1,uU 595 6,uH 1 8]
abbrev qY8:=bO 8 [uL 2,uM 2 4,uI 1,uU 596 10,uH 1 12]
def F240:qK:=⟨2,14,[.t 4],sB 1 [ue 5 0,uC 3 (uO 0)] (sr qY7 (sr qY8 (sB 12 [uI 1,uH 4 13] .ret)))⟩
abbrev qkU:=bO 5 [uQ,uI 0,uR,un 6]
abbrev qkV:=bO 11 [uI 0,uI 5,uT 2 12,uK 0,uJ,uI 1,uu 16]
abbrev qkW:=bO 20 [uI 0,uI 5,uT 2 21,uK 1,uJ,uI 1,uu 25]
abbrev qkS:=sB 18 [uI 1,ub 1,uH 1 20] (.seq (sr qkW (cD 27 (sr [uO (-1) 0 3] .ret) sK)) (rB 27 [uI 1,ub 1,uH 1 29]))
abbrev qkT:qQ:=.loop (.seq (sr qkU (cD 9 sK (.exit 0))) (.seq (.blk 1 (.seq (sr qkV (cD 18 (sr [uO (-1) 0 3] .ret) sK)) qkS)) (rB 9 [uI 5,ub 1,uH 5 11])))
def F977:qK:=⟨2,31,[.t 4],sr [uO 0 0 3] (.seq (sr [uO 0 0 4] (.blk 0 qkT)) (sB 29 [uI 1,uH 4 30] .ret))⟩
abbrev qeA:=bO 5 [uQ,uI 0,uR,un 6]
abbrev qeB:=bO 11 [uI 0,uI 5,uT 5 12,uK 0,uJ,uI 1,uu 16]
abbrev qeC:=bO 20 [uI 0,uI 5,uT 5 21,uK 1,uJ,uI 1,uu 25]
abbrev qeD:=bO 29 [uI 0,uI 5,uT 5 30,uK 2,uJ,uI 1,uu 34]
abbrev qeE:=bO 38 [uI 0,uI 5,uT 5 39,uK 3,uJ,uI 1,uU 92 43,uH 1 45]
abbrev qeF:=bO 47 [uI 0,uI 5,uT 5 48,uK 4,uJ,uI 1,uU 977 52,uH 1 54]
abbrev qd6:qQ:=.seq (sB 45 [uI 1,vu 46 0] (cD 47 (sr [uO (-1) 0 3] .ret) sK)) (sr qeF (sB 54 [uI 1,vu 55 0] (cD 56 (sr [uO (-1) 0 3] .ret) sK)))
abbrev qd7:=sB 27 [uI 1,ub 1,uH 1 29] (.seq (sr qeD (cD 36 (sr [uO (-1) 0 3] .ret) sK)) (sB 36 [uI 1,ub 1,uH 1 38] (sr qeE qd6)))
abbrev qd8:qQ:=.seq (sr qeB (cD 18 (sr [uO (-1) 0 3] .ret) sK)) (sB 18 [uI 1,ub 1,uH 1 20] (.seq (sr qeC (cD 27 (sr [uO (-1) 0 3] .ret) sK)) qd7))
abbrev qd9:=sr [uO 0 0 4] (.blk 0 (.loop (.seq (sr qeA (cD 9 sK (.exit 0))) (.seq (.blk 1 qd8) (rB 9 [uI 5,ub 1,uH 5 11])))))
def F603:qK:=⟨2,58,[.t 4],sr [uO 0 0 3] (.seq qd9 (sB 56 [uI 1,uH 4 57] .ret))⟩
abbrev qeI:=bO 5 [uQ,uI 0,uR,un 6]
abbrev qeJ:=bO 11 [uI 0,uI 5,uT 2 12,uK 0,uJ,uI 1,uu 16]
abbrev qeK:=bO 20 [uI 0,uI 5,uT 2 21,uK 1,uJ,uI 1,uu 25]
abbrev qeG:=sB 18 [uI 1,ub 1,uH 1 20] (.seq (sr qeK (cD 27 (sr [uO (-1) 0 3] .ret) sK)) (rB 27 [uI 1,ub 1,uH 1 29]))
abbrev qeH:qQ:=.loop (.seq (sr qeI (cD 9 sK (.exit 0))) (.seq (.blk 1 (.seq (sr qeJ (cD 18 (sr [uO (-1) 0 3] .ret) sK)) qeG)) (rB 9 [uI 5,ub 1,uH 5 11])))
def F604:qK:=⟨2,31,[.t 4],sr [uO 0 0 3] (.seq (sr [uO 0 0 4] (.blk 0 qeH)) (sB 29 [uI 1,uH 4 30] .ret))⟩
abbrev qZA:=bO 4 [uL 2,uM 2 0,uI 1,uU 603 6,uH 1 8]
abbrev qZB:=bO 10 [uL 2,uM 2 4,uI 1,uU 604 12,uH 1 14]
abbrev qY9:=sr qZB (.seq (sB 14 [uI 1,vu 15 0] (cD 16 (sr [uO (-1) 0 3] .ret) sK)) (sB 16 [uI 1,uH 4 17] .ret))
def F245:qK:=⟨2,18,[.t 4],sB 1 [ue 5 0,uC 3 (uO 0)] (sr qZA (.seq (sB 8 [uI 1,vu 9 0] (cD 10 (sr [uO (-1) 0 3] .ret) sK)) qY9))⟩
abbrev qZD:=bO 3 [vU 5 1,uC 5 vF,uo,uO 0]
abbrev qZE:=bO 11 [uI 0,uI 2,uv 544 12 4,uH 9 14]
abbrev qZF:=bO 16 [vX,uI 9,uX 6 0 5 17,uC 6 uo,uI 18]
abbrev qZG:=bO 20 [uI 0,uI 2,uv 503 21 10,uH 20 23,uC 23 (uf 20 0),uf 20 1,uH 11 24,uH 9 25]
abbrev qZH:=bO 27 [vX,uI 9,uX 6 0 5 28,uC 6 uo,uI 29]
abbrev qZI:=bO 29 [uA (.load (some 5) (.t 10)),uI 11,uN,uK 0,uJ,uG [uA (.load (some 5) (.t 10)) 0 29] (uP 571),uX 6 0 5 30,uH 7 35,uO 0]
abbrev qZC:=sB 18 [vM 545 4,uC 9 (uA (.halloc 5 (.agg [.nils,iI 0,iI 0,iI 0,.nils]))),uc 5 19] (sr qZG (.seq (sB 25 [uI 9,vv 26 0] (cD 27 (sr qZH .ret) sK)) (sr qZI .ret)))
def F252:qK:=⟨3,36,[.l 6 (some 5),.t 7,.t 8],sr qZD (sr qZE (.seq (sB 14 [uI 9,vv 15 0] (cD 16 (sr qZF .ret) sK)) qZC))⟩
abbrev qa5:=bO 21 [uI 0,uI 7,uU 181 22,uH 7 24]
abbrev qa6:=bO 26 [uS 4 0 5,uI 7,uU 209 27,uH 7 29]
abbrev qbG:=bO 32 [uI 0,uD 2 (uC 34 (uS 4 0 5)),uD 4 (uH 37 2),uD 10 (uC 7 vF),uD 1 (uC 33 (uP 184)),uD 3 (uC 35 (uP 211)),uD 5 (uC 37 (uv 252 34 36)),uD 6 (uH 32 38),uD 7 (uC 38 (uf 32 0)),uD 8 (uf 32 1),uD 9 (uf 32 2),uX 8 0 5 39,uH 9 40,uI 41]
abbrev qbH:=bO 43 [uS 4 0 5,uP 211,uC 11 vF,uX 12 0 5 45]
abbrev qbI:=bO 46 [uI 11,uS 12 0 5,uI 2,uv 253 47 48,uH 46 50,uC 50 (uf 46 0),uf 46 1,uf 46 2,uC 12 vF,uX 13 0 5 51,uI 52,uI 53]
abbrev qbJ:=bO 53 [uS 13 0 5,uS 8 0 5,uU 213 54,ud,uQ,uF 58 (uI 14),uF 58 (uI 9),uF 58 (uU 86 59),uF 58 ud,uk 58,uQ,uF 64 (uI 15),uF 64 (uI 10),uF 64 (uu 65),uk 64]
abbrev qbK:=bO 68 [uI 11,uI 0,uP 184,uU 187 69,ud]
abbrev qbL:=bO 73 [uS 12 0 5,uS 4 0 5,uP 211,uU 213 74,ud]
abbrev qbM:=bO 78 [uI 11,uI 16,uU 225 79,uH 16 81]
abbrev qbN:=bO 81 [uS 12 0 5,uI 16,uU 240 82,uH 16 84]
abbrev qa7:=bO 84 [uI 16,vu 85 0,uQ,uF 87 (uS 13 0 5),uF 87 (uS 8 0 5),uF 87 (uU 213 88),uF 87 ud,uk 87,uQ,uF 93 (uI 14),uF 93 (uI 9),uF 93 (uU 86 94),uF 93 ud,uk 93,uQ,uF 99 (uI 15),uF 99 (uI 10),uF 99 (uu 100),uk 99]
abbrev qa8:=bO 103 [uS 13 0 5,uI 17,uU 240 104,uH 17 106]
abbrev qa9:=bO 106 [uI 14,uI 17,uU 90 107,uH 17 109]
abbrev qbA:=bO 109 [uS 13 0 5,uI 18,uU 245 110,uH 18 112]
abbrev qbB:=bO 114 [uI 14,uI 18,uU 92 115,uH 18 117]
abbrev qbC:=bO 123 [uI 0,uD 2 (uC 125 (uS 4 0 5)),uD 4 (uH 128 2),uD 10 (uC 18 vF),uD 1 (uC 124 (uP 184)),uD 3 (uC 126 (uP 211)),uD 5 (uC 128 (uv 253 125 127)),uD 6 (uH 123 129),uD 7 (uC 129 (uf 123 0)),uD 8 (uf 123 1),uD 9 (uf 123 2),uX 19 0 5 130,uH 20 131,uI 132]
abbrev qbD:=bO 132 [uS 19 0 5,uS 8 0 5,uU 213 133,ud,uQ,uF 137 (uI 20),uF 137 (uI 9),uF 137 (uU 86 138),uF 137 ud,uk 137,uQ,uF 143 (uI 21),uF 143 (uI 10),uF 143 (uu 144),uk 143]
abbrev qbE:=bO 147 [uS 13 0 5,uI 18,uU 245 148,uH 18 150]
abbrev qbF:=bO 152 [uI 14,uI 18,uU 92 153,uH 18 155]
abbrev qaX:qQ:=.seq (sB 155 [uI 18,vu 156 0] (cD 157 (sr [uV 0 5] .ret) sK)) (.seq (sB 157 [uI 18,uI 17,uu 158] (cD 160 (sr [uV 0 5] .ret) sK)) (sr [u5 0 5] .ret))
abbrev qaY:=sr [uO 1 0 17] (sr qbE (.seq (sB 150 [uI 18,vu 151 0] (cD 152 (sr [uV 0 5] .ret) sK)) (sr qbF qaX)))
abbrev qaZ:qQ:=.seq (sB 119 [uI 18,uI 17,uu 120] (cD 122 (sr [uV 0 5] .ret) sK)) (sr qbC (.seq (sr qbD (cD 147 (sr [uV 0 5] .ret) sK)) qaY))
abbrev qa0:qQ:=.seq (sB 112 [uI 18,vu 113 0] (cD 114 (sr [uV 0 5] .ret) sK)) (sr qbB (.seq (sB 117 [uI 18,vu 118 0] (cD 119 (sr [uV 0 5] .ret) sK)) qaZ))
abbrev qa1:qQ:=.seq (sr qa7 (cD 103 (sr [uV 0 5] .ret) sK)) (sr [uO 1 0 16] (sr qa8 (sr qa9 (sr [uO 1 0 17] (sr qbA qa0)))))
abbrev qa2:qQ:=.seq (sr qbK (cD 73 (sr [uV 0 5] .ret) sK)) (.seq (sr qbL (cD 78 (sr [uV 0 5] .ret) sK)) (sr [uO 1 0 15] (sr qbM (sr qbN qa1))))
abbrev qa3:=sB 41 [uI 0,uP 184,uH 11 43] (sr qbH (sr qbI (.seq (sr qbJ (cD 68 (sr [uV 0 5] .ret) sK)) qa2)))
abbrev qa4:qQ:=.seq (sB 24 [uI 7,vu 25 0] (cD 26 (sr [u5 0 5] .ret) sK)) (sr qa6 (.seq (sB 29 [uI 7,vu 30 0] (cD 31 (sr [u5 0 5] .ret) sK)) (sr qbG qa3)))
def F42:qK:=⟨3,161,[.t 6],sB 3 [ue 5 1,uC 5 uV] (sr [uO 1048576 0 6] (sr qa5 qa4))⟩
def tabm:List (Nat×qK):=[(338,F338),(1173,qDR),(852,F852),(501,F501),(182,kY),(181,F181),(340,F340),(488,F488),(1371,Kx),(1384,K0),(1372,Ky),(1489,kP),(1385,K1),(1494,kQ),(1386,K3),(1096,U0),(710,F710),(318,F318),(598,F598),(742,F742),(1395,K8),(1499,kS),(1500,kT),(1396,K9),(1110,U9),(1111,KA),(744,F744),(147,kM),(1419,XO),(1178,KI),(858,XS),(504,F504),(185,XP),(184,kZ),(774,F774),(397,F397),(1179,qDS),(859,F859),(554,F554),(796,F796),(1050,Uv),(1051,Uw),(1487,kO),(1387,K4),(1388,K5),(1375,Kz),(1495,kR),(1389,K6),(1390,K7),(1097,U8),(711,F711),(1098,qDQ),(712,F712),(555,F555),(714,F714),(713,F713),(319,F319),(860,F860),(505,F505),(376,F376),(1501,kU),(1502,kV),(1398,kA),(1115,KB),(751,F751),(86,F86),(1422,kG),(1184,qDU),(870,F870),(508,F508),(188,ke),(187,F187),(402,F402),(401,F401),(1373,qD0),(1085,Uz),(798,F798),(90,F90),(885,F885),(524,F524),(225,kw),(92,F92),(856,F856),(1177,KH),(1125,KD),(1126,KE),(762,F762),(1456,kI),(1305,Ki),(566,F566),(1400,kC),(1118,KC),(978,F978),(571,F571),(1485,qD3),(948,F948),(569,F569),(1174,KF),(1280,KT),(1282,KV),(1418,kD),(1176,KG),(1277,KQ),(969,F969),(971,F971),(855,F855),(857,F857),(970,F970),(924,XT),(1278,KR),(1279,KS),(1281,KU),(1283,KW),(972,F972),(1284,KX),(973,F973),(600,F600),(854,F854),(503,F503),(556,F556),(863,F863),(864,F864),(866,F866),(1256,KO),(1482,qD1),(1356,qDX),(1254,KN),(1368,Kw),(1455,kH),(1358,Ko),(1357,Kn),(1483,qD2),(1359,qDY),(1360,Kp),(1484,kN),(1362,Kr),(1361,Kq),(1363,qDZ),(1365,Kt),(1364,Ks),(1366,Ku),(1367,Kv),(1068,Uy),(867,F867),(1070,qDP),(1181,qDT),(868,F868),(1509,kW),(1420,kE),(1285,KY),(1421,kF),(1183,KL),(1286,KZ),(1287,Ka),(1288,XN),(1257,KP),(1295,Kh),(1521,kX),(1457,kJ),(1458,kK),(1289,Kb),(1459,kL),(1290,Kc),(1291,Kd),(1292,Ke),(1293,Kf),(975,F975),(1294,Kg),(976,F976),(602,F602),(1182,KJ),(869,F869),(507,F507),(1242,qDV),(922,F922),(542,F542),(543,F543),(209,kj),(950,F950),(951,F951),(1351,Kj),(1352,Kk),(1353,Kl),(1354,Km),(1058,Ux),(923,F923),(544,F544),(545,F545),(547,XR),(1243,KM),(925,XU),(546,F546),(926,XV),(548,F548),(211,XQ),(550,F550),(1244,qDW),(927,F927),(549,F549),(928,F928),(551,F551),(213,kq),(253,F253),(968,F968),(595,F595),(596,F596),(240,F240),(977,F977),(603,F603),(604,F604),(245,F245),(252,F252),(42,F42)]
def Gm(g:Nat):Option AFn:=ZI g tabm
theorem gk(g:Nat)(F:qK)(h:Gm g=some (.fn F):=by kernel_rfl):Gm g=some (.fn F):=h
theorem pI{Γ:Nat->Option AFn}{g:Nat}(F:qK){as:List AV}{v:AV}(ht:AV.trees as=true)(hv:v.tree=true)(hR:R ⟨Γ,0,[],[]⟩ [.code F.body] ⟨qN 0 as,[],[]⟩ (Xu F.res v))(hg:Γ g=some (.fn F):=by kernel_rfl)(hok:F.body.ok=true:=by kernel_rfl)(hn:as.length=F.np:=by rfl):Pure Γ g as v:=Pure.intro [] [] hg hok hn ht hv hR
theorem fI{Γ:Nat->Option AFn}{g:Nat}(F:qK){as:List AV}{t:AV}(ht:AV.trees as=true)(hp:t.pl=true)(hR:R ⟨Γ,0,[],[]⟩ [.code F.body] ⟨qN 0 as,[],[]⟩ (VS F.res t))(hg:Γ g=some (.fn F):=by kernel_rfl)(hok:F.body.ok=true:=by kernel_rfl)(hn:as.length=F.np:=by rfl):Fresh Γ g as t:=Fresh.intro [] [] hg hok hn ht hp hR
theorem sI{Γ:Nat->Option AFn}{g:Nat}{vs:List AV}{h:List qA}(F:qK){K:AV->List qA->Prop}(hR:R ⟨Γ,h.length,[],[]⟩ [.code F.body] ⟨qN 0 vs,[],h⟩ (Wf F.res K))(hg:Γ g=some (.fn F):=by kernel_rfl)(hok:F.body.ok=true:=by kernel_rfl)(hn:vs.length=F.np:=by rfl):SCall Γ g vs h K:=SCall.run [] [] hg hok hn hR
theorem pJ{Γ:Nat->Option AFn}{g:Nat}(F:qK){as:List AV}{v:AV}(hR:R ⟨Γ,0,[],[]⟩ [.code F.body] ⟨qN 0 as,[],[]⟩ (Xu F.res v))(hg:Γ g=some (.fn F):=by kernel_rfl)(hok:F.body.ok=true:=by kernel_rfl)(hn:as.length=F.np:=by rfl)(ht:AV.trees as=true:=by simp[AV.trees,AV.tree,go_sem])(hv:v.tree=true:=by rfl):Pure Γ g as v:=Pure.intro [] [] hg hok hn ht hv hR
theorem c338(xs:List Int)(hx:xs.length<=140737488355328)(left:Nat)(hl:left<=1048576):Pure Gm 338 [lQ xs,iI left] (iI (ju xs.length left)):=
 Ub (gk _ F338) shI.tree xs left hl hx
theorem qlS(xs:List qI)(hx:xs.length<=140737488355328)(left:Nat)(hl:left<=1048576):Pure Gm 1173 [.lst 2 (xs.map qI.enc) false,iI left] (iI (ju xs.length left)):=
 Ub (gk _ qDR) qI.isSh.tree xs left hl hx
theorem c852(x:qB)(hb:x.bd)(left:Nat)(hl:left<=1048576):Pure Gm 852 [x.enc,iI left] (iI (ju x.sz left)):=by
 refine pI F852 (by simp[AV.trees,AV.tree,qB.tr]) rfl ?_;simp only[F852,qN,go_sem];refine qX rfl ?_;simp only[go_sem];unfold qB.bd at hb;refine qL (c338 _ hb.1 _ (by omega)) ?_;simp only[go_sem];apply qT<;>intro hc<;>simp only[hc,go_sem]
 ·have hq:=odT hc;rw[wK]at hq;exact qM rfl (by rw[Jc (by unfold qB.sz;omega)])
 have hq:=odF hc;rw[wK]at hq;rw[wL (by omega)];clear hc;refine qL (qlS _ hb.2 _ (by omega)) ?_;simp only[go_sem];apply qT<;>intro hc<;>simp only[hc,go_sem]
 ·have hq:=odT hc;rw[wK]at hq;exact qM rfl (by rw[Jc (by unfold qB.sz;omega)])
 have hq:=odF hc;rw[wK]at hq;rw[wL (by omega)];clear hc;exact qM rfl (by rw[wL (by unfold qB.sz;omega)];unfold qB.sz;first | rfl | (congr 2;omega))
theorem c501(xs:List qB)(hx:xs.length<=140737488355328/\(∀y∈xs,qB.bd y))(left:Nat)(hl:left<=1048576):Pure Gm 501 [.lst 5 (xs.map qB.enc) false,iI left] (iI (ju (xs.length+qJ qB.sz xs) left)):=
 qC9 qB.isSh (gk _ F501) qB.sz xs (λx hm lf hlf=>c852 x (hx.2 x hm) lf hlf) left hl hx.1
theorem c182(x:qD)(hb:x.bd)(left:Nat)(hl:left<=1048576):Pure Gm 182 [x.enc,iI left] (iI (ju x.sz left)):=by
 refine pI kY (by simp[AV.trees,AV.tree,qD.tr]) rfl ?_;simp only[kY,qN,go_sem];refine qX rfl ?_;simp only[go_sem];unfold qD.bd at hb;refine qL (c501 _ ⟨hb.1,hb.2⟩ _ (by omega)) ?_;simp only[go_sem];apply qT<;>intro hc<;>simp only[hc,go_sem]
 ·have hq:=odT hc;rw[wK]at hq;exact qM rfl (by rw[Jc (by unfold qD.sz;omega)])
 have hq:=odF hc;rw[wK]at hq;rw[wL (by omega)];clear hc;exact qM rfl (by rw[wL (by unfold qD.sz;omega)];unfold qD.sz;first | rfl | (congr 2;omega))
theorem c181(xs:List qD)(hx:xs.length<=140737488355328/\(∀y∈xs,qD.bd y))(left:Nat)(hl:left<=1048576):Pure Gm 181 [.lst 1 (xs.map qD.enc) false,iI left] (iI (ju (xs.length+qJ qD.sz xs) left)):=
 qC9 qD.isSh (gk _ F181) qD.sz xs (λx hm lf hlf=>c182 x (hx.2 x hm) lf hlf) left hl hx.1
theorem c147(xs:List Int)(hl:xs.length<=1048576):Pure Gm 147 [lQ xs] (lQ xs):=qtT (gk _ kM) xs hl
theorem qmP(x:qI):Pure Gm 1419 [x.enc] x.enc:=by
 refine pI XO (by simp[AV.trees,qI.tr]) qI.tr ?_;simp only[XO,qN,go_sem];refine qX rfl ?_;simp only[go_sem];refine lsA ?_;simp only[go_sem];exact qM qI.tr rfl
theorem qlV(xs:List qI)(hl:xs.length<=1048576):Pure Gm 1178 [.lst 2 (xs.map qI.enc) false] (.lst 2 (xs.map qI.enc) false):=
 XG qI.isSh rfl rfl (by simp) (gk _ KI) xs (λx hm=>qmP x) (by omega)
theorem c858(x:qB)(hz:x.sz<=1048576):Pure Gm 858 [x.enc] x.enc:=by
 refine pI XS (by simp[AV.trees,qB.tr]) qB.tr ?_;simp only[XS,qN,go_sem];refine qX rfl ?_;simp only[go_sem];unfold qB.sz at hz;refine qL (c147 _ (by omega)) ?_;simp only[go_sem];refine qL (qlV _ (by omega)) ?_;simp only[go_sem];refine lsA ?_;simp only[go_sem];exact qM qB.tr rfl
theorem c504(xs:List qB)(hl:xs.length+qJ qB.sz xs<=1048576):Pure Gm 504 [.lst 5 (xs.map qB.enc) false] (.lst 5 (xs.map qB.enc) false):=
 XG qB.isSh rfl rfl (by simp) (gk _ F504) xs (λx hm=>c858 x (by have:=jB (f:=qB.sz) hm;omega)) (by omega)
theorem c185(x:qD)(hz:x.sz<=1048576):Pure Gm 185 [x.enc] x.enc:=by
 refine pI XP (by simp[AV.trees,qD.tr]) qD.tr ?_;simp only[XP,qN,go_sem];refine qX rfl ?_;simp only[go_sem];unfold qD.sz at hz;refine qL (c504 _ (by omega)) ?_;simp only[go_sem];exact qM qD.tr rfl
theorem c184(xs:List qD)(hl:xs.length+qJ qD.sz xs<=1048576):Pure Gm 184 [.lst 1 (xs.map qD.enc) false] (.lst 1 (xs.map qD.enc) false):=
 XG qD.isSh rfl rfl (by simp) (gk _ kZ) xs (λx hm=>c185 x (by have:=jB (f:=qD.sz) hm;omega)) (by omega)
theorem c86(xs:List Int)(hl:xs.length<=1073741824):Pure Gm 86 [lQ xs,lQ xs] (.bool true):=qoE (gk _ F86) xs hl
theorem qmQ(x:qI):Pure Gm 1422 [x.enc,x.enc] (.bool true):=by
 refine pI kG (by simp[AV.trees,qI.tr]) rfl ?_;simp only[kG,qN,go_sem];refine qX rfl ?_;simp only[go_sem];refine qX rfl ?_;simp only[go_sem];exact qM rfl rfl
theorem qlW(xs:List qI)(hl:xs.length<=1073741824):Pure Gm 1184 [.lst 2 (xs.map qI.enc) false,.lst 2 (xs.map qI.enc) false] (.bool true):=
 Wd qI.isSh (gk _ qDU) xs (λx hm=>qmQ x) (by omega)
theorem c870(x:qB)(hz:x.sz<=1073741824):Pure Gm 870 [x.enc,x.enc] (.bool true):=by
 refine pI F870 (by simp[AV.trees,qB.tr]) rfl ?_;simp only[F870,qN,go_sem];refine qX rfl ?_;simp only[go_sem];refine qX rfl ?_;simp only[go_sem];unfold qB.sz at hz;refine qL (c86 _ (by omega)) ?_;simp only[go_sem];refine qL (qlW _ (by omega)) ?_;simp only[go_sem];exact qM rfl rfl
theorem c508(xs:List qB)(hl:xs.length+qJ qB.sz xs<=1073741824):Pure Gm 508 [.lst 5 (xs.map qB.enc) false,.lst 5 (xs.map qB.enc) false] (.bool true):=
 Wd qB.isSh (gk _ F508) xs (λx hm=>c870 x (by have:=jB (f:=qB.sz) hm;omega)) (by omega)
theorem c188(x:qD)(hz:x.sz<=1073741824):Pure Gm 188 [x.enc,x.enc] (.bool true):=by
 refine pI ke (by simp[AV.trees,qD.tr]) rfl ?_;simp only[ke,qN,go_sem];refine qX rfl ?_;simp only[go_sem];refine qX rfl ?_;simp only[go_sem];unfold qD.sz at hz;refine qL (c508 _ (by omega)) ?_;simp only[go_sem];exact qM rfl rfl
theorem c187(xs:List qD)(hl:xs.length+qJ qD.sz xs<=1073741824):Pure Gm 187 [.lst 1 (xs.map qD.enc) false,.lst 1 (xs.map qD.enc) false] (.bool true):=
 Wd qD.isSh (gk _ F187) xs (λx hm=>c188 x (by have:=jB (f:=qD.sz) hm;omega)) (by omega)
def inI(n lo hi:Int):Bool:=decide (lo<=n)&&decide (n<=hi)
def jx(k f:Int):Int:=
 if k=9 then(if inI f 0 3 then f+1 else 0)else if f≠0 then 0 else
 if k=1\/k=5\/k=6\/k=12 then 1 else if k=8\/k=10\/k=11 then 2 else if k=2\/k=3\/k=4\/k=7 then 3 else 0
def jV(k:Int):Bool:=decide (k=2) || decide (k=3) || decide (k=4) || decide (k=7) || decide (k=8) || decide (k=9) || decide (k=10) || decide (k=11) || decide (k=12)
def Jb(k:Int):Bool:=inI k 1 12
def zy(k l:Int):Bool:=if jV k then inI l 0 8 else Jb k&&decide (l=0)
def j4(n:Int):Bool:=inI n 0 23
def fieldsOf(x:qB):Int:=if x.K=9 then(x.P.length:Int)-1 else 0
def jD(x:qB):Bool:=
 if x.K=6 then decide ((x.D.length:Int)=0)&&inI x.V (-2147483648) 2147483647
 else if x.K=7 then decide ((x.D.length:Int)=0)&&inI x.V 1 6
 else if x.K=8 then decide ((x.D.length:Int)=1)&&inI x.V 1 6&&x.D.all λd=>inI d (-2147483648) 2147483647
 else if x.K=9 then decide ((x.D.length:Int)=0)&&inI x.V 0 3
 else if x.K=12 then decide ((x.D.length:Int)=0)&&j4 x.V
 else if x.K=10 then decide (x.V=0)&&inI x.D.length 1 4&&x.D.all j4
 else if x.K=11 then decide (x.V=0)&&decide ((x.D.length:Int)=2)&&x.D.all j4
 else decide (x.V=0)&&decide ((x.D.length:Int)=0)
def qk(x:qB):Bool:=decide (0<jx x.K (fieldsOf x))&&decide ((x.P.length:Int)=jx x.K (fieldsOf x))&&zy x.K x.L&&jD x
def jd:List qB->Nat->Bool
 |[],_=>true
 | x::xs,i=>qk x&&(decide (x.K=1)==decide (i=0))&&jd xs (i+1)
def wQ(xs:List qB):Bool:=inI xs.length 1 600&&jd xs 0
def jH(xs:List qB)(a:Int):Nat:=match xs[a.toNat]? with
 | some x=>x.P.length
 | none=>0
def wZ(xs:List qB)(p:qI):Bool:=inI p.N 0 ((xs.length:Int)-1)&&inI p.S 0 ((jH xs p.N:Int)-1)
theorem JX{α:Type}{xs:List α}{i:Nat}(h:i<xs.length):xs.drop i=xs[i]::xs.drop (i+1):=by simp
theorem wU{n lo hi:Int}:Pure Gm 340 [iI n,iI lo,iI hi] (.bool (inI n lo hi)):=by
 refine pJ F340 ?_;simp only[F340,qN,go_sem]
 repeat' (first | (refine qX rfl ?_;simp only[go_sem]) | (first | (apply zH<;>intro hc<;>simp only[hc,go_sem]) | (apply qT<;>intro hc<;>simp only[hc,go_sem])) | refine qM rfl ?_)
 all_goals (simp_all[inI]<;>omega)
theorem qAJ{k:Int}:Pure Gm 1372 [iI k] (.bool (jV k)):=by
 refine pJ Ky ?_;simp only[Ky,qN,go_sem]
 repeat' (first | (refine qX rfl ?_;simp only[go_sem]) | (first | (apply zH<;>intro hc<;>simp only[hc,go_sem]) | (apply qT<;>intro hc<;>simp only[hc,go_sem])) | refine qM rfl ?_)
 all_goals (simp_all[jV])
theorem qmR{k:Int}:Pure Gm 1489 [iI k] (.bool (Jb k)):=by
 refine pJ kP ?_;simp only[kP,qN,go_sem]
 repeat' (first | (refine qX rfl ?_;simp only[go_sem]) | (first | (apply zH<;>intro hc<;>simp only[hc,go_sem]) | (apply qT<;>intro hc<;>simp only[hc,go_sem])) | (refine qL (wU) ?_;simp only[go_sem]) | refine qM rfl ?_)
 all_goals (simp_all[Jb])
theorem qAL{k l:Int}:Pure Gm 1385 [iI k,iI l] (.bool (zy k l)):=by
 refine pJ K1 ?_;simp only[K1,qN,go_sem]
 repeat' (first | (refine qX rfl ?_;simp only[go_sem]) | (first | (apply zH<;>intro hc<;>simp only[hc,go_sem]) | (apply qT<;>intro hc<;>simp only[hc,go_sem])) | (refine qL (wU) ?_;simp only[go_sem]) | (refine qL (qAJ) ?_;simp only[go_sem]) | (refine qL (qmR) ?_;simp only[go_sem]) | refine qM rfl ?_)
 all_goals (simp_all[zy])
theorem qE1{k:Int}:Pure Gm 1494 [iI k] (.bool (j4 k)):=by
 refine pJ kQ ?_;simp only[kQ,qN,go_sem]
 repeat' (first | (refine qX rfl ?_;simp only[go_sem]) | (first | (apply zH<;>intro hc<;>simp only[hc,go_sem]) | (apply qT<;>intro hc<;>simp only[hc,go_sem])) | (refine qL (wU) ?_;simp only[go_sem]) | refine qM rfl ?_)
 all_goals (simp_all[j4])
theorem qmH{k f:Int}:Pure Gm 1371 [iI k,iI f] (iI (jx k f)):=by
 refine pJ Kx ?_;simp only[Kx,qN,go_sem]
 repeat' (first | (refine qX rfl ?_;simp only[go_sem]) | (first | (apply zH<;>intro hc<;>simp only[hc,go_sem]) | (apply qT<;>intro hc<;>simp only[hc,go_sem])) | (refine qL (wU) ?_;simp only[go_sem]) | refine qM rfl ?_)
 all_goals ((try rw[jL (by simp_all[inI];omega) (by simp_all[inI];omega)]);simp_all[jx]<;>omega)
theorem qmI{x:qB}(hx:x.P.length<=140737488355328):Pure Gm 1384 [.ept x.enc 0] (iI (fieldsOf x)):=by
 refine pJ K0 ?_;simp only[K0,qN,go_sem]
 repeat' (first | (refine qX rfl ?_;simp only[go_sem]) | (first | (apply zH<;>intro hc<;>simp only[hc,go_sem]) | (apply qT<;>intro hc<;>simp only[hc,go_sem])) | refine qM rfl ?_)
 all_goals ((try rw[wsA]);simp_all[fieldsOf]<;>omega)
theorem qmJ{x:qB}(hx:x.D.length<=1048576):Pure Gm 1386 [.ept x.enc 0] (.bool (jD x)):=by
 refine pJ K3 ?_;simp only[K3,qN,go_sem];have one:(x.D.length:Int)=1->∃d,x.D=[d]:=λh=>List.length_eq_one_iff.1 (by omega);have z0:(x.D.length:Int)=1->(x.D.map qO)[0]?=some (iI (x.D.headD 0)):=λh=>by
  obtain⟨d,hd⟩:=one h;rw[hd];rfl
 have z1:(x.D.length:Int)=1->(x.D.all λd=>inI d (-2147483648) 2147483647)=inI (x.D.headD 0) (-2147483648) 2147483647:=λh=>by
  obtain⟨d,hd⟩:=one h;rw[hd];simp
 repeat' (first
  | (first | (apply zH<;>intro hc<;>simp only[hc,go_sem]) | (apply qT<;>intro hc<;>simp only[hc,go_sem]))
  | (refine qL (wU) ?_;simp only[go_sem])
  | (refine qL (qE1) ?_;simp only[go_sem])
  | refine qM rfl ?_
  | (rw[z0 (odT (by assumption))];simp only[oMs];simp only[go_sem])
  | (refine Sem.loop (λi:Nat=>i<=x.D.length/\jD x=(x.D.drop i).all j4) (λi=>(⟨[(0,.ept x.enc 0),(3,iI (i:Nat))],[],[]⟩:VSt)) (λi=>x.D.length-i) 0 (by kernel_rfl) ⟨nZl _, ?_⟩ csA ?_))
 all_goals try (simp_all[jD];done)
 all_goals
  clear z0 z1 one;rintro i ⟨hi,hI⟩;simp only[go_sem];apply qT<;>intro hc<;>simp only[hc,go_sem]
  ·have hlt:i<x.D.length:=by have:=odT hc;omega
   simp only[gMp,gEg hlt,oMs,go_sem];simp only[qO];simp only[go_sem];refine qL qE1 ?_;simp only[go_sem];apply qT<;>intro hc<;>simp only[hc,go_sem]
   ·refine qM rfl ?_;have hd:j4 x.D[i]=false:=by simpa using hc
    rw[hI,JX hlt,lAc,hd,Bool.false_and]
   ·simp only[wuA (n:=i)];refine qa (i+1) ⟨by omega, ?_⟩ (by omega) csA;have hd:j4 x.D[i]=true:=by simpa using hc
    rw[hI,JX hlt,lAc,hd,Bool.true_and]
  ·have hge:i=x.D.length:=by have:=odF hc;omega
   subst hge;refine qM rfl ?_;rw[hI];simp
theorem qER{x:qB}(hz:x.sz<=1048576):Pure Gm 1096 [.ept x.enc 0] (.bool (qk x)):=by
 refine pJ U0 ?_;simp only[U0,qN,go_sem]
 repeat' (first | (refine qX rfl ?_;simp only[go_sem]) | (first | (apply zH<;>intro hc<;>simp only[hc,go_sem]) | (apply qT<;>intro hc<;>simp only[hc,go_sem])) | (refine qL (qmI (by unfold qB.sz at hz;omega)) ?_;simp only[go_sem]) | (refine qL (qmH) ?_;simp only[go_sem]) | (refine qL (qAL) ?_;simp only[go_sem]) | (refine qL (qmJ (by unfold qB.sz at hz;omega)) ?_;simp only[go_sem]) | refine qM rfl ?_)
 all_goals (simp_all[qk]<;>omega)
theorem c710{xs:List qB}(hl:xs.length+qJ qB.sz xs<=1048576):Pure Gm 710 [.lst 5 (xs.map qB.enc) false] (.bool (wQ xs)):=by
 refine pI F710 (by simp[AV.trees,AV.tree,qY qB.isSh.tree]) rfl ?_;simp only[F710,qN,go_sem];refine qL wU ?_;simp only[go_sem];apply qT<;>intro hc<;>simp only[hc,go_sem]
 ·refine qM rfl ?_;simp_all[wQ]
 refine Sem.loop (λi:Nat=>i<=xs.length/\wQ xs=jd (xs.drop i) i) (λi=>(⟨[(0,.lst 5 (xs.map qB.enc) false),(3,iI (i:Nat))],[],[]⟩:VSt)) (λi=>xs.length-i) 0 (by kernel_rfl) ⟨nZl _,by simp_all[wQ]⟩ csA ?_;rintro i ⟨hi,hI⟩;simp only[go_sem];apply qT<;>intro hc<;>simp only[hc,go_sem]
 ·have hlt:i<xs.length:=by have:=odT hc;omega
  simp only[gMp,gEg hlt,oMs,go_sem];have hs:=jB (f:=qB.sz) (gMm hlt);refine qL (qER (by omega)) ?_;simp only[go_sem];apply zH<;>intro hc<;>simp only[hc,go_sem]
  ·simp only[gMp,gEg hlt,oMs,go_sem];apply qT<;>intro hc<;>simp only[hc,go_sem]
   ·refine qM rfl ?_;rw[hI,JX hlt];simp_all[jd]
   ·simp only[wuA (n:=i)];refine qa (i+1) ⟨by omega, ?_⟩ (by omega) csA;rw[hI,JX hlt];simp_all[jd]
  ·refine qM rfl ?_;rw[hI,JX hlt];simp_all[jd]
 ·obtain rfl:i=xs.length:=by have:=odF hc;omega
  refine qM rfl ?_;rw[hI];simp[jd]
theorem Jz{n lo hi:Int}:inI n lo hi=true↔lo<=n/\n<=hi:=by simp[inI]
def Jq(xs:List qB)(q:qI):Option qI:=match xs[q.N.toNat]? with
 | some y=>y.P[q.S.toNat]?
 | none=>none
def wg(xs:List qB)(me q:qI):Bool:= !(decide (q=me))&&wZ xs q&&decide (Jq xs q=some me)
def wh(xs:List qB)(i:Nat):List qI->Nat->Bool
 |[],_=>true
 | q::qs,k=>wg xs ⟨i,k⟩ q&&wh xs i qs (k+1)
def JF(xs:List qB):List qB->Nat->Bool
 |[],_=>true
 | x::r,i=>wh xs i x.P 0&&JF xs r (i+1)
def zM(n:qD):Bool:=wQ n.G&&JF n.G n.G 0
def z8(xs:List qD):Bool:=decide (xs.length<=24)&&xs.all zM
theorem c488{xs:List qB}{p:qI}(hl:xs.length+qJ qB.sz xs<=1048576):Pure Gm 488 [.lst 5 (xs.map qB.enc) false,p.enc] (.bool (wZ xs p)):=by
 refine pI F488 (by simp[AV.trees,AV.tree,qY qB.isSh.tree,qI.tr]) rfl ?_;simp only[F488,qN,go_sem];refine qX rfl ?_;simp only[go_sem];rw[wsA];refine qL wU ?_;simp only[go_sem];apply zH<;>intro hc<;>simp only[hc,go_sem]
 ·have h:=Jz.1 hc;have hlt:p.N.toNat<xs.length:=by omega
  rw[Va h.1];simp only[gMp,gEg hlt,oMs,go_sem];have hs:xs[p.N.toNat].D.length+xs[p.N.toNat].P.length<=qJ qB.sz xs:=jB (f:=qB.sz) (gMm hlt);rw[wsA];refine qL wU ?_;simp only[go_sem];refine qM rfl ?_;simp[wZ,hc,jH,gEg hlt]
 ·refine qM rfl ?_;simp_all[wZ]
theorem c318{n:qD}(hz:n.sz<=1048576):Pure Gm 318 [.ept n.enc 0] (.bool (zM n)):=by
 refine pJ F318 ?_;simp only[F318,qN,go_sem];have hz':n.G.length+qJ qB.sz n.G<=1048576:=hz;refine qL (c710 hz') ?_;simp only[go_sem];apply qT<;>intro hc<;>simp only[hc,go_sem]
 ·refine qM rfl ?_;simp_all[zM]
 refine Sem.loop (λi:Nat=>i<=n.G.length/\zM n=JF n.G (n.G.drop i) i) (λi=>(⟨[(0,.ept n.enc 0),(3,iI (i:Nat))],[],[]⟩:VSt)) (λi=>n.G.length-i) 0 (by kernel_rfl) ⟨nZl _,by simp_all[zM]⟩ csA ?_;rintro i ⟨hi,hI⟩;simp only[go_sem];apply qT<;>intro hc<;>simp only[hc,go_sem]
 ·have hlt:i<n.G.length:=by have:=odT hc;omega
  simp only[gMp,gEg hlt,oMs,go_sem];have hs:n.G[i].D.length+n.G[i].P.length<=qJ qB.sz n.G:=jB (f:=qB.sz) (gMm hlt);refine Sem.loop (λk:Nat=>k<=n.G[i].P.length/\zM n=(wh n.G i (n.G[i].P.drop k) k&&JF n.G (n.G.drop (i+1)) (i+1))) (λk=>(⟨[(0,.ept n.enc 0),(3,iI (i:Nat)),(4,.ept n.G[i].enc 0),(5,iI (k:Nat))],[],[]⟩:VSt)) (λk=>n.G[i].P.length-k) 0 (by kernel_rfl) ⟨nZl _,by rw[hI,JX hlt];rfl⟩ csA ?_;rintro k ⟨hk,hK⟩;simp only[go_sem];apply qT<;>intro hc<;>simp only[hc,go_sem]
  ·have hkl:k<n.G[i].P.length:=by have:=odT hc;omega
   rw[show AV.agg [AV.int IntKind.i64 (i:Nat),AV.int IntKind.i64 (k:Nat)]=qI.enc ⟨i,k⟩from rfl];refine lsA ?_;simp only[gMp,gEg hkl,oMs,go_sem];refine lsA ?_;simp only[go_sem];have stop:wg n.G ⟨i,k⟩ n.G[i].P[k]=false->zM n=false:=λh=>by rw[hK,JX hkl];simp[wh,h]
   have go:wg n.G ⟨i,k⟩ n.G[i].P[k]=true->zM n=(wh n.G i (n.G[i].P.drop (k+1)) (k+1)&&JF n.G (n.G.drop (i+1)) (i+1)):=λh=>by rw[hK,JX hkl];simp[wh,h]
   apply zH<;>intro hc<;>simp only[hc,go_sem]
   ·have hne:¬n.G[i].P[k]=⟨i,k⟩:=odF hc;refine qL (c488 hz') ?_;simp only[go_sem];apply zH<;>intro hc<;>simp only[hc,go_sem]
    ·have hp:wZ n.G n.G[i].P[k]=true:=by simpa using hc
     have hp2:=hp;simp only[wZ,bAt,Jz]at hp2;have hlt2:n.G[i].P[k].N.toNat<n.G.length:=by omega
     have hpl:jH n.G n.G[i].P[k].N=n.G[n.G[i].P[k].N.toNat].P.length:=by simp[jH,gEg hlt2]
     rw[hpl]at hp2;have hlt3:n.G[i].P[k].S.toNat<n.G[n.G[i].P[k].N.toNat].P.length:=by omega
     have hpe:Jq n.G n.G[i].P[k]=some n.G[n.G[i].P[k].N.toNat].P[n.G[i].P[k].S.toNat]:=by simp[Jq,gEg hlt2,gEg hlt3]
     rw[Va (by omega)];simp only[gMp,gEg hlt2,oMs,go_sem];rw[Va (by omega)];simp only[gMp,gEg hlt3,oMs,go_sem];apply qT<;>intro hc<;>simp only[hc,go_sem]
     ·refine qM rfl ?_;rw[stop (by simp[wg,hpe];intro _ _;simpa using hc)]
     ·simp only[wuA (n:=k)];refine qa (k+1) ⟨by omega, ?_⟩ (by omega) csA;exact go (by simp[wg,hpe,hp,hne];simpa using hc)
    ·refine qM rfl ?_;have hp:wZ n.G n.G[i].P[k]=false:=by simpa using hc
     rw[stop (by simp[wg,hp])]
   ·refine qM rfl ?_;have he:n.G[i].P[k]=⟨i,k⟩:=odT hc;rw[stop (by simp[wg,he])]
  ·obtain rfl:k=n.G[i].P.length:=by have:=odF hc;omega
   simp only[wuA (n:=i)];refine qa (i+1) ⟨by omega, ?_⟩ (by omega) csA;rw[hK];simp[wh]
 ·obtain rfl:i=n.G.length:=by have:=odF hc;omega
  refine qM rfl ?_;rw[hI];simp[JF]
theorem c598{xs:List qD}(hl:xs.length+qJ qD.sz xs<=1048576):Pure Gm 598 [.lst 1 (xs.map qD.enc) false] (.bool (z8 xs)):=by
 refine pI F598 (by simp[AV.trees,AV.tree,qY qD.isSh.tree]) rfl ?_;simp only[F598,qN,go_sem];apply qT<;>intro hc<;>simp only[hc,go_sem]
 ·refine qM rfl ?_;have:=odT hc;have h2:¬xs.length<=24:=by omega
  simp[z8,h2]
 have h0:xs.length<=24:=by have:=odF hc;omega
 refine Sem.loop (λi:Nat=>i<=xs.length/\z8 xs=(xs.drop i).all zM) (λi=>(⟨[(0,.lst 1 (xs.map qD.enc) false),(3,iI (i:Nat))],[],[]⟩:VSt)) (λi=>xs.length-i) 0 (by kernel_rfl) ⟨nZl _,by simp[z8,h0]⟩ csA ?_;rintro i ⟨hi,hI⟩;simp only[go_sem];apply qT<;>intro hc<;>simp only[hc,go_sem]
 ·have hlt:i<xs.length:=by have:=odT hc;omega
  simp only[gMp,gEg hlt,oMs,go_sem];have hs:=jB (f:=qD.sz) (gMm hlt);refine qL (c318 (by omega)) ?_;simp only[go_sem];apply qT<;>intro hc<;>simp only[hc,go_sem]
  ·refine qM rfl ?_;rw[hI,JX hlt,lAc];simp_all
  ·simp only[wuA (n:=i)];refine qa (i+1) ⟨by omega, ?_⟩ (by omega) csA;rw[hI,JX hlt,lAc];simp_all
 ·obtain rfl:i=xs.length:=by have:=odF hc;omega
  refine qM rfl ?_;rw[hI];simp
def wM(ka la kb lb:Int):Bool:=zy ka la&&zy kb lb&& !decide (ka=1)&& !decide (kb=1)
def Xq(l k m:Int):Bool:=inI l 0 8&&zy k m&&(decide (k=6) || decide (k=12) || jV k&&decide (l<m))
def Wk(k:Int):Bool:=decide (k=3) || decide (k=7) || decide (k=8) || decide (k=10) || decide (k=11)
def zT(ka la kb lb:Int):Int:=
 if ka=5 then 4 else if ka=4 then(if kb=4/\la=lb then 2 else if Xq la kb lb then 3 else 0)
 else if ka=2 then(if kb=3/\la=lb then 1 else 0)
 else if ka=6 then(if kb=7\/kb=8 then 5 else if kb=11 then 6 else 0)
 else if ka=9 then(if kb=10 then 6 else 0)
 else if ka=12 then(if Wk kb then 7 else 0)else 0
def zx(ka la kb lb:Int):Int:=if wM ka la kb lb then(if zT ka la kb lb≠0 then 1 else if zT kb lb ka la≠0 then 2 else 0)else 0
def jO(ka la kb lb:Int):Int:=if wM ka la kb lb then(if zT ka la kb lb≠0 then zT ka la kb lb else if zT kb lb ka la≠0 then zT kb lb ka la else 8)else 0
def zd(x y:qB):Int:=
 if x.K=9/\y.K=10/\(y.D.length:Int)<=x.V then 8 else if x.K=10/\y.K=9/\(x.D.length:Int)<=y.V then 8
 else jO x.K x.L y.K y.L
theorem qEX{ka la kb lb:Int}:Pure Gm 1395 [iI ka,iI la,iI kb,iI lb] (.bool (wM ka la kb lb)):=by
 refine pJ K8 ?_;simp only[K8,qN,go_sem]
 repeat' (first | (refine qX rfl ?_;simp only[go_sem]) | (first | (apply zH<;>intro hc<;>simp only[hc,go_sem]) | (apply qT<;>intro hc<;>simp only[hc,go_sem])) | (refine qL (qAL) ?_;simp only[go_sem]) | refine qM rfl ?_)
 all_goals (simp_all[wM])
theorem qmS{l k m:Int}:Pure Gm 1499 [iI l,iI k,iI m] (.bool (Xq l k m)):=by
 refine pJ kS ?_;simp only[kS,qN,go_sem]
 repeat' (first | (refine qX rfl ?_;simp only[go_sem]) | (first | (apply zH<;>intro hc<;>simp only[hc,go_sem]) | (apply qT<;>intro hc<;>simp only[hc,go_sem])) | (refine qL (wU) ?_;simp only[go_sem]) | (refine qL (qAL) ?_;simp only[go_sem]) | (refine qL (qAJ) ?_;simp only[go_sem]) | refine qM rfl ?_)
 all_goals (simp_all[Xq])
theorem qmT{k:Int}:Pure Gm 1500 [iI k] (.bool (Wk k)):=by
 refine pJ kT ?_;simp only[kT,qN,go_sem]
 repeat' (first | (refine qX rfl ?_;simp only[go_sem]) | (first | (apply zH<;>intro hc<;>simp only[hc,go_sem]) | (apply qT<;>intro hc<;>simp only[hc,go_sem])) | refine qM rfl ?_)
 all_goals (simp_all[Wk])
theorem qEY{ka la kb lb:Int}:Pure Gm 1396 [iI ka,iI la,iI kb,iI lb] (iI (zT ka la kb lb)):=by
 refine pJ K9 ?_;simp only[K9,qN,go_sem]
 repeat' (first | (refine qX rfl ?_;simp only[go_sem]) | (first | (apply zH<;>intro hc<;>simp only[hc,go_sem]) | (apply qT<;>intro hc<;>simp only[hc,go_sem])) | (refine qL (qmS) ?_;simp only[go_sem]) | (refine qL (qmT) ?_;simp only[go_sem]) | refine qM rfl ?_)
 all_goals (simp_all[zT])
theorem qlO{ka la kb lb:Int}:Pure Gm 1110 [iI ka,iI la,iI kb,iI lb] (iI (zx ka la kb lb)):=by
 refine pJ U9 ?_;simp only[U9,qN,go_sem]
 repeat' (first | (refine qX rfl ?_;simp only[go_sem]) | (first | (apply zH<;>intro hc<;>simp only[hc,go_sem]) | (apply qT<;>intro hc<;>simp only[hc,go_sem])) | (refine qL (qEX) ?_;simp only[go_sem]) | (refine qL (qEY) ?_;simp only[go_sem]) | refine qM rfl ?_)
 all_goals (simp_all[zx])
theorem qlP{ka la kb lb:Int}:Pure Gm 1111 [iI ka,iI la,iI kb,iI lb] (iI (jO ka la kb lb)):=by
 refine pJ KA ?_;simp only[KA,qN,go_sem]
 repeat' (first | (refine qX rfl ?_;simp only[go_sem]) | (first | (apply zH<;>intro hc<;>simp only[hc,go_sem]) | (apply qT<;>intro hc<;>simp only[hc,go_sem])) | (refine qL (qEX) ?_;simp only[go_sem]) | (refine qL (qEY) ?_;simp only[go_sem]) | refine qM rfl ?_)
 all_goals (simp_all[jO])
theorem c744{x y:qB}:Pure Gm 744 [.ept x.enc 0,.ept y.enc 0] (iI (zd x y)):=by
 refine pJ F744 ?_;simp only[F744,qN,go_sem]
 repeat' (first | (refine qX rfl ?_;simp only[go_sem]) | (first | (apply zH<;>intro hc<;>simp only[hc,go_sem]) | (apply qT<;>intro hc<;>simp only[hc,go_sem])) | (refine qL (qlP) ?_;simp only[go_sem]) | refine qM rfl ?_)
 all_goals (simp_all[zd]<;>(intro h;omega))
def fil(e:Env)(w:Nat)(el:List AV)(i:Nat)(v:Option AV)(r:List (Nat×Ao)):Option (List AV):=match v with
 | some v=>if v.cells.length=w/\i<el.length then jF e w (el.set i v) r else none
 | none=>none
section
variable {e:Env} {w i:Nat} {el:List AV} {v:AV} {x:Ao} {r:List (Nat×Ao)}
@[go_sem] theorem qvA:jF e w el []=some el:=nr (by unfold jF;rfl)
@[go_sem] theorem qu9:jF e w el ((i,x)::r)=fil e w el i (ev e x) r:=nr (by unfold jF;rfl)
@[go_sem] theorem qvB{el0:AV}(h:v.cells.length=w):fil e w [el0] 0 (some v) r=jF e w [v] r:=by
 show (if v.cells.length=w/\0<1 then _ else _)=_;rw[iP ⟨h,by omega⟩];rfl
@[go_sem] theorem rep0{v:AV}:List.replicate 0 v=[]:=nr rfl
@[go_sem] theorem rep1{v:AV}:List.replicate 1 v=[v]:=nr rfl
end
structure qF where
 A:Int
 B:Int
deriving DecidableEq
def qF.enc(x:qF):AV:=.agg [iI x.A,iI x.B]
theorem qF.isSh:Sh qF.enc 2 (some 2):=⟨λx=>by simp[qF.enc,AV.tree,AV.trees],λ_=>rfl,λ_=>rfl,by decide,λx=>by simp[qF.enc]⟩
section
variable {x:qF}
@[go_sem] theorem qF.tr:x.enc.tree=true:=qF.isSh.tree x
@[go_sem] theorem qF.ln:x.enc.cells.length=2:=nr rfl
@[go_sem] theorem qF.all:x.enc.part 0 (some 2)=some x.enc:=nr rfl
@[go_sem] theorem qF.cs:x.enc.cells=[iI x.A,iI x.B]:=nr rfl
@[go_sem] theorem qF.p0:x.enc.part 0 none=some (iI x.A):=nr rfl
@[go_sem] theorem qF.p1:x.enc.part 1 none=some (iI x.B):=nr rfl
@[go_sem] theorem qF.eqf{y:qF}:jh false [1,1] (some x.enc) (some y.enc)=some (.bool (decide (x=y))):=by
 obtain⟨a0,a1⟩:=x;obtain⟨b0,b1⟩:=y;simp only[jh,qF.enc,lMc,List.map_nil,dig,and_self,if_true,wi,Jt,qF.mk.injEq]
 repeat' (split<;>simp_all)
end
def jW(x y:qB):Bool:=decide (zx x.K x.L y.K y.L=2)
def Ji(xs:List qB)(k:Nat):List qF:=match xs[k]? with
 | some x=>if x.K=0 then []else match x.P[0]? with
  | some p=>if p.S=0/\(k:Int)<p.N then [⟨k,p.N⟩]else []
  | none=>[]
 | none=>[]
def zI(xs:List qB):Nat->List qF
 | 0=>[]
 | i+1=>zI xs i++Ji xs (i+1)
theorem qrM(xs:List qB)(k:Nat):(Ji xs k).length<=1:=by
 unfold Ji;repeat' (split<;>try simp)
theorem W5(xs:List qB):∀i,(zI xs i).length<=i
 | 0=>nLr _
 | i+1=>by have:=W5 xs i;have:=qrM xs (i+1);simp[zI];omega
theorem c742{n:qD}(hz:n.sz<=1048576)(hp:∀x∈n.G,x.K≠0->0<x.P.length):Pure Gm 742 [.ept n.enc 0] (.lst 2 ((zI n.G (n.G.length-1)).map qF.enc) false):=by
 refine pI F742 (by simp[AV.trees,AV.tree,go_sem]) (by simp[AV.tree,qY qF.isSh.tree]) ?_;simp only[F742,qN,go_sem];unfold qD.sz at hz;refine Sem.loop (λi:Nat=>i<=n.G.length-1) (λi=>(⟨[(0,.ept n.enc 0),(4,iI ((i+1:Nat):Int)),(3,.slice 2 0 0 (zI n.G i).length false)],[],[.row 2 ((zI n.G i).map qF.enc) true]⟩:VSt)) (λi=>n.G.length-1-i) 0 (by kernel_rfl) (nZl _) (Can.renum [none] rfl ⟨.ph,trivial⟩ ⟨⟨_,rfl,.tree (by simp only[AV.tree,qD.tr])⟩,⟨_,rfl,.tree rfl⟩,⟨_,rfl,.ph2 rfl⟩,trivial⟩ trivial) ?_;rintro i hi;simp only[go_sem];apply qT<;>intro hc<;>simp only[hc,go_sem]
 ·have hlt:i+1<n.G.length:=by have:=odT hc;omega
  simp only[gMp,gEg hlt,oMs,go_sem];have hx:=hp _ (gMm hlt);apply qT<;>intro hc<;>simp only[hc,go_sem]
  ·have e:zI n.G (i+1)=zI n.G i:=by simp_all[zI,Ji]
   simp only[wuA (n:=i+1)];refine qa (i+1) (by omega) (by omega) ?_;rw[e];exact csA
  ·have hp0:=hx (by simpa using hc);simp only[gMp,gEg hlt,oMs,go_sem];simp only[gEg hp0,oMs,go_sem];refine lsA ?_;simp only[go_sem];have same (hn:¬(n.G[i+1].P[0].S=0/\((i+1:Nat):Int)<n.G[i+1].P[0].N)):zI n.G (i+1)=zI n.G i:=by
    have hk:¬n.G[i+1].K=0:=by simpa using hc
    simp only[zI,Ji,gEg hlt,gEg hp0,iN hk,iN hn,lAn]
   first | (apply zH<;>intro hc<;>simp only[hc,go_sem]) | (apply qT<;>intro hc<;>simp only[hc,go_sem])
   ·first | (apply zH<;>intro hc<;>simp only[hc,go_sem]) | (apply qT<;>intro hc<;>simp only[hc,go_sem])
    ·refine Zj (el:=(zI n.G i).map qF.enc) rfl rfl (by simp) (by have:=W5 n.G i;omega) ?_;simp only[go_sem];simp only[wuA (n:=i+1)];have e:zI n.G (i+1)=zI n.G i++[⟨((i+1:Nat):Int),n.G[i+1].P[0].N⟩]:=by
      have hk:¬n.G[i+1].K=0:=by simp_all
      have hn:n.G[i+1].P[0].S=0/\((i+1:Nat):Int)<n.G[i+1].P[0].N:=⟨by simp_all,by simp_all⟩;simp only[zI,Ji,gEg hlt,gEg hp0,iN hk,iP hn]
     refine qa (i+1) (by omega) (by omega) ?_;simp only[e,lAp,lCo,lNi,nZa];refine Can.renum [some 2] rfl ⟨.row rfl ?_,trivial⟩ ⟨⟨_,rfl,.tree (by simp only[AV.tree,qD.tr])⟩,⟨_,rfl,.tree rfl⟩,⟨_,rfl,.slice rfl⟩,trivial⟩ trivial;rw[lMa];have t:=qY qF.isSh.tree (zI n.G i++[⟨((i+1:Nat):Int),n.G[i+1].P[0].N⟩]);rw[lMa]at t;exact VR2s.trees t
    ·simp only[wuA (n:=i+1)];refine qa (i+1) (by omega) (by omega) ?_;rw[same (by simp_all)];exact csA
   ·simp only[wuA (n:=i+1)];refine qa (i+1) (by omega) (by omega) ?_;rw[same (by simp_all)];exact csA
 ·obtain rfl:i=n.G.length-1:=by have:=odF hc;omega
  refine QD (Cv.row rfl (by simp) (qY qF.isSh.tree _) (by omega))
theorem Um{xs:List qB}{i:Nat}:∀{qs:List qI}{j:Nat},wh xs i qs j=true->∀(m:Nat)(hm:m<qs.length),wg xs ⟨i,(j+m:Nat)⟩ qs[m]=true
 |[],_,_,m,hm=>by simp at hm
 | q::qs,j,h,m,hm=>by
  simp only[wh,bAt]at h;cases m with
  | zero=>exact h.1
  | succ m=>
   have:=Um h.2 m (by simpa using hm);rw[show j+(m+1)=j+1+m by omega];simpa using this
theorem Vy{xs:List qB}:∀{l:List qB}{i:Nat},JF xs l i=true->∀(k:Nat)(hk:k<l.length),wh xs (i+k) l[k].P 0=true
 |[],_,_,k,hk=>by simp at hk
 | x::l,i,h,k,hk=>by
  simp only[JF,bAt]at h;cases k with
  | zero=>exact h.1
  | succ k=>
   have:=Vy h.2 k (by simpa using hk);rw[show i+(k+1)=i+1+k by omega];simpa using this
theorem QA:∀{l:List qB}{i:Nat},jd l i=true->∀x∈l,qk x=true
 |[],_,_,x,hx=>by cases hx
 | y::l,i,h,x,hx=>by
  simp only[jd,bAt]at h;rcases mCo.1 hx with rfl | hx
  ·exact h.1.1
  ·exact QA h.2 x hx
theorem qqU{n:qD}(h:zM n=true):∀x∈n.G,0<x.P.length:=by
 simp only[zM,wQ,bAt]at h;intro x hx;have:=QA h.1.2 x hx;simp only[qk,bAt,dTe]at this;omega
theorem qrN{n:qD}(h:zM n=true){k:Nat}{p:qF}(hp:p∈Ji n.G k):∃a b:Nat,p=⟨a,b⟩/\a<n.G.length/\b<n.G.length:=by
 simp only[zM,bAt]at h;unfold Ji at hp;split at hp
 next x hx=>
  obtain⟨hk,rfl⟩:=gSi.1 hx;split at hp
  ·cases hp
  split at hp
  next q hq=>
   obtain⟨hm,rfl⟩:=gSi.1 hq;split at hp
   next hc=>
    have:=Um (Vy h.2 k hk) 0 hm;simp only[wg,wZ,bAt]at this;have e:=Jz.1 this.1.2.1;simp only[lMg]at hp;subst hp;refine⟨k,n.G[k].P[0].N.toNat, ?_,hk,by omega⟩;rw[Int.toNat_of_nonneg (by omega)]
   ·cases hp
  ·cases hp
 ·cases hp
theorem qIV{n:qD}(h:zM n=true):∀{i:Nat}{p:qF},p∈zI n.G i->∃a b:Nat,p=⟨a,b⟩/\a<n.G.length/\b<n.G.length
 | 0,p,hp=>by cases hp
 | i+1,p,hp=>by
  simp only[zI,jA]at hp;rcases hp with hp | hp
  ·exact qIV h hp
  ·exact qrN h hp
def Vx(n:qD):List qF:=zI n.G (n.G.length-1)
structure qE where
 T:Int
 I:Int
deriving DecidableEq
def qE.enc(x:qE):AV:=.agg [iI x.T,iI x.I]
theorem qE.isSh:Sh qE.enc 2 (some 2):=⟨λx=>by simp[qE.enc,AV.tree,AV.trees],λ_=>rfl,λ_=>rfl,by decide,λx=>by simp[qE.enc]⟩
section
variable {x:qE}
@[go_sem] theorem qE.tr:x.enc.tree=true:=qE.isSh.tree x
@[go_sem] theorem qE.ln:x.enc.cells.length=2:=nr rfl
@[go_sem] theorem qE.all:x.enc.part 0 (some 2)=some x.enc:=nr rfl
@[go_sem] theorem qE.cs:x.enc.cells=[iI x.T,iI x.I]:=nr rfl
@[go_sem] theorem qE.p0:x.enc.part 0 none=some (iI x.T):=nr rfl
@[go_sem] theorem qE.p1:x.enc.part 1 none=some (iI x.I):=nr rfl
@[go_sem] theorem qE.eqf{y:qE}:jh false [1,1] (some x.enc) (some y.enc)=some (.bool (decide (x=y))):=by
 obtain⟨a0,a1⟩:=x;obtain⟨b0,b1⟩:=y;simp only[jh,qE.enc,lMc,List.map_nil,dig,and_self,if_true,wi,Jt,qE.mk.injEq]
 repeat' (split<;>simp_all)
@[go_sem] theorem qE.eqt{y:qE}:jh true [1,1] (some x.enc) (some y.enc)=some (.bool (!decide (x=y))):=by
 have h:=qE.eqf (x:=x) (y:=y);unfold jh at h|-;split<;>simp_all
end
structure qC where
 K:Int
 L:Int
 V:Int
 D:List Int
 W:List qE
def qC.enc(x:qC):AV:=.agg [iI x.K,iI x.L,iI x.V,lQ x.D,.lst 2 (x.W.map qE.enc) false]
theorem qC.isSh:Sh qC.enc 5 (some 5):=⟨λx=>by simp[qC.enc,AV.tree,AV.trees,qY qE.isSh.tree,qY shI.tree],λ_=>rfl,λ_=>rfl,by decide,λx=>by simp[qC.enc]⟩
section
variable {x:qC}
@[go_sem] theorem qC.tr:x.enc.tree=true:=qC.isSh.tree x
@[go_sem] theorem qC.ln:x.enc.cells.length=5:=nr rfl
@[go_sem] theorem qC.all:x.enc.part 0 (some 5)=some x.enc:=nr rfl
@[go_sem] theorem qC.cs:x.enc.cells=[iI x.K,iI x.L,iI x.V,lQ x.D,.lst 2 (x.W.map qE.enc) false]:=nr rfl
@[go_sem] theorem qC.p0:x.enc.part 0 none=some (iI x.K):=nr rfl
@[go_sem] theorem qC.p1:x.enc.part 1 none=some (iI x.L):=nr rfl
@[go_sem] theorem qC.p2:x.enc.part 2 none=some (iI x.V):=nr rfl
@[go_sem] theorem qC.p3:x.enc.part 3 none=some (lQ x.D):=nr rfl
@[go_sem] theorem qC.p4:x.enc.part 4 none=some (.lst 2 (x.W.map qE.enc) false):=nr rfl
end
def qC.sz(x:qC):Nat:=x.D.length+x.W.length
def qC.bd(x:qC):Prop:=x.D.length<=140737488355328/\x.W.length<=140737488355328
structure qH where
 C:List qC
 F:Int
 O:qE
 R:List qF
def qH.enc(x:qH):AV:=.agg [.lst 5 (x.C.map qC.enc) false,iI x.F,iI x.O.T,iI x.O.I,.lst 2 (x.R.map qF.enc) false]
theorem qH.isSh:Sh qH.enc 5 (some 5):=⟨λx=>by simp[qH.enc,AV.tree,AV.trees,qY qC.isSh.tree,qY qF.isSh.tree],λ_=>rfl,λ_=>rfl,by decide,λx=>by simp[qH.enc]⟩
section
variable {x:qH}
@[go_sem] theorem qH.tr:x.enc.tree=true:=qH.isSh.tree x
@[go_sem] theorem qH.ln:x.enc.cells.length=5:=nr rfl
@[go_sem] theorem qH.all:x.enc.part 0 (some 5)=some x.enc:=nr rfl
@[go_sem] theorem qH.cs:x.enc.cells=[.lst 5 (x.C.map qC.enc) false,iI x.F,iI x.O.T,iI x.O.I,.lst 2 (x.R.map qF.enc) false]:=nr rfl
@[go_sem] theorem qH.p0:x.enc.part 0 none=some (.lst 5 (x.C.map qC.enc) false):=nr rfl
@[go_sem] theorem qH.p1:x.enc.part 1 none=some (iI x.F):=nr rfl
@[go_sem] theorem qH.p2:x.enc.part 2 none=some (iI x.O.T):=nr rfl
@[go_sem] theorem qH.p3:x.enc.part 3 none=some (iI x.O.I):=nr rfl
@[go_sem] theorem qH.p4:x.enc.part 4 none=some (.lst 2 (x.R.map qF.enc) false):=nr rfl
@[go_sem] theorem qH.q2_2:x.enc.part 2 (some 2)=some (qE.enc x.O):=nr rfl
end
def qH.sz(x:qH):Nat:=(x.C.length+qJ qC.sz x.C)+x.R.length
def qH.bd(x:qH):Prop:=x.C.length<=140737488355328/\(∀y∈x.C,qC.bd y)/\x.R.length<=140737488355328
structure qp where
 A:qE
 B:qE
deriving DecidableEq
def qp.enc(x:qp):AV:=.agg [iI x.A.T,iI x.A.I,iI x.B.T,iI x.B.I]
theorem qp.isSh:Sh qp.enc 4 (some 4):=⟨λx=>by simp[qp.enc,AV.tree,AV.trees],λ_=>rfl,λ_=>rfl,by decide,λx=>by simp[qp.enc]⟩
section
variable {x:qp}
@[go_sem] theorem qp.tr:x.enc.tree=true:=qp.isSh.tree x
@[go_sem] theorem qp.ln:x.enc.cells.length=4:=nr rfl
@[go_sem] theorem qp.all:x.enc.part 0 (some 4)=some x.enc:=nr rfl
@[go_sem] theorem qp.cs:x.enc.cells=[iI x.A.T,iI x.A.I,iI x.B.T,iI x.B.I]:=nr rfl
@[go_sem] theorem qp.p0:x.enc.part 0 none=some (iI x.A.T):=nr rfl
@[go_sem] theorem qp.p1:x.enc.part 1 none=some (iI x.A.I):=nr rfl
@[go_sem] theorem qp.p2:x.enc.part 2 none=some (iI x.B.T):=nr rfl
@[go_sem] theorem qp.p3:x.enc.part 3 none=some (iI x.B.I):=nr rfl
@[go_sem] theorem qp.q0_2:x.enc.part 0 (some 2)=some (qE.enc x.A):=nr rfl
@[go_sem] theorem qp.q2_2:x.enc.part 2 (some 2)=some (qE.enc x.B):=nr rfl
@[go_sem] theorem qp.eqf{y:qp}:jh false [1,1,1,1] (some x.enc) (some y.enc)=some (.bool (decide (x=y))):=by
 obtain⟨⟨a0,a1⟩,⟨a2,a3⟩⟩:=x;obtain⟨⟨b0,b1⟩,⟨b2,b3⟩⟩:=y;simp only[jh,qp.enc,lMc,List.map_nil,dig,and_self,if_true,wi,Jt,qp.mk.injEq,qE.mk.injEq]
 repeat' (split<;>simp_all)
@[go_sem] theorem qp.eqt{y:qp}:jh true [1,1,1,1] (some x.enc) (some y.enc)=some (.bool (!decide (x=y))):=by
 have h:=qp.eqf (x:=x) (y:=y);unfold jh at h|-;split<;>simp_all
end
structure jM where
 Phase:Int
 Victim:Int
 R:List qF
 Links:List qp
 U:List Int
def jM.enc(x:jM):AV:=.agg [iI x.Phase,iI x.Victim,.lst 2 (x.R.map qF.enc) false,.lst 4 (x.Links.map qp.enc) false,lQ x.U]
theorem jM.isSh:Sh jM.enc 5 (some 5):=⟨λx=>by simp[jM.enc,AV.tree,AV.trees,qY qp.isSh.tree,qY qF.isSh.tree,qY shI.tree],λ_=>rfl,λ_=>rfl,by decide,λx=>by simp[jM.enc]⟩
section
variable {x:jM}
@[go_sem] theorem jM.tr:x.enc.tree=true:=jM.isSh.tree x
@[go_sem] theorem jM.ln:x.enc.cells.length=5:=nr rfl
@[go_sem] theorem jM.all:x.enc.part 0 (some 5)=some x.enc:=nr rfl
@[go_sem] theorem jM.cs:x.enc.cells=[iI x.Phase,iI x.Victim,.lst 2 (x.R.map qF.enc) false,.lst 4 (x.Links.map qp.enc) false,lQ x.U]:=nr rfl
@[go_sem] theorem jM.p0:x.enc.part 0 none=some (iI x.Phase):=nr rfl
@[go_sem] theorem jM.p1:x.enc.part 1 none=some (iI x.Victim):=nr rfl
@[go_sem] theorem jM.p2:x.enc.part 2 none=some (.lst 2 (x.R.map qF.enc) false):=nr rfl
@[go_sem] theorem jM.p3:x.enc.part 3 none=some (.lst 4 (x.Links.map qp.enc) false):=nr rfl
@[go_sem] theorem jM.p4:x.enc.part 4 none=some (lQ x.U):=nr rfl
end
def jM.sz(x:jM):Nat:=x.R.length+x.Links.length+x.U.length
def jM.bd(x:jM):Prop:=x.R.length<=140737488355328/\x.Links.length<=140737488355328/\x.U.length<=140737488355328
structure jl where
 Memory:qH
 Workers:List jM
 Active:Int
def jl.enc(x:jl):AV:=.agg [.lst 5 (x.Memory.C.map qC.enc) false,iI x.Memory.F,iI x.Memory.O.T,iI x.Memory.O.I,.lst 2 (x.Memory.R.map qF.enc) false,.lst 5 (x.Workers.map jM.enc) false,iI x.Active]
theorem jl.isSh:Sh jl.enc 7 (some 7):=⟨λx=>by simp[jl.enc,AV.tree,AV.trees,qY qC.isSh.tree,qY qF.isSh.tree,qY jM.isSh.tree],λ_=>rfl,λ_=>rfl,by decide,λx=>by simp[jl.enc]⟩
section
variable {x:jl}
@[go_sem] theorem jl.tr:x.enc.tree=true:=jl.isSh.tree x
@[go_sem] theorem jl.ln:x.enc.cells.length=7:=nr rfl
@[go_sem] theorem jl.all:x.enc.part 0 (some 7)=some x.enc:=nr rfl
@[go_sem] theorem jl.cs:x.enc.cells=[.lst 5 (x.Memory.C.map qC.enc) false,iI x.Memory.F,iI x.Memory.O.T,iI x.Memory.O.I,.lst 2 (x.Memory.R.map qF.enc) false,.lst 5 (x.Workers.map jM.enc) false,iI x.Active]:=nr rfl
@[go_sem] theorem jl.p0:x.enc.part 0 none=some (.lst 5 (x.Memory.C.map qC.enc) false):=nr rfl
@[go_sem] theorem jl.p1:x.enc.part 1 none=some (iI x.Memory.F):=nr rfl
@[go_sem] theorem jl.p2:x.enc.part 2 none=some (iI x.Memory.O.T):=nr rfl
@[go_sem] theorem jl.p3:x.enc.part 3 none=some (iI x.Memory.O.I):=nr rfl
@[go_sem] theorem jl.p4:x.enc.part 4 none=some (.lst 2 (x.Memory.R.map qF.enc) false):=nr rfl
@[go_sem] theorem jl.q2_2:x.enc.part 2 (some 2)=some (qE.enc x.Memory.O):=nr rfl
end
def jl.sz(x:jl):Nat:=qH.sz x.Memory+(x.Workers.length+qJ jM.sz x.Workers)
def jl.bd(x:jl):Prop:=qH.bd x.Memory/\x.Workers.length<=140737488355328/\(∀y∈x.Workers,jM.bd y)
def qz(k:Int):Bool:=decide (2<=k)&&decide (k<=12)
def qb(c:qC):qB:=⟨c.K,c.L,c.V,c.D,List.replicate (c.W.length+1) ⟨0,0⟩⟩
def zu(c:qC):Prop:=(qz c.K=true/\qk (qb c)=true)\/(c.K=13/\c.L=0/\c.V=0/\c.D=[]/\c.W.length<=1)\/(c.K=0/\c.L=0/\c.D=[]/\c.W=[])
def zt(v:Int):qC:=⟨0,0,v,[],[]⟩
def qg(ws:List qE):qC:=⟨13,0,0,[],ws⟩
def aW(k:Nat):qE:=⟨1,(k:Int)⟩
def vW(k:Nat):qE:=⟨2,(k:Int)⟩
def wOk(C:List qC)(w:qE):Prop:=∃(k:Nat)(c:qC),w.I=k/\C[k]?=some c/\((w.T=1/\qz c.K=true)\/(w.T=2/\c.K=13))
def cw(k:Nat)(ws:List qE):Nat:=ws.countP λw=>decide (w.I=(k:Int))
def cr(k:Nat)(rx:List qF):Nat:=rx.countP (λp=>decide (p.A=(k:Int)))+rx.countP (λp=>decide (p.B=(k:Int)))
def wS(O:Nat->Bool)(k:Nat):Nat->List qC->Nat
 | _,[]=>0
 | i,c::r=>(if O i then 0 else cw k c.W)+wS O k (i+1) r
def zV(c:qC):Nat:=if c.K=0 then 0 else if c.K=13/\c.W=[]then 2 else 1
def chn(C:List qC):Int->List Nat->Prop
 | fr,[]=>fr= -1
 | fr,k::L=>fr=k/\∃c,C[k]?=some c/\c.K=0/\chn C c.V L
structure FrC(C:List qC)(fr:Int)(L:List Nat):Prop where
 nd:L.Nodup
 ch:chn C fr L
 all:∀(k:Nat)(c:qC),C[k]?=some c->c.K=0->k∈L
structure MI(C:List qC)(fr:Int)(root:qE)(rx:List qF)(P:List qE)(O:Nat->Bool):Prop where
 form:∀(k:Nat)(c:qC),C[k]?=some c->O k=false->zu c
 opn:∀(k:Nat)(c:qC),C[k]?=some c->O k=true->qz c.K=true
 wrd:∀(k:Nat)(c:qC),C[k]?=some c->O k=false->∀w∈c.W,wOk C w
 rt:wOk C root
 pw:∀w∈P,wOk C w
 pr:∀p∈rx,p.A<p.B/\wOk C ⟨1,p.A⟩/\wOk C ⟨1,p.B⟩
 occ:∀(k:Nat)(c:qC),C[k]?=some c->cw k (root::P)+wS O k 0 C+cr k rx=zV c
 fre:∃L,FrC C fr L
section
variable {C:List qC} {fr:Int} {root w:qE} {rx:List qF} {P Q:List qE} {O:Nat->Bool} {k j:Nat} {c c':qC}
theorem Zm{a b:List qE}:cw k (a++b)=cw k a+cw k b:=List.countP_append ..
theorem zR{a:qE}{b:List qE}:cw k (a::b)=(if a.I=(k:Int)then 1 else 0)+cw k b:=by
 unfold cw;rw[List.countP_cons];simp[Nat.add_comm]
theorem Zo:cw k []=0:=rfl
theorem qA3{ws:List qE}(h:w∈ws)(e:w.I=(k:Int)):0<cw k ws:=List.countP_pos_iff.2 ⟨w,h,by simpa using e⟩
theorem qK6(i:Nat):∀{C:List qC}{j:Nat}(h:j<C.length),wS O k i (C.set j c')+(if O (i+j)then 0 else cw k C[j].W)=wS O k i C+(if O (i+j)then 0 else cw k c'.W)
 |[],j,h=>by simp at h
 | c::r,0,h=>by simp only[lSz,wS,List.getElem_cons_zero,nAz];omega
 | c::r,j+1,h=>by
  have:=qK6 (i+1) (C:=r) (j:=j) (by simpa using h);simp only[List.set_cons_succ,wS,List.getElem_cons_succ];rw[show i+1+j=i+(j+1) by omega]at this;omega
theorem Yi(h:C[j]?=some c):wS O k 0 (C.set j c')+(if O j then 0 else cw k c.W)=wS O k 0 C+(if O j then 0 else cw k c'.W):=by
 obtain⟨hl,e⟩:=gSi.1 h;have:=qK6 (O:=O) (k:=k) (c':=c') 0 hl;rw[nZa,e]at this;exact this
theorem wS_O{O':Nat->Bool}(i:Nat):∀{C:List qC}{j:Nat}(h:j<C.length),O (i+j)=false->O' (i+j)=true->(∀x,x≠i+j->O' x=O x)->wS O' k i C+cw k C[j].W=wS O k i C
 |[],j,h,_,_,_=>by simp at h
 | c::r,0,h,h1,h2,h3=>by
  have hr:∀(r:List qC)(m:Nat),i<m->wS O' k m r=wS O k m r:=by
   intro r
   induction r with
   | nil=>intro m _;rfl
   | cons a r ih=>intro m hm;rw[wS,wS,h3 m (by omega),ih (m+1) (by omega)]
  rw[nAz]at h1 h2;simp only[wS,List.getElem_cons_zero,h1,h2,if_true,bFt,if_false];rw[hr r (i+1) (by omega)];omega
 | c::r,j+1,h,h1,h2,h3=>by
  have:=wS_O (i+1) (C:=r) (j:=j) (by simpa using h) (by rw[show i+1+j=i+(j+1) by omega];exact h1) (by rw[show i+1+j=i+(j+1) by omega];exact h2) (λx hx=>h3 x (by omega));simp only[wS,List.getElem_cons_succ];rw[h3 i (by omega)];omega
theorem qK5(i:Nat):∀{C:List qC}{j:Nat}{c:qC},C[j]?=some c->O (i+j)=false->w∈c.W->w.I=(k:Int)->0<wS O k i C
 |[],j,c,h,_,_,_=>by simp at h
 | a::r,0,c,h,h1,h2,h3=>by
  simp only[List.getElem?_cons_zero,oSi]at h;subst h;rw[nAz]at h1;have:=qA3 h2 h3;simp only[wS,h1,bFt,if_false];omega
 | a::r,j+1,c,h,h1,h2,h3=>by
  have:=qK5 (i+1) (C:=r) (j:=j) (c:=c) (by simpa using h) (by rw[show i+1+j=i+(j+1) by omega];exact h1) h2 h3;simp only[wS];omega
theorem ze(h:k≠j):(C.set j c')[k]?=C[k]?:=gSn (Ne.symm h)
theorem jZ(h:C[j]?=some c):(C.set j c')[j]?=some c':=gSs (gSi.1 h).1
theorem zP(h:C[j]?=some c):j<C.length:=(gSi.1 h).1
theorem wOk.set(h:wOk C w)(hj:w.I≠(j:Int)):wOk (C.set j c') w:=by
 obtain⟨k,c,h1,h2,h3⟩:=h;exact⟨k,c,h1,by rw[ze (by rintro rfl;exact hj h1)];exact h2,h3⟩
theorem wOk.kind(h:wOk C w)(hc:C[j]?=some c)(hk:c'.K=c.K):wOk (C.set j c') w:=by
 obtain⟨k,d,h1,h2,h3⟩:=h;by_cases e:k=j
 ·subst e;rw[hc]at h2;cases h2;exact⟨k,c',h1,jZ hc,by rw[hk];exact h3⟩
 ·exact⟨k,d,h1,by rw[ze e];exact h2,h3⟩
theorem MI.tot(m:MI C fr root rx P O)(h:C[k]?=some c):cw k (root::P)+wS O k 0 C+cr k rx=zV c:=m.occ k c h
structure WQ(C:List qC)(root:qE)(rx:List qF)(P:List qE)(O:Nat->Bool)(k:Nat):Prop where
 rt:root.I≠(k:Int)
 pw:∀w∈P,w.I≠(k:Int)
 wd:∀(i:Nat)(c:qC),C[i]?=some c->O i=false->∀w∈c.W,w.I≠(k:Int)
 pr:∀p∈rx,p.A≠(k:Int)/\p.B≠(k:Int)
theorem WQ.of(h:cw k (root::P)+wS O k 0 C+cr k rx=0):WQ C root rx P O k:=by
 have h1:cw k (root::P)=0:=by omega
 have h2:wS O k 0 C=0:=by omega
 have h3:cr k rx=0:=by omega
 refine⟨λe=>?_,λw hw e=>?_,λi c hc ho w hw e=>?_,λp hp=>⟨λe=>?_,λe=>?_⟩⟩
 ·have:=qA3 (ws:=root::P) (.head _) e;omega
 ·have:=qA3 (ws:=root::P) (.tail _ hw) e;omega
 ·have:=qK5 (O:=O) (k:=k) 0 hc (by rw[nZa];exact ho) hw e;omega
 ·have:0<rx.countP (λp=>decide (p.A=(k:Int))):=List.countP_pos_iff.2 ⟨p,hp,by simpa using e⟩;unfold cr at h3;omega
 ·have:0<rx.countP (λp=>decide (p.B=(k:Int))):=List.countP_pos_iff.2 ⟨p,hp,by simpa using e⟩;unfold cr at h3;omega
theorem Xi{L:List Nat}:∀{fr:Int}{L:List Nat},chn C fr L->j∉L->chn (C.set j c') fr L
 | fr,[],h,_=>h
 | fr,k::L,h,hn=>by
  obtain⟨h1,c,h2,h3,h4⟩:=h;have hkj:k≠j:=λe=>hn (by rw[e];exact .head _);exact⟨h1,c,by rw[ze hkj];exact h2,h3,Xi (L:=L) h4 λq=>hn (.tail _ q)⟩
theorem WW{L:List Nat}:∀{fr:Int}{L:List Nat},chn C fr L->∀k∈L,∃c,C[k]?=some c/\c.K=0
 | fr,[],h,k,hk=>by cases hk
 | fr,a::L,h,k,hk=>by
  obtain⟨h1,c,h2,h3,h4⟩:=h;rcases mCo.1 hk with rfl | hk
  ·exact⟨c,h2,h3⟩
  ·exact WW (L:=L) h4 k hk
theorem MI.rel(m:MI C fr root rx (Q++P) O)(hc:C[k]?=some c)(ho:O k=false)(hk:c.K≠0)(hq:∀w∈Q,w.I=(k:Int))(hl:Q.length=zV c):MI (C.set k (zt fr)) k root rx (c.W++P) O:=by
 have hQ:cw k Q=zV c:=by
  rw[<-hl];unfold cw;rw[List.countP_eq_length];intro w hw;simpa using hq w hw
 have ht:=m.tot hc;rw[zR,Zm,hQ]at ht;have nn:WQ C root rx P O k:=WQ.of (by rw[zR];omega);have set1:∀w,wOk C w->w.I≠(k:Int)->wOk (C.set k (zt fr)) w:=λw h q=>h.set q;obtain⟨L,f1,f2,f3⟩:=m.fre;have hkL:k∉L:=λq=>by
  obtain⟨d,d1,d2⟩:=WW (L:=L) f2 k q;rw[hc]at d1;cases d1;exact hk d2
 refine⟨?_, ?_, ?_,set1 _ m.rt nn.rt, ?_, ?_, ?_,k::L, ?_,⟨rfl,zt fr,jZ hc,rfl,Xi (L:=L) f2 hkL⟩, ?_⟩
 ·intro i d hd hoi;by_cases e:i=k
  ·subst e;rw[jZ hc]at hd;cases hd;exact .inr (.inr ⟨rfl,rfl,rfl,rfl⟩)
  ·rw[ze e]at hd;exact m.form i d hd hoi
 ·intro i d hd hoi;by_cases e:i=k
  ·subst e;rw[ho]at hoi;cases hoi
  ·rw[ze e]at hd;exact m.opn i d hd hoi
 ·intro i d hd hoi w hw;by_cases e:i=k
  ·subst e;rw[jZ hc]at hd;cases hd;cases hw
  ·rw[ze e]at hd;exact set1 _ (m.wrd i d hd hoi w hw) (nn.wd i d hd hoi w hw)
 ·intro w hw;rcases jA.1 hw with hw | hw
  ·exact set1 _ (m.wrd k c hc ho w hw) (nn.wd k c hc ho w hw)
  ·exact set1 _ (m.pw w (List.mem_append_right _ hw)) (nn.pw w hw)
 ·intro p hp;obtain⟨p1,p2,p3⟩:=m.pr p hp;exact⟨p1,set1 _ p2 (nn.pr p hp).1,set1 _ p3 (nn.pr p hp).2⟩
 ·intro i d hd;have hs:=Yi (O:=O) (k:=i) (c':=zt fr) hc;rw[ho]at hs;simp only[bFt,if_false,zt,Zo,nAz]at hs;by_cases e:i=k
  ·subst e;rw[jZ hc]at hd;cases hd;have:cw i c.W=0:=by
    unfold cw;rw[List.countP_eq_zero];intro w hw;simpa using nn.wd i c hc ho w hw
   have w0:zV (zt fr)=0:=by simp[zV,zt]
   rw[w0,zR,Zm];unfold zt;omega
  ·rw[ze e]at hd;have:=m.tot hd;have hq0:cw i Q=0:=by
    unfold cw;rw[List.countP_eq_zero];intro w hw;simp[hq w hw];omega
   rw[zR,Zm,hq0]at this;rw[zR,Zm];unfold zt;omega
 ·exact List.nodup_cons.2 ⟨hkL,f1⟩
 ·intro i d hd hdk;by_cases e:i=k
  ·rw[e];exact .head _
  ·rw[ze e]at hd;exact .tail _ (f3 i d hd hdk)
theorem MI.head(m:MI C fr root rx P O)(h:0<=fr):∃(k:Nat)(d:qC),fr=k/\C[k]?=some d/\d.K=0/\O k=false/\d.W=[]/\WQ C root rx P O k/\∃L,FrC C fr (k::L):=by
 obtain⟨L,f1,f2,f3⟩:=m.fre;cases L with
 | nil=>have:fr= -1:=f2;omega
 | cons k L=>
  have f2':=f2;obtain⟨h1,d,h2,h3,h4⟩:=f2;have ho:O k=false:=by
   cases q:O k with
   | false=>rfl
   | true=>
    have:=m.opn k d h2 q;rw[h3]at this;cases this
  have hw:d.W=[]:=by
   rcases m.form k d h2 ho with⟨q,_⟩ | ⟨q,_⟩ | ⟨_,_,_,q⟩
   ·rw[h3]at q;cases q
   ·omega
   ·exact q
  refine⟨k,d,h1,h2,h3,ho,hw,WQ.of ?_,L,f1,f2',f3⟩;rw[m.tot h2];simp[zV,h3]
theorem FrC.tl{L:List Nat}{d:qC}(f:FrC C fr (k::L))(hd:C[k]?=some d)(hn:c'.K≠0):FrC (C.set k c') d.V L:=by
 obtain⟨f1,f2,f3⟩:=f;obtain⟨h1,d',h2,h3,h4⟩:=f2;rw[hd]at h2;cases h2;rw[List.nodup_cons]at f1;refine⟨f1.2,Xi (L:=L) h4 f1.1,λi e he hk=>?_⟩;by_cases q:i=k
 ·subst q;rw[jZ hd]at he;cases he;exact absurd hk hn
 ·rw[ze q]at he;rcases mCo.1 (f3 i e he hk)with r | r
  ·exact absurd r q
  ·exact r
def opO(O:Nat->Bool)(k:Nat):Nat->Bool:=λi=>decide (i=k) || O i
def clO(O:Nat->Bool)(k:Nat):Nat->Bool:=λi=> !decide (i=k)&&O i
theorem MI.takeA{d:qC}(m:MI C fr root rx P O)(hf:fr=k)(hd:C[k]?=some d)(hc:qz c.K=true):MI (C.set k c) d.V root rx (aW k::P) (opO O k):=by
 obtain⟨k',d',e1,e2,e3,e4,e5,nn,L,fL⟩:=m.head (by omega);obtain rfl:k'=k:=by omega
 rw[hd]at e2;cases e2;have hck:c.K≠0:=by intro q;rw[q]at hc;cases hc
 have set1:∀w,wOk C w->w.I≠(k':Int)->wOk (C.set k' c) w:=λw h q=>h.set q;have o1:∀i,opO O k' i=false->i≠k'/\O i=false:=λi h=>by
  unfold opO at h;simp only[Bool.or_eq_false_iff,decide_eq_false_iff_not]at h;exact h
 refine⟨?_, ?_, ?_,set1 _ m.rt nn.rt, ?_, ?_, ?_,L,fL.tl hd hck⟩
 ·intro i e he ho;obtain⟨h1,h2⟩:=o1 i ho;rw[ze h1]at he;exact m.form i e he h2
 ·intro i e he ho;by_cases q:i=k'
  ·subst q;rw[jZ hd]at he;cases he;exact hc
  ·rw[ze q]at he;refine m.opn i e he ?_;unfold opO at ho;simpa[q]using ho
 ·intro i e he ho w hw;obtain⟨h1,h2⟩:=o1 i ho;rw[ze h1]at he;exact set1 _ (m.wrd i e he h2 w hw) (nn.wd i e he h2 w hw)
 ·intro w hw;rcases mCo.1 hw with rfl | hw
  ·exact⟨k',c,rfl,jZ hd,.inl ⟨rfl,hc⟩⟩
  ·exact set1 _ (m.pw w hw) (nn.pw w hw)
 ·intro p hp;obtain⟨p1,p2,p3⟩:=m.pr p hp;exact⟨p1,set1 _ p2 (nn.pr p hp).1,set1 _ p3 (nn.pr p hp).2⟩
 ·intro i e he;have hO:=wS_O (O:=O) (O':=opO O k') (k:=i) 0 (C:=C.set k' c) (j:=k') (by rw[lLs];exact zP hd) (by rw[nZa];exact e4) (by simp[opO]) (λx hx=>by simp[opO];intro q;omega);have hs:=Yi (O:=O) (k:=i) (c':=c) hd;rw[e4,e5]at hs;simp only[bFt,if_false,Zo,nAz]at hs;have hg:(C.set k' c)[k']'(by rw[lLs];exact zP hd)=c:=by simp
  rw[hg]at hO;by_cases q:i=k'
  ·subst q;rw[jZ hd]at he;cases he;have:=m.tot hd;have w0:zV d=0:=by simp[zV,e3]
   have w1:zV c=1:=by
    unfold zV;rw[iN hck,iN];rintro⟨q,_⟩;rw[q]at hc;cases hc
   rw[w0,zR]at this;rw[w1,zR,zR];simp only[aW,if_true];omega
  ·rw[ze q]at he;have:=m.tot he;rw[zR]at this;rw[zR,zR];have:¬(aW k').I=(i:Int):=by simp[aW];omega
   rw[iN this];omega
theorem MI.takeV{d:qC}(m:MI C fr root rx P O)(hf:fr=k)(hd:C[k]?=some d):MI (C.set k (qg [])) d.V root rx (vW k::vW k::P) O:=by
 obtain⟨k',d',e1,e2,e3,e4,e5,nn,L,fL⟩:=m.head (by omega);obtain rfl:k'=k:=by omega
 rw[hd]at e2;cases e2;have set1:∀w,wOk C w->w.I≠(k':Int)->wOk (C.set k' (qg [])) w:=λw h q=>h.set q;have vo:wOk (C.set k' (qg [])) (vW k'):=⟨k',qg [],rfl,jZ hd,.inr ⟨rfl,rfl⟩⟩;refine⟨?_, ?_, ?_,set1 _ m.rt nn.rt, ?_, ?_, ?_,L,fL.tl hd (by simp[qg])⟩
 ·intro i e he ho;by_cases q:i=k'
  ·subst q;rw[jZ hd]at he;cases he;exact .inr (.inl ⟨rfl,rfl,rfl,rfl,by simp[qg]⟩)
  ·rw[ze q]at he;exact m.form i e he ho
 ·intro i e he ho;by_cases q:i=k'
  ·subst q;rw[e4]at ho;cases ho
  ·rw[ze q]at he;exact m.opn i e he ho
 ·intro i e he ho w hw;by_cases q:i=k'
  ·subst q;rw[jZ hd]at he;cases he;cases hw
  ·rw[ze q]at he;exact set1 _ (m.wrd i e he ho w hw) (nn.wd i e he ho w hw)
 ·intro w hw;rcases mCo.1 hw with rfl | hw
  ·exact vo
  ·rcases mCo.1 hw with rfl | hw
   ·exact vo
   ·exact set1 _ (m.pw w hw) (nn.pw w hw)
 ·intro p hp;obtain⟨p1,p2,p3⟩:=m.pr p hp;exact⟨p1,set1 _ p2 (nn.pr p hp).1,set1 _ p3 (nn.pr p hp).2⟩
 ·intro i e he;have hs:=Yi (O:=O) (k:=i) (c':=qg []) hd;rw[e4,e5]at hs;simp only[bFt,if_false,Zo,nAz,qg]at hs;unfold qg at he|-;by_cases q:i=k'
  ·subst q;rw[jZ hd]at he;cases he;have:=m.tot hd;have w0:zV d=0:=by simp[zV,e3]
   rw[w0,zR]at this;rw[zR,zR,zR];simp only[vW,if_true,zV];simp;omega
  ·rw[ze q]at he;have:=m.tot he;rw[zR]at this;rw[zR,zR,zR];have:¬(vW k').I=(i:Int):=by simp[vW];omega
   rw[iN this];omega
theorem MI.close(m:MI C fr root rx (c.W++P) O)(hc:C[k]?=some c)(ho:O k=true)(hf:zu c):MI C fr root rx P (clO O k):=by
 have o1:∀i,i≠k->clO O k i=O i:=λi h=>by simp[clO,h]
 have o2:clO O k k=false:=by simp[clO]
 refine⟨?_, ?_, ?_,m.rt,λw hw=>m.pw w (List.mem_append_right _ hw),m.pr, ?_,m.fre⟩
 ·intro i e he h;by_cases q:i=k
  ·subst q;rw[hc]at he;cases he;exact hf
  ·rw[o1 i q]at h;exact m.form i e he h
 ·intro i e he h;by_cases q:i=k
  ·subst q;rw[o2]at h;cases h
  ·rw[o1 i q]at h;exact m.opn i e he h
 ·intro i e he h w hw;by_cases q:i=k
  ·subst q;rw[hc]at he;cases he;exact m.pw w (List.mem_append_left _ hw)
  ·rw[o1 i q]at h;exact m.wrd i e he h w hw
 ·intro i e he;have hO:=wS_O (O:=clO O k) (O':=O) (k:=i) 0 (C:=C) (j:=k) (zP hc) (by rw[nZa];exact o2) (by rw[nZa];exact ho) (λx hx=>(o1 x (by omega)).symm);rw[(gSi.1 hc).2]at hO;have:=m.tot he;rw[zR,Zm]at this;rw[zR];omega
theorem MI.wopen(m:MI C fr root rx P O)(hc:C[k]?=some c)(ho:O k=true)(hk:c'.K=c.K):MI (C.set k c') fr root rx P O:=by
 have hcK:c.K≠0:=by
  intro q;have:=m.opn k c hc ho;rw[q]at this;cases this
 refine⟨?_, ?_, ?_,m.rt.kind hc hk,λw hw=>(m.pw w hw).kind hc hk,λp hp=>⟨(m.pr p hp).1,(m.pr p hp).2.1.kind hc hk,(m.pr p hp).2.2.kind hc hk⟩, ?_, ?_⟩
 ·intro i e he h;by_cases q:i=k
  ·subst q;rw[ho]at h;cases h
  ·rw[ze q]at he;exact m.form i e he h
 ·intro i e he h;by_cases q:i=k
  ·subst q;rw[jZ hc]at he;cases he;rw[hk];exact m.opn i c hc ho
  ·rw[ze q]at he;exact m.opn i e he h
 ·intro i e he h w hw;by_cases q:i=k
  ·subst q;rw[ho]at h;cases h
  ·rw[ze q]at he;exact(m.wrd i e he h w hw).kind hc hk
 ·intro i e he;have hs:=Yi (O:=O) (k:=i) (c':=c') hc;rw[ho]at hs;simp only[if_true,nAz]at hs;rw[hs];by_cases q:i=k
  ·subst q;rw[jZ hc]at he;cases he;rw[m.tot hc];have hag:=m.opn i c hc ho;have:∀c:qC,qz c.K=true->zV c=1:=λc h=>by
    unfold zV;rw[iN (by intro q;rw[q]at h;cases h),iN];rintro⟨q,_⟩;rw[q]at h;cases h
   rw[this c hag,this c' (by rw[hk];exact hag)]
  ·rw[ze q]at he;exact m.tot he
 ·obtain⟨L,f1,f2,f3⟩:=m.fre;have hkL:k∉L:=λq=>by
   obtain⟨d,d1,d2⟩:=WW (L:=L) f2 k q;rw[hc]at d1;cases d1;exact hcK d2
  refine⟨L,f1,Xi (L:=L) f2 hkL,λi e he h=>?_⟩;by_cases q:i=k
  ·subst q;rw[jZ hc]at he;cases he;rw[hk]at h;exact absurd h hcK
  ·rw[ze q]at he;exact f3 i e he h
theorem MI.bind{b:qE}(m:MI C fr root rx (vW k::b::P) O)(hc:C[k]?=some (qg []))(hb:b.I≠(k:Int)):MI (C.set k (qg [b])) fr root rx P O:=by
 have ho:O k=false:=by
  cases q:O k with
  | false=>rfl
  | true=>have:=m.opn k _ hc q;simp[qg,qz]at this
 have hk:(qg [b]).K=(qg []).K:=rfl;have bo:wOk C b:=m.pw b (.tail _ (.head _));refine⟨?_, ?_, ?_,m.rt.kind hc hk,λw hw=>(m.pw w (.tail _ (.tail _ hw))).kind hc hk,λp hp=>⟨(m.pr p hp).1,(m.pr p hp).2.1.kind hc hk,(m.pr p hp).2.2.kind hc hk⟩, ?_, ?_⟩
 ·intro i e he h;by_cases q:i=k
  ·subst q;rw[jZ hc]at he;cases he;exact .inr (.inl ⟨rfl,rfl,rfl,rfl,by simp[qg]⟩)
  ·rw[ze q]at he;exact m.form i e he h
 ·intro i e he h;by_cases q:i=k
  ·subst q;rw[ho]at h;cases h
  ·rw[ze q]at he;exact m.opn i e he h
 ·intro i e he h w hw;by_cases q:i=k
  ·subst q;rw[jZ hc]at he;cases he;simp only[qg,mCo,List.not_mem_nil,or_false]at hw;subst hw;exact bo.kind hc hk
  ·rw[ze q]at he;exact(m.wrd i e he h w hw).kind hc hk
 ·intro i e he;have hs:=Yi (O:=O) (k:=i) (c':=qg [b]) hc;rw[ho]at hs;simp only[bFt,if_false,qg,Zo,nAz,zR]at hs;unfold qg at he|-;by_cases q:i=k
  ·subst q;rw[jZ hc]at he;cases he;have:=m.tot hc;simp only[zV,qg]at this;rw[zR,zR,zR]at this;simp only[vW,if_true,iN hb]at this;rw[iN hb]at hs;simp only[zV];rw[zR];simp at this|-;omega
  ·rw[ze q]at he;have:=m.tot he;rw[zR,zR,zR]at this;have hv:¬(vW k).I=(i:Int):=by simp[vW];omega
   rw[iN hv]at this;rw[zR];omega
 ·obtain⟨L,f1,f2,f3⟩:=m.fre;have hkL:k∉L:=λq=>by
   obtain⟨d,d1,d2⟩:=WW (L:=L) f2 k q;rw[hc]at d1;cases d1;simp[qg]at d2
  refine⟨L,f1,Xi (L:=L) f2 hkL,λi e he h=>?_⟩;by_cases q:i=k
  ·subst q;rw[jZ hc]at he;cases he;simp[qg]at h
  ·rw[ze q]at he;exact f3 i e he h
theorem qA1{a b:List qF}:cr k (a++b)=cr k a+cr k b:=by unfold cr;rw[List.countP_append,List.countP_append];omega
theorem qFV{p:qF}{b:List qF}:cr k (p::b)=(if p.A=(k:Int)then 1 else 0)+(if p.B=(k:Int)then 1 else 0)+cr k b:=by
 unfold cr;rw[List.countP_cons,List.countP_cons];simp;omega
theorem qnM:cr k []=0:=rfl
theorem MI.redex{a b:Nat}(m:MI C fr root rx (aW a::aW b::P) O):a≠b/\MI C fr root (rx++[⟨min (a:Int) b,max (a:Int) b⟩]) P O:=by
 have ha:wOk C (aW a):=m.pw _ (.head _);have hb:wOk C (aW b):=m.pw _ (.tail _ (.head _));have ha':=ha;obtain⟨a',c,e1,e2,e3⟩:=ha';obtain rfl:a'=a:=by simp[aW]at e1;omega
 have hag:qz c.K=true:=by
  rcases e3 with⟨_,q⟩ | ⟨q,_⟩
  ·exact q
  ·simp[aW]at q
 have hne:a'≠b:=by
  rintro rfl;have:=m.tot e2;rw[zR,zR,zR]at this;have w1:zV c=1:=by
   unfold zV;rw[iN (by intro q;rw[q]at hag;cases hag),iN];rintro⟨q,_⟩;rw[q]at hag;cases hag
  rw[w1]at this;simp only[aW,if_true]at this;omega
 refine⟨hne,m.form,m.opn,m.wrd,m.rt,λw hw=>m.pw w (.tail _ (.tail _ hw)),λp hp=>?_,λi e he=>?_,m.fre⟩
 ·rcases jA.1 hp with hp | hp
  ·exact m.pr p hp
  ·simp only[lMg]at hp;subst hp;simp only;rcases Nat.lt_or_ge a' b with q | q
   ·rw[Int.min_eq_left (by omega),Int.max_eq_right (by omega)];exact⟨by omega,ha,hb⟩
   ·rw[Int.min_eq_right (by omega),Int.max_eq_left (by omega)];exact⟨by omega,hb,ha⟩
 ·have:=m.tot he;rw[zR,zR,zR]at this;rw[zR,qA1,qFV,qnM];have ea:(aW a').I=(a':Int):=rfl;have eb:(aW b).I=(b:Int):=rfl;rw[ea,eb]at this;simp only;have key:(if min (a':Int) b=(i:Int)then 1 else 0)+(if max (a':Int) b=(i:Int)then 1 else 0)=(if (a':Int)=(i:Int)then 1 else 0)+(if (b:Int)=(i:Int)then 1 else 0):=by
   rcases Nat.lt_or_ge a' b with q | q
   ·rw[Int.min_eq_left (by omega),Int.max_eq_right (by omega)]
   ·rw[Int.min_eq_right (by omega),Int.max_eq_left (by omega),Nat.add_comm]
  rw[key];omega
theorem MI.unredex{p:qF}{r1 r2:List qF}(m:MI C fr root (r1++p::r2) P O):MI C fr root (r1++r2) (⟨1,p.A⟩::⟨1,p.B⟩::P) O:=by
 have hp:=m.pr p (List.mem_append_right _ (.head _));refine⟨m.form,m.opn,m.wrd,m.rt,λw hw=>?_,λq hq=>?_,λi e he=>?_,m.fre⟩
 ·rcases mCo.1 hw with rfl | hw
  ·exact hp.2.1
  ·rcases mCo.1 hw with rfl | hw
   ·exact hp.2.2
   ·exact m.pw w hw
 ·rcases jA.1 hq with hq | hq
  ·exact m.pr q (List.mem_append_left _ hq)
  ·exact m.pr q (List.mem_append_right _ (.tail _ hq))
 ·have:=m.tot he;rw[zR,qA1,qFV]at this;rw[zR,zR,zR,qA1];simp only;omega
theorem MI.perm{P':List qE}(m:MI C fr root rx P O)(h:P.Perm P'):MI C fr root rx P' O:=
 ⟨m.form,m.opn,m.wrd,m.rt,λw hw=>m.pw w (h.mem_iff.2 hw),m.pr,λi e he=>by
  have:=m.tot he;rw[zR]at this|-;unfold cw at this|-;rw[<-h.countP_eq];exact this,m.fre⟩
end
abbrev MM(m:qH)(P:List qE)(O:Nat->Bool):Prop:=MI m.C m.F m.O m.R P O
def nF(C:List qC):Nat:=C.countP λc=>decide (c.K=0)
def nV(C:List qC):Nat:=C.countP λc=>decide (c.K=13)
def zb(m:qH)(a:Int):qC:=(m.C[a.toNat]?).getD (zt 0)
def qV(m:qH)(a:Int):qH:={m with C:=m.C.set a.toNat (zt m.F),F:=a}
def qW(m:qH)(c:qC):qH:={m with C:=m.C.set m.F.toNat c,F:=(zb m m.F).V}
def qu(m:qH)(a:Int)(ws:List qE):qH:={m with C:=m.C.set a.toNat {zb m a with W:=ws}}
def Jr(m:qH)(a b:Int):qH:={m with R:=m.R++[⟨min a b,max a b⟩]}
def flw:Nat->qH->qE->qH×qE
 | 0,m,w=>(m,w)
 | n+1,m,w=>if w.T=2 then(match (zb m w.I).W with
   |[]=>(m,w)
   | x::_=>flw n (qV m w.I) x)else(m,w)
def wW(m:qH)(a b:qE):qH:=
 let r:=flw (nV m.C) m a;let s:=flw (nV r.1.C) r.1 b
 if r.2.T=1/\s.2.T=1 then Jr s.1 r.2.I s.2.I
 else if r.2=s.2 then qV s.1 r.2.I
 else if r.2.T=2 then qu s.1 r.2.I [s.2]else qu s.1 s.2.I [r.2]
section
variable {C:List qC} {fr:Int} {root w:qE} {rx:List qF} {P Q:List qE} {O:Nat->Bool} {k j:Nat} {c c':qC} {m m':qH}
theorem qAY{p:qC->Bool}:∀{C:List qC}{j:Nat}{c:qC},C[j]?=some c->(C.set j c').countP p+(if p c then 1 else 0)=C.countP p+(if p c' then 1 else 0)
 |[],j,c,h=>by simp at h
 | a::r,0,c,h=>by
  simp only[List.getElem?_cons_zero,oSi]at h;subst h;simp only[lSz,List.countP_cons];omega
 | a::r,j+1,c,h=>by
  have:=qAY (p:=p) (C:=r) (j:=j) (c:=c) (by simpa using h);simp only[List.set_cons_succ,List.countP_cons];omega
theorem Zy(h:C[j]?=some c):nF (C.set j c')+(if c.K=0 then 1 else 0)=nF C+(if c'.K=0 then 1 else 0):=by
 have:=qAY (c':=c') (p:=λc=>decide (c.K=0)) h;simpa[nF]using this
theorem qH2(h:C[j]?=some c):nV (C.set j c')+(if c.K=13 then 1 else 0)=nV C+(if c'.K=13 then 1 else 0):=by
 have:=qAY (c':=c') (p:=λc=>decide (c.K=13)) h;simpa[nV]using this
theorem qH1(h:C[j]?=some c)(hk:c.K=13):0<nV C:=List.countP_pos_iff.2 ⟨c,lMo h,by simpa using hk⟩
theorem FrC.len{L:List Nat}(f:FrC C fr L):L.length=nF C:=by
 have hc:nF C=((List.range C.length).filter λk=>decide ((C[k]?.getD (zt 1)).K=0)).length:=by
  have:∀(C:List qC),C.countP (λc=>decide (c.K=0))=((List.range C.length).filter λk=>decide ((C[k]?.getD (zt 1)).K=0)).length:=by
   intro C;rw[<-List.countP_eq_length_filter]
   induction C with
   | nil=>rfl
   | cons a r ih=>
    rw[lCo,List.range_succ_eq_map,List.countP_cons,List.countP_cons,ih,List.countP_map];rfl
  exact this C
 rw[hc];refine List.Perm.length_eq ((List.perm_ext_iff_of_nodup f.nd (List.nodup_range.filter _)).2 λk=>?_);rw[mFi,lMr];constructor
 ·intro hk;obtain⟨c,h1,h2⟩:=WW (L:=L) f.ch k hk;exact⟨zP h1,by rw[h1];simpa using h2⟩
 ·rintro⟨h1,h2⟩;rw[gEg h1]at h2;exact f.all k _ (gEg h1) (by simpa using h2)
theorem MI.fr0(m:MI C fr root rx P O)(h:0<nF C):0<=fr:=by
 obtain⟨L,f⟩:=m.fre;have:=f.len;cases L with
 | nil=>simp at this;omega
 | cons k L=>have:=f.ch.1;omega
theorem Jk(h:m.C[k]?=some c):zb m (k:Int)=c:=by unfold zb;rw[iTn,h];rfl
theorem qDE(h:qz c.K=true):zV c=1:=by
 unfold zV;rw[iN (by intro q;rw[q]at h;cases h),iN];rintro⟨q,_⟩;rw[q]at h;cases h
theorem qIM(m:MI C fr root rx P O)(hc:C[k]?=some c)(h:qz c.K=false):O k=false:=by
 cases q:O k with
 | false=>rfl
 | true=>rw[m.opn k c hc q]at h;cases h
theorem MI.var(m:MI C fr root rx P O)(hc:C[k]?=some c)(h:c.K=13):O k=false/\∃ws,c=qg ws/\ws.length<=1:=by
 have ho:=qIM m hc (by rw[h];rfl);refine⟨ho,c.W, ?_⟩;rcases m.form k c hc ho with⟨q,_⟩ | ⟨h1,h2,h3,h4,h5⟩ | ⟨q,_⟩
 ·rw[h]at q;cases q
 ·refine⟨?_,h5⟩;obtain⟨a,b,d,e,f⟩:=c;simp only at h1 h2 h3 h4;subst h1 h2 h3 h4;rfl
 ·omega
structure Flw(m m':qH)(w':qE):Prop where
 len:m'.C.length=m.C.length
 root:m'.O=m.O
 rx:m'.R=m.R
 keep:∀(k:Nat)(c:qC),m.C[k]?=some c->(c.K≠13\/c.W=[])->m'.C[k]?=some c
 nv:nV m'.C<=nV m.C
 nf:nF m.C<=nF m'.C
 stop:w'.T=1\/∃k:Nat,w'=vW k/\m'.C[k]?=some (qg [])
theorem Zp:∀(n:Nat){m:qH}{w:qE},MM m (w::P) O->nV m.C<=n->MM (flw n m w).1 ((flw n m w).2::P) O/\Flw m (flw n m w).1 (flw n m w).2
 | n,m,w,h,hn=>by
  obtain⟨k,c,e1,e2,e3⟩:=h.pw w (.head _);by_cases ht:w.T=2
  ·have hk:c.K=13:=by
    rcases e3 with⟨q,_⟩ | ⟨_,q⟩
    ·omega
    ·exact q
   obtain⟨ho,ws,hv,hl⟩:=h.var e2 hk;have hpos:=qH1 e2 hk;obtain⟨n',rfl⟩:∃n',n=n'+1:=⟨n-1,by omega⟩;have hca:zb m w.I=c:=by rw[e1];exact Jk e2
   have hwv:w=vW k:=by
    obtain⟨t,a⟩:=w;simp only at ht e1;subst ht e1;rfl
   cases ws with
   | nil=>
    have e:flw (n'+1) m w=(m,w):=by
     rw[flw,iP ht,hca,hv];rfl
    rw[e];exact⟨h,rfl,rfl,rfl,λ_ _ q _=>q,nLr _,nLr _,.inr ⟨k,hwv,by rw[e2,hv]⟩⟩
   | cons x r=>
    have hr:r=[]:=by cases r with | nil=>rfl | cons a r=>simp at hl
    subst hr;have e:flw (n'+1) m w=flw n' (qV m w.I) x:=by
     rw[flw,iP ht,hca,hv];rfl
    have h1:=MI.rel (Q:=[w]) h e2 ho (by omega) (λy hy=>by simp only[lMg]at hy;rw[hy];exact e1) (by rw[hv];simp[zV,qg]);have hrel:qV m w.I={m with C:=m.C.set k (zt m.F),F:=(k:Int)}:=by
     unfold qV;rw[e1,iTn]
    have h2:MM (qV m w.I) (x::P) O:=by
     rw[hrel,hv]at*;exact h1
    have hnv:=qH2 (c':=zt m.F) e2;have hnf:=Zy (c':=zt m.F) e2;rw[iP hk,iN (by simp[zt])]at hnv;rw[iN (by omega),iP (by simp[zt])]at hnf;have hcells:(qV m w.I).C=m.C.set k (zt m.F):=by rw[hrel]
    obtain⟨g1,g2⟩:=Zp n' h2 (by rw[hcells];omega);rw[e];refine⟨g1,by rw[g2.len,hcells,lLs],by rw[g2.root,hrel],by rw[g2.rx,hrel],λi d hd hq=>?_,by have:=g2.nv;rw[hcells]at this;omega,by have:=g2.nf;rw[hcells]at this;omega,g2.stop⟩;refine g2.keep i d ?_ hq;rw[hcells];by_cases q:i=k
    ·subst q;rw[e2]at hd;cases hd;rcases hq with hq | hq
     ·exact absurd hk hq
     ·rw[hv]at hq;simp[qg]at hq
    ·rw[ze q];exact hd
  ·have e:flw n m w=(m,w):=by
    cases n with
    | zero=>rfl
    | succ n=>rw[flw,iN ht]
   have h1:w.T=1:=by
    rcases e3 with⟨q,_⟩ | ⟨q,_⟩
    ·exact q
    ·exact absurd q ht
   rw[e];exact⟨h,rfl,rfl,rfl,λ_ _ q _=>q,nLr _,nLr _,.inl h1⟩
theorem qp1{a b:qE}(h:MM m (a::b::P) O):MM (wW m a b) P O/\(wW m a b).C.length=m.C.length/\nF m.C<=nF (wW m a b).C/\(wW m a b).O=m.O:=by
 obtain⟨g1,g2⟩:=Zp (nV m.C) h (nLr _);unfold wW;generalize flw (nV m.C) m a=r at g1 g2|-;obtain⟨m1,a1⟩:=r;have g3:MM m1 (b::a1::P) O:=MI.perm g1 (List.Perm.swap _ _ _);obtain⟨k1,k2⟩:=Zp (nV m1.C) g3 (nLr _);simp only at g1 g2 k1 k2|-;generalize flw (nV m1.C) m1 b=s at k1 k2|-;obtain⟨m2,b1⟩:=s;simp only at k1 k2|-;have k3:MM m2 (a1::b1::P) O:=MI.perm k1 (List.Perm.swap _ _ _);have hlen:m2.C.length=m.C.length:=by rw[k2.len,g2.len]
 have hnf:nF m.C<=nF m2.C:=nLt g2.nf k2.nf;have hroot:m2.O=m.O:=by rw[k2.root,g2.root]
 have hstop:a1.T=1\/∃k:Nat,a1=vW k/\m2.C[k]?=some (qg []):=by
  rcases g2.stop with q | ⟨k,q1,q2⟩
  ·exact .inl q
  ·exact .inr ⟨k,q1,k2.keep k _ q2 (.inr rfl)⟩
 have agk:∀w:qE,wOk m2.C w->w.T=1->∃k:Nat,w=aW k:=λw hw ht=>by
  obtain⟨k,c,e1,_,_⟩:=hw;refine⟨k, ?_⟩;obtain⟨t,x⟩:=w;simp only at ht e1;subst ht e1;rfl
 rcases hstop with ha | ⟨ka,rfl,hca⟩
 ·obtain⟨i,rfl⟩:=agk a1 (k3.pw _ (.head _)) ha;rcases k2.stop with hb | ⟨kb,rfl,hcb⟩
  ·obtain⟨j,rfl⟩:=agk b1 (k3.pw _ (.tail _ (.head _))) hb;rw[iP ⟨rfl,rfl⟩];exact⟨(MI.redex k3).2,hlen,hnf,hroot⟩
  ·rw[iN (by simp[aW,vW]),iN (by simp[aW,vW]),iN (by simp[aW])];have hne:(aW i).I≠(kb:Int):=by
    intro q;obtain⟨k,c,e1,e2,e3⟩:=k3.pw (aW i) (.head _);have:k=kb:=by rw[q]at e1;omega
    subst this;rw[hcb]at e2;cases e2;rcases e3 with⟨_,q⟩ | ⟨q,_⟩
    ·simp[qg,qz]at q
    ·simp[aW]at q
   have:=MI.bind (MI.perm k3 (List.Perm.swap _ _ _)) hcb hne;have hp:qu m2 (vW kb).I [aW i]={m2 with C:=m2.C.set kb (qg [aW i])}:=by
    unfold qu;have:(vW kb).I=(kb:Int):=rfl;rw[this,Jk hcb,iTn];rfl
   rw[hp];have hs:=Zy (c':=qg [aW i]) hcb;simp only[qg]at hs;simp at hs;exact⟨this,by simp[hlen],by simp only[qg];omega,hroot⟩
 ·have hpv:∀x:qE,qu m2 (vW ka).I [x]={m2 with C:=m2.C.set ka (qg [x])}:=λx=>by
   unfold qu;have:(vW ka).I=(ka:Int):=rfl;rw[this,Jk hca,iTn];rfl
  rw[iN (by simp[vW])];by_cases heq:vW ka=b1
  ·subst heq;rw[iP rfl];have:=MI.rel (Q:=[vW ka,vW ka]) k3 hca (qIM k3 hca rfl) (by simp[qg]) (λw hw=>by simp at hw;rw[hw];rfl) (by simp[zV,qg]);have hrel:qV m2 (vW ka).I={m2 with C:=m2.C.set ka (zt m2.F),F:=(ka:Int)}:=by
    unfold qV;have:(vW ka).I=(ka:Int):=rfl;rw[this,iTn]
   rw[hrel];have hs:=Zy (c':=zt m2.F) hca;simp[qg,zt]at hs;exact⟨this,by simp[hlen],by simp only[zt];omega,hroot⟩
  ·rw[iN heq,iP (show (vW ka).T=2 from rfl),hpv];have hne:b1.I≠(ka:Int):=by
    intro q;obtain⟨k,c,e1,e2,e3⟩:=k3.pw b1 (.tail _ (.head _));have:k=ka:=by rw[q]at e1;omega
    subst this;rw[hca]at e2;cases e2;rcases e3 with⟨_,q⟩ | ⟨q,_⟩
    ·simp[qg,qz]at q
    ·apply heq;obtain⟨t,x⟩:=b1;simp only at q e1;subst q e1;rfl
   have:=MI.bind k3 hca hne;have hs:=Zy (c':=qg [b1]) hca;simp[qg]at hs;exact⟨this,by simp[hlen],by simp only[qg];omega,hroot⟩
def lws:List qp->List qE
 |[]=>[]
 | l::r=>l.A::l.B::lws r
def Jd(m:qH)(ls:List qp):qH:=ls.foldl (λm l=>wW m l.A l.B) m
theorem qBV:∀(ls:List qp){m:qH},MM m (lws ls++P) O->MM (Jd m ls) P O/\(Jd m ls).C.length=m.C.length/\(Jd m ls).O=m.O
 |[],m,h=>⟨h,rfl,rfl⟩
 | l::r,m,h=>by
  obtain⟨g1,g2,_,g4⟩:=qp1 (m:=m) (a:=l.A) (b:=l.B) (P:=lws r++P) h;obtain⟨k1,k2,k3⟩:=qBV r g1;exact⟨k1,by rw[<-g2];exact k2,by rw[<-g4];exact k3⟩
end
def awI(a:Int):qE:=⟨1,a⟩
def vwI(a:Int):qE:=⟨2,a⟩
def Qf(lev:Int)(s:qH×List qE×List qE×List qp)(w:qE):qH×List qE×List qE×List qp:=
 let m1:=qW s.1 ⟨4,lev,0,[],[]⟩;let m2:=qW m1 (qg []);let m3:=qW m2 (qg [])
 (qu m3 s.1.F [vwI m1.F,vwI m2.F],s.2.1++[vwI m1.F],s.2.2.1++[vwI m2.F],s.2.2.2++[⟨w,awI s.1.F⟩])
def zj(y:qC):qC:=⟨y.K,y.L,y.V,y.D,[]⟩
def Wc(m:qH)(y:qC):qH:=qW (qW m (zj y)) (zj y)
def zS(m:qH)(x y:qC)(i:Nat):qH×List qE×List qE×List qp:=
 (y.W.take i).foldl (Qf x.L) (Wc m y,[],[],[⟨x.W.getD 0 ⟨0,0⟩,awI m.F⟩,⟨x.W.getD 1 ⟨0,0⟩,awI (qW m (zj y)).F⟩])
def wj(m:qH)(x y:qC):qH×List qp:=
 let s:=zS m x y y.W.length
 (qu (qu s.1 m.F s.2.1) (qW m (zj y)).F s.2.2.1,s.2.2.2)
def Qe(s:qH×List qp)(w:qE):qH×List qp:=(qW s.1 ⟨5,0,0,[],[]⟩,s.2++[⟨w,awI s.1.F⟩])
def zw(m:qH)(y:qC)(i:Nat):qH×List qp:=(y.W.take i).foldl Qe (m,[])
section
variable {P Q:List qE} {O:Nat->Bool} {k j:Nat} {c c':qC} {m m':qH}
structure Tk(m m':qH)(k:Nat)(c:qC):Prop where
 fr:m.F=k
 lt:k<m.C.length
 at':m'.C=m.C.set k c
 old:∃d,m.C[k]?=some d/\d.K=0
 nf:c.K≠0->nF m'.C+1=nF m.C
 root:m'.O=m.O
 rx:m'.R=m.R
theorem Tk.len(t:Tk m m' k c):m'.C.length=m.C.length:=by rw[t.at',lLs]
theorem Tk.new(t:Tk m m' k c):m'.C[k]?=some c:=by rw[t.at'];exact gSs t.lt
theorem Tk.keep(t:Tk m m' k c){i:Nat}{e:qC}(h:m.C[i]?=some e)(hk:e.K≠0):m'.C[i]?=some e/\i≠k:=by
 obtain⟨d,d1,d2⟩:=t.old;have:i≠k:=by rintro rfl;rw[d1]at h;cases h;exact hk d2
 exact⟨by rw[t.at',ze this];exact h,this⟩
theorem we(h:MM m P O)(hf:0<nF m.C):∃(k:Nat)(d:qC),m.F=(k:Int)/\m.C[k]?=some d/\d.K=0/\O k=false/\(∀c,qW m c={m with C:=m.C.set k c,F:=d.V}/\Tk m (qW m c) k c):=by
 obtain⟨k,d,e1,e2,e3,e4,_⟩:=MI.head h (MI.fr0 h hf);refine⟨k,d,e1,e2,e3,e4,λc=>?_⟩;have e:qW m c={m with C:=m.C.set k c,F:=d.V}:=by
  unfold qW;rw[e1,Jk e2,iTn]
 refine⟨e,e1,zP e2,by rw[e],⟨d,e2,e3⟩,λhc=>?_,by rw[e],by rw[e]⟩;have:=Zy (c':=c) e2;rw[iP e3,iN hc]at this;rw[e];exact this
theorem Qt(h:MM m P O)(hf:0<nF m.C)(hc:qz c.K=true):∃k,O k=false/\Tk m (qW m c) k c/\MM (qW m c) (aW k::P) (opO O k):=by
 obtain⟨k,d,e1,e2,e3,e4,e5⟩:=we h hf;obtain⟨f1,f2⟩:=e5 c;refine⟨k,e4,f2, ?_⟩;have:=MI.takeA (c:=c) h e1 e2 hc;rw[f1];exact this
theorem Yb(h:MM m P O)(hf:0<nF m.C):∃k,O k=false/\Tk m (qW m (qg [])) k (qg [])/\MM (qW m (qg [])) (vW k::vW k::P) O:=by
 obtain⟨k,d,e1,e2,e3,e4,e5⟩:=we h hf;obtain⟨f1,f2⟩:=e5 (qg []);refine⟨k,e4,f2, ?_⟩;have:=MI.takeV h e1 e2;rw[f1];exact this
theorem wD(hc:m.C[k]?=some c)(ws:List qE):qu m (k:Int) ws={m with C:=m.C.set k {c with W:=ws}}:=by
 unfold qu;rw[Jk hc,iTn]
theorem YK{ws:List qE}(h:MM m (ws++P) O)(hc:m.C[k]?=some c)(ho:O k=true)(hf:zu {c with W:=ws}):MM (qu m (k:Int) ws) P (clO O k)/\nF (qu m (k:Int) ws).C=nF m.C/\(qu m (k:Int) ws).C.length=m.C.length:=by
 rw[wD hc];have h1:=MI.wopen (c':={c with W:=ws}) h hc ho rfl;have h2:=MI.close (k:=k) (c:={c with W:=ws}) h1 (jZ hc) ho hf;refine⟨h2, ?_,by simp⟩;have:=Zy (c':={c with W:=ws}) hc;simp only at this|-;omega
theorem qFN(h:O k=false):clO (opO O k) k=O:=by
 funext i;unfold clO opO;by_cases q:i=k
 ·subst q;simp[h]
 ·simp[q]
theorem Ya(h:MM m (c.W++P) O)(hf:0<nF m.C)(hc:qz c.K=true)(hF:zu c):∃k,O k=false/\Tk m (qW m c) k c/\MM (qW m c) (aW k::P) O:=by
 obtain⟨k,h1,h2,h3⟩:=Qt h hf hc;refine⟨k,h1,h2, ?_⟩;have h4:MM (qW m c) (c.W++(aW k::P)) (opO O k):=MI.perm h3 (List.perm_middle.symm);have h5:=MI.close h4 h2.new (by simp[opO]) hF;rw[qFN h1]at h5;exact h5
theorem agf{c:qC}(h:qz c.K=true)(hf:zu c):qk (qb c)=true:=by
 rcases hf with⟨_,q⟩ | ⟨q,_⟩ | ⟨q,_⟩
 ·exact q
 ·rw[q]at h;cases h
 ·rw[q]at h;cases h
theorem qGM{c:qC}{ws:List qE}(h:qz c.K=true)(hf:zu c)(hl:ws.length=c.W.length):zu {c with W:=ws}:=by
 refine .inl ⟨h, ?_⟩;have:=agf h hf;unfold qb at this|-;simp only;rw[hl];exact this
theorem fanF{lev:Int}(h:inI lev 0 8=true){ws:List qE}(hl:ws.length=2):zu ⟨4,lev,0,[],ws⟩:=by
 refine .inl ⟨rfl, ?_⟩;simp[qb,qk,hl,jx,fieldsOf,zy,jV,jD,h]
theorem eraF:zu ⟨5,0,0,[],[]⟩:=.inl ⟨rfl,by simp[qb,qk,jx,fieldsOf,zy,jV,jD,Jb,inI]⟩
theorem Vp:∀{a b:List qp},lws (a++b)=lws a++lws b
 |[],b=>rfl
 | x::a,b=>by simp[lws,Vp]
structure Zg(m0:qH)(y:qC)(P:List qE)(O:Nat->Bool)(ck dk:Nat)(s:qH×List qE×List qE×List qp)(i:Nat):Prop where
 mm:MM s.1 (s.2.1++s.2.2.1++lws s.2.2.2++y.W.drop i++P) (opO (opO O ck) dk)
 us:s.2.1.length=i
 vs:s.2.2.1.length=i
 c1:s.1.C[ck]?=some (zj y)
 c2:s.1.C[dk]?=some (zj y)
 nf:nF m0.C=nF s.1.C+2+3*i
 len:s.1.C.length=m0.C.length
theorem qoA{m0:qH}{y:qC}{lev:Int}{ck dk i:Nat}{s:qH×List qE×List qE×List qp}(hy:qz y.K=true)(hl:inI lev 0 8=true)(hne:ck≠dk)(h:Zg m0 y P O ck dk s i)(hi:i<y.W.length)(hf:2<nF s.1.C):Zg m0 y P O ck dk (Qf lev s y.W[i]) (i+1):=by
 obtain⟨mm,us,vs,c1,c2,nf,len⟩:=h;obtain⟨f,f1,f2,f3⟩:=Qt (c:=⟨4,lev,0,[],[]⟩) mm (by omega) rfl;have k4:(⟨4,lev,0,[],[]⟩:qC).K≠0:=by simp
 have n1:=f2.nf k4;obtain⟨u,u1,u2,u3⟩:=Yb f3 (by omega);have n2:=u2.nf (by decide);obtain⟨v,v1,v2,v3⟩:=Yb u3 (by omega);have n3:=v2.nf (by decide);have hk0:(zj y).K≠0:=by intro q;unfold zj at q;simp only at q;rw[q]at hy;cases hy
 have cf:(qW (qW (qW s.1 ⟨4,lev,0,[],[]⟩) (qg [])) (qg [])).C[f]?=some ⟨4,lev,0,[],[]⟩:=(v2.keep (u2.keep f2.new k4).1 k4).1;have k1:=(v2.keep (u2.keep (f2.keep c1 hk0).1 hk0).1 hk0).1;have k2:=(v2.keep (u2.keep (f2.keep c2 hk0).1 hk0).1 hk0).1;have g1:=(f2.keep c1 hk0).2;have g2:=(f2.keep c2 hk0).2;have hp:(vW v::vW v::vW u::vW u::aW f::(s.2.1++s.2.2.1++lws s.2.2.2++y.W.drop i++P)).Perm ([vW u,vW v]++((s.2.1++[vW u])++(s.2.2.1++[vW v])++(lws s.2.2.2++[y.W[i],aW f])++y.W.drop (i+1)++P)):=by
  rw[lDc hi];rw[List.perm_iff_count];intro a;simp only[List.count_append,List.count_cons,List.count_nil];omega
 have w1:=MI.perm v3 hp;have hof:opO (opO (opO O ck) dk) f f=true:=by simp[opO]
 obtain⟨p1,p2,p3⟩:=YK (k:=f) (c:=⟨4,lev,0,[],[]⟩) w1 cf hof (fanF hl rfl);have hoo:clO (opO (opO (opO O ck) dk) f) f=opO (opO O ck) dk:=qFN f1;rw[hoo]at p1;have e1:s.1.F=(f:Int):=f2.fr;have e2:(qW s.1 ⟨4,lev,0,[],[]⟩).F=(u:Int):=u2.fr;have e3:(qW (qW s.1 ⟨4,lev,0,[],[]⟩) (qg [])).F=(v:Int):=v2.fr;have ef:Qf lev s y.W[i]=(qu (qW (qW (qW s.1 ⟨4,lev,0,[],[]⟩) (qg [])) (qg [])) (f:Int) [vW u,vW v],s.2.1++[vW u],s.2.2.1++[vW v],s.2.2.2++[⟨y.W[i],aW f⟩]):=by
  unfold Qf;simp only[e1,e2,e3];rfl
 rw[ef];refine⟨?_,by simp[us],by simp[vs], ?_, ?_,by simp only;rw[p2];omega,by simp only;rw[p3,v2.len,u2.len,f2.len,len]⟩
 ·simp only;rw[Vp];exact p1
 ·simp only;rw[wD cf];simp only;rw[ze g1];exact k1
 ·simp only;rw[wD cf];simp only;rw[ze g2];exact k2
theorem qA9{x y:qC}(h:MM m (x.W++y.W++P) O)(hy:qz y.K=true)(hyF:zu y)(hx:x.W.length=2)(hl:inI x.L 0 8=true)(hf:2+3*y.W.length<=nF m.C):MM (wj m x y).1 (lws (wj m x y).2++P) O/\(wj m x y).1.C.length=m.C.length/\(∀i,i<=y.W.length->∃ck dk,ck≠dk/\m.F=(ck:Nat)/\(qW m (zj y)).F=(dk:Nat)/\Zg m y P O ck dk (zS m x y i) i):=by
 have hk:qz (zj y).K=true:=hy;have hk0:(zj y).K≠0:=by intro q;unfold zj at q;simp only at q;rw[q]at hy;cases hy
 obtain⟨x0,x1,ex⟩:∃a b,x.W=[a,b]:=by
  match h:x.W,hx with
  |[a,b],_=>exact⟨a,b,rfl⟩
 obtain⟨ck,a1,a2,a3⟩:=Qt (c:=zj y) h (by omega) hk;have n1:=a2.nf hk0;obtain⟨dk,b1,b2,b3⟩:=Qt (c:=zj y) a3 (by omega) hk;have n2:=b2.nf hk0;have hne:ck≠dk:=(b2.keep a2.new hk0).2;have I:∀i,i<=y.W.length->Zg m y P O ck dk (zS m x y i) i:=by
  intro i
  induction i with
  | zero=>
   intro _;have e0:zS m x y 0=(Wc m y,[],[],[⟨x0,aW ck⟩,⟨x1,aW dk⟩]):=by
    unfold zS;rw[ex,a2.fr,b2.fr];rfl
   rw[e0];refine⟨?_,rfl,rfl,(b2.keep a2.new hk0).1,b2.new,by unfold Wc;simp only;omega,by unfold Wc;simp only;rw[b2.len,a2.len]⟩;refine MI.perm b3 ?_;rw[ex,List.perm_iff_count];intro a;simp only[List.count_append,List.count_cons,List.count_nil,lws,List.drop_zero];omega
  | succ i ih=>
   intro hi;have hI:=ih (by omega);have es:zS m x y (i+1)=Qf x.L (zS m x y i) (y.W[i]'(by omega)):=by
    unfold zS;rw[tA1,gEg (show i<y.W.length by omega),Option.toList_some,List.foldl_append];rfl
   rw[es];refine qoA hy hl hne hI (by omega) ?_;have:=hI.nf;omega
 refine⟨?_, ?_,λi hi=>⟨ck,dk,hne,a2.fr,b2.fr,I i hi⟩⟩
 all_goals
  obtain⟨mm,us,vs,c1,c2,nf,len⟩:=I y.W.length (nLr _);have ed:wj m x y=(qu (qu (zS m x y y.W.length).1 (ck:Int) (zS m x y y.W.length).2.1) (dk:Int) (zS m x y y.W.length).2.2.1,(zS m x y y.W.length).2.2.2):=by
   unfold wj;simp only[a2.fr,b2.fr]
  rw[ed];generalize zS m x y y.W.length=s at*;have hw1:MM s.1 (s.2.1++(s.2.2.1++(lws s.2.2.2++P))) (opO (opO O ck) dk):=by
   have:=mm;rw[List.drop_length,lAn,lAa,lAa]at this;exact this
  have hyW:(zj y)={y with W:=[]}:=rfl;obtain⟨p1,p2,p3⟩:=YK (k:=ck) (c:=zj y) hw1 c1 (by simp[opO]) (qGM (c:=y) hy hyF us);have c2':(qu s.1 (ck:Int) s.2.1).C[dk]?=some (zj y):=by
   rw[wD c1];simp only;rw[ze (Ne.symm hne)];exact c2
  obtain⟨r1,r2,r3⟩:=YK (k:=dk) (c:=zj y) p1 c2' (by simp[clO,opO];exact Ne.symm hne) (qGM (c:=y) hy hyF vs)
 ·have ho:clO (clO (opO (opO O ck) dk) ck) dk=O:=by
   have b1':opO O ck dk=false:=b1;funext i;unfold clO opO;unfold opO at b1';by_cases q:i=ck
   ·subst q;simp[a1,hne]
   ·by_cases q2:i=dk
    ·subst q2;simp at b1'|-;exact b1'.2
    ·simp[q,q2]
  rw[ho]at r1;exact r1
 ·simp only;rw[r3,p3,len]
theorem qBB{y:qC}(h:MM m (y.W++P) O)(hf:y.W.length<=nF m.C):∀i,i<=y.W.length->MM (zw m y i).1 (lws (zw m y i).2++y.W.drop i++P) O/\nF m.C=nF (zw m y i).1.C+i/\(zw m y i).1.C.length=m.C.length:=by
 intro i
 induction i with
 | zero=>intro _;exact⟨h,rfl,rfl⟩
 | succ i ih=>
  intro hi;obtain⟨g1,g2,g3⟩:=ih (by omega);have es:zw m y (i+1)=Qe (zw m y i) (y.W[i]'(by omega)):=by
   unfold zw;rw[tA1,gEg (show i<y.W.length by omega),Option.toList_some,List.foldl_append];rfl
  obtain⟨k,k1,k2,k3⟩:=Ya (c:=⟨5,0,0,[],[]⟩) (P:=lws (zw m y i).2++y.W.drop i++P) g1 (by omega) rfl eraF;have n1:=k2.nf (by decide);rw[es];unfold Qe;simp only;refine⟨?_,by omega,by rw[k2.len,g3]⟩;refine MI.perm k3 ?_;rw[Vp,lDc (show i<y.W.length by omega),List.perm_iff_count];intro a;have e:awI (zw m y i).1.F=aW k:=by rw[k2.fr];rfl
  rw[e];simp only[List.count_append,List.count_cons,List.count_nil,lws];omega
end
def fzp(n id:Nat)(o:Option qA)(st:VSt):VSt:=match o with
 | some (.row w [v] true)=>if w=0 then st else{s:=(n,.ept v 0)::st.s,l:=st.l,h:=st.h.set id .dead}
 | _=>st
def fzo(n:Nat)(v:Option AV)(st:VSt):VSt:=match v with
 | none=>st
 | some (.ept _ _)=>st
 | some (.lst _ _ _)=>st
 | some (.int _ _)=>st
 | some (.bool _)=>st
 | some .nils=>st
 | some (.agg _)=>st
 | some (.ptr id 0 0)=>fzp n id st.h[id]? st
 | _=>Qg n st
section
variable {n id:Nat} {s m:qq} {h:List qA} {v x:AV} {st:VSt}
@[go_sem] theorem qvJ:Qg n ⟨s,m,h⟩=fzo n (get s n) ⟨s,m,h⟩:=by
 unfold fzo;split<;>rename_i e<;>try (simp only[Qg,e];done)
 ·simp only[Qg,e,fzp];split<;>rename_i e2<;>simp only[e2]
  ·split<;>split<;>first | rfl | omega
@[go_sem] theorem qvP:get [] n=none:=nr rfl
@[go_sem] theorem qvL:fzo n none st=st:=nr rfl
@[go_sem] theorem qvK{j:Nat}:fzo n (some (.ept v j)) st=st:=nr rfl
@[go_sem] theorem qvM:fzo n (some (.ptr id 0 0)) ⟨s,m,h⟩=fzp n id h[id]? ⟨s,m,h⟩:=nr rfl
@[go_sem] theorem qvN{w:Nat}:fzp n id (some (.row w [v] true)) ⟨s,m,h⟩=if w=0 then⟨s,m,h⟩else⟨(n,.ept v 0)::s,m,h.set id .dead⟩:=nr rfl
end
theorem c397{f:AV}(p:Int->Bool)(hft:f.tree=true)(xs:List Int)(hf:∀x∈xs,XX Gm f [qO x] (.bool (p x)))(hl:xs.length<=1048576):Pure Gm 397 [lQ xs,f] (.bool (xs.any p)):=
 WZ shI (gc:=774) (gk _ F397) (gk _ F774) f p hft xs hf hl
theorem c859{f:AV}(p:qD->Bool)(hft:f.tree=true)(xs:List qD)(hf:∀x∈xs,XX Gm f [x.enc] (.bool (p x)))(hl:xs.length<=1048576):Pure Gm 859 [.lst 1 (xs.map qD.enc) false,f] (.bool (xs.any p)):=
 WZ qD.isSh (gc:=1179) (gk _ F859) (gk _ qDS) f p hft xs hf hl
theorem c712{f:AV}(p:qI->Bool)(hft:f.tree=true)(xs:List qI)(hf:∀x∈xs,XX Gm f [x.enc] (.bool (p x)))(hl:xs.length<=1048576):Pure Gm 712 [.lst 2 (xs.map qI.enc) false,f] (.bool (xs.any p)):=
 WZ qI.isSh (gc:=1098) (gk _ F712) (gk _ qDQ) f p hft xs hf hl
theorem qAD{α:Type}(p:α->Bool)(xs:List α):(!xs.any λx=> !p x)=xs.all p:=by
 induction xs with
 | nil=>rfl
 | cons x xs ih=>simp only[List.any_cons,lAc,Bool.not_or,Bool.not_not,ih]
theorem qAN{k:Int}:Pure Gm 1487 [iI k] (.bool (Jb k)):=by
 refine pJ kO ?_;simp only[kO,qN,go_sem]
 repeat' (first | (refine qX rfl ?_;simp only[go_sem]) | (first | (apply zH<;>intro hc<;>simp only[hc,go_sem]) | (apply qT<;>intro hc<;>simp only[hc,go_sem])) | refine qM rfl ?_)
 all_goals ((simp only[Jb,inI,AV.bool.injEq];rw[Bool.eq_iff_iff];simp at*;try omega))
theorem qAK{k:Int}:Pure Gm 1375 [iI k] (.bool (jV k)):=by
 refine pJ Kz ?_;simp only[Kz,qN,go_sem]
 repeat' (first | (refine qX rfl ?_;simp only[go_sem]) | (first | (apply zH<;>intro hc<;>simp only[hc,go_sem]) | (apply qT<;>intro hc<;>simp only[hc,go_sem])) | (refine qL (qAN) ?_;simp only[go_sem]) | refine qM rfl ?_)
 all_goals ((simp only[jV,Jb,inI,AV.bool.injEq]at*;rw[Bool.eq_iff_iff];simp at*;try omega))
theorem qE2{l:Int}:Pure Gm 1495 [iI l] (.bool (inI l 0 8)):=by
 refine pJ kR ?_;simp only[kR,qN,go_sem]
 repeat' (first | (refine qX rfl ?_;simp only[go_sem]) | (first | (apply zH<;>intro hc<;>simp only[hc,go_sem]) | (apply qT<;>intro hc<;>simp only[hc,go_sem])) | refine qM rfl ?_)
 all_goals ((simp only[inI,AV.bool.injEq];rw[Bool.eq_iff_iff];simp at*;try omega))
theorem qAM{k l:Int}:Pure Gm 1389 [iI k,iI l] (.bool (zy k l)):=by
 refine pJ K6 ?_;simp only[K6,qN,go_sem]
 repeat' (first | (refine qX rfl ?_;simp only[go_sem]) | (first | (apply zH<;>intro hc<;>simp only[hc,go_sem]) | (apply qT<;>intro hc<;>simp only[hc,go_sem])) | (refine qL (qAN) ?_;simp only[go_sem]) | (refine qL (qAK) ?_;simp only[go_sem]) | (refine qL (qE2) ?_;simp only[go_sem]) | refine qM rfl ?_)
 all_goals ((unfold zy;split<;>(simp only[jV,Jb,inI,AV.bool.injEq]at* <;>(rw[Bool.eq_iff_iff];simp at* <;>try omega))))
theorem c796{n:Int}:Pure Gm 796 [iI n] (.bool (j4 n)):=by
 refine pJ F796 ?_;simp only[F796,qN,go_sem]
 repeat' (first | (refine qX rfl ?_;simp only[go_sem]) | (first | (apply zH<;>intro hc<;>simp only[hc,go_sem]) | (apply qT<;>intro hc<;>simp only[hc,go_sem])) | refine qM rfl ?_)
 all_goals (simp_all[j4,inI]<;>omega)
theorem qlL{n:Int}:Pure Gm 1050 [iI n] (.bool (inI n 1 6)):=by
 refine pJ Uv ?_;simp only[Uv,qN,go_sem]
 repeat' (first | (refine qX rfl ?_;simp only[go_sem]) | (first | (apply zH<;>intro hc<;>simp only[hc,go_sem]) | (apply qT<;>intro hc<;>simp only[hc,go_sem])) | refine qM rfl ?_)
 all_goals ((simp only[inI,AV.bool.injEq];rw[Bool.eq_iff_iff];simp at*;try omega))
theorem qEQ{n:Int}:Pure Gm 1051 [iI n] (.bool (inI n (-2147483648) 2147483647)):=by
 refine pJ Uw ?_;simp only[Uw,qN,go_sem]
 repeat' (first | (refine qX rfl ?_;simp only[go_sem]) | (first | (apply zH<;>intro hc<;>simp only[hc,go_sem]) | (apply qT<;>intro hc<;>simp only[hc,go_sem])) | refine qM rfl ?_)
 all_goals ((simp only[inI,AV.bool.injEq];rw[Bool.eq_iff_iff];simp at*;try omega))
theorem qmN{n:Int}:Pure Gm 1390 [iI n] (.bool (!j4 n)):=by
 refine pJ K7 ?_;simp only[K7,qN,go_sem]
 repeat' (first | (refine qX rfl ?_;simp only[go_sem]) | (first | (apply zH<;>intro hc<;>simp only[hc,go_sem]) | (apply qT<;>intro hc<;>simp only[hc,go_sem])) | (refine qL (c796) ?_;simp only[go_sem]) | refine qM rfl ?_)
 all_goals (simp_all)
theorem qCP{E:Ev}{o:Option AV}{v:AV}{k:Nat}{l:List qG}{ks:List Fr1}{s m:qq}{h:List qA}{Q:qn->VSt->Prop}(ho:o=some v)(hr:R E (.ops l::ks) ⟨(k,v)::s,m,h⟩ Q):Put E o (some k) l ks ⟨s,m,h⟩ Q:=by
 subst ho;rw[qJE];exact hr
theorem qmL{k:Int}{n:Nat}(hn:n<=1048576):Pure Gm 1388 [iI k,iI (n:Int)] (iI (if k=9 then(n:Int)-1 else 0)):=by
 refine pJ K5 ?_;simp only[K5,qN,go_sem];apply qT<;>intro hc<;>simp only[hc,go_sem]
 ·rw[wsA];refine qM rfl ?_;simp_all
 ·refine qM rfl ?_;simp_all
theorem qmK{k f:Int}:Pure Gm 1387 [iI k,iI f] (iI (jx k f)):=by
 refine pJ K4 ?_;simp only[K4,qN,go_sem]
 repeat' (first
  | (first | (refine zH ?_ ?_<;>intro hc<;>simp only[hc,go_sem]) | (refine qT ?_ ?_<;>intro hc<;>simp only[hc,go_sem]))
  | (refine qL qAN ?_;simp only[go_sem])
  | refine qM rfl ?_)
 all_goals simp only[Bool.not_eq_false',bNt,Bool.not_true,Bool.not_false,dTe,decide_eq_false_iff_not,Jb,inI,bAt,Bool.and_eq_false_iff]at*
 case refine_2.refine_1.refine_1.refine_2=>
  subst hc;have:k=1\/k=2\/k=3\/k=4\/k=5\/k=6\/k=7\/k=8\/k=10\/k=11\/k=12:=by omega
  rcases this with rfl | rfl | rfl | rfl | rfl | rfl | rfl | rfl | rfl | rfl | rfl
  all_goals
   first | refine qCP (v:=iI 1) rfl ?_ | refine qCP (v:=iI 2) rfl ?_ | refine qCP (v:=iI 3) rfl ?_
   simp only[go_sem];refine qM rfl rfl
 all_goals try rw[wsA]
 all_goals (simp only[jx,inI,AV.int.injEq,true_and,bAt,dTe];repeat' split)
 all_goals try omega
set_option maxHeartbeats 2000000
theorem qmM{x:qB}(hn:x.P.length<=1048576):Pure Gm 1388 [iI x.K,iI (x.P.length:Int)] (iI (fieldsOf x)):=qmL hn
theorem Yr{x:qB}(h1:¬(x.P.length:Int)=0)(h2:jx x.K (fieldsOf x)=x.P.length)(h3:zy x.K x.L=true):qk x=jD x:=by
 have h:(0:Int)<x.P.length:=by omega
 unfold qk;rw[h2,h3];simp only[dEt h,decide_true,Bool.true_and]
theorem qES{x:qB}(hd:x.D.length<=1048576)(hn:x.P.length<=1048576):Pure Gm 1097 [x.enc] (.bool (qk x)):=by
 refine pI U8 (by simp[AV.trees,go_sem]) rfl ?_;simp only[U8,qN,go_sem]
 repeat' (first
  | (refine qX rfl ?_;simp only[go_sem])
  | (first | (refine zH ?_ ?_<;>intro hc<;>simp only[hc,go_sem]) | (refine qT ?_ ?_<;>intro hc<;>simp only[hc,go_sem]))
  | (refine qL (qmM hn) ?_;simp only[go_sem])
  | (refine qL qmK ?_;simp only[go_sem])
  | (refine qL qAM ?_;simp only[go_sem])
  | (refine qL (c397 (f:=.fn 1390 []) (λn=> !j4 n) rfl x.D (λ_ _=>⟨1390,[],rfl,qmN⟩) hd) ?_;simp only[qAD,go_sem])
  | (refine qL qlL ?_;simp only[go_sem])
  | (refine qL qEQ ?_;simp only[go_sem])
  | (refine qL c796 ?_;simp only[go_sem])
  | refine qM rfl ?_)
 case refine_1.refine_1.refine_2.refine_2.refine_2.refine_1.refine_1.refine_1=>
  obtain⟨d,hd1⟩:∃d,x.D=[d]:=List.length_eq_one_iff.1 (by have:=odT hc;omega);simp only[hd1,lMc,List.map_nil,qO,go_sem];simp only[oMs,go_sem];refine qL qEQ ?_;simp only[go_sem];refine qM rfl ?_;simp only[Bool.not_eq_false',dTe,decide_eq_false_iff_not]at*;rw[Yr (by assumption) (by assumption) (by assumption)];simp[jD, *]
 all_goals simp only[Bool.not_true,Bool.not_false,bNt,Bool.not_eq_false',dTe,decide_eq_false_iff_not]at*
 all_goals first
  | (rw[Yr (by assumption) (by assumption) (by assumption)];simp only[AV.bool.injEq];rw[Bool.eq_iff_iff];simp[jD, *];done)
  | (rw[Yr (by assumption) (by assumption) (by assumption)];simp only[AV.bool.injEq];rw[Bool.eq_iff_iff];simp[jD,inI, *];omega)
  | (rw[Yr (by assumption) (by assumption) (by assumption)];simp only[AV.bool.injEq];rw[Bool.eq_iff_iff];simp[jD,inI, *];done)
  | (simp[qk, *];done)
  | (simp[qk, *];omega)
  | trace_state
theorem c711{xs:List qB}(hl:xs.length+qJ qB.sz xs<=1048576):Pure Gm 711 [.lst 5 (xs.map qB.enc) false] (.bool (wQ xs)):=by
 refine pI F711 (by simp[AV.trees,AV.tree,qY qB.isSh.tree]) rfl ?_;simp only[F711,qN,go_sem];have fin (h1:1<=xs.length) (h2:xs.length<=600):wQ xs=jd xs 0:=by
  unfold wQ inI;rw[dEt (by omega),dEt (by omega)];rfl
 first | (apply zH<;>intro hc<;>simp only[hc,go_sem]) | (apply qT<;>intro hc<;>simp only[hc,go_sem])
 ·first | (apply zH<;>intro hc<;>simp only[hc,go_sem]) | (apply qT<;>intro hc<;>simp only[hc,go_sem])
  ·refine qM rfl ?_;simp only[AV.bool.injEq,wQ,inI];simp at*;omega
  ·have h1:1<=xs.length:=by simp at*;omega
   have h2:xs.length<=600:=by simp at*;omega
   rw[fin h1 h2];refine Sem.loop (λi:Nat=>i<=xs.length/\jd xs 0=jd (xs.drop i) i) (λi=>(⟨[(13,.lst 5 (xs.map qB.enc) false),(14,iI (xs.length:Int)),(15,iI (i:Nat))],[],[]⟩:VSt)) (λi=>xs.length-i) 0 (by kernel_rfl) ⟨nZl _,by simp⟩ csA ?_;rintro i ⟨hi,hI⟩;simp only[go_sem];apply qT<;>intro hc<;>simp only[hc,go_sem]
   ·have hlt:i<xs.length:=by have:=odT hc;omega
    simp only[gMp,gEg hlt,oMs,go_sem];have hs:xs[i].D.length+xs[i].P.length<=qJ qB.sz xs:=jB (f:=qB.sz) (gMm hlt);refine lsA ?_;simp only[go_sem];refine qL (qES (by omega) (by omega)) ?_;simp only[go_sem]
    first | (apply zH<;>intro hc<;>simp only[hc,go_sem]) | (apply qT<;>intro hc<;>simp only[hc,go_sem])
    ·first | (apply zH<;>intro hc<;>simp only[hc,go_sem]) | (apply qT<;>intro hc<;>simp only[hc,go_sem])
     ·refine qM rfl ?_;rw[hI,JX hlt];simp_all[jd]
     ·simp only[wuA (n:=i)];refine qa (i+1) ⟨by omega, ?_⟩ (by omega) csA;rw[hI,JX hlt];simp_all[jd]
    ·refine qM rfl ?_;rw[hI,JX hlt];simp_all[jd]
   ·obtain rfl:i=xs.length:=by have:=odF hc;omega
    refine qM rfl ?_;rw[hI];simp[jd]
 ·refine qM rfl ?_;simp only[AV.bool.injEq,wQ,inI];simp at*;omega
theorem Y2{n:qD}{a s:Nat}(ha:a<n.G.length)(hs:s<n.G[a].P.length):Pure Gm 555 [.ept n.enc 0,qI.enc ⟨(a:Int),(s:Int)⟩] (n.G[a].P[s].enc):=by
 refine pI F555 (by simp[AV.trees,AV.tree,qD.tr,qI.tr]) (by exact qI.tr) ?_;simp only[F555,qN,go_sem];refine qX rfl ?_;simp only[go_sem];simp only[gMp,gEg ha,oMs,go_sem];simp only[gEg hs,oMs,go_sem];refine lsA ?_;simp only[go_sem];refine qM qI.tr ?_;rfl
theorem qI4{xs:List qB}{p:qI}(h:wZ xs p=true):∃a s:Nat,p=⟨a,s⟩/\∃ha:a<xs.length,s<xs[a].P.length:=by
 simp only[wZ,bAt]at h;have e1:=Jz.1 h.1;have e2:=Jz.1 h.2;have ha:p.N.toNat<xs.length:=by omega
 simp only[jH,gEg ha]at e2;refine⟨p.N.toNat,p.S.toNat, ?_,ha,by omega⟩;rw[Int.toNat_of_nonneg e1.1,Int.toNat_of_nonneg e2.1]
theorem c714{xs:List qB}{p:qI}:Pure Gm 714 [.lst 5 (xs.map qB.enc) false,p.enc] (.bool (wZ xs p)):=by
 refine pI F714 (by simp[AV.trees,AV.tree,qY qB.isSh.tree,qI.tr]) rfl ?_;simp only[F714,qN,go_sem];refine qX rfl ?_;simp only[go_sem];have big (h0:0<=p.N) (h1:p.N<xs.length):wZ xs p=(decide (0<=p.S)&&decide (p.S<(jH xs p.N:Int))):=by
  simp only[wZ,inI];rw[Bool.eq_iff_iff];simp;omega
 first | (apply zH<;>intro hc<;>simp only[hc,go_sem]) | (apply qT<;>intro hc<;>simp only[hc,go_sem])
 ·first | (apply zH<;>intro hc<;>simp only[hc,go_sem]) | (apply qT<;>intro hc<;>simp only[hc,go_sem])
  ·first | (apply zH<;>intro hc<;>simp only[hc,go_sem]) | (apply qT<;>intro hc<;>simp only[hc,go_sem])
   ·have h0:0<=p.N:=by simp at*;omega
    have h1:p.N<xs.length:=by simp at*;omega
    have hlt:p.N.toNat<xs.length:=by omega
    rw[Va h0];simp only[gMp,gEg hlt,oMs,go_sem];refine qM rfl ?_;rw[big h0 h1];simp_all[jH]
   ·refine qM rfl ?_;rw[big (by simp at*;omega) (by simp at*;omega)];simp_all
    try (intro h;omega)
  ·refine qM rfl ?_;simp only[wZ,inI,AV.bool.injEq];simp at*;omega
 ·refine qM rfl ?_;simp only[wZ,inI,AV.bool.injEq];simp at*;omega
theorem c713{n:qD}{a s:Nat}(ha:a<n.G.length)(hs:s<n.G[a].P.length):Pure Gm 713 [qI.enc ⟨(a:Int),(s:Int)⟩,.ept n.enc 0] (.bool (!wg n.G ⟨(a:Int),(s:Int)⟩ n.G[a].P[s])):=by
 refine pI F713 (by simp[AV.trees,AV.tree,qD.tr,qI.tr]) rfl ?_;simp only[F713,qN,go_sem];refine qX rfl ?_;simp only[go_sem];refine qL (Y2 ha hs) ?_;simp only[go_sem];refine lsA ?_;simp only[go_sem];obtain⟨q,hq⟩:∃q,q=n.G[a].P[s]:=⟨_,rfl⟩;rw[<-hq]
 first | (apply zH<;>intro hc<;>simp only[hc,go_sem]) | (apply qT<;>intro hc<;>simp only[hc,go_sem])
 ·refine qL c714 ?_;simp only[go_sem]
  first | (apply zH<;>intro hc<;>simp only[hc,go_sem]) | (apply qT<;>intro hc<;>simp only[hc,go_sem])
  ·have hp:wZ n.G q=true:=by simpa using hc
   obtain⟨a2,s2,rfl,ha2,hs2⟩:=qI4 hp;refine qL (Y2 ha2 hs2) ?_;simp only[go_sem];refine qM rfl ?_;simp_all[wg,Jq]
  ·refine qM rfl ?_;simp_all[wg]
 ·refine qM rfl ?_;simp_all[wg]
theorem qC7{α:Type}(f:α->Nat):∀(xs ys:List α),qJ f (xs++ys)=qJ f xs+qJ f ys
 |[],ys=>by simp[qJ]
 | x::xs,ys=>by simp only[lCa,qJ,qC7 f xs ys];omega
theorem qC8{α:Type}(f:α->Nat)(xs:List α)(i:Nat):qJ f (xs.take i)<=qJ f xs:=by
 have:=qC7 f (xs.take i) (xs.drop i);rw[List.take_append_drop]at this;omega
def zi(i k:Nat):List qI:=(List.range k).map λs:Nat=>⟨(i:Int),(s:Int)⟩
theorem YX(i k:Nat):zi i (k+1)=zi i k++[⟨(i:Int),(k:Int)⟩]:=by simp[zi,List.range_succ]
def zB(xs:List qB):Nat->List qI
 | 0=>[]
 | i+1=>zB xs i++zi i (jH xs (i:Int))
theorem Z4(xs:List qB):∀i,i<=xs.length->(zB xs i).length<=qJ qB.sz (xs.take i)
 | 0,_=>nZl _
 | i+1,h=>by
  have:=Z4 xs i (by omega);have hi:i<xs.length:=by omega
  have e:xs.take (i+1)=xs.take i++[xs[i]]:=by simp[List.take_append_getElem]
  have e2:qJ qB.sz (xs.take i++[xs[i]])=qJ qB.sz (xs.take i)+qB.sz xs[i]:=by
   rw[qC7];rfl
  have e3:xs[i].P.length<=qB.sz xs[i]:=by unfold qB.sz;omega
  rw[e,e2];simp[zB,zi,jH,gEg hi];omega
theorem c554{n:qD}(hz:n.sz<=1048576):Pure Gm 554 [.ept n.enc 0] (.lst 2 ((zB n.G n.G.length).map qI.enc) false):=by
 refine pI F554 (by simp[AV.trees,AV.tree,qD.tr]) (by simp[AV.tree,qY qI.isSh.tree]) ?_;simp only[F554,qN,go_sem];unfold qD.sz at hz;refine Sem.loop (λi:Nat=>i<=n.G.length) (λi=>(⟨[(10,.lst 5 (n.G.map qB.enc) false),(11,iI (n.G.length:Int)),(12,iI (i:Nat)),(3,.slice 2 0 0 (zB n.G i).length false)],[],[.row 2 ((zB n.G i).map qI.enc) true]⟩:VSt)) (λi=>n.G.length-i) 0 (by kernel_rfl) (nZl _) (Can.renum [none] rfl ⟨.ph,trivial⟩ ⟨⟨_,rfl,.tree (by simp[AV.tree,qY qB.isSh.tree])⟩,⟨_,rfl,.tree rfl⟩,⟨_,rfl,.tree rfl⟩,⟨_,rfl,.ph rfl⟩,trivial⟩ trivial) ?_;rintro i hi;simp only[go_sem];apply qT<;>intro hc<;>simp only[hc,go_sem]
 ·have hlt:i<n.G.length:=by have:=odT hc;omega
  simp only[gMp,gEg hlt,oMs,go_sem];refine lsA ?_;simp only[go_sem];have e0:zB n.G i++zi i 0=zB n.G i:=by simp[zi]
  have hpl:n.G[i].P.length<=qJ qB.sz n.G:=by
   have h1:qB.sz n.G[i]<=qJ qB.sz n.G:=jB (f:=qB.sz) (gMm hlt);have h2:n.G[i].P.length<=qB.sz n.G[i]:=by unfold qB.sz;omega
   omega
  have htl:=Z4 n.G i (by omega);have htt:=qC8 qB.sz n.G i;refine Sem.loop (λk:Nat=>k<=n.G[i].P.length) (λk=>(⟨[(10,.lst 5 (n.G.map qB.enc) false),(11,iI (n.G.length:Int)),(12,iI (i:Nat)),(4,iI (i:Nat)),(19,iI (n.G[i].P.length:Int)),(20,iI (k:Nat)),(3,.slice 2 0 0 (zB n.G i++zi i k).length false)],[],[.row 2 ((zB n.G i++zi i k).map qI.enc) true]⟩:VSt)) (λk=>n.G[i].P.length-k) 0 (by kernel_rfl) (nZl _) (by simp only[e0];exact csA) ?_;rintro k hk;simp only[go_sem];apply qT<;>intro hc<;>simp only[hc,go_sem]
  ·have hkl:k<n.G[i].P.length:=by have:=odT hc;omega
   refine Zj (el:=(zB n.G i++zi i k).map qI.enc) rfl rfl (by simp) (by simp[zi];omega) ?_;simp only[go_sem];simp only[wuA (n:=k)];refine qa (k+1) (by omega) (by omega) ?_;have e1:zB n.G i++zi i (k+1)=(zB n.G i++zi i k)++[⟨(i:Int),(k:Int)⟩]:=by rw[YX,lAa]
   simp only[e1,lAp,lCo,lNi,nZa];refine Can.renum [some 2] rfl ⟨.row rfl ?_,trivial⟩ ⟨⟨_,rfl,.tree (by simp[AV.tree,qY qB.isSh.tree])⟩,⟨_,rfl,.tree rfl⟩,⟨_,rfl,.tree rfl⟩,⟨_,rfl,.tree rfl⟩,⟨_,rfl,.tree rfl⟩,⟨_,rfl,.tree rfl⟩,⟨_,rfl,.slice rfl⟩,trivial⟩ trivial;have t:=qY qI.isSh.tree ((zB n.G i++zi i k)++[⟨(i:Int),(k:Int)⟩]);rw[lMa]at t;rw[show ((zB n.G i++zi i k)++[(⟨(i:Int),(k:Int)⟩:qI)]).map qI.enc=(zB n.G i++zi i k).map qI.enc++[(⟨(i:Int),(k:Int)⟩:qI)].map qI.enc from lMa];exact VR2s.trees t
  ·obtain rfl:k=n.G[i].P.length:=by have:=odF hc;omega
   simp only[wuA (n:=i)];refine qa (i+1) (by omega) (by omega) ?_;have e2:zB n.G (i+1)=zB n.G i++zi i n.G[i].P.length:=by simp[zB,jH,gEg hlt]
   rw[e2];exact csA
 ·obtain rfl:i=n.G.length:=by have:=odF hc;omega
  refine QD (Cv.row rfl (by simp) (qY qI.isSh.tree _) (by omega))
def qR(xs:List qB)(me:qI):qI:=(Jq xs me).getD ⟨0,0⟩
def YB(xs:List qB)(me:qI):Bool:=wg xs me (qR xs me)
theorem qqF{i k:Nat}{q:qI}:q∈zi i k↔∃s:Nat,s<k/\q=⟨i,s⟩:=by
 simp only[zi,List.mem_map,lMr];constructor
 ·rintro⟨s,h,rfl⟩;exact⟨s,h,rfl⟩
 ·rintro⟨s,h,rfl⟩;exact⟨s,h,rfl⟩
theorem Vt{xs:List qB}{q:qI}:∀{m:Nat},m<=xs.length->(q∈zB xs m↔∃(i:Nat)(hi:i<xs.length),i<m/\∃s:Nat,s<xs[i].P.length/\q=⟨i,s⟩)
 | 0,_=>by simp[zB]
 | m+1,hm=>by
  have hml:m<xs.length:=by omega
  simp only[zB,jA,Vt (xs:=xs) (q:=q) (m:=m) (by omega),qqF,jH,iTn,gEg hml];constructor
  ·rintro(⟨i,hi,h1,h2⟩ | h)
   ·exact⟨i,hi,by omega,h2⟩
   ·exact⟨m,hml,by omega,h⟩
  ·rintro⟨i,hi,h1,h2⟩;by_cases e:i=m
   ·subst e;exact .inr h2
   ·exact .inl ⟨i,hi,by omega,h2⟩
theorem qCI{xs:List qB}{a s:Nat}(ha:a<xs.length)(hs:s<xs[a].P.length):qR xs ⟨a,s⟩=xs[a].P[s]:=by
 simp[qR,Jq,gEg ha,gEg hs]
theorem qK9{xs:List qB}{i:Nat}:∀{qs:List qI}{j:Nat},(∀(m:Nat)(hm:m<qs.length),wg xs ⟨i,(j+m:Nat)⟩ qs[m]=true)->wh xs i qs j=true
 |[],_,_=>rfl
 | q::qs,j,h=>by
  simp only[wh,bAt];refine⟨h 0 (by simp),qK9 λm hm=>?_⟩;have:=h (m+1) (by simp;omega);rw[show j+(m+1)=j+1+m by omega]at this;simpa using this
theorem qH5{xs:List qB}:∀{l:List qB}{i:Nat},(∀(k:Nat)(hk:k<l.length),wh xs (i+k) l[k].P 0=true)->JF xs l i=true
 |[],_,_=>rfl
 | x::l,i,h=>by
  simp only[JF,bAt];refine⟨h 0 (by simp),qH5 λk hk=>?_⟩;have:=h (k+1) (by simp;omega);rw[show i+(k+1)=i+1+k by omega]at this;simpa using this
theorem qrT(xs:List qB):((zB xs xs.length).all (YB xs))=JF xs xs 0:=by
 rw[Bool.eq_iff_iff,lAt];constructor
 ·intro h;refine qH5 λk hk=>qK9 λm hm=>?_;have:=h ⟨k,m⟩ ((Vt (nLr _)).2 ⟨k,hk,hk,m,hm,rfl⟩);rw[YB,qCI hk hm]at this;simpa using this
 ·intro h q hq;obtain⟨i,hi,_,s,hs,rfl⟩:=(Vt (nLr _)).1 hq;rw[YB,qCI hi hs];have:=Um (Vy h i hi) s hs;simpa using this
theorem c319{n:qD}(hz:n.sz<=1048576):Pure Gm 319 [n.enc] (.bool (zM n)):=by
 refine Pure.intro [1] [] (gk _ F319) (by kernel_rfl) rfl (by simp[AV.trees,qD.tr]) rfl ?_;simp only[F319,qN,go_sem];have hz':=hz;unfold qD.sz at hz;have hl:(zB n.G n.G.length).length<=1048576:=by
  have h1:=Z4 n.G n.G.length (nLr _);have h2:=qC8 qB.sz n.G n.G.length;omega
 refine QE rfl ?_;simp only[go_sem,lNa,lSz];refine qL (c711 (by omega)) ?_;simp only[go_sem];apply qT<;>intro hc<;>simp only[hc,go_sem]
 ·refine qM rfl ?_;have:wQ n.G=false:=by simpa using hc
  simp[zM,this]
 ·refine qL (c554 hz') ?_;simp only[go_sem];refine qL (c712 (f:=.fn 713 [.ept n.enc 0]) (λme=> !YB n.G me) (by simp[AV.tree,AV.trees,qD.tr]) _ (λx hx=>?_) hl) ?_
  ·obtain⟨i,hi,_,s,hs,rfl⟩:=(Vt (nLr _)).1 hx;refine⟨713,_,rfl, ?_⟩;have c:=c713 hi hs;rw[YB,qCI hi hs];exact c
  ·simp only[qAD,go_sem];refine qM rfl ?_;have:wQ n.G=true:=by simpa using hc
   rw[qrT];simp[zM,this]
theorem c860{n:qD}(hz:n.sz<=1048576):Pure Gm 860 [n.enc] (.bool (!zM n)):=by
 refine pI F860 (by simp[AV.trees,qD.tr]) rfl ?_;simp only[F860,qN,go_sem];refine qX rfl ?_;simp only[go_sem];refine qL (c319 hz) ?_;simp only[go_sem];exact qM rfl rfl
theorem c505{xs:List qD}(hl:xs.length<=1048576)(hz:∀n∈xs,n.sz<=1048576):Pure Gm 505 [.lst 1 (xs.map qD.enc) false] (.bool (z8 xs)):=by
 refine pI F505 (by simp[AV.trees,AV.tree,qY qD.isSh.tree]) rfl ?_;simp only[F505,qN,go_sem]
 first | (apply zH<;>intro hc<;>simp only[hc,go_sem]) | (apply qT<;>intro hc<;>simp only[hc,go_sem])
 ·refine qL (c859 (f:=.fn 860 []) (λn=> !zM n) rfl xs (λx hx=>⟨860,[],rfl,c860 (hz x hx)⟩) hl) ?_;simp only[qAD,go_sem];refine qM rfl ?_;simp only[z8,AV.bool.injEq];simp at*;omega
 ·refine qM rfl ?_;simp only[z8,AV.bool.injEq];simp at*;omega
abbrev Ags:=List qB
abbrev pt(a s:Nat):qI:=⟨(a:Int),(s:Int)⟩
theorem ZV{a s b t:Nat}:pt a s=pt b t↔a=b/\s=t:=by simp only[pt,qI.mk.injEq];omega
def atP(N:Ags)(a s:Nat):Option qI:=(N[a]?).bind λx=>x.P[s]?
theorem W6{N:Ags}{a s:Nat}{q:qI}(h:atP N a s=some q):qR N (pt a s)=q:=by
 unfold qR Jq atP at*;simp only[pt,iTn];cases hx:N[a]? with
 | none=>simp[hx]at h
 | some x=>simp only[hx,oBs]at h;simp[h]
theorem qrQ{N:Ags}{a s:Nat}:Jq N (pt a s)=atP N a s:=by
 unfold Jq atP;simp only[pt,iTn];cases N[a]?<;>rfl
def YE(k l v:Int)(d:List Int)(n:Nat):qB:=⟨k,l,v,d,List.replicate n ⟨0,0⟩⟩
def Has(N:Ags)(a s:Nat):Prop:=∃q,atP N a s=some q
theorem Q3{N:Ags}{a s:Nat}{q:qI}:atP N a s=some q↔∃x,N[a]?=some x/\x.P[s]?=some q:=by
 unfold atP;simp[Option.bind_eq_some_iff]
theorem wJ{N:Ags}{a s:Nat}:Has N a s↔∃x,N[a]?=some x/\s<x.P.length:=by
 unfold Has;constructor
 ·rintro⟨q,h⟩;obtain⟨x,hx,hq⟩:=Q3.1 h;exact⟨x,hx,(gSi.1 hq).1⟩
 ·rintro⟨x,hx,hs⟩;exact⟨x.P[s],Q3.2 ⟨x,hx,gEg hs⟩⟩
def Q7(x:qB):Int×Int×Int×List Int×Nat:=(x.K,x.L,x.V,x.D,x.P.length)
def W(N:Ags)(X:Nat->Nat->Prop):Prop:=∀a s q,atP N a s=some q->¬X a s->∃b t,q=pt b t/\atP N b t=some (pt a s)/\¬X b t/\¬(b=a/\t=s)
theorem W.live{N:Ags}{X:Nat->Nat->Prop}(h:W N X){a s:Nat}(h1:Has N a s)(x1:¬X a s):∃c k,qR N (pt a s)=pt c k/\atP N a s=some (pt c k)/\Has N c k/\¬X c k/\atP N c k=some (pt a s)/\¬(c=a/\k=s):=by
 obtain⟨q,hq⟩:=h1;obtain⟨b,t,rfl,e2,e3,e4⟩:=h a s q hq x1;exact⟨b,t,W6 hq,hq,⟨_,e2⟩,e3,e2,e4⟩
theorem qlC{N:Ags}{a s:Nat}{q:qI}(h:atP N a s=some q):a<N.length:=by
 obtain⟨x,hx,_⟩:=Q3.1 h;exact(gSi.1 hx).1
theorem qlJ{E:Ev}{d:Option Nat}{w:Nat}{z v:AV}{l:List qG}{ks:List Fr1}{s m:qq}{h:List qA}{e:Env}{Q:qn->VSt->Prop}(hl:v.cells.length=w)(hr:JJ E d (.row w [v] true) (sQ w h.length 1) l ks ⟨s,m,h⟩ Q):Bsl E d w 1 (fil e w (List.replicate 1 z) 0 (some v) []) l ks ⟨s,m,h⟩ Q:=by
 rw[show fil e w (List.replicate 1 z) 0 (some v) []=some [v] by simp[fil,jF,hl,List.replicate],qEN];exact hr
end Go.Ab
