/- Texts Dbg0 .. Dbg26: the abstract machine, its laws and contracts of functions: lemmas for the statement. No condition. -/
import Derived.Test.YtmjjilcgafiafaaGreatP4
set_option linter.unusedSimpArgs false
set_option linter.unusedVariables false
namespace Go.Ab
open Go
structure qI where
 N:Int
 S:Int
deriving DecidableEq
def qI.enc(x:qI):AV:=.agg [iI x.N,iI x.S]
theorem qI.isSh:Sh qI.enc 2 (some 2):=⟨λx=>by simp[qI.enc,AV.tree,AV.trees],λ_=>rfl,λ_=>rfl,by decide,λx=>by simp[qI.enc]⟩
section
variable {x:qI}
@[go_sem] theorem qI.tr:x.enc.tree=true:=qI.isSh.tree x
@[go_sem] theorem qI.ln:x.enc.cells.length=2:=nr rfl
@[go_sem] theorem qI.all:x.enc.part 0 (some 2)=some x.enc:=nr rfl
@[go_sem] theorem qI.cs:x.enc.cells=[iI x.N,iI x.S]:=nr rfl
@[go_sem] theorem qI.p0:x.enc.part 0 none=some (iI x.N):=nr rfl
@[go_sem] theorem qI.p1:x.enc.part 1 none=some (iI x.S):=nr rfl
@[go_sem] theorem qI.eqf{y:qI}:ja false [1,1] (some x.enc) (some y.enc)=some (.bool (decide (x=y))):=by
 obtain⟨a0,a1⟩:=x;obtain⟨b0,b1⟩:=y;simp only[ja,qI.enc,lMc,List.map_nil,dig,and_self,if_true,wZ,Jm,qI.mk.injEq]
 repeat' (split<;>simp_all)
@[go_sem] theorem qI.eqt{y:qI}:ja true [1,1] (some x.enc) (some y.enc)=some (.bool (!decide (x=y))):=by
 have h:=qI.eqf (x:=x) (y:=y);unfold ja at h|-;split<;>simp_all
end
structure qB where
 K:Int
 L:Int
 V:Int
 D:List Int
 P:List qI
def qB.enc(x:qB):AV:=.agg [iI x.K,iI x.L,iI x.V,lQ x.D,.lst 2 (x.P.map qI.enc) false]
theorem qB.isSh:Sh qB.enc 5 (some 5):=⟨λx=>by simp[qB.enc,AV.tree,AV.trees,qb qI.isSh.tree,qb shI.tree],λ_=>rfl,λ_=>rfl,by decide,λx=>by simp[qB.enc]⟩
section
variable {x:qB}
@[go_sem] theorem qB.tr:x.enc.tree=true:=qB.isSh.tree x
@[go_sem] theorem qB.ln:x.enc.cells.length=5:=nr rfl
@[go_sem] theorem qB.all:x.enc.part 0 (some 5)=some x.enc:=nr rfl
@[go_sem] theorem qB.cs:x.enc.cells=[iI x.K,iI x.L,iI x.V,lQ x.D,.lst 2 (x.P.map qI.enc) false]:=nr rfl
@[go_sem] theorem qB.p0:x.enc.part 0 none=some (iI x.K):=nr rfl
@[go_sem] theorem qB.p1:x.enc.part 1 none=some (iI x.L):=nr rfl
@[go_sem] theorem qB.p2:x.enc.part 2 none=some (iI x.V):=nr rfl
@[go_sem] theorem qB.p3:x.enc.part 3 none=some (lQ x.D):=nr rfl
@[go_sem] theorem qB.p4:x.enc.part 4 none=some (.lst 2 (x.P.map qI.enc) false):=nr rfl
end
def qB.sz(x:qB):Nat:=x.D.length+x.P.length
def qB.bd(x:qB):Prop:=x.D.length<=140737488355328/\x.P.length<=140737488355328
structure qD where
 G:List qB
def qD.enc(x:qD):AV:=.agg [.lst 5 (x.G.map qB.enc) false]
theorem qD.isSh:Sh qD.enc 1 (some 1):=⟨λx=>by simp[qD.enc,AV.tree,AV.trees,qb qB.isSh.tree],λ_=>rfl,λ_=>rfl,by decide,λx=>by simp[qD.enc]⟩
section
variable {x:qD}
@[go_sem] theorem qD.tr:x.enc.tree=true:=qD.isSh.tree x
@[go_sem] theorem qD.ln:x.enc.cells.length=1:=nr rfl
@[go_sem] theorem qD.all:x.enc.part 0 (some 1)=some x.enc:=nr rfl
@[go_sem] theorem qD.cs:x.enc.cells=[.lst 5 (x.G.map qB.enc) false]:=nr rfl
@[go_sem] theorem qD.p0:x.enc.part 0 none=some (.lst 5 (x.G.map qB.enc) false):=nr rfl
end
def qD.sz(x:qD):Nat:=(x.G.length+qJ qB.sz x.G)
def qD.bd(x:qD):Prop:=x.G.length<=140737488355328/\(∀y∈x.G,qB.bd y)
structure qU where
 Step:Int
 Def:Int
 Source:Int
deriving DecidableEq
def qU.enc(x:qU):AV:=.agg [iI x.Step,iI x.Def,iI x.Source]
theorem qU.isSh:Sh qU.enc 3 (some 3):=⟨λx=>by simp[qU.enc,AV.tree,AV.trees],λ_=>rfl,λ_=>rfl,by decide,λx=>by simp[qU.enc]⟩
section
variable {x:qU}
@[go_sem] theorem qU.tr:x.enc.tree=true:=qU.isSh.tree x
@[go_sem] theorem qU.ln:x.enc.cells.length=3:=nr rfl
@[go_sem] theorem qU.all:x.enc.part 0 (some 3)=some x.enc:=nr rfl
@[go_sem] theorem qU.cs:x.enc.cells=[iI x.Step,iI x.Def,iI x.Source]:=nr rfl
@[go_sem] theorem qU.p0:x.enc.part 0 none=some (iI x.Step):=nr rfl
@[go_sem] theorem qU.p1:x.enc.part 1 none=some (iI x.Def):=nr rfl
@[go_sem] theorem qU.p2:x.enc.part 2 none=some (iI x.Source):=nr rfl
@[go_sem] theorem qU.eqf{y:qU}:ja false [1,1,1] (some x.enc) (some y.enc)=some (.bool (decide (x=y))):=by
 obtain⟨a0,a1,a2⟩:=x;obtain⟨b0,b1,b2⟩:=y;simp only[ja,qU.enc,lMc,List.map_nil,dig,and_self,if_true,wZ,Jm,qU.mk.injEq]
 repeat' (split<;>simp_all)
@[go_sem] theorem qU.eqt{y:qU}:ja true [1,1,1] (some x.enc) (some y.enc)=some (.bool (!decide (x=y))):=by
 have h:=qU.eqf (x:=x) (y:=y);unfold ja at h|-;split<;>simp_all
end
structure qf where
 K:Int
 V:Int
deriving DecidableEq
def qf.enc(x:qf):AV:=.agg [iI x.K,iI x.V]
theorem qf.isSh:Sh qf.enc 2 (some 2):=⟨λx=>by simp[qf.enc,AV.tree,AV.trees],λ_=>rfl,λ_=>rfl,by decide,λx=>by simp[qf.enc]⟩
section
variable {x:qf}
@[go_sem] theorem qf.tr:x.enc.tree=true:=qf.isSh.tree x
@[go_sem] theorem qf.ln:x.enc.cells.length=2:=nr rfl
@[go_sem] theorem qf.all:x.enc.part 0 (some 2)=some x.enc:=nr rfl
@[go_sem] theorem qf.cs:x.enc.cells=[iI x.K,iI x.V]:=nr rfl
@[go_sem] theorem qf.p0:x.enc.part 0 none=some (iI x.K):=nr rfl
@[go_sem] theorem qf.p1:x.enc.part 1 none=some (iI x.V):=nr rfl
@[go_sem] theorem qf.eqf{y:qf}:ja false [1,1] (some x.enc) (some y.enc)=some (.bool (decide (x=y))):=by
 obtain⟨a0,a1⟩:=x;obtain⟨b0,b1⟩:=y;simp only[ja,qf.enc,lMc,List.map_nil,dig,and_self,if_true,wZ,Jm,qf.mk.injEq]
 repeat' (split<;>simp_all)
@[go_sem] theorem qf.eqt{y:qf}:ja true [1,1] (some x.enc) (some y.enc)=some (.bool (!decide (x=y))):=by
 have h:=qf.eqf (x:=x) (y:=y);unfold ja at h|-;split<;>simp_all
end
structure qj where
 I:Int
 Net:qD
 Origins:List qU
def qj.enc(x:qj):AV:=.agg [iI x.I,.lst 5 (x.Net.G.map qB.enc) false,.lst 3 (x.Origins.map qU.enc) false]
theorem qj.isSh:Sh qj.enc 3 (some 3):=⟨λx=>by simp[qj.enc,AV.tree,AV.trees,qb qB.isSh.tree,qb qU.isSh.tree],λ_=>rfl,λ_=>rfl,by decide,λx=>by simp[qj.enc]⟩
section
variable {x:qj}
@[go_sem] theorem qj.tr:x.enc.tree=true:=qj.isSh.tree x
@[go_sem] theorem qj.ln:x.enc.cells.length=3:=nr rfl
@[go_sem] theorem qj.all:x.enc.part 0 (some 3)=some x.enc:=nr rfl
@[go_sem] theorem qj.cs:x.enc.cells=[iI x.I,.lst 5 (x.Net.G.map qB.enc) false,.lst 3 (x.Origins.map qU.enc) false]:=nr rfl
@[go_sem] theorem qj.p0:x.enc.part 0 none=some (iI x.I):=nr rfl
@[go_sem] theorem qj.p1:x.enc.part 1 none=some (.lst 5 (x.Net.G.map qB.enc) false):=nr rfl
@[go_sem] theorem qj.p2:x.enc.part 2 none=some (.lst 3 (x.Origins.map qU.enc) false):=nr rfl
end
def qj.sz(x:qj):Nat:=qD.sz x.Net+x.Origins.length
def qj.bd(x:qj):Prop:=qD.bd x.Net/\x.Origins.length<=140737488355328
structure zF where
 Y:List qD
 Q:List Int
 Every:Int
 I:Int
 Net:qD
 Origins:List qU
 Breaks:List qf
 Points:List qj
def zF.enc(x:zF):AV:=.agg [.lst 1 (x.Y.map qD.enc) false,lQ x.Q,iI x.Every,iI x.I,.lst 5 (x.Net.G.map qB.enc) false,.lst 3 (x.Origins.map qU.enc) false,.lst 2 (x.Breaks.map qf.enc) false,.lst 3 (x.Points.map qj.enc) false]
theorem zF.isSh:Sh zF.enc 8 (some 8):=⟨λx=>by simp[zF.enc,AV.tree,AV.trees,qb qB.isSh.tree,qb qf.isSh.tree,qb qj.isSh.tree,qb qD.isSh.tree,qb qU.isSh.tree,qb shI.tree],λ_=>rfl,λ_=>rfl,by decide,λx=>by simp[zF.enc]⟩
section
variable {x:zF}
@[go_sem] theorem zF.tr:x.enc.tree=true:=zF.isSh.tree x
@[go_sem] theorem zF.ln:x.enc.cells.length=8:=nr rfl
@[go_sem] theorem zF.all:x.enc.part 0 (some 8)=some x.enc:=nr rfl
@[go_sem] theorem zF.cs:x.enc.cells=[.lst 1 (x.Y.map qD.enc) false,lQ x.Q,iI x.Every,iI x.I,.lst 5 (x.Net.G.map qB.enc) false,.lst 3 (x.Origins.map qU.enc) false,.lst 2 (x.Breaks.map qf.enc) false,.lst 3 (x.Points.map qj.enc) false]:=nr rfl
@[go_sem] theorem zF.p0:x.enc.part 0 none=some (.lst 1 (x.Y.map qD.enc) false):=nr rfl
@[go_sem] theorem zF.p1:x.enc.part 1 none=some (lQ x.Q):=nr rfl
@[go_sem] theorem zF.p2:x.enc.part 2 none=some (iI x.Every):=nr rfl
@[go_sem] theorem zF.p3:x.enc.part 3 none=some (iI x.I):=nr rfl
@[go_sem] theorem zF.p4:x.enc.part 4 none=some (.lst 5 (x.Net.G.map qB.enc) false):=nr rfl
end
def zF.sz(x:zF):Nat:=(x.Y.length+qJ qD.sz x.Y)+x.Q.length+qD.sz x.Net+x.Origins.length+x.Breaks.length+(x.Points.length+qJ qj.sz x.Points)
def zF.bd(x:zF):Prop:=x.Y.length<=140737488355328/\(∀y∈x.Y,qD.bd y)/\x.Q.length<=140737488355328/\qD.bd x.Net/\x.Origins.length<=140737488355328/\x.Breaks.length<=140737488355328/\x.Points.length<=140737488355328/\(∀y∈x.Points,qj.bd y)
set_option maxRecDepth 10000
def nx(e:Nat):qG->Nat
 |.mk _ (some d) _ _ _=>d
 | _=>e
def bP:Nat->Nat->List (Nat->Nat->qG)->List qG
 | _,_,[]=>[]
 | i,e,f::l=>f i e::bP (i+1) (nx e (f i e)) l
abbrev bO(e:Nat)(l:List (Nat->Nat->qG)):List qG:=bP 0 e l
@[go_sem] theorem nx_s{a b d:Nat}{g o c}:nx a (.mk b (some d) g o c)=d:=nr rfl
@[go_sem] theorem nx_n{a b:Nat}{g o c}:nx a (.mk b none g o c)=a:=nr rfl
@[go_sem] theorem bP_n{i d:Nat}:bP i d []=[]:=nr rfl
@[go_sem] theorem bP_c{i d:Nat}{f l}:bP i d (f::l)=f i d::bP (i+1) (nx d (f i d)) l:=nr rfl
abbrev sK:qP:=.skip
abbrev cD(k:Nat)(a b:qP):qP:=.cond (.t k) a b
abbrev rg(l:List qG):qP:=.reg true l
abbrev rB(e:Nat)(l:List (Nat->Nat->qG)):qP:=.reg true (bO e l)
abbrev sr(l:List qG)(c:qP):qP:=.seq (.reg true l) c
abbrev sB(e:Nat)(l:List (Nat->Nat->qG))(c:qP):qP:=.seq (.reg true (bO e l)) c
abbrev uA(x:AOp)(i e:Nat):qG:=.mk i (some (e+1)) none x []
abbrev uB(x:AOp)(i _:Nat):qG:=.mk i none none x []
abbrev uC(d:Nat)(f:Nat->Nat->qG)(i _:Nat):qG:=f i d
abbrev uD(i:Nat)(f:Nat->Nat->qG)(_ d:Nat):qG:=f i d
def sG(k:Nat)(b:Bool):qG->qG
 |.mk i d _ o c=>.mk i d (some (k,b)) o c
@[go_sem] theorem sG_q{k b i d g o c}:sG k b (.mk i d g o c)=.mk i d (some (k,b)) o c:=nr rfl
def uE(k:Nat)(f:Nat->Nat->qG)(i d:Nat):qG:=sG k true (f i d)
@[go_sem] theorem uE_q{k f i d}:uE k f i d=sG k true (f i d):=nr rfl
def uF(k:Nat)(f:Nat->Nat->qG)(i d:Nat):qG:=sG k false (f i d)
@[go_sem] theorem uF_q{k f i d}:uF k f i d=sG k false (f i d):=nr rfl
def sC(l:List qG):qG->qG
 |.mk i d g o _=>.mk i d g o l
@[go_sem] theorem sC_q{l i d g o c}:sC l (.mk i d g o c)=.mk i d g o l:=nr rfl
def uG(l:List qG)(f:Nat->Nat->qG)(i d:Nat):qG:=sC l (f i d)
@[go_sem] theorem uG_q{l f i d}:uG l f i d=sC l (f i d):=nr rfl
abbrev uH(d t i _e:Nat):qG:=.mk i (some d) none (.mov (.t t)) []
abbrev wd(x:AOp)(i e:Nat):qG:=.mk i (some (e+1)) none x []
abbrev wn(x:AOp)(i _e:Nat):qG:=.mk i none none x []
abbrev uL(x0:Nat):=wd (.nop x0)
abbrev uM(x0 x1:Nat):=wd (.lload x0 x1 none)
abbrev uI(x0:Nat):=wd (.mov (.t x0))
abbrev uV(x0 x1:Nat)(i e:Nat):=wd (.call x0 [.t x1,.t e]) i e
abbrev uN(x0:Int):=wd (.mov (.c (iI x0)))
abbrev ud(x0 x1:Nat):=wd (.lbox x0 (.t x1))
abbrev uP(i e:Nat):=wd (.mov (.t e)) i e
abbrev uZ(x0:Nat)(i e:Nat):=wd (.pick (.t x0) (.t e) (.c (.bool false))) i e
abbrev uU:=wd (.mov (.c (.bool false)))
abbrev uS(i e:Nat):=wd (.len (.t e)) i e
abbrev uT(x0 x1:Nat)(i e:Nat):=wd (.iaddr x0 (.t x1) (.t e)) i e
abbrev uK(x0:Nat)(i e:Nat):=wd (.faddr x0 (.t e)) i e
abbrev uJ(i e:Nat):=wd (.load none (.t e)) i e
abbrev ua(x0:Nat)(x1:Int):=wd (.bin .eql (.t x0) (.c (iI x1)))
abbrev uW(x0:Int)(i e:Nat):=wd (.bin .eql (.t e) (.c (iI x0))) i e
abbrev uO(i e:Nat):=wd (.nilchk (.t e)) i e
abbrev uz:=wd (.mov (.c (.bool true)))
abbrev uQ(x0:Nat)(i e:Nat):=wd (.call x0 [.t e]) i e
abbrev uq(x0:Nat)(x1:Int)(i e:Nat):=wd (.iaddr x0 (.t e) (.c (iI x1))) i e
abbrev uk(x0:Nat)(i e:Nat):=wd (.pick (.t x0) (.c (.bool true)) (.t e)) i e
abbrev uc(i e:Nat):=wd (.not (.t e)) i e
abbrev un(x0:Nat)(i e:Nat):=wd (.bin .lss (.t x0) (.t e)) i e
abbrev ub(x0:Int)(i e:Nat):=wd (.bin .add (.t e) (.c (iI x0))) i e
abbrev vI(x0 x1 x2 x3 x4 x5:Nat):=wd (.build (.agg [iI 0,iI 0]) [(x0,x1,.t x2),(x3,x4,.t x5)])
abbrev ui:=wd (.lalloc (.agg [iI 0,iI 0]))
abbrev uX(x0 x1 x2 x3:Nat):=wn (.lstore x0 x1 x2 (.t x3))
abbrev uY(x0:Nat)(i e:Nat):=wd (.load (some x0) (.t e)) i e
abbrev uR(x0 x1 x2:Nat):=wd (.lload x0 x1 (some x2))
abbrev u5(x0 x1 x2 x3:Nat):=wd (.bslice x0 (.agg [iI 0,iI 0]) x1 [(x2,.t x3)])
abbrev uo(x0 x1:Nat)(i e:Nat):=wd (.app x0 (.t x1) (.t e)) i e
abbrev vC(x0:Nat):=wd (.mov (.c (.lst x0 [] true)))
abbrev ur:=wd (.mov (.c (.nils)))
abbrev ug(x0 x1 x2:Nat)(i e:Nat):=wn (.lstore x0 x1 x2 (.t e)) i e
abbrev uu:=wd (.lalloc (.agg [iI 0,iI 0,iI 0,.nils,.nils]))
abbrev vH:=wd (.lalloc (.agg [.nils]))
abbrev uf(x0 x1 x2:Nat):=wd (.iaddr x0 (.t x1) (.t x2))
abbrev ux(x0:Nat)(i e:Nat):=wd (.bin .lss (.t e) (.t x0)) i e
abbrev uw(x0:Nat)(x1:Int):=wd (.bin .add (.t x0) (.c (iI x1)))
abbrev ut(x0:Nat)(i e:Nat):=wd (.bin .neq (.t x0) (.t e)) i e
abbrev uv(x0 x1:Nat):=wd (.faddr x0 (.t x1))
abbrev vK(x0 x1:Nat):=wd (.call x0 [.t x1])
abbrev uj(x0 x1:Nat):=wd (.ext (.t x0) x1)
abbrev vU(x0 x1 x2 x3:Nat):=wd (.bslice x0 (.agg [iI 0,iI 0,iI 0,.nils,.nils]) x1 [(x2,.t x3)])
abbrev ue(x0 x1:Nat)(i e:Nat):=wn (.store x0 (.t e) (.t x1)) i e
abbrev vF(x0:Nat):=wd (.nilchk (.t x0))
abbrev u9(x0 x1 x2 x3 x4 x5:Nat):=wd (.build (.agg [iI 0,iI 0,iI 0,iI 0]) [(x0,x1,.t x2),(x3,x4,.t x5)])
abbrev vE(x0 x1 x2 x3:Nat):=wd (.bslice x0 (.agg [iI 0,iI 0,iI 0,iI 0]) x1 [(x2,.t x3)])
abbrev vL(x0 x1:Nat)(x2:Int):=wd (.build (.agg [iI 0,iI 0,iI 0,.nils,.nils]) [(x0,x1,.c (iI x2))])
abbrev vG(x0 x1:Nat)(x2:Int)(x3 x4 x5:Nat):=wd (.build (.agg [iI 0,iI 0]) [(x0,x1,.c (iI x2)),(x3,x4,.t x5)])
abbrev vV(x0 x1 x2 x3 x4 x5 x6 x7 x8 x9 x10 x11:Nat):=wd (.build (.agg [iI 0,iI 0,iI 0,.nils,.nils]) [(x0,x1,.t x2),(x3,x4,.t x5),(x6,x7,.t x8),(x9,x10,.t x11)])
abbrev vJ:=wd (.build (.agg [iI 0,iI 0]) [])
abbrev vN(x0:Nat)(x1:Int)(x2 x3 x4:Nat):=wd (.bslice x0 (iI x1) x2 [(x3,.t x4)])
abbrev vM(x0 x1 x2 x3 x4 x5 x6 x7 x8 x9 x10 x11 x12 x13 x14:Nat):=wd (.build (.agg [iI 0,iI 0,iI 0,.nils,.nils]) [(x0,x1,.t x2),(x3,x4,.t x5),(x6,x7,.t x8),(x9,x10,.t x11),(x12,x13,.t x14)])
abbrev vP(x0:Nat):=wd (.halloc x0 (.agg [iI 0,iI 0,iI 0,.nils,.nils]))
abbrev vR(x0 x1 x2 x3 x4 x5:Nat):=wd (.bslice x0 (.agg [iI 0,iI 0,iI 0,iI 0]) x1 [(x2,.t x3),(x4,.t x5)])
abbrev vd(x0 x1:Nat)(x2:Int)(x3 x4 x5:Nat):=wd (.build (.agg [iI 0,iI 0,iI 0,.nils,.nils]) [(x0,x1,.c (iI x2)),(x3,x4,.t x5)])
abbrev vS(x0 x1 x2 x3 x4 x5:Nat):=wd (.bslice x0 (.agg [iI 0,iI 0]) x1 [(x2,.t x3),(x4,.t x5)])
abbrev vT(x0 x1:Nat)(x2:Int)(x3 x4 x5 x6 x7 x8:Nat):=wd (.build (.agg [iI 0,iI 0,iI 0,.nils,.nils]) [(x0,x1,.c (iI x2)),(x3,x4,.t x5),(x6,x7,.t x8)])
abbrev va(x0 x1:Nat)(x2:Int)(x3 x4 x5 x6 x7 x8 x9 x10 x11 x12 x13 x14:Nat):=wd (.build (.agg [iI 0,iI 0,iI 0,.nils,.nils]) [(x0,x1,.c (iI x2)),(x3,x4,.t x5),(x6,x7,.t x8),(x9,x10,.t x11),(x12,x13,.t x14)])
abbrev uy(x0:Nat):=wd (.load none (.t x0))
abbrev vQ(x0 x1:Nat):=wd (.hbox x0 (.t x1))
abbrev vD:=wd (.lalloc (.agg [.nils,iI 0,iI 0,iI 0,.nils]))
abbrev vY(x0:Nat):=wd (.halloc x0 (.agg [.nils]))
abbrev vX(x0 x1:Nat)(x2:Int)(x3 x4:Nat)(x5:Int):=wd (.build (.agg [iI 0,iI 0]) [(x0,x1,.c (iI x2)),(x3,x4,.c (iI x5))])
abbrev vO:=wd (.build (.agg [.nils,iI 0,iI 0,iI 0,.nils]) [])
abbrev vZ:=wd (.mov (.c (.nilp)))
abbrev v8(x0 x1 x2 x3:Nat):=wd (.call x0 [.t x1,.t x2,.t x3])
abbrev vu(x0:Nat)(x1:Int):=wd (.bin .neq (.t x0) (.c (iI x1)))
abbrev vt(x0:Nat)(x1:Int):=wd (.bin .lss (.t x0) (.c (iI x1)))
abbrev vv(x0:Nat)(x1:Int):=wd (.bin .sub (.t x0) (.c (iI x1)))
abbrev vj(x0:Nat)(x1:Int):=wd (.bin .gtr (.t x0) (.c (iI x1)))
abbrev v7(x0 x1 x2 x3 x4:Nat):=wd (.call x0 [.t x1,.t x2,.t x3,.t x4])
abbrev vh(x0:Nat)(x1:Int):=wd (.bin .geq (.t x0) (.c (iI x1)))
abbrev vz(x0 x1:Nat)(x2 x3:Int):=wd (.call x0 [.t x1,.c (iI x2),.c (iI x3)])
abbrev vf(x0 x1:Nat):=wd (.bin .add (.t x0) (.t x1))
abbrev vg(x0 x1:Nat):=wd (.bin .eql (.t x0) (.t x1))
abbrev vk(x0 x1:Nat):=wd (.bin .gtr (.t x0) (.t x1))
abbrev vp(x0:Nat)(x1:Int):=wd (.bin .leq (.t x0) (.c (iI x1)))
abbrev v5(x0 x1:Nat)(x2:Int)(x3:Nat):=wd (.call x0 [.t x1,.c (iI x2),.t x3])
abbrev vi(x0 x1:Nat):=wd (.bin .geq (.t x0) (.t x1))
abbrev ve(x0:Int)(x1:Nat):=wd (.bin .add (.c (iI x0)) (.t x1))
abbrev UF(x0 x1 x2 x3:Nat):=wd (.seq false [x0,x1] (.t x2) (.t x3))
abbrev UC(x0 x1:Nat):=wd (.isnil x0 false (.t x1))
abbrev UE(x0 x1 x2:Nat):=wd (.mksl x0 (.agg [iI 0,iI 0]) (.t x1) (.t x2))
abbrev vx(x0 x1:Nat):=wd (.bin .sub (.t x0) (.t x1))
abbrev UD(x0:Nat)(x1:Int)(x2:Nat):=wd (.mksl x0 (.agg [iI 0,iI 0,iI 0,.nils,.nils]) (.c (iI x1)) (.t x2))
def F338:qK:=Wz
def qDT:qK:=Wz
abbrev qe0:=bO 4 [uL 2,uM 2 3,uI 1,uV 338 6,uH 1 8]
abbrev qe1:=bO 10 [uL 2,uM 2 4,uI 1,uV 1173 12,uH 1 14]
abbrev qeZ:=sr qe1 (.seq (sB 14 [uI 1,vt 15 0] (cD 16 (sr [uN (-1) 0 3] .ret) sK)) (sB 16 [uI 1,uH 4 17] .ret))
def F852:qK:=⟨2,18,[.t 4],sB 1 [ud 5 0,uC 3 (uN 0)] (sr qe0 (.seq (sB 8 [uI 1,vt 9 0] (cD 10 (sr [uN (-1) 0 3] .ret) sK)) qeZ))⟩
def F501:qK:=szS 5 (some 5) 852
abbrev qX6:=bO 4 [uL 2,uM 2 0,uI 1,uV 501 6,uH 1 8]
abbrev qX5:=sr qX6 (.seq (sB 8 [uI 1,vt 9 0] (cD 10 (sr [uN (-1) 0 3] .ret) sK)) (sB 10 [uI 1,uH 4 11] .ret))
def K7:qK:=⟨2,12,[.t 4],sB 1 [ud 1 0,uC 3 (uN 0)] qX5⟩
def F181:qK:=szS 1 (some 1) 182
abbrev qZR:=bO 6 [uI 0,uI 1,vi 7 8,uP,uE 10 (uI 0),uE 10 (uI 2),uE 10 (uA (.bin .leq (.t 11) (.t 12))),uZ 10,uH 6 14]
def kK:qK:=⟨3,15,[.t 6],sr [uU 0 5] (sr qZR .ret)⟩
abbrev qbC:=bO 4 [uL 3,uM 3 0,uI 0,uS,vv 8 1,v5 340 6 0 9,uP,uE 11 (uL 3),uE 11 (uM 3 1),uE 11 (uI 0),uE 11 (uL 3),uE 11 (uM 3 0),uE 11 (uT 5 14),uE 11 (uK 4),uE 11 uJ,uE 11 uS,uE 11 (vv 20 1),uE 11 (v5 340 13 0 21),uZ 11,uH 4 23]
def kN:qK:=⟨2,24,[.t 4],sB 2 [ud 2 1,uU] (sr qbC .ret)⟩
abbrev qVO:qP:=.seq (sB 6 [uI 1,vz 340 7 0 3] (cD 8 (sB 8 [uI 1,ve 1 9,uH 4 10] .ret) sK)) (sr [uN 0 0 3] .ret)
abbrev qVP:=sB 15 [ua 13 5,uH 14 16] (cD 14 sK (sB 16 [ua 13 6,uH 14 17] (cD 14 sK (rB 17 [ua 13 12,uH 14 18]))))
abbrev qVQ:=sB 19 [ua 13 8,uH 19 20] (cD 19 sK (sB 20 [ua 13 10,uH 19 21] (cD 19 sK (rB 21 [ua 13 11,uH 19 22]))))
abbrev qVR:=sB 24 [ua 13 3,uH 23 25] (cD 23 sK (sB 25 [ua 13 4,uH 23 26] (cD 23 sK (rB 26 [ua 13 7,uH 23 27]))))
abbrev qVS:=cD 14 (sr [uN 1 0 3] .ret) (.seq qVQ (cD 19 (sr [uN 2 0 3] .ret) (.seq (sB 23 [ua 13 2,uH 23 24] (cD 23 sK qVR)) (cD 23 (sr [uN 3 0 3] .ret) sK))))
abbrev qVT:qP:=.seq (sB 10 [uI 1,vu 11 0] (cD 12 (sr [uN 0 0 3] .ret) sK)) (.seq (sr [uI 0 0 12] (.blk 0 (.seq (sB 14 [ua 13 1,uH 14 15] (cD 14 sK qVP)) qVS))) (sr [uN 0 0 3] .ret))
def KX:qK:=⟨2,28,[.t 4],sr [uN 0 0 3] (.seq (sB 4 [uI 0,uW 9] (cD 6 qVO sK)) qVT)⟩
abbrev qVZ:=bO 2 [uI 0,uO,uK 0,uJ,uW 9]
abbrev qV0:=bO 7 [uI 0,uO,uK 4,uJ,uS,vv 12 1,uH 2 13]
def Ka:qK:=⟨1,14,[.t 2],sr [uN 0 0 1] (.seq (sr qVZ (cD 7 (sr qV0 .ret) sK)) (sr [uN 0 0 1] .ret))⟩
abbrev qVU:=sB 10 [ua 3 10,uH 4 11] (cD 4 sK (sB 11 [ua 3 11,uH 4 12] (cD 4 sK (rB 12 [ua 3 12,uH 4 13]))))
abbrev qVV:=sB 7 [ua 3 7,uH 4 8] (cD 4 sK (sB 8 [ua 3 8,uH 4 9] (cD 4 sK (sB 9 [ua 3 9,uH 4 10] (cD 4 sK qVU)))))
abbrev qVW:=sB 4 [ua 3 2,uH 4 5] (cD 4 sK (sB 5 [ua 3 3,uH 4 6] (cD 4 sK (sB 6 [ua 3 4,uH 4 7] (cD 4 sK qVV)))))
def KY:qK:=⟨1,14,[.t 2],sr [uU 0 1] (.seq (sr [uI 0 0 2] (.blk 0 (.seq qVW (cD 4 (sr [uz 0 1] .ret) sK)))) (sr [uU 0 1] .ret))⟩
def Kx:qK:=⟨1,5,[.t 2],sr [uU 0 1] (sB 2 [uI 0,vz 340 3 1 12,uH 2 4] .ret)⟩
abbrev qV1:=bO 8 [uI 0,uQ 1489,uP,uE 11 (uI 1),uE 11 (uW 0),uZ 11,uH 4 14]
def Kb:qK:=⟨2,15,[.t 4],sr [uU 0 3] (.seq (sB 4 [uI 0,uQ 1372] (cD 6 (sB 6 [uI 1,vz 340 7 0 8,uH 4 8] .ret) sK)) (sr qV1 .ret))⟩
def Ky:qK:=⟨1,5,[.t 2],sr [uU 0 1] (sB 2 [uI 0,vz 340 3 0 23,uH 2 4] .ret)⟩
abbrev qV6:=bO 3 [uI 0,uO,uK 0,uJ]
abbrev qV7:=bO 9 [uI 0,uO,uK 3,uJ,uS,uW 0,uP,uE 16 (uI 0),uE 16 uO,uE 16 (uK 2),uE 16 uJ,uE 16 (vz 340 20 (-2147483648) 2147483647),uZ 16,uH 2 22]
abbrev qV9:=bO 24 [uI 0,uO,uK 3,uJ,uS,uW 0,uP,uE 31 (uI 0),uE 31 uO,uE 31 (uK 2),uE 31 uJ,uE 31 (vz 340 35 1 6),uZ 31,uH 2 37]
abbrev qWA:=bO 39 [uI 0,uO,uK 3,uJ,uS,uW 1,uP,uE 46 (uI 0),uE 46 uO,uE 46 (uK 2),uE 46 uJ,uE 46 (vz 340 50 1 6),uZ 46,uP,uE 53 (uI 0),uE 53 uO,uE 53 (uK 3),uE 53 uJ,uE 53 (uq 1 0),uE 53 uJ,uE 53 (vz 340 59 (-2147483648) 2147483647),uZ 53,uH 2 61]
abbrev qWB:=bO 63 [uI 0,uO,uK 3,uJ,uS,uW 0,uP,uE 70 (uI 0),uE 70 uO,uE 70 (uK 2),uE 70 uJ,uE 70 (vz 340 74 0 3),uZ 70,uH 2 76]
abbrev qWC:=bO 78 [uI 0,uO,uK 3,uJ,uS,uW 0,uP,uE 85 (uI 0),uE 85 uO,uE 85 (uK 2),uE 85 uJ,uE 85 (uQ 1494),uZ 85,uH 2 91]
abbrev qWD:=bO 94 [uI 0,uO,uK 2,uJ,vu 98 0,uP,uF 100 (uI 0),uF 100 uO,uF 100 (uK 0),uF 100 uJ,uF 100 (uW 11),uF 100 uP,uE 106 (uI 0),uE 106 uO,uE 106 (uK 3),uE 106 uJ,uE 106 uS,uE 106 (vu 111 2),uF 100 (uZ 106),uk 100,uP,uF 115 (uI 0),uF 115 uO,uF 115 (uK 0),uF 115 uJ,uF 115 (uW 10),uF 115 uP,uE 121 (uI 0),uE 121 uO,uE 121 (uK 3),uE 121 uJ,uE 121 uS,uE 121 (vz 340 126 1 4),uE 121 uc,uF 115 (uZ 121),uk 115]
abbrev qWE:=bO 130 [uI 3,uI 0,uO,uK 3,uJ,uS,un 131]
abbrev qWF:=bO 139 [uI 0,uO,uK 3,uJ,uI 3,uT 1 143,uJ,uQ 1494,uc]
abbrev qV5:qP:=.loop (.seq (sr qWE (cD 137 sK (.exit 1))) (.seq (.blk 2 (sr qWF (cD 148 (sr [uU 0 1] .ret) sK))) (rB 137 [uI 3,ub 1,uH 3 139])))
abbrev qV2:qP:=.seq (sB 92 [ua 7 10,uH 92 93] (cD 92 sK (rB 93 [ua 7 11,uH 92 94]))) (cD 92 (.seq (sr qWD (cD 130 (sr [uU 0 1] .ret) sK)) (.seq (sr [uN 0 0 2] (.blk 1 qV5)) (sr [uz 0 1] .ret))) sK)
abbrev qV3:=cD 38 (sr qWA .ret) (sB 62 [ua 7 9,uH 62 63] (cD 62 (sr qWB .ret) (sB 77 [ua 7 12,uH 77 78] (cD 77 (sr qWC .ret) qV2))))
abbrev qV4:=sB 8 [ua 7 6,uH 8 9] (cD 8 (sr qV7 .ret) (sB 23 [ua 7 7,uH 23 24] (cD 23 (sr qV9 .ret) (sB 38 [ua 7 8,uH 38 39] qV3))))
abbrev qV8:=bO 148 [uI 0,uO,uK 2,uJ,uW 0,uP,uE 154 (uI 0),uE 154 uO,uE 154 (uK 3),uE 154 uJ,uE 154 uS,uE 154 (uW 0),uZ 154,uH 2 161]
def Kc:qK:=⟨1,162,[.t 2],sr [uU 0 1] (.seq (sr qV6 (.blk 0 qV4)) (sr qV8 .ret))⟩
abbrev qMD:=bO 3 [uI 0,uO,uK 0,uJ,uI 0,uG [uJ 3 6] (uQ 1384),uV 1371 7,uH 3 10]
abbrev qME:=bO 10 [uI 3,vj 11 0,uP,uE 13 (uI 0),uE 13 uO,uE 13 (uK 4),uE 13 uJ,uE 13 uS,uE 13 (uI 3),uE 13 (vg 18 19),uZ 13,uP,uE 22 (uI 0),uE 22 uO,uE 22 (uK 0),uE 22 uJ,uE 22 (uI 0),uE 22 uO,uE 22 (uK 1),uE 22 uJ,uE 22 (uV 1385 26),uZ 22,uP,uE 33 (uI 0),uE 33 (uQ 1386),uZ 33,uH 2 36]
def Ue:qK:=⟨1,37,[.t 2],sr [uU 0 1] (sr qMD (sr qME .ret))⟩
abbrev qdT:=bO 3 [uI 0,uS,vz 340 5 1 600,uc]
abbrev qdU:=bO 7 [uI 3,uI 0,uS,un 8]
abbrev qdV:=bO 13 [uI 0,uI 3,uT 5 14,uQ 1096,uc,uP,uF 19 (uI 0),uF 19 (uI 3),uF 19 (uT 5 20),uF 19 (uK 0),uF 19 uJ,uF 19 (uW 1),uF 19 (uI 3),uF 19 (uW 0),uF 19 (uA (.beq true (.t 25) (.t 27))),uk 19]
abbrev qdS:qP:=.loop (.seq (sr qdU (cD 11 sK (.exit 0))) (.seq (.blk 1 (sr qdV (cD 29 (sr [uU 0 1] .ret) sK))) (rB 11 [uI 3,ub 1,uH 3 13])))
def F710:qK:=⟨1,30,[.t 2],sr [uU 0 1] (.seq (sr qdT (cD 7 (sr [uU 0 1] .ret) sK)) (.seq (sr [uN 0 0 2] (.blk 0 qdS)) (sr [uz 0 1] .ret)))⟩
abbrev qZI:=bO 7 [uI 0,uO,uK 0,uJ,uQ 710,uc]
abbrev qZJ:=bO 13 [uI 3,uI 0,uO,uK 0,uJ,uS,un 14]
abbrev qZK:=bO 22 [uI 0,uO,uK 0,uJ,uI 3,uT 5 26,uH 4 28]
abbrev qZL:=bO 28 [uI 5,uI 4,uO,uK 4,uJ,uS,un 29]
abbrev qZM:=bO 37 [uI 3,uI 5,vI 0 1 38 1 1 39,uC 5 ui,uX 6 0 2 40]
abbrev qZN:=bO 40 [uI 4,uO,uK 4,uJ,uI 5,uT 2 44,uY 2,uC 6 ui,uX 7 0 2 47]
abbrev qZO:=bO 47 [uR 7 0 2,uR 6 0 2,UF 1 1 48 49,uP,uF 51 (uI 0),uF 51 uO,uF 51 (uK 0),uF 51 uJ,uF 51 (uR 7 0 2),uF 51 (uV 488 55),uF 51 uc,uk 51,uP,uF 60 (uI 0),uF 60 uO,uF 60 (uK 0),uF 60 uJ,uF 60 (uL 7),uF 60 (uM 7 0),uF 60 (uT 5 64),uF 60 (uK 4),uF 60 uJ,uF 60 (uL 7),uF 60 (uM 7 1),uF 60 (uT 2 69),uF 60 (uY 2),uF 60 (uR 6 0 2),uF 60 (uA (.seq true [1,1] (.t 73) (.t 74))),uk 60]
abbrev qZF:qP:=.seq (.blk 3 (sr qZM (sr qZN (sr qZO (cD 76 (sr [uU 0 1] .ret) sK))))) (rB 35 [uI 5,ub 1,uH 5 37])
abbrev qZG:qP:=.seq (.blk 1 (sr qZK (sr [uN 0 0 4] (.blk 2 (.loop (.seq (sr qZL (cD 35 sK (.exit 2))) qZF)))))) (rB 20 [uI 3,ub 1,uH 3 22])
abbrev qZH:qP:=.seq (sr qZI (cD 13 (sr [uU 0 1] .ret) sK)) (.seq (sr [uN 0 0 2] (.blk 0 (.loop (.seq (sr qZJ (cD 20 sK (.exit 0))) qZG)))) (sr [uz 0 1] .ret))
def kI:qK:=⟨1,77,[.t 2],sr [uU 0 1] qZH⟩
abbrev qcO:=bO 6 [uI 3,uI 0,uS,un 7]
abbrev qcP:=bO 12 [uI 0,uI 3,uT 1 13,uQ 318,uc]
abbrev qcM:qP:=.loop (.seq (sr qcO (cD 10 sK (.exit 0))) (.seq (.blk 1 (sr qcP (cD 17 (sr [uU 0 1] .ret) sK))) (rB 10 [uI 3,ub 1,uH 3 12])))
abbrev qcN:qP:=.seq (sB 3 [uI 0,uS,vj 5 24] (cD 6 (sr [uU 0 1] .ret) sK)) (.seq (sr [uN 0 0 2] (.blk 0 qcM)) (sr [uz 0 1] .ret))
def kq:qK:=⟨1,18,[.t 2],sr [uU 0 1] qcN⟩
abbrev qd6:=bO 6 [uI 4,uI 0,uO,uK 0,uJ,uS,un 7]
abbrev qd7:=bO 15 [uI 0,uO,uK 0,uJ,uI 4,uT 5 19,uK 0,uJ,uW 0]
abbrev qd8:=bO 24 [uI 0,uO,uK 0,uJ,uI 4,uT 5 28,uK 4,uJ,uq 2 0,uY 2,uC 4 ui,uX 5 0 2 34]
abbrev qd9:=bO 34 [uL 5,uM 5 1,uW 0,uP,uE 38 (uL 5),uE 38 (uM 5 0),uE 38 (uI 4),uE 38 (vk 40 41),uZ 38]
abbrev qeA:=bO 43 [uI 3,uI 4,uL 5,uM 5 0,vI 0 1 45 1 1 47,u5 2 1 0 48,uo 2 44,uH 3 50]
abbrev qd4:qP:=.seq (sr qd6 (cD 13 sK (.exit 0))) (.seq (.blk 1 (.seq (sr qd7 (cD 24 (.exit 1) sK)) (sr qd8 (sr qd9 (cD 43 (rg qeA) sK))))) (rB 13 [uI 4,ub 1,uH 4 15]))
abbrev qd5:=sB 5 [vC 2,uH 3 6] (.seq (sr [uN 1 0 3] (.blk 0 (.loop qd4))) (sB 50 [uI 3,uH 2 51] .ret))
def F742:qK:=⟨1,52,[.t 2],sr [ur 0 1] qd5⟩
abbrev qWN:=bO 8 [uI 0,uI 1,uV 1385 9,uP,uE 12 (uI 2),uE 12 (uI 3),uE 12 (uV 1385 13),uZ 12,uP,uE 17 (uI 0),uE 17 (vu 18 1),uZ 17,uP,uE 21 (uI 2),uE 21 (vu 22 1),uZ 21,uH 8 24]
def Kh:qK:=⟨4,25,[.t 8],sr [uU 0 7] (sr qWN .ret)⟩
abbrev qXV:=bO 6 [uI 0,vz 340 7 0 8,uc,uP,uF 10 (uI 1),uF 10 (uI 2),uF 10 (uV 1385 11),uF 10 uc,uk 10]
abbrev qXW:=bO 15 [uI 1,uW 6,uP,uF 18 (uI 1),uF 18 (uW 12),uk 18]
abbrev qXX:=bO 21 [uI 1,uQ 1372,uP,uE 24 (uI 2),uE 24 (uI 0),uE 24 (vk 25 26),uZ 24,uH 6 28]
def K0:qK:=⟨3,29,[.t 6],sr [uU 0 5] (.seq (sr qXV (cD 15 (sr [uU 0 5] .ret) sK)) (.seq (sr qXW (cD 21 (sr [uz 0 5] .ret) sK)) (sr qXX .ret)))⟩
abbrev qXY:=sB 6 [ua 3 8,uH 4 7] (cD 4 sK (sB 7 [ua 3 10,uH 4 8] (cD 4 sK (rB 8 [ua 3 11,uH 4 9]))))
abbrev qXZ:=sr [uI 0 0 2] (.blk 0 (.seq (sB 4 [ua 3 3,uH 4 5] (cD 4 sK (sB 5 [ua 3 7,uH 4 6] (cD 4 sK qXY)))) (cD 4 (sr [uz 0 1] .ret) sK)))
def K1:qK:=⟨1,10,[.t 2],sr [uU 0 1] (.seq qXZ (sr [uU 0 1] .ret))⟩
abbrev qWT:=bO 13 [uI 2,uW 4,uP,uE 16 (uI 1),uE 16 (uI 3),uE 16 (vg 17 18),uZ 16]
abbrev qWU:=bO 20 [uI 1,uI 2,uI 3,v8 1499 21 22 23]
abbrev qWV:=bO 26 [uI 2,uW 3,uP,uE 29 (uI 1),uE 29 (uI 3),uE 29 (vg 30 31),uZ 29]
abbrev qWO:qP:=.seq (sB 37 [ua 36 7,uH 37 38] (cD 37 sK (rB 38 [ua 36 8,uH 37 39]))) (cD 37 (sr [uN 5 0 7] .ret) (sB 40 [ua 36 11,uH 40 41] (cD 40 (sr [uN 6 0 7] .ret) sK)))
abbrev qWP:=cD 42 (sB 43 [uI 2,uW 10] (cD 45 (sr [uN 6 0 7] .ret) sK)) (sB 46 [ua 9 12,uH 46 47] (cD 46 (sB 47 [uI 2,uQ 1500] (cD 49 (sr [uN 7 0 7] .ret) sK)) sK))
abbrev qWQ:=cD 25 (sr qWV (cD 33 (sr [uN 1 0 7] .ret) sK)) (sB 34 [ua 9 6,uH 34 35] (cD 34 (sr [uI 2 0 35] (.blk 1 qWO)) (sB 42 [ua 9 9,uH 42 43] qWP)))
abbrev qWR:=cD 12 (.seq (sr qWT (cD 20 (sr [uN 2 0 7] .ret) sK)) (sr qWU (cD 24 (sr [uN 3 0 7] .ret) sK))) (sB 25 [ua 9 2,uH 25 26] qWQ)
abbrev qWS:=sr [uI 0 0 8] (.blk 0 (sB 10 [ua 9 5,uH 10 11] (cD 10 (sr [uN 4 0 7] .ret) (sB 12 [ua 9 4,uH 12 13] qWR))))
def Ki:qK:=⟨4,50,[.t 8],sr [uN 0 0 7] (.seq qWS (sr [uN 0 0 7] .ret))⟩
abbrev qM2:=bO 8 [uI 0,uI 1,uI 2,uI 3,v7 1395 9 10 11 12,uc]
abbrev qM3:=bO 14 [uI 0,uI 1,uI 2,uI 3,v7 1396 15 16 17 18,vu 19 0]
abbrev qM4:=bO 20 [uI 2,uI 3,uI 0,uI 1,v7 1396 21 22 23 24,vu 25 0]
abbrev qM1:qP:=.seq (sr qM2 (cD 14 (sr [uN 0 0 7] .ret) sK)) (.seq (sr qM3 (cD 20 (sr [uN 1 0 7] .ret) sK)) (.seq (sr qM4 (cD 26 (sr [uN 2 0 7] .ret) sK)) (sr [uN 0 0 7] .ret)))
def Ug:qK:=⟨4,27,[.t 8],sr [uN 0 0 7] qM1⟩
abbrev qM6:=bO 9 [uI 0,uI 1,uI 2,uI 3,v7 1395 10 11 12 13,uc]
abbrev qM7:=bO 15 [uI 0,uI 1,uI 2,uI 3,v7 1396 16 17 18 19,uH 9 20]
abbrev qM8:=bO 22 [uI 2,uI 3,uI 0,uI 1,v7 1396 23 24 25 26,uH 9 27]
abbrev qM5:qP:=.seq (sB 20 [uI 9,uW 0] (cD 22 (rg qM8) sK)) (.seq (sB 27 [uI 9,uW 0] (cD 29 (sr [uN 8 0 7] .ret) sK)) (sB 29 [uI 9,uH 8 30] .ret))
def Uh:qK:=⟨4,31,[.t 8],sr [uN 0 0 7] (.seq (sr qM6 (cD 15 (sr [uN 0 0 7] .ret) sK)) (sr qM7 qM5))⟩
abbrev qeB:=bO 4 [uI 0,uO,uK 0,uJ,uW 9,uP,uE 10 (uI 1),uE 10 uO,uE 10 (uK 0),uE 10 uJ,uE 10 (uW 10),uZ 10,uP,uE 17 (uI 0),uE 17 uO,uE 17 (uK 2),uE 17 uJ,uE 17 (uI 1),uE 17 uO,uE 17 (uK 3),uE 17 uJ,uE 17 uS,uE 17 (vi 21 26),uZ 17]
abbrev qeC:=bO 28 [uI 0,uO,uK 0,uJ,uW 10,uP,uE 34 (uI 1),uE 34 uO,uE 34 (uK 0),uE 34 uJ,uE 34 (uW 9),uZ 34,uP,uE 41 (uI 1),uE 41 uO,uE 41 (uK 2),uE 41 uJ,uE 41 (uI 0),uE 41 uO,uE 41 (uK 3),uE 41 uJ,uE 41 uS,uE 41 (vi 45 50),uZ 41]
abbrev qeD:=bO 52 [uI 0,uO,uK 0,uJ,uI 0,uO,uK 1,uJ,uI 1,uO,uK 0,uJ,uI 1,uO,uK 1,uJ,v7 1111 56 60 64 68,uH 4 69]
def F744:qK:=⟨2,70,[.t 4],sr [uN 0 0 3] (.seq (sr qeB (cD 28 (sr [uN 8 0 3] .ret) sK)) (.seq (sr qeC (cD 52 (sr [uN 8 0 3] .ret) sK)) (sr qeD .ret)))⟩
def Ku:qK:=YS
abbrev qW6:=bO 3 [uL 1,uM 1 0,uL 3,uX 3 0 1 5]
abbrev qW7:=bO 6 [uL 1,uM 1 1,uL 3,uX 3 1 1 8]
def XB:qK:=⟨1,11,[.l 2 (some 2)],sB 0 [ud 2 0,ui] (sr [ui 0 2] (sr qW6 (sr qW7 (sB 9 [uR 3 0 2,ug 2 0 2] .ret))))⟩
def Uq:qK:=toS 2 (some 2) (.agg [iI 0,iI 0]) 1419
abbrev qfI:=bO 3 [uL 1,uM 1 0,uL 3,uX 3 0 1 5]
abbrev qfJ:=bO 6 [uL 1,uM 1 1,uL 3,uX 3 1 1 8]
abbrev qfK:=bO 9 [uL 1,uM 1 2,uL 3,uX 3 2 1 11]
abbrev qfL:=bO 12 [uL 1,uM 1 3,uQ 147,uL 3,uX 3 3 1 15]
abbrev qfM:=bO 16 [uL 1,uM 1 4,uQ 1178,uL 3,uX 3 4 1 19]
abbrev qfH:=sr [uu 0 2] (sr qfI (sr qfJ (sr qfK (sr qfL (sr qfM (sB 20 [uR 3 0 5,ug 2 0 5] .ret))))))
def XF:qK:=⟨1,22,[.l 2 (some 5)],sB 0 [ud 5 0,uu] qfH⟩
def kO:qK:=toS 5 (some 5) (.agg [iI 0,iI 0,iI 0,.nils,.nils]) 858
abbrev qX7:=bO 3 [uL 1,uM 1 0,uQ 504,uL 3,uX 3 0 1 6]
def XC:qK:=⟨1,9,[.l 2 (some 1)],sB 0 [ud 1 0,vH] (sr [vH 0 2] (sr qX7 (sB 7 [uR 3 0 1,ug 2 0 1] .ret)))⟩
def K8:qK:=toS 1 (some 1) (.agg [.nils]) 185
def F774:qK:=Qc 1 none
def F397:qK:=Qz 774
def qDU:qK:=Qc 1 (some 1)
def F859:qK:=Qz 1179
abbrev qbW:=bO 6 [uI 0,uO,uK 0,uJ,uS,uN 0]
abbrev qbX:=bO 13 [uI 12,uf 5 10 12,uY 5,uC 4 uu,uH 4 14,uX 5 0 5 16]
abbrev qbY:=bO 16 [uL 5,uM 5 4,uS,uN 0]
abbrev qbZ:=bO 22 [uI 3,uI 4,uI 6,vI 0 1 24 1 1 25,u5 2 1 0 26,uo 2 23,uH 3 28]
abbrev qbU:=sr [ux 19 0 20] (.seq (cD 21 sK (.exit 2)) (.seq (.blk 3 (sB 21 [uI 20,uH 6 22] (rg qbZ))) (rB 28 [uw 20 1,uH 20 29])))
abbrev qbV:=sr [ux 11 0 12] (.seq (cD 13 sK (.exit 0)) (.seq (.blk 1 (sr qbX (sr qbY (.blk 2 (.loop qbU))))) (rB 29 [uw 12 1,uH 12 30])))
def kV:qK:=⟨1,32,[.t 2],sr [ur 0 1] (sr [ur 0 2] (.seq (sr qbW (.blk 0 (.loop qbV))) (sB 30 [uI 3,uH 2 31] .ret)))⟩
abbrev qeT:=bO 2 [uI 0,vh 3 0,uP,uE 5 (uI 0),uE 5 (vt 6 24),uZ 5,uH 2 8]
def F796:qK:=⟨1,9,[.t 2],sr [uU 0 1] (sr qeT .ret)⟩
abbrev qLA:=bO 2 [uI 0,vh 3 1,uP,uE 5 (uI 0),uE 5 (vp 6 6),uZ 5,uH 2 8]
def UZ:qK:=⟨1,9,[.t 2],sr [uU 0 1] (sr qLA .ret)⟩
abbrev qLB:=bO 2 [uI 0,vh 3 (-2147483648),uP,uE 5 (uI 0),uE 5 (vp 6 2147483647),uZ 5,uH 2 8]
def Ua:qK:=⟨1,9,[.t 2],sr [uU 0 1] (sr qLB .ret)⟩
abbrev qXT:=bO 2 [uI 0,vh 3 1,uP,uE 5 (uI 0),uE 5 (vp 6 12),uZ 5,uH 2 8]
def Kw:qK:=⟨1,9,[.t 2],sr [uU 0 1] (sr qXT .ret)⟩
abbrev qWH:=bO 5 [uI 0,uW 9,uP,uE 8 (uI 1),uE 8 (vh 9 0),uZ 8,uP,uE 12 (uI 1),uE 12 (vp 13 3),uZ 12,uH 5 15]
abbrev qWI:=bO 18 [uI 0,uQ 1487,uc,uP,uF 22 (uI 0),uF 22 (uW 9),uk 22,uP,uF 26 (uI 1),uF 26 (vu 27 0),uk 26,uH 18 29]
abbrev qWJ:=bO 29 [uA (.build (.agg [iI 0,iI 0,iI 0,iI 0,iI 0,iI 0,iI 0,iI 0,iI 0,iI 0,iI 0,iI 0,iI 0]) [(1,1,.c (iI 1)),(2,1,.c (iI 3)),(3,1,.c (iI 3)),(4,1,.c (iI 3)),(5,1,.c (iI 1)),(6,1,.c (iI 1)),(7,1,.c (iI 3)),(8,1,.c (iI 2)),(10,1,.c (iI 2)),(11,1,.c (iI 2)),(12,1,.c (iI 1))]),uI 0,uA (.aidx 13 1 none (.t 30) (.t 31)),uH 4 32]
abbrev qWG:qP:=.seq (.blk 0 (sr qWH (cD 5 (sB 15 [uI 1,ub 1,uH 4 17] .ret) (sr qWI (cD 18 (sr [uN 0 0 3] .ret) sK))))) (sr qWJ .ret)
def Kd:qK:=⟨2,33,[.t 4],sr [uN 0 0 3] qWG⟩
abbrev qWK:qP:=.seq (sB 4 [uI 0,uW 9] (cD 6 (sB 6 [uI 1,vv 7 1,uH 4 8] .ret) sK)) (sr [uN 0 0 3] .ret)
def Ke:qK:=⟨2,9,[.t 4],sr [uN 0 0 3] qWK⟩
abbrev qVY:=bO 2 [uI 0,uQ 1487,uP,uE 5 (uI 0),uE 5 (vu 6 1),uZ 5,uP,uE 9 (uI 0),uE 9 (vu 10 5),uZ 9,uP,uE 13 (uI 0),uE 13 (vu 14 6),uZ 13,uH 2 16]
def KZ:qK:=⟨1,17,[.t 2],sr [uU 0 1] (sr qVY .ret)⟩
abbrev qXU:=bO 2 [uI 0,vh 3 0,uP,uE 5 (uI 0),uE 5 (vp 6 8),uZ 5,uH 2 8]
def Kz:qK:=⟨1,9,[.t 2],sr [uU 0 1] (sr qXU .ret)⟩
abbrev qWL:=bO 4 [uI 0,uQ 1487,uP,uE 7 (uI 1),uE 7 (uW 0),uE 7 uP,uF 10 (uI 0),uF 10 (uQ 1375),uF 10 uP,uE 13 (uI 1),uE 13 (uQ 1495),uF 10 (uZ 13),uE 7 (uk 10),uZ 7,uH 4 18]
def Kf:qK:=⟨2,19,[.t 4],sr [uU 0 3] (sr qWL .ret)⟩
abbrev qWM:=bO 2 [uI 0,uQ 796,uc,uH 2 5]
def Kg:qK:=⟨1,6,[.t 2],sr [uU 0 1] (sr qWM .ret)⟩
abbrev qMI:=bO 5 [uL 1,uM 1 4,uS,uW 0,uP,uF 10 (uL 1),uF 10 (uM 1 0),uF 10 (uL 1),uF 10 (uM 1 0),uF 10 (uL 1),uF 10 (uM 1 4),uF 10 uS,uD 14 (uC 19 (uF 10 (uL 1))),uD 15 (uF 10 (uM 1 4)),uD 16 (uF 10 uS),uD 12 (uC 17 (uF 10 (uV 1388 14))),uD 13 (uF 10 (uV 1387 12)),uC 22 (uF 10 (ut 19)),uk 10,uP,uF 25 (uL 1),uF 25 (uM 1 0),uF 25 (uL 1),uF 25 (uM 1 1),uF 25 (uV 1389 27),uF 25 uc,uk 25]
abbrev qMJ:=bO 32 [uL 1,uM 1 2,uW 0,uL 1,uM 1 3,uS,uW 0,uH 3 35,uI 39]
abbrev qML:=bO 39 [uL 1,uM 1 3,uA (.call 397 [.t 41,.f 1390]),uc,uH 5 43]
abbrev qMM:=bO 47 [uL 1,uM 1 2,uQ 1051,uH 3 50]
abbrev qMN:=bO 52 [uL 1,uM 1 2,uQ 1050,uH 3 55]
abbrev qMO:=bO 57 [uL 1,uM 1 2,uQ 1050,uP,uE 61 (uL 1),uE 61 (uM 1 3),uE 61 uS,uE 61 (uW 1),uZ 61,uP,uE 67 (uL 1),uE 67 (uM 1 3),uE 67 (uq 1 0),uE 67 uJ,uE 67 (uQ 1051),uZ 67,uH 2 73]
abbrev qMP:=bO 75 [uL 1,uM 1 2,vh 77 0,uP,uE 79 (uL 1),uE 79 (uM 1 2),uE 79 (vt 81 4),uZ 79,uH 3 83]
abbrev qMQ:=bO 85 [uL 1,uM 1 3,uS,vh 88 1,uP,uE 90 (uL 1),uE 90 (uM 1 3),uE 90 uS,uE 90 (vp 93 4),uZ 90,uP,uE 96 (uI 5),uZ 96,uH 4 98]
abbrev qMR:=bO 100 [uL 1,uM 1 3,uS,uW 2,uP,uE 105 (uI 5),uZ 105,uH 4 107]
abbrev qMS:=bO 109 [uL 1,uM 1 2,uQ 796,uH 3 112]
abbrev qMF:=cD 84 (rg qMQ) (sB 99 [ua 45 11,uH 99 100] (cD 99 (rg qMR) (sB 108 [ua 45 12,uH 108 109] (cD 108 (rg qMS) sK))))
abbrev qMG:=sB 56 [ua 45 8,uH 56 57] (cD 56 (sr qMO .ret) (sB 74 [ua 45 9,uH 74 75] (cD 74 (rg qMP) (sB 84 [ua 45 10,uH 84 85] qMF))))
abbrev qMH:=sB 43 [uL 1,uM 1 0] (.blk 0 (sB 46 [ua 45 6,uH 46 47] (cD 46 (rg qMM) (sB 51 [ua 45 7,uH 51 52] (cD 51 (rg qMN) qMG)))))
abbrev qMK:=bO 112 [uI 3,uP,uE 114 (uI 4),uZ 114,uH 2 116]
def Uf:qK:=⟨1,117,[.t 2],sB 0 [ud 5 0,uU] (.seq (sr qMI (cD 32 (sr [uU 0 1] .ret) sK)) (sr qMJ (sr qML (.seq qMH (sr qMK .ret)))))⟩
abbrev qdY:=bO 4 [uI 0,uS,vt 6 1,uP,uF 8 (uI 0),uF 8 uS,uF 8 (vj 10 600),uk 8]
abbrev qdZ:=bO 16 [uI 15,uf 5 13 15,uY 5,uC 3 uu,uH 3 17,uX 4 0 5 19]
abbrev qd0:=bO 19 [uR 4 0 5,uQ 1097,uc,uP,uF 23 (uL 4),uF 23 (uM 4 0),uF 23 (uW 1),uF 23 (uI 3),uF 23 (uW 0),uF 23 (uA (.beq true (.t 26) (.t 28))),uk 23]
abbrev qdW:=sr [ux 14 0 15] (.seq (cD 16 sK (.exit 0)) (.seq (.blk 1 (sr qdZ (sr qd0 (cD 30 (sr [uU 0 1] .ret) sK)))) (rB 30 [uw 15 1,uH 15 31])))
abbrev qdX:qP:=.seq (sr qdY (cD 12 (sr [uU 0 1] .ret) sK)) (.seq (sB 12 [uI 0,uS,uN 0] (.blk 0 (.loop qdW))) (sr [uz 0 1] .ret))
def F711:qK:=⟨1,32,[.t 2],sr [uU 0 1] qdX⟩
def qDS:qK:=Qc 2 (some 2)
def F712:qK:=Qz 1098
abbrev qb0:=bO 4 [uI 0,uO,uK 0,uJ,uL 3,uM 3 0,uT 5 8,uK 4,uJ,uL 3,uM 3 1,uT 2 13,uY 2,ug 4 0 2]
def kW:qK:=⟨2,18,[.l 4 (some 2)],sB 2 [ud 2 1,ui] (sr qb0 .ret)⟩
abbrev qd3:=bO 4 [uL 3,uM 3 0,vh 6 0,uP,uE 8 (uL 3),uE 8 (uM 3 0),uE 8 (uI 0),uE 8 uS,uE 8 (un 10),uZ 8,uP,uE 15 (uL 3),uE 15 (uM 3 1),uE 15 (vh 17 0),uZ 15,uP,uE 20 (uL 3),uE 20 (uM 3 1),uE 20 (uI 0),uE 20 (uL 3),uE 20 (uM 3 0),uE 20 (uT 5 23),uE 20 (uK 4),uE 20 uJ,uE 20 uS,uE 20 (un 22),uZ 20,uH 4 31]
def F714:qK:=⟨2,32,[.t 4],sB 2 [ud 2 1,uU] (sr qd3 .ret)⟩
abbrev qd1:=bO 4 [uR 2 0 2,uV 555 1,uC 3 ui,uX 4 0 2 6]
abbrev qd2:=bO 6 [uR 4 0 2,uR 2 0 2,UF 1 1 7 8,uP,uF 10 (uv 0 1),uF 10 uJ,uF 10 (uR 4 0 2),uF 10 (uV 714 12),uF 10 uc,uk 10,uP,uF 17 (uR 4 0 2),uD 13 (uC 19 (uF 17 (uR 2 0 2))),uD 12 (uC 18 (uF 17 (uV 555 1))),uC 20 (uF 17 (uA (.seq true [1,1] (.t 19) (.t 20)))),uk 17,uH 3 22]
def F713:qK:=⟨2,23,[.t 3],sB 1 [ud 2 0,uU] (sr qd1 (sr qd2 .ret))⟩
abbrev qZP:=bO 2 [uv 0 1,uJ,uQ 711,uc]
abbrev qZQ:=bO 6 [vK 554 1,uA (.mkfn 713 [.t 1]),uV 712 7,uc,uH 2 10]
def kJ:qK:=⟨1,11,[.t 2],sB 0 [vQ 1 0,uU] (.seq (sr qZP (cD 6 (sr [uU 0 1] .ret) sK)) (sr qZQ .ret))⟩
abbrev qfN:=bO 2 [uR 1 0 1,uQ 319,uc,uH 2 5]
def F860:qK:=⟨1,6,[.t 2],sB 0 [ud 1 0,uU] (sr qfN .ret)⟩
abbrev qbD:=bO 2 [uI 0,uS,vp 4 24,uP,uE 6 (uI 0),uE 6 (uA (.call 859 [.t 7,.f 860])),uE 6 uc,uZ 6,uH 2 10]
def kP:qK:=⟨1,11,[.t 2],sr [uU 0 1] (sr qbD .ret)⟩
abbrev qZT:=bO 6 [uI 0,uO,uK 0,uJ,uS,uN 0]
abbrev qZU:=bO 13 [uI 12,uf 5 10 12,uY 5,uC 4 uu,uH 4 14,uX 5 0 5 16]
abbrev qZV:=bO 16 [uL 5,uM 5 4,uq 2 0,uY 2,uC 5 ui,uX 6 0 2 20]
abbrev qZW:=bO 20 [uL 6,uM 6 1,uW 0,uP,uE 24 (uL 6),uE 24 (uM 6 0),uE 24 (uI 4),uE 24 (vk 26 27),uZ 24,uP,uE 30 (uL 5),uE 30 (uM 5 0),uE 30 (vu 32 1),uZ 30]
abbrev qZX:=bO 34 [uI 3,uI 4,uL 6,uM 6 0,vI 0 1 36 1 1 38,u5 2 1 0 39,uo 2 35,uH 3 41]
abbrev qZS:=sr [ux 11 0 12] (.seq (cD 13 sK (.exit 0)) (.seq (.blk 1 (sr qZU (sr qZV (sr qZW (cD 34 (rg qZX) sK))))) (rB 41 [uw 12 1,uH 12 42])))
def kL:qK:=⟨1,44,[.t 2],sr [ur 0 1] (sr [ur 0 2] (.seq (sr qZT (.blk 0 (.loop qZS))) (sB 42 [uI 3,uH 2 43] .ret)))⟩
abbrev qX0:=bO 6 [uI 0,uQ 1495,uc,uP,uF 10 (uI 1),uF 10 (uI 2),uF 10 (uV 1389 11),uF 10 uc,uk 10]
abbrev qX1:=bO 15 [uI 1,uW 6,uP,uF 18 (uI 1),uF 18 (uW 12),uk 18,uP,uF 22 (uI 1),uF 22 (uQ 1375),uF 22 uP,uE 25 (uI 2),uE 25 (uI 0),uE 25 (vk 26 27),uF 22 (uZ 25),uk 22,uH 6 30]
def K3:qK:=⟨3,31,[.t 6],sr [uU 0 5] (.seq (sr qX0 (cD 15 (sr [uU 0 5] .ret) sK)) (sr qX1 .ret))⟩
abbrev qX2:=bO 2 [uI 0,uW 3,uP,uF 5 (uI 0),uF 5 (uW 7),uk 5,uP,uF 9 (uI 0),uF 9 (uW 8),uk 9,uP,uF 13 (uI 0),uF 13 (uW 10),uk 13,uP,uF 17 (uI 0),uF 17 (uW 11),uk 17,uH 2 20]
def K4:qK:=⟨1,21,[.t 2],sr [uU 0 1] (sr qX2 .ret)⟩
abbrev qW1:=bO 14 [uI 2,uW 4,uP,uE 17 (uI 1),uE 17 (uI 3),uE 17 (vg 18 19),uZ 17,uH 14 21]
abbrev qW2:=bO 22 [uI 1,uI 2,uI 3,v8 1501 23 24 25,uH 22 26]
abbrev qW3:=bO 28 [uI 2,uW 3,uP,uE 31 (uI 1),uE 31 (uI 3),uE 31 (vg 32 33),uZ 31]
abbrev qWW:qP:=.seq (sB 39 [ua 38 7,uH 39 40] (cD 39 sK (rB 40 [ua 38 8,uH 39 41]))) (cD 39 (sr [uN 5 0 7] .ret) (sB 42 [ua 38 11,uH 42 43] (cD 42 (sr [uN 6 0 7] .ret) sK)))
abbrev qWX:=cD 44 (sB 45 [uI 2,uW 10] (cD 47 (sr [uN 6 0 7] .ret) sK)) (sB 48 [ua 9 12,uH 48 49] (cD 48 (sB 49 [uI 2,uQ 1502] (cD 51 (sr [uN 7 0 7] .ret) sK)) sK))
abbrev qWY:=cD 27 (sr qW3 (cD 35 (sr [uN 1 0 7] .ret) sK)) (sB 36 [ua 9 6,uH 36 37] (cD 36 (sr [uI 2 0 37] (.blk 2 qWW)) (sB 44 [ua 9 9,uH 44 45] qWX)))
abbrev qWZ:=cD 12 (.blk 1 (sr qW1 (cD 14 (sr [uN 2 0 7] .ret) (sr qW2 (cD 22 (sr [uN 3 0 7] .ret) sK))))) (sB 27 [ua 9 2,uH 27 28] qWY)
abbrev qW0:=sr [uI 0 0 8] (.blk 0 (sB 10 [ua 9 5,uH 10 11] (cD 10 (sr [uN 4 0 7] .ret) (sB 12 [ua 9 4,uH 12 13] qWZ))))
def Kj:qK:=⟨4,52,[.t 8],sr [uN 0 0 7] (.seq qW0 (sr [uN 0 0 7] .ret))⟩
abbrev qNB:=bO 11 [uI 0,uW 1,uP,uF 14 (uI 2),uF 14 (uW 1),uk 14,uP,uF 18 (uI 0),uF 18 (uI 1),uF 18 (uV 1389 19),uF 18 uc,uk 18,uP,uF 24 (uI 2),uF 24 (uI 3),uF 24 (uV 1389 25),uF 24 uc,uk 24]
abbrev qNC:=bO 29 [uI 0,uI 1,uI 2,uI 3,v7 1398 30 31 32 33,uH 10 34]
abbrev qND:=bO 37 [uI 2,uI 3,uI 0,uI 1,v7 1398 38 39 40 41,uH 11 42]
abbrev qM9:qP:=.seq (sr qND (sB 42 [uI 11,vu 43 0] (cD 44 (sB 44 [uI 11,uH 8 45,uN 2] .ret) sK))) (sB 7 [uN 8,uN 0] .ret)
abbrev qNA:qP:=.seq (sr qNB (cD 29 (sB 7 [uN 0,uN 0] .ret) sK)) (.seq (sr qNC (sB 34 [uI 10,vu 35 0] (cD 36 (sB 36 [uI 10,uH 8 37,uN 1] .ret) sK))) qM9)
def Ui:qK:=⟨4,46,[.t 8,.t 9],sB 7 [uN 0,uN 0] qNA⟩
abbrev qeF:=bO 9 [uI 0,uO,uK 0,uJ,uL 3,uM 3 0,uT 5 13,uY 5,uI 0,uO,uK 0,uJ,uL 3,uM 3 1,uT 5 21,uY 5,uC 5 uu,uu,uX 6 0 5 17,uX 7 0 5 25]
abbrev qeG:=bO 26 [uL 6,uM 6 0,uL 6,uM 6 1,uL 7,uM 7 0,uL 7,uM 7 1,v7 1115 28 30 32 34,uH 26 35,uC 35 (uj 26 0),uj 26 1,uH 8 36,uI 37]
abbrev qeH:=bO 39 [uR 7 0 5,uR 6 0 5,uX 6 0 5 40,ug 7 0 5]
abbrev qeI:=bO 41 [uI 8,uW 6,uP,uE 44 (uL 7),uE 44 (uM 7 0),uE 44 (uW 10),uZ 44,uP,uE 49 (uL 6),uE 49 (uM 6 2),uE 49 (uL 7),uE 49 (uM 7 3),uE 49 uS,uE 49 (vi 51 54),uZ 49]
abbrev qeJ:=bO 56 [uI 8,uI 9,uW 2,uH 4 57,uI 59]
abbrev qeE:qP:=.seq (sB 37 [uI 9,uW 2] (cD 39 (rg qeH) sK)) (.seq (sr qeI (cD 56 (sB 3 [uN 8,uU] .ret) sK)) (sr qeJ .ret))
def F751:qK:=⟨2,60,[.t 4,.t 5],sB 2 [ud 2 1,uN 0,uU] (sr qeF (sr qeG qeE))⟩
def F86:qK:=eqS0
abbrev qXF:=bO 4 [uL 2,uM 2 0,uL 3,uM 3 0,ut 6]
abbrev qXG:=bO 9 [uL 2,uM 2 1,uL 3,uM 3 1,ut 11]
def Ko:qK:=⟨2,15,[.t 4],sB 1 [ud 2 0,ud 2 1,uU] (.seq (sr qXF (cD 9 (sr [uU 0 3] .ret) sK)) (.seq (sr qXG (cD 14 (sr [uU 0 3] .ret) sK)) (sr [uz 0 3] .ret)))⟩
def qDW:qK:=eqS 2 (some 2) 1422
abbrev qf1:=bO 4 [uL 2,uM 2 0,uL 3,uM 3 0,ut 6]
abbrev qf2:=bO 9 [uL 2,uM 2 1,uL 3,uM 3 1,ut 11]
abbrev qf3:=bO 14 [uL 2,uM 2 2,uL 3,uM 3 2,ut 16]
abbrev qf4:=bO 19 [uL 2,uM 2 3,uL 3,uM 3 3,uV 86 21,uc]
abbrev qf5:=bO 25 [uL 2,uM 2 4,uL 3,uM 3 4,uV 1184 27,uc]
abbrev qf0:qP:=.seq (sr qf3 (cD 19 (sr [uU 0 3] .ret) sK)) (.seq (sr qf4 (cD 25 (sr [uU 0 3] .ret) sK)) (.seq (sr qf5 (cD 31 (sr [uU 0 3] .ret) sK)) (sr [uz 0 3] .ret)))
def F870:qK:=⟨2,32,[.t 4],sB 1 [ud 5 0,ud 5 1,uU] (.seq (sr qf1 (cD 9 (sr [uU 0 3] .ret) sK)) (.seq (sr qf2 (cD 14 (sr [uU 0 3] .ret) sK)) qf0))⟩
def F508:qK:=eqS 5 (some 5) 870
abbrev qX8:=bO 4 [uL 2,uM 2 0,uL 3,uM 3 0,uV 508 6,uc]
def K9:qK:=⟨2,11,[.t 4],sB 1 [ud 1 0,ud 1 1,uU] (.seq (sr qX8 (cD 10 (sr [uU 0 3] .ret) sK)) (sr [uz 0 3] .ret))⟩
def F187:qK:=eqS 1 (some 1) 188
def qgD:List qG:=[oP 0 13 (.lload 1 0 (some 8)),oM 1 14 3,oP 2 15 (.call 104 [.t 13,.t 14]),oM 3 3 15]
def qgE:List qG:=[oP 0 19 (.lload 1 0 (some 8)),oP 1 20 (.call 106 [.t 19]),oP 2 21 (.call 105 [.t 20]),oM 3 18 21,oP 4 22 (.ext (.t 18) 0),oP 5 23 (.ext (.t 18) 1),oP 6 24 (.ext (.t 18) 2),oP 7 25 (.ext (.t 18) 3),oM 8 4 22,oM 9 5 23,oM 10 6 24,oM 11 7 25]
def qgF:List qG:=[oP 0 26 (.lload 1 0 (some 8)),oP 1 27 (.call 106 [.t 26]),oP 2 8 (.lalloc (.agg [.nils,.nils,iI 0,iI 0,.nils,.nils,.nils,.nils])),oN 3 (.lstore 8 0 8 (.t 27))]
def qgG:List qG:=[oP 0 29 (.lload 8 0 (some 8)),oP 1 30 (.call 107 [.t 29]),oM 2 28 30,oP 3 31 (.ext (.t 28) 0),oP 4 32 (.ext (.t 28) 1),oP 5 33 (.ext (.t 28) 2),oP 6 34 (.ext (.t 28) 3),oM 7 9 31,oM 8 10 32,oM 9 11 33,oM 10 12 34]
def qgH:List qG:=[oM 0 35 9,oM 1 36 4,oP 2 37 (.bin .neq (.t 35) (.t 36)),oM 3 38 37,oG 4 39 38 false (.mov (.t 10)),oG 5 40 38 false (.mov (.t 5)),oG 6 41 38 false (.bin .neq (.t 39) (.t 40)),oP 7 42 (.pick (.t 38) (.c (.bool true)) (.t 41)),oM 8 43 42,oG 9 44 43 false (.mov (.t 11)),oG 10 45 43 false (.mov (.t 6)),oG 11 46 43 false (.bin .neq (.t 44) (.t 45)),oP 12 47 (.pick (.t 43) (.c (.bool true)) (.t 46)),oM 13 48 47,oG 14 49 48 false (.mov (.t 12)),oG 15 50 48 false (.mov (.t 7)),oG 16 51 48 false (.bin .neq (.t 49) (.t 50)),oP 17 52 (.pick (.t 48) (.c (.bool true)) (.t 51))]
def qgI:List qG:=[oP 0 53 (.lload 8 0 (some 8)),oP 1 54 (.lload 1 0 (some 8)),oP 2 55 (.call 106 [.t 54]),oP 3 56 (.call 108 [.t 53,.t 55]),oP 4 57 (.not (.t 56))]
def qgB:qP:=.seq (.reg true qgG) (.seq (.seq (.reg true qgH) (.cond (.t 52) (.seq (.reg true [oP 0 2 (.mov (.c (.bool false)))]) (.ret)) (.skip))) (.seq (.seq (.reg true qgI) (.cond (.t 57) (.seq (.reg true [oP 0 2 (.mov (.c (.bool false)))]) (.ret)) (.skip))) (.seq (.reg true [oP 0 2 (.mov (.c (.bool true)))]) (.ret))))
def qgC:qP:=.seq (.reg true [oP 0 3 (.mov (.c (iI 1048576)))]) (.seq (.reg true qgD) (.seq (.seq (.reg true [oM 0 16 3,oP 1 17 (.bin .lss (.t 16) (.c (iI 0)))]) (.cond (.t 17) (.seq (.reg true [oP 0 2 (.mov (.c (.bool true)))]) (.ret)) (.skip))) (.seq (.reg true qgE) (.seq (.reg true qgF) qgB))))
def F8:qK:=⟨1,58,[.t 2],.seq (.reg true [oP 0 1 (.lbox 8 (.t 0)),oP 1 2 (.mov (.c (.bool false)))]) qgC⟩
def qMV:List qG:=[oP 0 9 (.lload 1 0 (some 8)),oM 1 10 3,oP 2 11 (.call 104 [.t 9,.t 10]),oM 3 3 11]
def qMW:List qG:=[oP 0 15 (.lload 1 0 (some 8)),oP 1 16 (.call 106 [.t 15]),oP 2 17 (.call 116 [.t 16]),oM 3 14 17,oP 4 18 (.ext (.t 14) 0),oP 5 19 (.ext (.t 14) 1),oM 6 4 18,oM 7 5 19]
def qMX:List qG:=[oP 0 20 (.lload 1 0 (some 8)),oP 1 21 (.call 106 [.t 20]),oP 2 6 (.lalloc (.agg [.nils,.nils,iI 0,iI 0,.nils,.nils,.nils,.nils])),oN 3 (.lstore 6 0 8 (.t 21))]
def qMY:List qG:=[oP 0 23 (.lload 6 0 (some 8)),oP 1 24 (.call 117 [.t 23]),oM 2 22 24,oP 3 25 (.ext (.t 22) 0),oP 4 26 (.ext (.t 22) 1),oM 5 7 25,oM 6 8 26]
def qMZ:List qG:=[oM 0 27 7,oM 1 28 4,oP 2 29 (.bin .neq (.t 27) (.t 28)),oM 3 30 29,oG 4 31 30 false (.mov (.t 8)),oG 5 32 30 false (.mov (.t 5)),oG 6 33 30 false (.bin .neq (.t 31) (.t 32)),oP 7 34 (.pick (.t 30) (.c (.bool true)) (.t 33))]
def qM0:List qG:=[oP 0 35 (.lload 6 0 (some 8)),oP 1 36 (.lload 1 0 (some 8)),oP 2 37 (.call 106 [.t 36]),oP 3 38 (.call 108 [.t 35,.t 37]),oP 4 39 (.not (.t 38))]
def qMT:qP:=.seq (.reg true qMY) (.seq (.seq (.reg true qMZ) (.cond (.t 34) (.seq (.reg true [oP 0 2 (.mov (.c (.bool false)))]) (.ret)) (.skip))) (.seq (.seq (.reg true qM0) (.cond (.t 39) (.seq (.reg true [oP 0 2 (.mov (.c (.bool false)))]) (.ret)) (.skip))) (.seq (.reg true [oP 0 2 (.mov (.c (.bool true)))]) (.ret))))
def qMU:qP:=.seq (.reg true [oP 0 3 (.mov (.c (iI 1048576)))]) (.seq (.reg true qMV) (.seq (.seq (.reg true [oM 0 12 3,oP 1 13 (.bin .lss (.t 12) (.c (iI 0)))]) (.cond (.t 13) (.seq (.reg true [oP 0 2 (.mov (.c (.bool true)))]) (.ret)) (.skip))) (.seq (.reg true qMW) (.seq (.reg true qMX) qMT))))
def F10:qK:=⟨1,40,[.t 2],.seq (.reg true [oP 0 1 (.lbox 8 (.t 0)),oP 1 2 (.mov (.c (.bool false)))]) qMU⟩
abbrev qbB:=bO 2 [vC 1,uI 0,uo 1 3,uH 2 5]
def kM:qK:=⟨1,6,[.t 2],sr [ur 0 1] (sr qbB .ret)⟩
abbrev qbA:=bO 4 [vC 1,uI 0,uo 1 5,uH 2 7]
def F401:qK:=⟨1,8,[.t 2],sr [ur 0 1] (.seq (sB 2 [uI 0,UC 1 3] (cD 4 (sr [ur 0 1] .ret) sK)) (sr qbA .ret))⟩
abbrev qVX:=bO 4 [vC 2,uI 0,uo 2 5,uH 2 7]
def qD2:qK:=⟨1,8,[.t 2],sr [ur 0 1] (.seq (sB 2 [uI 0,UC 1 3] (cD 4 (sr [ur 0 1] .ret) sK)) (sr qVX .ret))⟩
abbrev qMC:=bO 2 [uL 1,uM 1 3,uD 3 (uC 5 (uL 1)),uD 4 (uM 1 4),uD 2 (uC 4 (uQ 401)),uD 6 (uC 8 (uL 1)),uD 5 (uC 7 (uQ 1373)),uX 1 3 1 5,uC 9 (uL 1),uX 1 4 1 8]
def Ud:qK:=⟨1,12,[.l 2 (some 5)],sB 0 [ud 5 0,uu] (sr qMC (sB 10 [uR 1 0 5,ug 2 0 5] .ret))⟩
abbrev qeV:=bO 5 [uL 1,uM 1 0,uS,UD 5 0 8,uA (.build (.agg [.nils]) [(0,1,.t 9)]),uC 2 vH,uX 3 0 1 10]
abbrev qeW:=bO 10 [uL 1,uM 1 0,uS,uN 0]
abbrev qeX:=bO 15 [uf 5 12 14,uY 5,uC 4 uu,uX 5 0 5 17]
abbrev qeY:=bO 17 [uL 3,uM 3 0,uR 5 0 5,uQ 1085,vU 5 1 0 21,uo 5 19,uL 3,uX 3 0 1 23]
abbrev qeU:qP:=.loop (sr [ux 13 0 14] (.seq (cD 15 sK (.exit 0)) (.seq (.blk 1 (sr qeX (rg qeY))) (rB 24 [uw 14 1,uH 14 25]))))
def F798:qK:=⟨1,27,[.l 2 (some 1)],sB 0 [ud 1 0,vH] (sr qeV (.seq (sr qeW (.blk 0 qeU)) (sB 25 [uR 3 0 1,ug 2 0 1] .ret)))⟩
abbrev qgK:=bO 5 [uP,uI 0,uS,un 6]
abbrev qgL:=bO 11 [uI 0,uI 5,uI 1,uf 1 12 13,ue 1 14]
abbrev qgJ:qP:=.seq (.blk 1 (sr qgL (rB 15 [uI 1,ub 1,uH 1 17]))) (rB 9 [uI 5,ub 1,uH 5 11])
def F90:qK:=⟨2,19,[.t 4],sr [uN 0 0 3] (.seq (sr [uN 0 0 4] (.blk 0 (.loop (.seq (sr qgK (cD 9 sK (.exit 0))) qgJ)))) (sB 17 [uI 1,uH 4 18] .ret))⟩
abbrev qf8:=bO 5 [uP,uI 0,uS,un 6]
abbrev qf9:=bO 11 [uI 0,uI 5,uI 1,uf 2 12 13,uK 0,ue 1 14]
abbrev qgA:=bO 18 [uI 0,uI 5,uI 1,uf 2 19 20,uK 1,ue 1 21]
abbrev qf6:=sB 16 [uI 1,ub 1,uH 1 18] (sr qgA (rB 23 [uI 1,ub 1,uH 1 25]))
abbrev qf7:=sr [uN 0 0 4] (.blk 0 (.loop (.seq (sr qf8 (cD 9 sK (.exit 0))) (.seq (.blk 1 (sr qf9 qf6)) (rB 9 [uI 5,ub 1,uH 5 11])))))
def F885:qK:=⟨2,27,[.t 4],sr [uN 0 0 3] (.seq qf7 (sB 25 [uI 1,uH 4 26] .ret))⟩
abbrev qbG:=bO 5 [uP,uI 0,uS,un 6]
abbrev qbH:=bO 11 [uI 0,uI 5,uI 1,uf 5 12 13,uK 0,ue 1 14]
abbrev qbI:=bO 18 [uI 0,uI 5,uI 1,uf 5 19 20,uK 1,ue 1 21]
abbrev qbJ:=bO 25 [uI 0,uI 5,uI 1,uf 5 26 27,uK 2,ue 1 28]
abbrev qbK:=bO 32 [uI 0,uI 5,uT 5 33,uK 3,uJ,uI 1,uV 90 37,uH 1 39]
abbrev qbL:=bO 39 [uI 0,uI 5,uT 5 40,uK 4,uJ,uI 1,uV 885 44,uH 1 46]
abbrev qbE:=sB 23 [uI 1,ub 1,uH 1 25] (sr qbJ (sB 30 [uI 1,ub 1,uH 1 32] (sr qbK (rg qbL))))
abbrev qbF:qP:=.seq (.blk 1 (sr qbH (sB 16 [uI 1,ub 1,uH 1 18] (sr qbI qbE)))) (rB 9 [uI 5,ub 1,uH 5 11])
def kQ:qK:=⟨2,48,[.t 4],sr [uN 0 0 3] (.seq (sr [uN 0 0 4] (.blk 0 (.loop (.seq (sr qbG (cD 9 sK (.exit 0))) qbF)))) (sB 46 [uI 1,uH 4 47] .ret))⟩
abbrev qYN:=bO 5 [uP,uI 0,uS,un 6]
abbrev qYO:=bO 11 [uI 0,uI 5,uT 1 12,uK 0,uJ,uI 1,uV 524 16,uH 1 18]
abbrev qYM:=sr [uN 0 0 4] (.blk 0 (.loop (.seq (sr qYN (cD 9 sK (.exit 0))) (.seq (.blk 1 (rg qYO)) (rB 9 [uI 5,ub 1,uH 5 11])))))
def kD:qK:=⟨2,20,[.t 4],sr [uN 0 0 3] (.seq qYM (sB 18 [uI 1,uH 4 19] .ret))⟩
abbrev qg8:=bO 5 [uP,uI 0,uS,un 6]
abbrev qg9:=bO 11 [uI 0,uI 5,uT 1 12,uJ,uI 1,ut 15]
abbrev qg7:qP:=.seq (.blk 1 (.seq (sr qg9 (cD 17 (sr [uN (-1) 0 3] .ret) sK)) (rB 17 [uI 1,ub 1,uH 1 19]))) (rB 9 [uI 5,ub 1,uH 5 11])
def F92:qK:=⟨2,21,[.t 4],sr [uN 0 0 3] (.seq (sr [uN 0 0 4] (.blk 0 (.loop (.seq (sr qg8 (cD 9 sK (.exit 0))) qg7)))) (sB 19 [uI 1,uH 4 20] .ret))⟩
def qS6:List qG:=[oP 0 16 (.lload 2 0 (some 8)),oM 1 17 5,oP 2 18 (.call 104 [.t 16,.t 17]),oM 3 5 18]
def qS7:List qG:=[oP 0 22 (.lload 2 0 (some 8)),oP 2 24 (.lload 3 0 (some 2)),oP 8 6 (.lalloc (.agg [.nils,.nils,iI 0,iI 0,.nils,.nils,.nils,.nils])),oP 1 23 (.call 106 [.t 22]),oP 3 25 (.call 134 [.t 24]),oP 4 26 (.call 133 [.t 23,.t 25]),oM 5 21 26,oP 6 27 (.ext (.t 21) 0),oP 7 28 (.ext (.t 21) 1),oN 9 (.lstore 6 0 8 (.t 27)),oM 10 7 28]
def qTB:List qG:=[oP 0 29 (.lload 2 0 (some 8)),oP 1 30 (.call 106 [.t 29]),oP 2 8 (.lalloc (.agg [.nils,.nils,iI 0,iI 0,.nils,.nils,.nils,.nils])),oN 3 (.lstore 8 0 8 (.t 30))]
def qTC:List qG:=[oP 0 32 (.lload 8 0 (some 8)),oP 1 33 (.lload 3 0 (some 2)),oP 7 9 (.lalloc (.agg [.nils,.nils,iI 0,iI 0,.nils,.nils,.nils,.nils])),oP 2 34 (.call 134 [.t 33]),oP 3 35 (.call 135 [.t 32,.t 34]),oM 4 31 35,oP 5 36 (.ext (.t 31) 0),oP 6 37 (.ext (.t 31) 1),oN 8 (.lstore 9 0 8 (.t 36)),oM 9 10 37]
def qTD:List qG:=[oP 0 38 (.lload 9 0 (some 8)),oP 1 39 (.lload 6 0 (some 8)),oP 2 40 (.call 108 [.t 38,.t 39]),oP 3 41 (.not (.t 40)),oM 4 42 41,oG 5 43 42 false (.mov (.t 10)),oG 6 44 42 false (.mov (.t 7)),oG 7 45 42 false (.bin .neq (.t 43) (.t 44)),oP 8 46 (.pick (.t 42) (.c (.bool true)) (.t 45))]
def qTE:List qG:=[oP 0 47 (.lload 8 0 (some 8)),oP 1 48 (.lload 2 0 (some 8)),oP 2 49 (.call 106 [.t 48]),oP 3 50 (.call 108 [.t 47,.t 49]),oP 4 51 (.not (.t 50))]
def qTF:List qG:=[oP 0 52 (.lload 8 0 (some 8)),oM 1 53 11,oP 2 54 (.call 136 [.t 52,.t 53]),oM 3 11 54]
def qTG:List qG:=[oM 0 55 11,oP 1 56 (.bin .lss (.t 55) (.c (iI 0))),oM 2 57 56,oG 3 58 57 false (.lload 9 0 (some 8)),oG 4 59 57 false (.lload 6 0 (some 8)),oG 5 60 57 false (.call 108 [.t 58,.t 59]),oG 6 61 57 false (.not (.t 60)),oP 7 62 (.pick (.t 57) (.c (.bool true)) (.t 61)),oM 8 63 62,oG 9 64 63 false (.mov (.t 10)),oG 10 65 63 false (.mov (.t 7)),oG 11 66 63 false (.bin .neq (.t 64) (.t 65)),oP 12 67 (.pick (.t 63) (.c (.bool true)) (.t 66))]
def qTH:List qG:=[oP 0 68 (.lload 9 0 (some 8)),oM 1 69 12,oP 2 70 (.call 136 [.t 68,.t 69]),oM 3 12 70]
def qTI:List qG:=[oP 0 71 (.lload 9 0 (some 8)),oM 1 72 13,oP 2 73 (.call 137 [.t 71,.t 72]),oM 3 13 73]
def qS8:List qG:=[oP 0 80 (.lload 2 0 (some 8)),oP 2 82 (.lload 3 0 (some 2)),oP 8 14 (.lalloc (.agg [.nils,.nils,iI 0,iI 0,.nils,.nils,.nils,.nils])),oP 1 81 (.call 106 [.t 80]),oP 3 83 (.call 134 [.t 82]),oP 4 84 (.call 135 [.t 81,.t 83]),oM 5 79 84,oP 6 85 (.ext (.t 79) 0),oP 7 86 (.ext (.t 79) 1),oN 9 (.lstore 14 0 8 (.t 85)),oM 10 15 86]
def qS9:List qG:=[oP 0 87 (.lload 14 0 (some 8)),oP 1 88 (.lload 6 0 (some 8)),oP 2 89 (.call 108 [.t 87,.t 88]),oP 3 90 (.not (.t 89)),oM 4 91 90,oG 5 92 91 false (.mov (.t 15)),oG 6 93 91 false (.mov (.t 7)),oG 7 94 91 false (.bin .neq (.t 92) (.t 93)),oP 8 95 (.pick (.t 91) (.c (.bool true)) (.t 94))]
def qTA:List qG:=[oP 0 96 (.lload 9 0 (some 8)),oM 1 97 13,oP 2 98 (.call 137 [.t 96,.t 97]),oM 3 13 98]
def qS1:qP:=.seq (.seq (.reg true [oM 0 99 13,oP 1 100 (.bin .lss (.t 99) (.c (iI 0)))]) (.cond (.t 100) (.seq (.reg true [oP 0 4 (.mov (.c (.bool false)))]) (.ret)) (.skip))) (.seq (.seq (.reg true [oM 0 101 13,oM 1 102 12,oP 2 103 (.bin .neq (.t 101) (.t 102))]) (.cond (.t 103) (.seq (.reg true [oP 0 4 (.mov (.c (.bool false)))]) (.ret)) (.skip))) (.seq (.reg true [oP 0 4 (.mov (.c (.bool true)))]) (.ret)))
def qS2:qP:=.seq (.seq (.reg true [oM 0 76 13,oM 1 77 12,oP 2 78 (.bin .neq (.t 76) (.t 77))]) (.cond (.t 78) (.seq (.reg true [oP 0 4 (.mov (.c (.bool false)))]) (.ret)) (.skip))) (.seq (.reg true qS8) (.seq (.seq (.reg true qS9) (.cond (.t 95) (.seq (.reg true [oP 0 4 (.mov (.c (.bool false)))]) (.ret)) (.skip))) (.seq (.reg true [oP 0 13 (.mov (.c (iI 1)))]) (.seq (.reg true qTA) qS1))))
def qS3:qP:=.seq (.reg true qTH) (.seq (.reg true [oP 0 13 (.mov (.c (iI 1)))]) (.seq (.reg true qTI) (.seq (.seq (.reg true [oM 0 74 13,oP 1 75 (.bin .lss (.t 74) (.c (iI 0)))]) (.cond (.t 75) (.seq (.reg true [oP 0 4 (.mov (.c (.bool false)))]) (.ret)) (.skip))) qS2)))
def qS4:qP:=.seq (.seq (.reg true qTE) (.cond (.t 51) (.seq (.reg true [oP 0 4 (.mov (.c (.bool false)))]) (.ret)) (.skip))) (.seq (.reg true [oP 0 11 (.mov (.c (iI 1)))]) (.seq (.reg true qTF) (.seq (.seq (.reg true qTG) (.cond (.t 67) (.seq (.reg true [oP 0 4 (.mov (.c (.bool false)))]) (.ret)) (.skip))) (.seq (.reg true [oP 0 12 (.mov (.c (iI 1)))]) qS3))))
def qS5:qP:=.seq (.seq (.reg true [oM 0 19 5,oP 1 20 (.bin .lss (.t 19) (.c (iI 0)))]) (.cond (.t 20) (.seq (.reg true [oP 0 4 (.mov (.c (.bool true)))]) (.ret)) (.skip))) (.seq (.reg true qS7) (.seq (.reg true qTB) (.seq (.reg true qTC) (.seq (.seq (.reg true qTD) (.cond (.t 46) (.seq (.reg true [oP 0 4 (.mov (.c (.bool false)))]) (.ret)) (.skip))) qS4))))
def F12:qK:=⟨2,104,[.t 4],.seq (.reg true [oP 0 2 (.lbox 8 (.t 0)),oP 1 3 (.lbox 2 (.t 1)),oP 2 4 (.mov (.c (.bool false)))]) (.seq (.reg true [oP 0 5 (.mov (.c (iI 1048576)))]) (.seq (.reg true qS6) qS5))⟩
abbrev qfG:qP:=.seq (sB 4 [uI 0,uI 1,vk 5 6] (cD 7 (sB 7 [uI 0,uH 4 8] .ret) sK)) (sB 8 [uI 1,uH 4 9] .ret)
def F856:qK:=⟨2,10,[.t 4],sr [uN 0 0 3] qfG⟩
abbrev qOT:=bO 4 [uP,uI 0,uO,uK 0,uJ,uS,un 5]
abbrev qOU:=bO 13 [uI 3,uI 0,uO,uK 0,uJ,uI 4,uT 5 18,uK 1,uJ,uV 856 14,uH 3 23]
abbrev qOS:=sr [uN 0 0 3] (.blk 0 (.loop (.seq (sr qOT (cD 11 sK (.exit 0))) (.seq (.blk 1 (rg qOU)) (rB 11 [uI 4,ub 1,uH 4 13])))))
def Uo:qK:=⟨1,25,[.t 2],sr [uN 0 0 1] (sr [uN 0 0 2] (.seq qOS (sB 23 [uI 3,uH 2 24] .ret)))⟩
abbrev qNO:=bO 2 [uI 0,uA (.conv .u64 (.t 3)),uA (.conv .u32 (.t 4)),uA (.conv .i32 (.t 5)),uA (.conv .i64 (.t 6)),uH 2 7]
def Uk:qK:=⟨1,8,[.t 2],sr [uN 0 0 1] (sr qNO .ret)⟩
def Ul:qK:=⟨1,4,[.t 2],sr [uN 0 0 1] (.seq (sr [uI 0 0 2] (cD 3 (sr [uN 1 0 1] .ret) sK)) (sr [uN 0 0 1] .ret))⟩
abbrev qeN:=bO 15 [uI 7,uI 8,vf 16 17,uQ 1125,uH 6 19]
abbrev qeO:=bO 21 [uI 7,uI 8,vx 22 23,uQ 1125,uH 6 25]
abbrev qeP:=bO 27 [uI 7,uI 8,uA (.bin .mul (.t 28) (.t 29)),uQ 1125,uH 6 31]
abbrev qeQ:=bO 35 [uI 7,uI 8,uA (.bin .quo (.t 36) (.t 37)),uQ 1125,uH 6 39]
abbrev qeR:=bO 41 [uI 7,uI 8,un 42,uQ 1126,uH 6 45]
abbrev qeS:=bO 47 [uI 7,uI 8,vg 48 49,uQ 1126,uH 6 51]
abbrev qeK:=cD 32 (.seq (sB 33 [uI 8,uW 0] (cD 35 (sr [uN 0 0 5] .ret) sK)) (sr qeQ .ret)) (sB 40 [ua 13 5,uH 40 41] (cD 40 (sr qeR .ret) (sB 46 [ua 13 6,uH 46 47] (cD 46 (sr qeS .ret) sK))))
abbrev qeL:=sB 20 [ua 13 2,uH 20 21] (cD 20 (sr qeO .ret) (sB 26 [ua 13 3,uH 26 27] (cD 26 (sr qeP .ret) (sB 32 [ua 13 4,uH 32 33] qeK))))
abbrev qeM:=sB 10 [uI 2,uQ 1125,uH 8 12] (.seq (sr [uI 0 0 12] (.blk 0 (sB 14 [ua 13 1,uH 14 15] (cD 14 (sr qeN .ret) qeL)))) (sr [uN 0 0 5] .ret))
def F762:qK:=⟨3,52,[.t 6],sr [uN 0 0 5] (sB 8 [uI 1,uQ 1125,uH 7 10] qeM)⟩
abbrev qXK:=bO 8 [uR 2 0 1,uQ 798,uC 5 vH,uX 6 0 1 10]
abbrev qXL:=bO 10 [uL 6,uM 6 0,uS,uN 0]
abbrev qXM:=bO 16 [uL 6,uM 6 0,uI 7,uT 5 18,uH 8 20]
abbrev qXN:=bO 20 [uI 8,uO,uK 0,uJ,uQ 1375,uc]
abbrev qXO:=bO 26 [uI 8,uO,uK 1,uJ,uI 1,vf 30 31,vF 27,uK 1,ue 1 32]
abbrev qXP:=bO 34 [uI 8,uO,uK 1,uJ,vj 38 8]
abbrev qXI:=sB 15 [uI 14,uH 7 16] (sr qXM (.seq (sr qXN (cD 26 (.exit 1) sK)) (sr qXO (sr qXP (cD 39 (sB 39 [uA (.build (.agg [.nils]) []),ug 4 0 1,uC 4 uU] .ret) sK)))))
abbrev qXJ:qP:=.seq (sr qXL (.blk 0 (.loop (sr [ux 13 0 14] (.seq (cD 15 sK (.exit 0)) (.seq (.blk 1 qXI) (rB 40 [uw 14 1,uH 14 41]))))))) (sB 41 [uR 6 0 1,ug 4 0 1,uC 4 uz] .ret)
def Kq:qK:=⟨2,43,[.l 4 (some 1),.t 5],sB 1 [ud 1 0,uC 3 vH,uU] (sr qXK qXJ)⟩
abbrev qTL:=bO 2 [ud 2 1,uN 0,uN 0,uN 0,uN 0]
abbrev qTM:=bO 12 [uI 0,uO,uK 0,uR 3 0 2,uV 751 15,uH 12 17,uC 17 (uj 12 0),uj 12 1,uH 4 18,uH 8 19]
abbrev qTO:=bO 19 [uL 3,uM 3 0,uL 3,uM 3 1,uH 5 21,uI 23]
abbrev qTP:=bO 24 [uI 6,uI 5,uH 5 25,uI 26]
abbrev qTQ:=bO 3 [uN 0,uN 0,uN 0,uN 11]
abbrev qTR:=bO 31 [uI 0,uO,uK 0,uK 0,uJ,uI 5,uT 5 36,uY 5,uC 8 uu,uX 9 0 5 39]
abbrev qTS:=bO 39 [uL 9,uM 9 2,uI 0,uO,uK 1,uJ,uS,vi 41 46]
abbrev qTT:=bO 3 [uN 0,uN 0,uN 0,uN 3]
abbrev qTU:=bO 48 [uI 0,uO,uK 1,uJ,uL 9,uM 9 2,uT 1 52,uY 1,uL 9,uM 9 1,uD 14 (uC 9 vH),uD 10 (uC 58 (uV 1456 56)),uD 11 (uH 48 59),uD 12 (uC 59 (uj 48 0)),uD 13 (uj 48 1),uX 10 0 1 60,uH 11 61]
abbrev qTV:=bO 3 [uN 0,uN 0,uN 0,uN 9]
abbrev qTJ:=sB 30 [ua 27 7,uH 30 31] (cD 30 (sr qTR (.seq (sr qTS (cD 47 (sr qTT .ret) sK)) (sr qTU (sB 61 [uI 11,uc] (cD 63 (sr qTV .ret) sK))))) sK)
abbrev qTN:=bO 63 [uI 4,uI 5,uI 6,uH 4 64,uI 65,uI 66,uN 0]
abbrev qTK:qP:=.seq (sr [uI 8 0 23] (cD 24 (rg qTP) sK)) (.seq (sr [uI 4 0 26] (.blk 0 (sB 28 [ua 27 8,uH 28 29] (cD 28 (sr qTQ .ret) qTJ)))) (sr qTN .ret))
def KH:qK:=⟨2,67,[.t 4,.t 5,.t 6,.t 7],sr qTL (sr qTM (sr qTO qTK))⟩
def kY:qK:=⟨1,4,[.t 2],sr [uN 0 0 1] (.seq (sr [uI 0 0 2] (cD 3 (sr [uN 1 0 1] .ret) sK)) (sr [uN 0 0 1] .ret))⟩
abbrev qW4:=bO 2 [uI 0,uA (.conv .i32 (.t 3)),uA (.conv .i64 (.t 4)),uH 2 5]
def Kk:qK:=⟨1,6,[.t 2],sr [uN 0 0 1] (sr qW4 .ret)⟩
abbrev qNH:=bO 8 [uI 1,uQ 1400,uI 2,uQ 1400,uH 7 10,uI 12]
abbrev qNI:=bO 15 [uI 7,uI 8,vf 16 17,uQ 1400,uH 6 19]
abbrev qNJ:=bO 21 [uI 7,uI 8,vx 22 23,uQ 1400,uH 6 25]
abbrev qNK:=bO 27 [uI 7,uI 8,uA (.bin .mul (.t 28) (.t 29)),uQ 1400,uH 6 31]
abbrev qNL:=bO 35 [uI 7,uI 8,uA (.bin .quo (.t 36) (.t 37)),uQ 1400,uH 6 39]
abbrev qNM:=bO 41 [uI 7,uI 8,un 42,uQ 566,uH 6 45]
abbrev qNN:=bO 47 [uI 7,uI 8,vg 48 49,uQ 566,uH 6 51]
abbrev qNE:=cD 32 (.seq (sB 33 [uI 8,uW 0] (cD 35 (sr [uN 0 0 5] .ret) sK)) (sr qNL .ret)) (sB 40 [ua 13 5,uH 40 41] (cD 40 (sr qNM .ret) (sB 46 [ua 13 6,uH 46 47] (cD 46 (sr qNN .ret) sK))))
abbrev qNF:=sB 20 [ua 13 2,uH 20 21] (cD 20 (sr qNJ .ret) (sB 26 [ua 13 3,uH 26 27] (cD 26 (sr qNK .ret) (sB 32 [ua 13 4,uH 32 33] qNE))))
abbrev qNG:=sr qNH (.seq (sr [uI 0 0 12] (.blk 0 (sB 14 [ua 13 1,uH 14 15] (cD 14 (sr qNI .ret) qNF)))) (sr [uN 0 0 5] .ret))
def Uj:qK:=⟨3,52,[.t 6],sr [uN 0 0 5] qNG⟩
abbrev qjQ:qP:=.seq (sB 4 [uI 0,uI 1,un 5] (cD 7 (sB 7 [uI 0,uH 4 8] .ret) sK)) (sB 8 [uI 1,uH 4 9] .ret)
def F978:qK:=⟨2,10,[.t 4],sr [uN 0 0 3] qjQ⟩
def qD5:qK:=Qc 2 (some 2)
def qYQ:List qG:=[oP 0 1 (.lbox 4 (.t 0)),oP 1 2 (.lalloc (.agg [iI 0,iI 0,iI 0,.nils])),oP 2 3 (.mov (.c (iI 0))),oP 3 4 (.mov (.c (iI 0)))]
def qYR:List qG:=[oP 0 10 (.build (.agg [iI 0,iI 0,iI 0,.nils]) []),oN 1 (.lstore 2 0 4 (.t 10)),oP 2 3 (.mov (.c (iI 0))),oP 3 4 (.mov (.c (iI 1)))]
def qYS:List qG:=[oP 0 11 (.lload 1 0 (some 4)),oP 1 12 (.call 590 [.t 11]),oP 2 5 (.halloc 4 (.agg [iI 0,iI 0,iI 0,.nils])),oN 3 (.store 4 (.t 5) (.t 12))]
def qYT:List qG:=[oP 0 16 (.build (.agg [iI 0,iI 0,iI 0,.nils]) []),oN 1 (.lstore 2 0 4 (.t 16)),oP 2 3 (.mov (.c (iI 0))),oP 3 4 (.mov (.c (iI 3)))]
def qYU:List qG:=[oP 0 17 (.load (some 4) (.t 5)),oP 1 18 (.faddr 3 (.t 5)),oP 2 19 (.load none (.t 18)),oM 3 20 6,oP 4 21 (.iaddr 10 (.t 19) (.t 20)),oP 5 22 (.faddr 0 (.t 21)),oP 6 23 (.load none (.t 22)),oN 7 (.lstore 2 0 4 (.t 17)),oM 8 3 23,oP 9 4 (.mov (.c (iI 0)))]
def qYP:qP:=.seq (.reg true qYS) (.seq (.reg true [oP 0 13 (.call 591 [.t 5]),oM 1 6 13]) (.seq (.seq (.reg true [oM 0 14 6,oP 1 15 (.bin .lss (.t 14) (.c (iI 0)))]) (.cond (.t 15) (.seq (.reg true qYT) (.ret)) (.skip))) (.seq (.reg true qYU) (.ret))))
def WC:qK:=⟨1,24,[.l 2 (some 4),.t 3,.t 4],.seq (.reg true qYQ) (.seq (.seq (.reg true [oP 0 7 (.lload 1 0 (some 4)),oP 1 8 (.call 589 [.t 7]),oP 2 9 (.not (.t 8))]) (.cond (.t 9) (.seq (.reg true qYR) (.ret)) (.skip))) qYP)⟩
def qaS:List qG:=[oM 0 20 0,oP 1 21 (.call 61 [.t 20]),oP 2 3 (.lalloc (.agg [.nils])),oN 3 (.lstore 3 0 1 (.t 21))]
def qaT:List qG:=[oP 0 23 (.lload 3 0 (some 1)),oP 1 24 (.call 62 [.t 23]),oM 2 22 24,oP 3 25 (.ext (.t 22) 0),oP 4 26 (.ext (.t 22) 1),oM 5 4 25,oM 6 5 26]
def qa0:List qG:=[oP 0 28 (.lload 3 0 (some 1)),oP 1 29 (.call 63 [.t 28]),oM 2 27 29,oP 3 30 (.ext (.t 27) 0),oP 4 31 (.ext (.t 27) 1),oM 5 6 30,oM 6 7 31]
def qa3:List qG:=[oM 0 32 5,oP 1 33 (.bin .neq (.t 32) (.c (iI 0))),oM 2 34 33,oG 3 35 34 false (.mov (.t 7)),oG 4 36 34 false (.bin .neq (.t 35) (.c (iI 0))),oP 5 37 (.pick (.t 34) (.c (.bool true)) (.t 36)),oM 6 38 37,oG 7 39 38 false (.mov (.t 4)),oG 8 40 38 false (.len (.t 39)),oG 9 41 38 false (.bin .eql (.t 40) (.c (iI 0))),oP 10 42 (.pick (.t 38) (.c (.bool true)) (.t 41)),oM 11 43 42,oG 12 44 43 false (.mov (.t 4)),oG 13 45 43 false (.iaddr 1 (.t 44) (.c (iI 0))),oG 14 46 43 false (.load none (.t 45)),oG 15 47 43 false (.mov (.t 6)),oG 16 48 43 false (.call 64 [.t 46,.t 47]),oG 17 49 43 false (.not (.t 48)),oP 18 50 (.pick (.t 43) (.c (.bool true)) (.t 49))]
def qa4:List qG:=[oP 0 51 (.nop 3),oP 1 52 (.lload 3 0 none),oP 2 53 (.len (.t 52)),oP 3 54 (.mksl 1 (iI 0) (.t 53) (.t 53)),oM 4 8 54]
def qa5:List qG:=[oM 0 55 10,oM 1 56 4,oP 2 57 (.len (.t 56)),oP 3 58 (.bin .lss (.t 55) (.t 57))]
def qa6:List qG:=[oP 0 62 (.lload 3 0 (some 1)),oM 1 63 4,oM 2 64 10,oP 3 65 (.iaddr 1 (.t 63) (.t 64)),oP 4 66 (.load none (.t 65)),oM 5 67 4,oM 6 68 10,oP 7 69 (.iaddr 1 (.t 67) (.t 68)),oP 8 70 (.load none (.t 69)),oP 9 71 (.len (.t 70)),oP 10 72 (.bin .sub (.t 71) (.c (iI 1))),oP 11 73 (.iaddr 1 (.t 66) (.t 72)),oP 12 74 (.load none (.t 73)),oP 13 75 (.call 65 [.t 62,.t 74]),oM 14 61 75,oP 15 76 (.ext (.t 61) 0),oP 16 77 (.ext (.t 61) 1),oM 17 11 76,oM 18 12 77]
def qa7:List qG:=[oM 0 78 12,oP 1 79 (.bin .neq (.t 78) (.c (iI 0))),oM 2 80 79,oG 3 81 80 false (.mov (.t 11)),oG 4 82 80 false (.len (.t 81)),oG 5 83 80 false (.mov (.t 4)),oG 6 84 80 false (.mov (.t 10)),oG 7 85 80 false (.iaddr 1 (.t 83) (.t 84)),oG 8 86 80 false (.load none (.t 85)),oG 9 87 80 false (.len (.t 86)),oG 10 88 80 false (.bin .neq (.t 82) (.t 87)),oP 11 89 (.pick (.t 80) (.c (.bool true)) (.t 88)),oM 12 90 89,oG 13 91 90 false (.mov (.t 10)),oG 14 92 90 false (.bin .gtr (.t 91) (.c (iI 0))),oG 15 93 90 false (.mov (.t 92)),oG 16 94 93 true (.mov (.t 4)),oG 17 95 93 true (.mov (.t 10)),oG 18 96 93 true (.bin .sub (.t 95) (.c (iI 1))),oG 19 97 93 true (.iaddr 1 (.t 94) (.t 96)),oG 20 98 93 true (.load none (.t 97)),oG 21 99 93 true (.iaddr 1 (.t 98) (.c (iI 0))),oG 22 100 93 true (.load none (.t 99)),oG 23 101 93 true (.mov (.t 4)),oG 24 102 93 true (.mov (.t 10)),oG 25 103 93 true (.iaddr 1 (.t 101) (.t 102)),oG 26 104 93 true (.load none (.t 103)),oG 27 105 93 true (.iaddr 1 (.t 104) (.c (iI 0))),oG 28 106 93 true (.load none (.t 105)),oG 29 107 93 true (.bin .geq (.t 100) (.t 106)),oG 30 108 90 false (.pick (.t 93) (.t 107) (.c (.bool false))),oP 31 109 (.pick (.t 90) (.c (.bool true)) (.t 108))]
def qa8:List qG:=[oM 0 110 13,oM 1 111 4,oM 2 112 10,oP 3 113 (.iaddr 1 (.t 111) (.t 112)),oP 4 114 (.load none (.t 113)),oP 5 115 (.len (.t 114)),oP 6 116 (.bin .lss (.t 110) (.t 115))]
def qa9:List qG:=[oM 0 119 13,oP 1 120 (.bin .gtr (.t 119) (.c (iI 0))),oM 2 121 120,oG 3 122 121 true (.mov (.t 4)),oG 4 123 121 true (.mov (.t 10)),oG 5 124 121 true (.iaddr 1 (.t 122) (.t 123)),oG 6 125 121 true (.load none (.t 124)),oG 7 126 121 true (.mov (.t 13)),oG 8 127 121 true (.bin .sub (.t 126) (.c (iI 1))),oG 9 128 121 true (.iaddr 1 (.t 125) (.t 127)),oG 10 129 121 true (.load none (.t 128)),oG 11 130 121 true (.mov (.t 4)),oG 12 131 121 true (.mov (.t 10)),oG 13 132 121 true (.iaddr 1 (.t 130) (.t 131)),oG 14 133 121 true (.load none (.t 132)),oG 15 134 121 true (.mov (.t 13)),oG 16 135 121 true (.iaddr 1 (.t 133) (.t 134)),oG 17 136 121 true (.load none (.t 135)),oG 18 137 121 true (.bin .geq (.t 129) (.t 136)),oP 19 138 (.pick (.t 121) (.t 137) (.c (.bool false))),oM 20 139 138,oG 21 140 139 false (.mov (.t 11)),oG 22 141 139 false (.mov (.t 4)),oG 23 142 139 false (.mov (.t 10)),oG 24 143 139 false (.iaddr 1 (.t 141) (.t 142)),oG 25 144 139 false (.load none (.t 143)),oG 26 145 139 false (.mov (.t 13)),oG 27 146 139 false (.iaddr 1 (.t 144) (.t 145)),oG 28 147 139 false (.load none (.t 146)),oG 29 148 139 false (.call 66 [.t 140,.t 147]),oG 30 149 139 false (.not (.t 148)),oP 31 150 (.pick (.t 139) (.c (.bool true)) (.t 149))]
def qaU:List qG:=[oM 0 151 8,oM 1 152 4,oM 2 153 10,oP 3 154 (.iaddr 1 (.t 152) (.t 153)),oP 4 155 (.load none (.t 154)),oM 5 156 13,oP 6 157 (.iaddr 1 (.t 155) (.t 156)),oP 7 158 (.load none (.t 157)),oM 8 159 10,oP 9 160 (.bin .add (.t 159) (.c (iI 1))),oP 10 161 (.iaddr 1 (.t 151) (.t 158)),oN 11 (.store 1 (.t 161) (.t 160))]
def qaL:qP:=.seq (.seq (.reg true qa8) (.cond (.t 116) (.skip) (.exit 2))) (.seq (.blk 3 (.seq (.seq (.reg true qa9) (.cond (.t 150) (.seq (.reg true [oP 0 2 (.mov (.c (.bool false)))]) (.ret)) (.skip))) (.reg true qaU))) (.reg true [oM 0 117 13,oP 1 118 (.bin .add (.t 117) (.c (iI 1))),oM 2 13 118]))
def qaV:List qG:=[oM 0 162 9,oM 1 163 4,oM 2 164 10,oP 3 165 (.iaddr 1 (.t 163) (.t 164)),oP 4 166 (.load none (.t 165)),oP 5 167 (.len (.t 166)),oP 6 168 (.bin .add (.t 162) (.t 167)),oM 7 9 168]
def qaM:qP:=.seq (.reg true qa6) (.seq (.seq (.reg true qa7) (.cond (.t 109) (.seq (.reg true [oP 0 2 (.mov (.c (.bool false)))]) (.ret)) (.skip))) (.seq (.seq (.reg true [oP 0 13 (.mov (.c (iI 0)))]) (.blk 2 (.loop qaL))) (.reg true qaV)))
def qaN:qP:=.seq (.reg true [oP 0 10 (.mov (.c (iI 0)))]) (.blk 0 (.loop (.seq (.seq (.reg true qa5) (.cond (.t 58) (.skip) (.exit 0))) (.seq (.blk 1 qaM) (.reg true [oM 0 59 10,oP 1 60 (.bin .add (.t 59) (.c (iI 1))),oM 2 10 60])))))
def qaW:List qG:=[oM 0 169 9,oP 1 170 (.nop 3),oP 2 171 (.lload 3 0 none),oP 3 172 (.len (.t 171)),oP 4 173 (.bin .neq (.t 169) (.t 172))]
def qaX:List qG:=[oM 0 174 14,oP 1 175 (.nop 3),oP 2 176 (.lload 3 0 none),oP 3 177 (.len (.t 176)),oP 4 178 (.bin .lss (.t 174) (.t 177))]
def qaY:List qG:=[oM 0 181 15,oP 1 182 (.nop 3),oP 2 183 (.lload 3 0 none),oM 3 184 14,oP 4 185 (.iaddr 5 (.t 183) (.t 184)),oP 5 186 (.faddr 4 (.t 185)),oP 6 187 (.load none (.t 186)),oP 7 188 (.len (.t 187)),oP 8 189 (.bin .lss (.t 181) (.t 188))]
def qaZ:List qG:=[oM 0 192 8,oM 1 193 14,oP 2 194 (.iaddr 1 (.t 192) (.t 193)),oP 3 195 (.load none (.t 194)),oP 4 196 (.bin .eql (.t 195) (.c (iI 0))),oM 5 197 196,oG 6 198 197 false (.mov (.t 8)),oG 7 199 197 false (.nop 3),oG 8 200 197 false (.lload 3 0 none),oG 9 201 197 false (.mov (.t 14)),oG 10 202 197 false (.iaddr 5 (.t 200) (.t 201)),oG 11 203 197 false (.faddr 4 (.t 202)),oG 12 204 197 false (.load none (.t 203)),oG 13 205 197 false (.mov (.t 15)),oG 14 206 197 false (.iaddr 2 (.t 204) (.t 205)),oG 15 207 197 false (.faddr 0 (.t 206)),oG 16 208 197 false (.load none (.t 207)),oG 17 209 197 false (.iaddr 1 (.t 198) (.t 208)),oG 18 210 197 false (.load none (.t 209)),oG 19 211 197 false (.mov (.t 8)),oG 20 212 197 false (.mov (.t 14)),oG 21 213 197 false (.iaddr 1 (.t 211) (.t 212)),oG 22 214 197 false (.load none (.t 213)),oG 23 215 197 false (.bin .neq (.t 210) (.t 214)),oP 24 216 (.pick (.t 197) (.c (.bool true)) (.t 215))]
def qaO:qP:=.loop (.seq (.seq (.reg true qaY) (.cond (.t 189) (.skip) (.exit 6))) (.seq (.blk 7 (.seq (.reg true qaZ) (.cond (.t 216) (.seq (.reg true [oP 0 2 (.mov (.c (.bool false)))]) (.ret)) (.skip)))) (.reg true [oM 0 190 15,oP 1 191 (.bin .add (.t 190) (.c (iI 1))),oM 2 15 191])))
def qaP:qP:=.loop (.seq (.seq (.reg true qaX) (.cond (.t 178) (.skip) (.exit 4))) (.seq (.blk 5 (.seq (.reg true [oP 0 15 (.mov (.c (iI 0)))]) (.blk 6 qaO))) (.reg true [oM 0 179 14,oP 1 180 (.bin .add (.t 179) (.c (iI 1))),oM 2 14 180])))
def qa1:List qG:=[oP 0 218 (.lload 3 0 (some 1)),oP 1 219 (.call 67 [.t 218]),oM 2 217 219,oP 3 220 (.ext (.t 217) 0),oP 4 221 (.ext (.t 217) 1),oP 5 16 (.lalloc (.agg [.nils])),oN 6 (.lstore 16 0 1 (.t 220)),oM 7 17 221]
def qa2:List qG:=[oM 0 222 17,oP 1 223 (.bin .eql (.t 222) (.c (iI 0))),oM 2 224 223,oG 3 225 224 true (.nop 16),oG 4 226 224 true (.lload 16 0 none),oG 5 227 224 true (.len (.t 226)),oG 6 228 224 true (.mov (.t 6)),oG 7 229 224 true (.len (.t 228)),oG 8 230 224 true (.bin .eql (.t 227) (.t 229)),oP 9 231 (.pick (.t 224) (.t 230) (.c (.bool false))),oM 10 232 231,oG 11 233 232 true (.lload 16 0 (some 1)),oG 12 234 232 true (.call 68 [.t 233]),oP 13 235 (.pick (.t 232) (.t 234) (.c (.bool false))),oM 14 236 235,oG 15 237 236 true (.nop 16),oG 16 238 236 true (.lload 16 0 none),oG 17 239 236 true (.len (.t 238)),oG 18 240 236 true (.nop 3),oG 19 241 236 true (.lload 3 0 none),oG 20 242 236 true (.len (.t 241)),oG 21 243 236 true (.bin .eql (.t 239) (.t 242)),oG 22 244 236 true (.mov (.t 4)),oG 23 245 236 true (.len (.t 244)),oG 24 246 236 true (.bin .eql (.t 245) (.c (iI 1))),oG 25 247 236 true (.beq false (.t 243) (.t 246)),oP 26 248 (.pick (.t 236) (.t 247) (.c (.bool false))),oM 27 2 248]
def qaQ:qP:=.seq (.reg true [oP 0 9 (.mov (.c (iI 0)))]) (.seq qaN (.seq (.seq (.reg true qaW) (.cond (.t 173) (.seq (.reg true [oP 0 2 (.mov (.c (.bool false)))]) (.ret)) (.skip))) (.seq (.seq (.reg true [oP 0 14 (.mov (.c (iI 0)))]) (.blk 4 qaP)) (.seq (.reg true qa1) (.seq (.reg true qa2) (.ret))))))
def qaR:qP:=.seq (.seq (.reg true [oM 0 18 0,oP 1 19 (.call 60 [.t 18,.c (.nils)])]) (.cond (.t 19) (.seq (.reg true [oP 0 2 (.mov (.c (.bool true)))]) (.ret)) (.skip))) (.seq (.reg true qaS) (.seq (.reg true qaT) (.seq (.reg true qa0) (.seq (.seq (.reg true qa3) (.cond (.t 50) (.seq (.reg true [oP 0 2 (.mov (.c (.bool false)))]) (.ret)) (.skip))) (.seq (.reg true qa4) qaQ)))))
def F3:qK:=⟨1,249,[.t 2],.seq (.reg true [oP 0 2 (.mov (.c (.bool false)))]) qaR⟩
abbrev qhA:=bO 4 [uL 2,uM 2 0,uL 3,uM 3 0,un 6,uP,uF 10 (uL 2),uF 10 (uM 2 0),uF 10 (uL 3),uF 10 (uM 3 0),uF 10 (vg 12 14),uF 10 uP,uE 16 (uL 2),uE 16 (uM 2 1),uE 16 (uL 3),uE 16 (uM 3 1),uE 16 (un 18),uF 10 (uZ 16),uk 10,uH 4 23]
def F948:qK:=⟨2,24,[.t 4],sB 1 [ud 2 0,ud 2 1,uU] (sr qhA .ret)⟩
abbrev qb4:=bO 7 [uI 4,uI 0,uO,uK 0,uJ,uS,un 8]
abbrev qb5:=bO 16 [uI 5,uI 0,uO,uK 0,uJ,uI 4,uT 5 21,uK 4,uJ,uS,un 17]
abbrev qb6:=bO 29 [uI 4,uI 5,vI 0 1 30 1 1 31,uC 5 ui,uX 6 0 2 32]
abbrev qb7:=bO 32 [uR 6 0 2,uI 0,uO,uK 0,uJ,uI 4,uT 5 37,uK 4,uJ,uI 5,uT 2 41,uY 2,uV 948 33]
abbrev qb8:=bO 45 [uI 3,uR 6 0 2,uI 0,uO,uK 0,uJ,uI 4,uT 5 51,uK 4,uJ,uI 5,uT 2 55,uY 2,u9 0 2 47 2 2 58,vE 4 1 0 59,uo 4 46,uH 3 61]
abbrev qb2:qP:=.loop (.seq (sr qb5 (cD 27 sK (.exit 2))) (.seq (.blk 3 (sr qb6 (sr qb7 (cD 45 (rg qb8) sK)))) (rB 27 [uI 5,ub 1,uH 5 29])))
abbrev qb3:qP:=.loop (.seq (sr qb4 (cD 14 sK (.exit 0))) (.seq (.blk 1 (sr [uN 0 0 4] (.blk 2 qb2))) (rB 14 [uI 4,ub 1,uH 4 16])))
def kZ:qK:=⟨1,63,[.t 2],sr [ur 0 1] (sB 6 [vC 4,uH 3 7] (.seq (sr [uN 0 0 3] (.blk 0 qb3)) (sB 61 [uI 3,uH 2 62] .ret)))⟩
abbrev qNR:=bO 11 [uI 7,uI 6,uS,un 12]
abbrev qNS:=bO 17 [uI 6,uI 7,uT 4 18,uK 0,uY 2,uC 7 ui,uX 8 0 2 22]
abbrev qNT:=bO 22 [uI 6,uI 7,uT 4 23,uK 2,uY 2,uC 8 ui,uX 9 0 2 27]
abbrev qNU:=bO 27 [uL 9,uM 9 1,vj 29 0,uP,uE 31 (uL 8),uE 31 (uM 8 1),uE 31 (vj 33 0),uE 31 uP,uF 35 (uL 8),uF 35 (uM 8 0),uF 35 (uW 0),uF 35 uP,uE 39 (uI 1),uF 35 (uZ 39),uE 31 (uk 35),uZ 31]
abbrev qNP:qP:=.seq (.blk 1 (sr qNS (sr qNT (sr qNU (cD 43 (rB 43 [uI 5,ub 1,uH 5 45]) sK))))) (rB 15 [uI 7,ub 1,uH 7 17])
abbrev qNQ:=sB 9 [uI 0,uQ 569,uH 6 11] (.seq (sr [uN 0 0 6] (.blk 0 (.loop (.seq (sr qNR (cD 15 sK (.exit 0))) qNP)))) (sB 45 [uI 5,uH 4 46] .ret))
def Um:qK:=⟨2,47,[.t 4],sr [uN 0 0 3] (sr [uN 0 0 4] qNQ)⟩
abbrev qPK:=bO 5 [uI 0,uI 0,uO,uK 4,uJ,uI 1,uI 2,uD 8 (uH 14 1),uD 9 (uI 2),uD 7 (uC 12 (uG [uJ 4 9] (uV 978 11))),uC 15 (uG [uJ 4 9] (uV 856 14)),vI 0 1 13 1 1 16,u5 2 1 0 17,uo 2 10,vF 6,uK 4,ue 1 19]
def Uz:qK:=⟨3,22,[],rg qPK⟩
abbrev qPY:=bO 5 [uI 0,uO,uK 1,uJ,uH 5 9]
abbrev qPZ:=bO 9 [uI 0,uI 0,uO,uK 0,uJ,uI 5,uT 5 14,uK 2,uJ,vF 10,uK 1,ue 1 18]
abbrev qP0:=bO 20 [uI 0,uO,uK 0,uJ,uI 5,uR 3 0 5,uf 5 24 25,ue 5 26]
def U4:qK:=⟨2,29,[.t 4],sB 2 [ud 5 1,uN 0] (sr qPY (sr qPZ (sr qP0 (sB 27 [uI 5,uH 4 28] .ret))))⟩
abbrev qW5:=bO 2 [uI 0,vL 0 1 13,uV 1282 3,vG 0 1 2 1 1 5,ug 2 0 2]
def Kl:qK:=⟨1,7,[.l 2 (some 2)],sr [ui 0 1] (sr qW5 .ret)⟩
abbrev qN5:=bO 23 [uI 10,uI 1,uO,uK 0,uJ,uS,un 24]
abbrev qN6:=bO 32 [uI 1,uO,uK 0,uJ,uI 10,uT 5 36,uH 11 38]
abbrev qOG:=bO 38 [uI 11,uO,uK 0,uJ,uI 11,uO,uK 1,uJ,uI 11,uO,uK 2,uJ,uI 11,uO,uK 3,uJ,uD 18 (uC 11 uu),uD 16 (uC 54 (uG [uJ 3 41,uJ 7 45,uJ 11 49] (uQ 402))),uD 17 (vV 0 1 42 1 1 46 2 1 50 3 1 55),ug 12 0 5]
abbrev qON:=bO 59 [uL 12,uM 12 1,uI 2,vf 61 62,uL 12,uX 12 1 1 63]
abbrev qOO:=bO 64 [uI 13,uI 11,uO,uK 4,uJ,uS,un 65]
abbrev qOP:=bO 73 [uL 12,uM 12 4,vJ,u5 2 1 0 76,uo 2 75,uL 12,uX 12 4 1 78]
abbrev qN3:=sr [uN 1 0 12] (.blk 2 (.loop (.seq (sr qOO (cD 71 sK (.exit 2))) (.seq (.blk 3 (rg qOP)) (rB 71 [uI 13,ub 1,uH 13 73])))))
abbrev qOQ:=bO 79 [uI 9,uI 0,uR 12 0 5,uV 1282 81,vN 1 0 1 0 83,uo 1 80,uH 9 85]
abbrev qN4:qP:=.seq (.blk 1 (sr qN6 (sr qOG (.seq (sB 56 [uL 12,uM 12 0,uQ 1372] (cD 59 (rg qON) sK)) (.seq qN3 (rg qOQ)))))) (rB 30 [uI 10,ub 1,uH 10 32])
abbrev qOR:=bO 88 [uI 16,uI 15,uS,un 89]
abbrev qN7:=bO 94 [uI 15,uI 16,uT 4 95,uK 0,uY 2,uC 16 ui,uX 17 0 2 99]
abbrev qN8:=bO 99 [uI 15,uI 16,uT 4 100,uK 2,uY 2,uC 17 ui,uX 18 0 2 104]
abbrev qN9:=bO 107 [uL 17,uM 17 0,uW 0,uP,uE 111 (uL 18),uE 111 (uM 18 1),uE 111 (uW 0),uZ 111,uH 107 115]
abbrev qOA:=bO 115 [uI 9,uL 18,uM 18 0,uT 1 116,uJ,vG 0 1 1 1 1 120,ug 14 0 2]
abbrev qOB:=bO 122 [uL 17,uM 17 0,uW 0,uH 122 125]
abbrev qOC:=bO 131 [uI 0,uO,uK 0,uJ,uI 9,uL 18,uM 18 0,uT 1 136,uJ,uT 5 135,uK 4,uJ,uL 18,uM 18 1,vv 145 1,uR 14 0 2,uf 2 143 146,ue 2 147]
abbrev qNV:qP:=.seq (sB 126 [uL 7,uM 7 0,uW 0] (cD 129 (rB 129 [uI 0,uQ 1418,ug 14 0 2]) sK)) (sr qOC (.exit 5))
abbrev qOD:=bO 149 [uL 17,uM 17 1,vj 151 0,uP,uE 153 (uL 18),uE 153 (uM 18 1),uE 153 (vj 155 0),uZ 153,uH 149 157]
abbrev qOE:=bO 161 [uL 17,uM 17 1,vj 163 0,uH 161 164]
abbrev qOF:=bO 164 [uI 9,uL 18,uM 18 0,uT 1 165,uJ,vG 0 1 1 1 1 169,ug 19 0 2]
abbrev qOH:=bO 171 [uL 18,uM 18 1,vj 173 0,uH 171 174]
abbrev qOI:=bO 174 [uI 9,uL 17,uM 17 0,uT 1 175,uJ,vG 0 1 1 1 1 179,ug 20 0 2]
abbrev qNW:=cD 149 (sB 157 [uI 0,uQ 1418,ug 19 0 2] (rB 159 [uR 19 0 2,ug 20 0 2])) (sr qOE (cD 161 (rg qOF) (sr qOH (cD 171 (rg qOI) sK))))
abbrev qOJ:=bO 183 [uI 0,uO,uK 0,uJ,uI 9,uL 17,uM 17 0,uT 1 188,uJ,uT 5 187,uK 4,uJ,uL 17,uM 17 1,vv 197 1,uR 19 0 2,uf 2 195 198,ue 2 199]
abbrev qOK:=bO 203 [uI 0,uO,uK 0,uJ,uI 9,uL 18,uM 18 0,uT 1 208,uJ,uT 5 207,uK 4,uJ,uL 18,uM 18 1,vv 217 1,uR 20 0 2,uf 2 215 218,ue 2 219]
abbrev qNX:qP:=.seq (sB 180 [uL 17,uM 17 1,vj 182 0] (cD 183 (rg qOJ) sK)) (sB 200 [uL 18,uM 18 1,vj 202 0] (cD 203 (rg qOK) sK))
abbrev qNY:=sB 105 [vJ,uC 19 ui,uX 20 0 2 106] (.seq (.blk 6 (sr qN9 (cD 107 (sr qOA (.exit 5)) (sr qOB (cD 122 (sB 125 [uR 7 0 2,ug 14 0 2] qNV) (sr qOD qNW)))))) qNX)
abbrev qNZ:qP:=.seq (.blk 5 (sr qN7 (sr qN8 (sB 104 [vJ,uC 18 ui,uX 19 0 2 105] qNY)))) (rB 92 [uI 16,ub 1,uH 16 94])
abbrev qOL:=bO 222 [uI 22,uI 21,uS,un 223]
abbrev qOM:=bO 228 [uI 0,uI 9,uI 21,uI 22,uT 2 231,uK 0,uJ,uT 1 230,uJ,uI 9,uI 21,uI 22,uT 2 239,uK 1,uJ,uT 1 238,uJ,v8 1280 229 237 245]
abbrev qN0:=sr [uN 0 0 21] (.blk 7 (.loop (.seq (sr qOL (cD 226 sK (.exit 7))) (.seq (.blk 8 (rg qOM)) (rB 226 [uI 22,ub 1,uH 22 228])))))
abbrev qN1:qP:=.seq (sr [uN 0 0 15] (.blk 4 (.loop (.seq (sr qOR (cD 92 sK (.exit 4))) qNZ)))) (sB 220 [uI 1,uQ 742,uH 21 222] (.seq qN0 (sB 246 [uR 14 0 2,ug 8 0 2] .ret)))
abbrev qN2:qP:=.seq (sr [uN 1 0 9] (.blk 0 (.loop (.seq (sr qN5 (cD 30 sK (.exit 0))) qN4)))) (sB 85 [vJ,uC 13 ui,uX 14 0 2 86] (sB 86 [uI 1,uQ 569,uH 15 88] qN1))
def Un:qK:=⟨4,248,[.l 8 (some 2)],sB 6 [ud 2 3,ui] (sB 22 [uA (.bslice 1 (iI 0) 1 [(0,.c (iI (-1)))]),uH 9 23] qN2)⟩
abbrev qPF:=bO 4 [uI 0,uO,uK 0,uJ,uI 0,uO,uK 1,uJ,uI 0,uO,uK 2,uJ,uI 0,uO,uK 3,uJ,vJ,uD 19 (uC 2 uu),uD 17 (uC 21 (u5 2 1 0 21)),uD 18 (vM 0 1 8 1 1 12 2 1 16 3 1 20 4 1 22),ug 3 0 5]
abbrev qPG:=bO 23 [uI 4,uI 0,uO,uK 4,uJ,uS,un 24]
abbrev qPH:=bO 32 [uL 3,uM 3 4,vJ,u5 2 1 0 35,uo 2 34,uL 3,uX 3 4 1 37]
abbrev qPE:=sr [uN 0 0 3] (.blk 0 (.loop (.seq (sr qPG (cD 30 sK (.exit 0))) (.seq (.blk 1 (rg qPH)) (rB 30 [uI 4,ub 1,uH 4 32])))))
def Uw:qK:=⟨1,40,[.l 2 (some 5)],sr [uu 0 1] (sr qPF (.seq qPE (sB 38 [uR 3 0 5,ug 2 0 5] .ret)))⟩
abbrev qhM:=bO 6 [uI 0,uO,uK 0,uJ,uL 3,uM 3 0,uT 5 10,uQ 1277,uC 4 (vP 5),ue 5 14]
abbrev qhN:=bO 14 [uI 0,uO,uK 0,uJ,uL 3,uM 3 1,uT 5 18,uQ 1277,uC 5 (vP 5),ue 5 22]
def F969:qK:=⟨2,24,[.t 4],sB 2 [ud 2 1,uN 0] (.seq (.reg false qhM) (.seq (.reg false qhN) (sB 22 [uA (.call 744 [.t 5,.t 6]),uH 4 23] .ret)))⟩
abbrev qhR:=bO 7 [uI 0,uO,uK 0,uJ,uL 3,uM 3 0,uT 5 11,uH 6 14]
abbrev qhS:=bO 14 [uI 0,uO,uK 0,uJ,uL 3,uM 3 1,uT 5 18,uH 7 21]
abbrev qhT:=bO 21 [uI 6,uO,uK 0,uJ,uI 6,uO,uK 1,uJ,uI 7,uO,uK 0,uJ,uI 7,uO,uK 1,uJ,v7 1110 25 29 33 37,uW 2]
abbrev qhU:=bO 39 [uL 3,uM 3 1,uL 3,uM 3 0,uH 4 41,uI 43]
abbrev qhV:=bO 43 [uL 3,uM 3 0,uL 3,uM 3 1,uH 4 45,uI 47]
def F971:qK:=⟨2,48,[.t 4,.t 5],sB 2 [ud 2 1,uN 0,uN 0] (sr qhR (sr qhS (.seq (sr qhT (cD 39 (sr qhU .ret) sK)) (sr qhV .ret))))⟩
abbrev qe6:=bO 13 [uI 1,uR 5 0 2,uV 971 14,uH 13 16,uC 16 (uj 13 0),uj 13 1,uH 8 17,uI 18]
abbrev qe7:=bO 18 [uI 1,uO,uK 0,uJ,uI 8,uT 5 22,uH 10 24]
abbrev qe8:=bO 24 [uI 1,uO,uK 0,uJ,uI 9,uT 5 28,uH 11 30]
abbrev qe9:=bO 37 [uI 11,uO,uK 4,uJ,uS,uA (.bin .mul (.c (iI 3)) (.t 42)),ve 2 43,uH 6 44,uN 0]
abbrev qfA:=bO 46 [uI 11,uO,uK 4,uJ,uS,uH 6 51,uN 0]
abbrev qfB:=bO 55 [uI 10,uO,uK 4,uJ,uS,ve 1 60,uH 6 61,uN 0]
abbrev qfC:=bO 63 [uI 10,uO,uK 2,uJ,uI 0,uS,vi 67 69]
abbrev qfD:=bO 70 [uI 0,uI 10,uO,uK 2,uJ,uT 1 71,uH 12 76]
abbrev qfE:=bO 76 [uI 12,uD 2 (uH 79 10),uD 3 uO,uD 4 (uK 1),uD 5 uJ,uD 1 (uC 77 (uG [uJ 5 81] (uQ 1177))),uC 82 (vf 78 82),vj 83 8]
abbrev qfF:=bO 84 [uI 12,uO,uK 0,uJ,uS,vv 89 1,uI 12,uG [uJ 3 87] (uA (.call 1174 [.t 91,.c (.bool false)])),vf 90 92,uH 6 93,uN 0]
abbrev qe2:qP:=.seq (sr qfC (cD 70 (sB 5 [uN 0,uN 3] .ret) sK)) (sr qfD (.seq (sr qfE (cD 84 (sB 5 [uN 0,uN 9] .ret) sK)) (sr qfF .ret)))
abbrev qe3:=cD 52 (sB 5 [uN 1,uN 0] .ret) (sB 54 [ua 33 6,uH 54 55] (cD 54 (sr qfB .ret) (sB 62 [ua 33 7,uH 62 63] (cD 62 qe2 sK))))
abbrev qe4:=sB 36 [ua 33 3,uH 36 37] (cD 36 (sr qe9 .ret) (sB 45 [ua 33 4,uH 45 46] (cD 45 (sr qfA .ret) (sB 52 [ua 33 5,uH 52 53] qe3))))
abbrev qe5:=sB 30 [uI 1,uR 5 0 2,uV 969 31] (.blk 0 (sB 34 [ua 33 8,uH 34 35] (cD 34 (sB 5 [uN 0,uN 11] .ret) qe4)))
def F855:qK:=⟨3,94,[.t 6,.t 7],sB 4 [ud 2 2,uN 0,uN 0] (sr qe6 (sr qe7 (sr qe8 (.seq qe5 (sB 5 [uN 0,uN 0] .ret)))))⟩
def F857:qK:=⟨1,5,[.t 2],sr [uN 0 0 1] (.seq (sB 2 [uI 0,uW 7] (cD 4 (sr [uN 1 0 1] .ret) sK)) (sr [uN 2 0 1] .ret))⟩
abbrev qhP:=bO 4 [uI 0,uO,uK 1,uJ,uH 4 8]
abbrev qhQ:=bO 10 [uI 0,uO,uK 0,uJ,uI 4,uT 5 14,uK 2,uJ,uH 4 18]
abbrev qhO:qP:=.loop (.seq (sB 8 [uI 4,vh 9 0] (cD 10 sK (.exit 0))) (.seq (.blk 1 (rB 18 [uI 3,ub 1,uH 3 20])) (rg qhQ)))
def F970:qK:=⟨1,22,[.t 2],sr [uN 0 0 1] (sr [uN 0 0 2] (.seq (sr qhP (.blk 0 qhO)) (sB 20 [uI 3,uH 2 21] .ret)))⟩
abbrev qgQ:=bO 2 [uI 0,uO,uK 0,uJ,uI 0,uO,uK 1,uJ,uI 0,uO,uK 2,uJ,uI 0,uO,uK 3,uJ,uD 17 (uC 19 (vC 2)),uD 18 (uI 0),uD 19 uO,uD 20 (uK 4),uD 21 uJ,uD 16 (uC 18 (uG [uJ 3 5,uJ 7 9,uJ 11 13,uJ 21 23] (uQ 402))),uC 24 (uG [uJ 3 5,uJ 7 9,uJ 11 13] (uo 2 20)),vM 0 1 6 1 1 10 2 1 14 3 1 19 4 1 25,ug 2 0 5]
def XG:qK:=⟨1,27,[.l 2 (some 5)],sr [uu 0 1] (sr qgQ .ret)⟩
abbrev qPI:=bO 3 [uI 0,uO,uK 0,uJ,uI 1,uI 0,uO,uK 1,uJ,uA (.build (.agg [iI 0,iI 0,iI 0,.nils,.nils]) [(2,1,.t 12)]),uf 5 7 8,ue 5 13]
abbrev qPJ:=bO 14 [uI 0,uI 1,vF 15,uK 1,ue 1 16]
def Ux:qK:=⟨2,19,[],sr qPI (rg qPJ)⟩
def Uy:qK:=⟨1,5,[.l 2 (some 2)],sr [ui 0 1] (sB 2 [uI 0,vG 0 1 1 1 1 3,ug 2 0 2] .ret)⟩
abbrev qPN:=bO 13 [uI 0,uI 2,uO,uK 0,uJ,uI 2,uO,uK 1,uJ,uI 2,uO,uK 2,uJ,uI 2,uO,uK 3,uJ,uG [uJ 4 17,uJ 8 21,uJ 12 25] (uQ 402),vV 0 1 18 1 1 22 2 1 26 3 1 31,uV 1282 14,uH 7 33]
abbrev qPO:=bO 33 [uI 0,uI 2,uO,uK 0,uJ,uI 2,uO,uK 1,uJ,uI 2,uO,uK 2,uJ,uI 2,uO,uK 3,uJ,uG [uJ 4 37,uJ 8 41,uJ 12 45] (uQ 402),vV 0 1 38 1 1 42 2 1 46 3 1 51,uV 1282 34,uH 8 53]
abbrev qPQ:=bO 53 [uI 1,uO,uK 4,uJ,uq 2 0,uY 2,uI 7,uD 9 (uH 63 1),uD 10 uO,uD 11 (uK 4),uD 12 uJ,uD 13 (uq 2 1),uD 14 (uY 2),uD 15 (uI 8),uD 7 (uC 60 (uG [uJ 3 56,uY 2 5 58,uJ 12 65,uY 2 14 67] (uQ 1279))),uD 8 (u9 0 2 59 2 2 61),uC 69 (uG [uJ 3 56,uY 2 5 58,uJ 12 65,uY 2 14 67] (uQ 1279)),u9 0 2 68 2 2 70,vR 4 2 0 62 1 71,uH 9 72]
abbrev qPR:=bO 72 [uI 10,uI 2,uO,uK 4,uJ,uS,un 73]
abbrev qPS:=bO 81 [uI 0,uI 1,uO,uK 1,uJ,vd 0 1 4 1 1 86,uV 1282 82,uH 11 88]
abbrev qPT:=bO 88 [uI 0,uQ 1418,uC 11 ui,uX 12 0 2 90]
abbrev qPU:=bO 90 [uI 0,uQ 1418,uC 12 ui,uX 13 0 2 92]
abbrev qPV:=bO 92 [uI 0,uO,uK 0,uJ,uI 11,uR 12 0 2,uR 13 0 2,vS 2 2 0 98 1 99,uf 5 96 97,uK 4,ue 1 100]
abbrev qPW:=bO 102 [uI 0,uO,uK 0,uJ,uI 7,uI 0,uO,uK 0,uJ,uI 7,uT 5 111,uK 4,uJ,uR 12 0 2,u5 2 1 0 116,uG [uJ 3 105] (uo 2 115),uf 5 106 107,uK 4,ue 1 118]
abbrev qPX:=bO 120 [uI 0,uO,uK 0,uJ,uI 8,uI 0,uO,uK 0,uJ,uI 8,uT 5 129,uK 4,uJ,uR 13 0 2,u5 2 1 0 134,uG [uJ 3 123] (uo 2 133),uf 5 124 125,uK 4,ue 1 136]
abbrev qPP:=bO 138 [uI 9,uI 2,uO,uK 4,uJ,uI 10,uT 2 143,uY 2,uI 11,uG [uJ 4 142,uY 2 7 145] (uQ 1279),u9 0 2 146 2 2 148,vE 4 1 0 149,uo 4 139,uH 9 151]
abbrev qPL:qP:=.seq (.blk 1 (sr qPS (sr qPT (sr qPU (sr qPV (sr qPW (sr qPX (rg qPP)))))))) (rB 79 [uI 10,ub 1,uH 10 81])
abbrev qPM:=sr qPQ (.seq (sr [uN 0 0 9] (.blk 0 (.loop (.seq (sr qPR (cD 79 sK (.exit 0))) qPL)))) (sB 151 [uI 9,uH 6 152] .ret))
def U0:qK:=⟨3,153,[.t 6],sr [ur 0 5] (sr qPN (sr qPO qPM))⟩
abbrev qP5:=bO 12 [uI 2,uO,uK 3,uJ,uq 1 0,uJ,uH 7 18]
abbrev qP6:=bO 18 [uI 2,uO,uK 0,uJ,uW 10]
abbrev qQD:=bO 23 [uI 2,uO,uK 3,uJ,uI 1,uO,uK 2,uJ,uT 1 27,uJ,uH 7 33]
abbrev qQE:=bO 33 [uI 1,uO,uK 2,uJ,uW 0]
abbrev qQF:=bO 38 [uI 2,uO,uK 3,uJ,uq 1 1,uJ,uH 7 44]
abbrev qQG:=bO 44 [uI 0,uI 2,uO,uK 1,uJ,uI 7,vT 0 1 12 1 1 49 2 1 50,uV 1282 45,uH 8 52]
abbrev qQH:=bO 53 [uI 10,uI 1,uO,uK 4,uJ,uS,un 54]
abbrev qQI:=bO 62 [uI 9,uI 0,uI 2,uO,uK 1,uJ,vd 0 1 3 1 1 68,uV 1282 64,vN 1 0 1 0 70,uo 1 63,uH 9 72]
abbrev qP4:=sr [uN 0 0 9] (.blk 0 (.loop (.seq (sr qQH (cD 60 sK (.exit 0))) (.seq (.blk 1 (rg qQI)) (rB 60 [uI 10,ub 1,uH 10 62])))))
abbrev qQJ:=bO 75 [uI 2,uO,uK 4,uJ,uq 2 0,uY 2,uI 8,uG [uJ 3 78,uY 2 5 80] (uQ 1279),u9 0 2 81 2 2 83,vE 4 1 0 84,uH 6 85]
abbrev qP7:=bO 85 [uI 11,uI 9,uS,un 86]
abbrev qP8:=bO 91 [uI 2,uO,uK 4,uJ,uq 2 0,uY 2,uC 11 ui,uX 12 0 2 97]
abbrev qP9:=bO 97 [uI 11,ub 1,uI 9,uS,un 99]
abbrev qQA:=bO 102 [uI 9,uI 11,ub 1,uT 1 103,uJ,uQ 1279,ug 12 0 2]
abbrev qQB:=bO 108 [uI 0,uO,uK 0,uJ,uI 9,uI 11,uT 1 113,uJ,uI 1,uO,uK 4,uJ,uI 11,uT 2 120,uY 2,uR 12 0 2,vS 2 2 0 123 1 124,uf 5 112 116,uK 4,ue 1 125]
abbrev qP1:qP:=.seq (sr qP7 (cD 89 sK (.exit 2))) (.seq (.blk 3 (sr qP8 (.seq (sr qP9 (cD 102 (rg qQA) sK)) (rg qQB)))) (rB 89 [uI 11,ub 1,uH 11 91]))
abbrev qQC:=bO 127 [uI 0,uI 8,uI 9,uq 1 0,uJ,v8 1280 128 129 132]
abbrev qP2:qP:=.seq (sB 72 [uI 9,uS,uW 0] (cD 75 (sr qQJ .ret) sK)) (.seq (sr [uN 0 0 10] (.blk 2 (.loop qP1))) (sr qQC (sB 133 [vC 4,uH 6 134] .ret)))
abbrev qP3:=sr qP5 (.seq (sr qP6 (cD 23 (rg qQD) (sr qQE (cD 38 (rg qQF) sK)))) (sr qQG (sB 52 [vC 1,uH 9 53] (.seq qP4 qP2))))
def U5:qK:=⟨3,135,[.t 6],sr [ur 0 5] qP3⟩
abbrev qh3:=bO 16 [uI 1,uO,uK 0,uJ,uI 3,uT 5 20,uQ 924,uC 10 (vP 5),ue 5 23]
abbrev qh4:=bO 23 [uI 1,uO,uK 0,uJ,uI 4,uT 5 27,uQ 924,uC 11 (vP 5),ue 5 30]
abbrev qh8:=bO 35 [uI 1,uI 0,uv 2 11,uJ,uT 1 37,uv 1 11,uJ,uI 4,uD 10 (uC 12 ui),uD 8 (uC 43 (uG [uJ 3 38,uJ 6 41] (uQ 1279))),uD 9 (v7 1176 36 40 42 44),ug 13 0 2]
abbrev qh9:=bO 45 [uL 13,uM 13 1,uI 4,ut 47]
abbrev qiA:=bO 49 [uI 1,uI 4,uL 13,uM 13 1,v8 1280 50 51 53]
abbrev qh1:=sB 33 [uI 2,uW 7] (cD 35 (sr qh8 (.seq (sr qh9 (cD 49 (rg qiA) sK)) (sB 54 [vC 4,uH 10 55] .ret))) sK)
abbrev qiB:=bO 63 [uI 14,uv 4 11,uJ,uq 2 0,uY 2,uv 4 12,uJ,uq 2 0,uY 2,u9 0 2 68 2 2 72,uv 4 11,uJ,uq 2 1,uY 2,uv 4 12,uJ,uq 2 1,uY 2,u9 0 2 77 2 2 81,vR 4 2 0 73 1 82,uo 4 64,uH 14 84]
abbrev qiC:=bO 90 [uI 15,uv 4 12,uJ,uS,un 91]
abbrev qiD:=bO 97 [uI 14,uv 4 12,uJ,uI 15,uT 2 100,uY 2,uI 1,vL 0 1 5,uG [uJ 2 99,uY 2 5 102] (uV 1282 104),uG [uJ 2 99,uY 2 5 102] (uQ 1279),u9 0 2 103 2 2 107,vE 4 1 0 108,uo 4 98,uH 14 110]
abbrev qh2:=sr [uN 0 0 14] (.blk 1 (.loop (.seq (sr qiC (cD 95 sK (.exit 1))) (.seq (.blk 2 (rg qiD)) (rB 95 [uI 15,ub 1,uH 15 97])))))
abbrev qh5:=bO 116 [uv 2 12,uJ,uv 3 12,uJ,uq 1 0,uJ,uv 2 11,uJ,v8 762 118 122 124,uL 16,uX 16 2 1 125]
abbrev qh6:=bO 126 [uv 1 12,uJ,uv 2 12,uJ,uv 2 11,uJ,uD 7 (uC 133 (uv 4 12)),uD 8 uJ,uD 9 (uq 2 1),uD 10 (uY 2),uD 6 (uC 132 (vN 1 0 1 0 132)),uC 137 (u5 2 1 0 137),va 0 1 8 1 1 128 2 1 130 3 1 133 4 1 138,ug 16 0 5]
abbrev qh7:=bO 139 [uI 14,uv 4 12,uJ,uq 2 0,uY 2,uI 1,uR 16 0 5,uG [uJ 2 141,uY 2 4 143] (uV 1282 145),uG [uJ 2 141,uY 2 4 143] (uQ 1279),u9 0 2 144 2 2 148,vE 4 1 0 149,uo 4 140,uH 14 151]
abbrev qhW:=sB 112 [vL 0 1 6,uC 15 uu,uX 16 0 5 113] (.seq (sB 113 [uv 0 12,uJ,uW 8] (cD 116 (rg qh5) (rg qh6))) (rg qh7))
abbrev qhX:=sB 111 [ua 60 5,uH 111 112] (cD 111 qhW (sB 152 [ua 60 6,uH 152 153] (cD 152 (rB 153 [uI 1,v8 1283 154 11 12,uH 14 155]) sK)))
abbrev qhY:=sB 85 [ua 60 3,uH 85 86] (cD 85 (rB 86 [uI 1,v8 1281 87 11 12,uH 14 88]) (sB 89 [ua 60 4,uH 89 90] (cD 89 qh2 qhX)))
abbrev qhZ:=sr [uI 2 0 59] (.blk 0 (.seq (sB 61 [ua 60 1,uH 61 62] (cD 61 sK (rB 62 [ua 60 2,uH 61 63]))) (cD 61 (rg qiB) qhY)))
abbrev qh0:=sB 55 [uI 1,uI 4,uV 1278 56] (sB 58 [vC 4,uH 14 59] (.seq qhZ (sB 155 [uI 14,uH 10 156] .ret)))
def F972:qK:=⟨5,157,[.t 10],sr [ur 0 9] (sr qh3 (sr qh4 (sB 30 [uI 1,uI 3,uV 1278 31] (.seq qh1 qh0))))⟩
abbrev qQL:=bO 5 [uL 3,uM 3 0,uW 2,uP,uE 9 (uI 0),uE 9 uO,uE 9 (uK 0),uE 9 uJ,uE 9 (uL 3),uE 9 (uM 3 1),uE 9 (uT 5 13),uE 9 (uK 4),uE 9 uJ,uE 9 uS,uE 9 (vj 19 0),uZ 9]
abbrev qQM:=bO 23 [uI 0,uO,uK 0,uJ,uI 5,uT 5 27,uK 4,uJ,uq 2 0,uY 2,ug 3 0 2]
abbrev qQK:=sB 21 [uL 3,uM 3 1,uH 5 23] (sr qQM (rB 33 [uI 0,uI 5,uV 1278 34]))
def U6:qK:=⟨2,38,[.l 4 (some 2)],sB 2 [ud 2 1,ui] (.seq (.blk 0 (.loop (.seq (sr qQL (cD 21 sK (.exit 0))) (.blk 1 qQK)))) (sB 36 [uR 3 0 2,ug 4 0 2] .ret))⟩
abbrev qiF:=bO 5 [uI 0,uR 4 0 2,uV 1284 6,ug 4 0 2]
abbrev qiG:=bO 8 [uI 0,uR 5 0 2,uV 1284 9,ug 5 0 2]
abbrev qiH:=bO 22 [uL 4,uM 4 0,uW 1,uP,uE 26 (uL 5),uE 26 (uM 5 0),uE 26 (uW 1),uZ 26,uH 22 30]
abbrev qiI:=bO 30 [uI 0,uL 4,uM 4 1,uL 5,uM 5 1,v8 1280 31 33 35]
abbrev qiJ:=bO 37 [uR 4 0 2,uR 5 0 2,UF 1 1 38 39,uH 37 40]
abbrev qiK:=bO 40 [uI 0,uL 4,uM 4 1,uV 1278 41]
abbrev qiL:=bO 45 [uL 4,uM 4 0,uW 2,uH 45 48]
abbrev qiM:=bO 48 [uI 0,uO,uK 0,uJ,uL 4,uM 4 1,uR 5 0 2,u5 2 1 0 55,uf 5 52 54,uK 4,ue 1 56]
abbrev qiN:=bO 11 [uI 0,uO,uK 0,uJ,uL 5,uM 5 1,uR 4 0 2,u5 2 1 0 18,uf 5 15 17,uK 4,ue 1 19]
abbrev qiE:=sr qiF (sr qiG (.blk 0 (sr qiH (cD 22 (rg qiI) (sr qiJ (cD 37 (rg qiK) (sr qiL (cD 45 (rg qiM) (rg qiN)))))))))
def F973:qK:=⟨3,59,[],sB 3 [ud 2 1,ud 2 2] qiE⟩
abbrev qcV:=bO 15 [uI 1,uO,uK 4,uJ,uI 2,uT 2 19,uY 2,uC 7 ui,uX 8 0 2 22]
abbrev qcW:=bO 22 [uI 1,uR 8 0 2,uV 969 23,uH 9 25]
abbrev qcX:=bO 26 [uI 0,uI 1,uR 8 0 2,v8 855 27 28 29,uH 26 30,uC 30 (uj 26 0),uj 26 1,uH 10 31,uI 32]
abbrev qcY:=bO 35 [uI 10,uI 1,uQ 970,uI 9,uQ 857,vf 38 40,vk 36 41]
abbrev qcZ:=bO 43 [uI 1,uR 8 0 2,uV 971 44,uH 43 46,uC 46 (uj 43 0),uj 43 1,uH 12 47,uI 48]
abbrev qc0:=bO 48 [uI 1,vC 2,uI 1,uO,uK 4,uJ,uI 2,uA (.slc 2 (.t 54) none (some (.t 55)) none),uD 9 (uH 58 1),uD 10 uO,uD 11 (uK 4),uD 12 uJ,uD 13 (uI 2),uD 14 (ub 1),uD 15 (uA (.slc 2 (.t 61) (some (.t 63)) none none)),uD 8 (uC 56 (uG [uJ 12 60] (uo 2 50))),uC 64 (uo 2 57),vF 49,uK 4,ue 1 65]
abbrev qc1:=bO 67 [uI 0,uI 1,uI 9,uI 12,uI 13,uA (.call 972 [.t 68,.t 69,.t 70,.t 71,.t 72]),uH 14 73]
abbrev qc2:=bO 73 [uI 15,uI 14,uS,un 74]
abbrev qc3:=bO 79 [uI 1,uI 14,uI 15,uT 4 81,uK 0,uY 2,uI 14,uI 15,uT 4 86,uK 2,uY 2,v8 973 80 85 90]
abbrev qcU:=sr [uN 0 0 14] (.blk 0 (.loop (.seq (sr qc2 (cD 77 sK (.exit 0))) (.seq (.blk 1 (rg qc3)) (rB 77 [uI 15,ub 1,uH 15 79])))))
abbrev qcS:qP:=.seq (sr qcY (cD 42 (sB 5 [uN 0,uN 4] .ret) sK)) (sr qcZ (sr qc0 (sr qc1 (.seq qcU (sB 91 [uI 9,uH 6 92,uN 0] .ret)))))
abbrev qcT:=sr qcW (sr qcX (.seq (sB 32 [uI 11,vu 33 0] (cD 34 (sB 34 [uI 11,uC 5 (uN 0),uI 35] .ret) sK)) qcS))
def F600:qK:=⟨3,93,[.t 6,.t 7],sB 5 [uN 0,uN 0] (sr qcV qcT)⟩
abbrev qb1:=bO 4 [uL 2,uM 2 0,uL 3,uM 3 0,un 6,uP,uF 10 (uL 2),uF 10 (uM 2 0),uF 10 (uL 3),uF 10 (uM 3 0),uF 10 (vg 12 14),uF 10 uP,uE 16 (uL 2),uE 16 (uM 2 1),uE 16 (uL 3),uE 16 (uM 3 1),uE 16 (un 18),uF 10 (uZ 16),uk 10,uH 4 23]
def kX:qK:=⟨2,24,[.t 4],sB 1 [ud 2 0,ud 2 1,uU] (sr qb1 .ret)⟩
abbrev qfO:=bO 5 [uI 0,uO,uK 1,uJ,uH 5 9]
abbrev qfP:=bO 9 [uI 0,uI 0,uO,uK 0,uJ,uI 5,uT 5 14,uK 2,uJ,vF 10,uK 1,ue 1 18]
abbrev qfQ:=bO 20 [uI 0,uO,uK 0,uJ,uI 5,uR 3 0 5,uf 5 24 25,ue 5 26]
def F863:qK:=⟨2,29,[.t 4],sB 2 [ud 5 1,uN 0] (sr qfO (sr qfP (sr qfQ (sB 27 [uI 5,uH 4 28] .ret))))⟩
abbrev qfR:=bO 2 [uL 1,uM 1 0,uL 1,uM 1 1,uL 1,uM 1 2,uL 1,uM 1 3,uD 9 (uC 11 (uL 1)),uD 10 (uM 1 4),uD 11 uS,uD 12 (vv 14 1),uD 8 (uC 10 (uQ 401)),uC 15 (UE 2 15 15),vM 0 1 4 1 1 6 2 1 8 3 1 11 4 1 16,ug 2 0 5]
def F864:qK:=⟨1,18,[.l 2 (some 5)],sB 0 [ud 5 0,uu] (.seq (.reg false qfR) .ret)⟩
abbrev qfS:=bO 10 [uI 0,uR 6 0 2,vF 11,uK 2,ue 2 12]
abbrev qfT:=bO 14 [uI 0,uO,uK 0,uJ,uI 3,uL 5,uM 5 0,uT 1 19,uJ,uT 5 18,uK 4,uJ,uL 5,uM 5 1,vv 28 1,uR 6 0 2,uf 2 26 29,ue 2 30]
def F866:qK:=⟨4,32,[],sB 4 [ud 2 1,ud 2 2] (sB 7 [uL 5,uM 5 1,uW 0] (cD 10 (rg qfS) (rg qfT)))⟩
abbrev qPB:=bO 5 [uI 0,uO,uK 0,uJ,uS,ub 1,uN 0]
abbrev qPC:=bO 13 [uL 3,uM 3 0,uW 1,uP,uF 17 (uI 0),uF 17 uO,uF 17 (uK 0),uF 17 uJ,uF 17 (uL 3),uF 17 (uM 3 1),uF 17 (uT 5 21),uF 17 (uK 4),uF 17 uJ,uF 17 uS,uF 17 (uW 0),uk 17]
abbrev qPD:=bO 30 [uI 0,uO,uK 0,uJ,uL 3,uM 3 1,uT 5 34,uK 4,uJ,uq 2 0,uY 2,ug 3 0 2]
abbrev qO9:qP:=.seq (.blk 1 (.seq (sr qPC (cD 29 (sB 29 [uR 3 0 2,ug 4 0 2,uC 4 uz] .ret) sK)) (rg qPD))) (rB 41 [uw 12 1,uH 12 42])
abbrev qPA:qP:=.seq (sr qPB (.blk 0 (.loop (sr [ux 11 0 12] (.seq (cD 13 sK (.exit 0)) qO9))))) (sB 42 [vJ,ug 4 0 2,uC 4 uU] .ret)
def Uu:qK:=⟨2,44,[.l 4 (some 2),.t 5],sB 2 [ud 2 1,ui,uU] qPA⟩
def qD3:qK:=Qc 5 (some 5)
def qDZ:qK:=Qz 1482
abbrev qO8:=bO 2 [uL 1,uM 1 0,vh 4 2,uP,uE 6 (uL 1),uE 6 (uM 1 0),uE 6 (vp 8 12),uZ 6,uH 2 10]
def Ut:qK:=⟨1,11,[.t 2],sB 0 [ud 5 0,uU] (sr qO8 .ret)⟩
abbrev qVN:=bO 2 [uL 1,uM 1 0,uW 13,uH 2 5]
def KW:qK:=⟨1,6,[.t 2],sB 0 [ud 5 0,uU] (sr qVN .ret)⟩
abbrev qXH:=bO 2 [uL 1,uM 1 0,uW 0,uH 2 5]
def Kp:qK:=⟨1,6,[.t 2],sB 0 [ud 5 0,uU] (sr qXH .ret)⟩
abbrev qUJ:=bO 5 [uL 1,uM 1 0,uL 1,uM 1 1,uL 1,uM 1 2,uL 1,uM 1 3,uL 1,uM 1 4,uS,ub 1,UE 2 17 17,vM 0 1 7 1 1 9 2 1 11 3 1 13 4 1 18,uQ 1097,uH 2 20]
abbrev qUK:=bO 23 [uL 1,uM 1 1,uW 0,uP,uE 27 (uL 1),uE 27 (uM 1 2),uE 27 (uW 0),uZ 27,uP,uE 32 (uL 1),uE 32 (uM 1 3),uE 32 uS,uE 32 (uW 0),uZ 32,uP,uE 38 (uL 1),uE 38 (uM 1 4),uE 38 uS,uE 38 (vp 41 1),uZ 38,uH 2 43]
abbrev qUI:=sB 3 [uR 1 0 5,uQ 1254,uH 3 5] (cD 3 (sr qUJ .ret) (sB 21 [uR 1 0 5,uQ 1368,uH 21 23] (cD 21 (sr qUK .ret) sK)))
abbrev qUL:=bO 43 [uR 1 0 5,uQ 1455,uP,uE 46 (uL 1),uE 46 (uM 1 1),uE 46 (uW 0),uZ 46,uP,uE 51 (uL 1),uE 51 (uM 1 3),uE 51 uS,uE 51 (uW 0),uZ 51,uP,uE 57 (uL 1),uE 57 (uM 1 4),uE 57 uS,uE 57 (uW 0),uZ 57,uH 2 62]
def KO:qK:=⟨1,63,[.t 2],sB 0 [ud 5 0,uU] (.seq (.blk 0 qUI) (sr qUL .ret))⟩
abbrev qUH:=bO 2 [uR 1 0 5,uQ 1358,uc,uH 2 5]
def KN:qK:=⟨1,6,[.t 2],sB 0 [ud 5 0,uU] (sr qUH .ret)⟩
def qD4:qK:=Qc 2 (some 2)
def qD0:qK:=Qz 1483
abbrev qUN:=bO 5 [uI 0,uO,uK 2,uY 2,u5 2 1 0 9,uH 3 10]
abbrev qUO:=bO 10 [uI 0,uO,uK 0,uJ,uS,uN 0]
abbrev qUP:=bO 17 [uf 5 14 16,uY 5,uC 4 uu,uX 5 0 5 19]
abbrev qUQ:=bO 19 [uI 3,uL 5,uM 5 4,uo 2 20,uH 3 23]
abbrev qUM:qP:=.loop (sr [ux 15 0 16] (.seq (cD 17 sK (.exit 0)) (.seq (.blk 1 (sr qUP (rg qUQ))) (rB 23 [uw 16 1,uH 16 24]))))
def KP:qK:=⟨1,26,[.t 2],sr [ur 0 1] (sr qUN (.seq (sr qUO (.blk 0 qUM)) (sB 24 [uI 3,uH 2 25] .ret)))⟩
abbrev qXS:=bO 4 [uI 1,vh 5 0,uP,uE 7 (uI 1),uE 7 (uI 0),uE 7 uO,uE 7 (uK 0),uE 7 uJ,uE 7 uS,uE 7 (un 8),uZ 7,uH 4 15]
def Kv:qK:=⟨2,16,[.t 4],sr [uU 0 3] (sr qXS .ret)⟩
abbrev qUS:=bO 5 [uI 0,uL 3,uM 3 1,uV 1484 6,uc]
abbrev qUT:=bO 10 [uI 0,uO,uK 0,uJ,uL 3,uM 3 1,uT 5 14,uY 5,uC 4 uu,uX 5 0 5 18]
abbrev qUU:=bO 18 [uL 3,uM 3 0,uW 1,uP,uE 22 (uR 5 0 5),uE 22 (uQ 1254),uZ 22,uP,uF 26 (uL 3),uF 26 (uM 3 0),uF 26 (uW 2),uF 26 uP,uE 30 (uR 5 0 5),uE 30 (uQ 1368),uF 26 (uZ 30),uk 26,uH 4 34]
def KR:qK:=⟨2,35,[.t 4],sB 2 [ud 2 1,uU] (.seq (sr qUS (cD 10 (sr [uU 0 3] .ret) sK)) (sr qUT (sr qUU .ret)))⟩
abbrev qUR:=bO 3 [uy 1,uR 2 0 2,uV 1362 4,uc,uH 3 7]
def KQ:qK:=⟨2,8,[.t 3],sB 1 [ud 2 0,uU] (sr qUR .ret)⟩
def qD1:qK:=Qz 1485
abbrev qUW:=bO 4 [uL 3,uM 3 0,uL 3,uM 3 1,un 6,uP,uE 10 (uI 0),uE 10 (uL 3),uE 10 (uM 3 0),uE 10 (uV 1484 11),uZ 10,uP,uE 16 (uI 0),uE 16 (uL 3),uE 16 (uM 3 1),uE 16 (uV 1484 17),uZ 16,uP,uE 22 (uI 0),uE 22 uO,uE 22 (uK 0),uE 22 uJ,uE 22 (uL 3),uE 22 (uM 3 0),uE 22 (uT 5 26),uE 22 (uY 5),uE 22 (uQ 1254),uZ 22,uP,uE 33 (uI 0),uE 33 uO,uE 33 (uK 0),uE 33 uJ,uE 33 (uL 3),uE 33 (uM 3 1),uE 33 (uT 5 37),uE 33 (uY 5),uE 33 (uQ 1254),uZ 33,uH 4 43]
def KT:qK:=⟨2,44,[.t 4],sB 2 [ud 2 1,uU] (sr qUW .ret)⟩
abbrev qUV:=bO 3 [uy 1,uR 2 0 2,uV 1365 4,uc,uH 3 7]
def KS:qK:=⟨2,8,[.t 3],sB 1 [ud 2 0,uU] (sr qUV .ret)⟩
abbrev qU2:=bO 12 [uI 0,uO,uK 0,uJ,uS,uA (.mksl 1 (iI 0) (.t 17) (.t 17)),uH 5 18]
abbrev qU3:=bO 18 [uI 0,uQ 1360,uI 1,uo 2 20,uS,uN 0]
abbrev qU8:=bO 25 [uf 2 22 24,uY 2,uC 6 ui,uX 7 0 2 27]
abbrev qU9:=bO 27 [uI 5,uL 7,uM 7 1,uT 1 28,uJ,ub 1,uf 1 28 30,ue 1 33]
abbrev qU0:qP:=.loop (sr [ux 23 0 24] (.seq (cD 25 sK (.exit 0)) (.seq (.blk 1 (sr qU8 (rg qU9))) (rB 34 [uw 24 1,uH 24 35]))))
abbrev qVA:=bO 35 [uI 0,uO,uK 4,uJ,uS,uN 0]
abbrev qVB:=bO 42 [uf 2 39 41,uY 2,uC 8 ui,uX 9 0 2 44]
abbrev qVC:=bO 44 [uI 5,uL 9,uM 9 0,uT 1 45,uJ,ub 1,uf 1 45 47,ue 1 50]
abbrev qVD:=bO 51 [uI 5,uL 9,uM 9 1,uT 1 52,uJ,ub 1,uf 1 52 54,ue 1 57]
abbrev qU1:qP:=.loop (sr [ux 40 0 41] (.seq (cD 42 sK (.exit 2)) (.seq (.blk 3 (sr qVB (sr qVC (rg qVD)))) (rB 58 [uw 41 1,uH 41 59]))))
abbrev qU4:=bO 59 [uI 0,uO,uK 0,uJ,uS,uN 0]
abbrev qU5:=bO 66 [uI 65,uf 5 63 65,uY 5,uC 10 uu,uH 10 67,uX 11 0 5 69]
abbrev qU6:=bO 73 [uR 11 0 5,uQ 1368,uP,uE 76 (uL 11),uE 76 (uM 11 4),uE 76 uS,uE 76 (uW 0),uZ 76,uH 73 81]
abbrev qUX:=sB 70 [uR 11 0 5,uQ 1455,uH 70 72] (cD 70 (rg [uN 0 0 11]) (sr qU6 (cD 73 (rg [uN 2 0 11]) sK)))
abbrev qU7:=bO 81 [uI 5,uI 10,uT 1 82,uJ,uI 12,ut 85]
abbrev qUY:qP:=.seq (.blk 5 (sr qU5 (sr [uN 1 0 11] (.seq (.blk 6 qUX) (sr qU7 (cD 87 (sr [uU 0 3] .ret) sK)))))) (rB 87 [uw 65 1,uH 65 88])
abbrev qUZ:qP:=.seq (sr qU3 (.blk 0 qU0)) (.seq (sr qVA (.blk 2 qU1)) (.seq (sr qU4 (.blk 4 (.loop (sr [ux 64 0 65] (.seq (cD 66 sK (.exit 4)) qUY))))) (sr [uz 0 3] .ret)))
def KU:qK:=⟨2,89,[.t 4],sr [uU 0 3] (sr qU2 qUZ)⟩
abbrev qVH:=bO 6 [uI 0,uO,uK 0,uJ,uS,uN 0]
abbrev qVI:=bO 13 [uf 5 10 12,uY 5,uC 4 uu,uX 5 0 5 15]
abbrev qVJ:=bO 15 [uI 3,uR 5 0 5,uQ 1455,uQ 566,vf 16 19,uH 3 20]
abbrev qVE:qP:=.loop (sr [ux 11 0 12] (.seq (cD 13 sK (.exit 0)) (.seq (.blk 1 (sr qVI (rg qVJ))) (rB 20 [uw 12 1,uH 12 21]))))
abbrev qVK:=bO 21 [uI 0,uO,uK 1,uJ,uH 6 25]
abbrev qVL:=bO 28 [uI 0,uI 6,uV 1484 29,uc,uP,uF 33 (uI 0),uF 33 uO,uF 33 (uK 0),uF 33 uJ,uF 33 (uI 6),uF 33 (uT 5 37),uF 33 (uY 5),uF 33 (uQ 1455),uF 33 uc,uk 33]
abbrev qVM:=bO 43 [uI 0,uO,uK 0,uJ,uI 6,uT 5 47,uK 2,uJ,uH 6 51]
abbrev qVF:=sr [ux 26 0 27] (.seq (cD 28 sK (.exit 2)) (.seq (.blk 3 (.seq (sr qVL (cD 43 (sr [uU 0 1] .ret) sK)) (rg qVM))) (rB 51 [uw 27 1,uH 27 52])))
abbrev qVG:qP:=.seq (sB 25 [uI 3,uN 0] (.blk 2 (.loop qVF))) (sB 52 [uI 6,uW (-1),uH 2 54] .ret)
def KV:qK:=⟨1,55,[.t 2],sr [uU 0 1] (sr [uN 0 0 2] (.seq (sr qVH (.blk 0 qVE)) (sr qVK qVG)))⟩
abbrev qL5:=bO 8 [uy 2,uO,uK 0,uJ,uS,vt 13 1,uP,uF 15 (uy 2),uF 15 uO,uF 15 (uK 0),uF 15 uJ,uF 15 uS,uF 15 (vj 20 1500),uk 15,uP,uF 23 (uy 2),uF 23 uO,uF 23 (uK 4),uF 23 uJ,uF 23 uS,uF 23 (uy 2),uF 23 uO,uF 23 (uK 0),uF 23 uJ,uF 23 uS,uF 23 (vk 28 33),uk 23]
abbrev qL6:=bO 35 [uy 2,uO,uK 0,uJ,uA (.call 1356 [.t 39,.f 1357]),uP,uF 41 (uy 2),uF 41 (uQ 1360),uF 41 (uI 1),uF 41 (uo 2 43),uF 41 (uA (.mkfn 1361 [.t 2])),uF 41 (uV 1359 45),uk 41,uP,uF 49 (uy 2),uF 49 uO,uF 49 (uK 4),uF 49 uJ,uF 49 (uA (.mkfn 1364 [.t 2])),uF 49 (uV 1363 53),uk 49]
abbrev qL7:=bO 56 [uy 2,uI 1,uV 1366 57,uc,uP,uF 61 (uy 2),uF 61 (uQ 1367),uF 61 uc,uk 61]
abbrev qL8:=bO 65 [uy 2,uO,uK 0,uJ,uS,uN 0]
abbrev qL9:=bO 72 [uI 71,uf 5 69 71,uY 5,uC 5 uu,uH 5 73,uX 6 0 5 75]
abbrev qMA:=bO 78 [uy 2,uI 5,vG 0 1 2 1 1 80,uV 1256 79,uH 78 82,uC 82 (uj 78 0),uj 78 1,uC 6 ui,uX 7 0 2 83,uI 84]
abbrev qL2:=sB 75 [uR 6 0 5,uQ 1368] (cD 77 (sr qMA (sB 84 [uI 8,uc] (cD 86 (sr [uU 0 3] .ret) sK))) sK)
abbrev qL3:=sr qL8 (.blk 0 (.loop (sr [ux 70 0 71] (.seq (cD 72 sK (.exit 0)) (.seq (.blk 1 (sr qL9 qL2)) (rB 86 [uw 71 1,uH 71 87]))))))
abbrev qL4:qP:=.seq (sr qL5 (cD 35 (sr [uU 0 3] .ret) sK)) (.seq (sr qL6 (cD 56 (sr [uU 0 3] .ret) sK)) (.seq (sr qL7 (cD 65 (sr [uU 0 3] .ret) sK)) (.seq qL3 (sr [uz 0 3] .ret))))
def Uc:qK:=⟨2,88,[.t 4],sB 1 [vQ 1 0,uC 3 uU] qL4⟩
def F867:qK:=⟨1,4,[.t 2],sB 0 [vQ 5 0,uU] (sB 2 [uA (.call 1068 [.t 1,.c (.nils)]),uH 2 3] .ret)⟩
abbrev qMB:=bO 4 [vC 2,uI 0,uo 2 5,uH 2 7]
def qDR:qK:=⟨1,8,[.t 2],sr [ur 0 1] (.seq (sB 2 [uI 0,UC 1 3] (cD 4 (sr [ur 0 1] .ret) sK)) (sr qMB .ret))⟩
abbrev qOV:=bO 4 [vC 2,uI 0,uo 2 5,uH 2 7]
def qDV:qK:=⟨1,8,[.t 2],sr [ur 0 1] (.seq (sB 2 [uI 0,UC 1 3] (cD 4 (sr [ur 0 1] .ret) sK)) (sr qOV .ret))⟩
abbrev qfV:=bO 5 [uL 1,uM 1 0,uS,uD 4 (uC 9 (uL 1)),uD 5 (uM 1 1),uD 6 (uL 1),uD 7 (uR 1 2 2),uD 8 (uL 1),uD 9 (uM 1 4),uD 12 (uC 2 vD),uC 15 (uQ 1070),uD 3 (uC 8 (UD 5 0 8)),uD 11 (uC 16 (uA (.build (.agg [.nils,iI 0,iI 0,iI 0,.nils]) [(0,1,.t 9),(1,1,.t 11),(2,2,.t 13),(4,1,.t 16)]))),ug 3 0 5]
abbrev qfW:=bO 17 [uL 1,uM 1 0,uS,uN 0]
abbrev qfX:=bO 22 [uf 5 19 21,uY 5,uC 4 uu,uX 5 0 5 24]
abbrev qfY:=bO 24 [uL 5,uM 5 3,uD 3 (uC 27 (uL 5)),uD 4 (uM 5 4),uD 2 (uC 26 (uQ 401)),uD 6 (uC 30 (uL 5)),uD 5 (uC 29 (uQ 1181)),uX 5 3 1 27,uC 31 (uL 5),uX 5 4 1 30]
abbrev qfZ:=bO 32 [uL 3,uM 3 0,uR 5 0 5,vU 5 1 0 35,uo 5 34,uL 3,uX 3 0 1 37]
abbrev qfU:qP:=.loop (sr [ux 20 0 21] (.seq (cD 22 sK (.exit 0)) (.seq (.blk 1 (sr qfX (sr qfY (rg qfZ)))) (rB 38 [uw 21 1,uH 21 39]))))
def F868:qK:=⟨1,41,[.l 2 (some 5)],sB 0 [ud 5 0,vD] (.seq (.reg false qfV) (.seq (sr qfW (.blk 0 qfU)) (sB 39 [uR 3 0 5,ug 2 0 5] .ret)))⟩
abbrev qX3:=bO 5 [uI 0,uO,uK 0,uJ,uI 1,uT 5 9,uY 5,uC 4 uu,uX 5 0 5 12]
abbrev qX4:=bO 12 [uL 5,uM 5 0,uL 5,uM 5 1,uL 5,uM 5 2,uL 5,uM 5 3,uL 5,uM 5 4,uS,ub 1,UE 2 24 24,vM 0 1 14 1 1 16 2 1 18 3 1 20 4 1 25,ug 4 0 5]
def K5:qK:=⟨2,27,[.l 4 (some 5)],sr [uu 0 3] (sr qX3 (sr qX4 .ret))⟩
abbrev qW8:=bO 4 [uI 0,uL 3,uM 3 0,uD 4 (uH 9 0),uD 5 (uL 3),uD 6 (uM 3 1),uD 3 (uC 7 (uV 1509 5)),uC 11 (uV 1509 9),uA (.bslice 5 (.agg [iI 0,iI 0,iI 0,.nils,.nils]) 2 [(0,.t 8),(1,.t 12)]),uA (.build (.agg [.nils]) [(0,1,.t 13)]),ug 4 0 1]
def Km:qK:=⟨2,15,[.l 4 (some 1)],sB 2 [ud 2 1,vH] (sr qW8 .ret)⟩
abbrev qQN:=bO 2 [ud 2 1,uN 0,uN 0,uN 0]
abbrev qQO:=bO 8 [uI 0,uR 3 0 2,uV 1420 9,uC 6 (vY 1),ue 1 11]
abbrev qQP:=bO 12 [vX 0 1 0 1 1 1,uV 751 7,uH 12 14,uC 14 (uj 12 0),uj 12 1,uH 4 15,uH 8 16]
abbrev qQQ:=bO 17 [uI 4,uL 3,uM 3 1,uL 3,uM 3 0,uH 4 18,uI 20,uI 22]
abbrev qQR:=bO 22 [uI 4,uL 3,uM 3 0,uL 3,uM 3 1,uH 4 23,uI 25,uI 27]
def U7:qK:=⟨2,28,[.t 4,.t 5,.t 6],sr qQN (sr qQO (sr qQP (.seq (sr [uI 8 0 16] (cD 17 (sr qQQ .ret) sK)) (sr qQR .ret))))⟩
abbrev qXA:=bO 6 [uI 0,uQ 554,uS,uN 0]
abbrev qXB:=bO 11 [uf 2 8 10,uY 2,uC 4 ui,uX 5 0 2 13]
abbrev qXC:=bO 13 [uI 0,uR 5 0 2,uV 555 14,uC 5 ui,uX 6 0 2 16]
abbrev qXD:=bO 16 [uR 5 0 2,uR 6 0 2,uV 556 17,uP,uE 20 (uL 5),uE 20 (uM 5 1),uE 20 (vj 22 0),uZ 20,uP,uE 25 (uL 6),uE 25 (uM 6 1),uE 25 (vj 27 0),uZ 25]
abbrev qXE:=bO 29 [uI 3,uR 5 0 2,uR 6 0 2,u9 0 2 31 2 2 32,vE 4 1 0 33,uo 4 30,uH 3 35]
abbrev qW9:=sr [ux 9 0 10] (.seq (cD 11 sK (.exit 0)) (.seq (.blk 1 (sr qXB (sr qXC (sr qXD (cD 29 (rg qXE) sK))))) (rB 35 [uw 10 1,uH 10 36])))
def Kn:qK:=⟨1,38,[.t 2],sr [ur 0 1] (sr [ur 0 2] (.seq (sr qXA (.blk 0 (.loop qW9))) (sB 36 [uI 3,uH 2 37] .ret)))⟩
abbrev qO0:=bO 15 [uI 0,uO,uK 0,uR 3 0 2,uD 5 (uH 21 0),uD 6 uO,uD 7 (uK 5),uD 8 uJ,uD 4 (uC 19 (uG [uJ 8 23] (uV 1420 18))),uC 24 (uA (.build (.agg [.nils,.nils,.nilm]) [(0,1,.t 20),(1,1,.t 24)])),vQ 3 25,uH 6 26]
abbrev qO1:=bO 27 [uI 6,vX 0 1 0 1 1 1,uV 1305 28,uH 27 30,uC 30 (uj 27 0),uj 27 1,uj 27 2,uj 27 3,uH 7 31,uI 32,uI 33,uI 34]
abbrev qO2:=bO 38 [uI 0,uO,uK 0,uR 3 0 2,uV 1285 41,uH 38 43,uC 43 (uj 38 0),uj 38 1,uj 38 2,uH 11 44,uI 45,uI 46]
abbrev qO3:=bO 46 [uI 0,uO,uK 0,uK 0,uJ,uI 13,uT 5 51,uK 4,uJ,uS,uH 14 56]
abbrev qO4:=bO 59 [uI 14,uA (.bin .mul (.c (iI 3)) (.t 60)),ve 2 61,uH 4 62,uN 0]
abbrev qO5:=bO 69 [uI 0,uO,uK 0,uK 0,uJ,uI 12,uT 5 74,uK 4,uJ,uS,ve 1 79,uH 4 80,uN 0]
abbrev qO6:=bO 82 [uI 0,uO,uK 5,uJ,uI 0,uO,uK 0,uK 0,uJ,uI 12,uT 5 91,uK 2,uJ,uT 1 86,uY 1,uC 14 (vY 1),ue 1 97]
abbrev qO7:=bO 97 [uv 0 15,uJ,uS,vv 100 1,uG [uJ 1 98] (vK 1421 15),uS,vf 101 103,uH 4 104,uN 0]
abbrev qOY:=sB 68 [ua 57 6,uH 68 69] (cD 68 (sr qO5 .ret) (sB 81 [ua 57 7,uH 81 82] (cD 81 (sr qO6 (sr qO7 .ret)) sK)))
abbrev qOZ:=cD 63 (sB 64 [uI 14,uH 4 65,uN 0] .ret) (sB 66 [ua 57 5,uH 66 67] (cD 66 (sB 3 [uN 1,uN 0] .ret) qOY))
abbrev qOW:=sr [uI 7 0 56] (.blk 0 (sB 58 [ua 57 3,uH 58 59] (cD 58 (sr qO4 .ret) (sB 63 [ua 57 4,uH 63 64] qOZ))))
abbrev qOX:qP:=.seq (sB 34 [uI 10,vu 35 0] (cD 36 (sB 36 [uI 10,uC 3 (uN 0),uI 37] .ret) sK)) (sr qO2 (sr qO3 (.seq qOW (sB 3 [uN 0,uN 0] .ret))))
def Ur:qK:=⟨2,105,[.t 4,.t 5],sB 2 [ud 2 1,uN 0,uN 0] (sr qO0 (sr qO1 qOX))⟩
abbrev qQT:=bO 6 [uI 0,uO,uK 0,uJ,uS,uN 0]
abbrev qQU:=bO 13 [uf 5 10 12,uY 5,uC 5 uu,uX 6 0 5 15]
abbrev qQV:=bO 15 [uI 2,uR 6 0 5,uQ 1254,uQ 566,vf 16 19,uH 2 20]
abbrev qQW:=bO 20 [uI 3,uR 6 0 5,uQ 1368,uQ 566,vf 21 24,uH 3 25]
abbrev qQX:=bO 25 [uI 4,uR 6 0 5,uQ 1455,uQ 566,vf 26 29,uH 4 30]
abbrev qQS:=sr [ux 11 0 12] (.seq (cD 13 sK (.exit 0)) (.seq (.blk 1 (sr qQU (sr qQV (sr qQW (rg qQX))))) (rB 30 [uw 12 1,uH 12 31])))
abbrev qQY:=bO 31 [uI 2,uI 3,uI 4,uH 2 32,uI 33,uI 34]
def U8:qK:=⟨1,35,[.t 2,.t 3,.t 4],sB 1 [uN 0,uN 0,uN 0] (.seq (sr qQT (.blk 0 (.loop qQS))) (sr qQY .ret))⟩
abbrev qQ0:=bO 7 [uI 0,uI 1,uI 2,uI 0,uS,uA (.slcm 2 (.t 8) (.t 9) (.t 10) (.t 12))]
abbrev qQ1:=bO 19 [uI 0,uI 1,uA (.slc 2 (.t 20) none (some (.t 21)) none),uI 0,uI 2,uA (.slc 2 (.t 23) (some (.t 24)) none none),uA (.appx 2 (.t 22) (.t 25)),(λ_ _=>.mk 7 (some 0) none (.mov (.t 26)) [])]
abbrev qQ2:=bO 26 [uI 0,uI 0,uS,uI 7,uA (.slcx 2 (.t 27) (some (.t 29)) (some (.t 30))),uB (.clear 2 (.agg [iI 0,iI 0]) (.t 31))]
abbrev qQZ:=sB 17 [uI 0,uS,uH 7 19] (sr qQ1 (sr qQ2 (sB 31 [uI 0,uH 6 32] .ret)))
def U9:qK:=⟨3,33,[.t 6],sr [ur 0 5] (sr qQ0 (.seq (sB 13 [uI 1,uI 2,vg 14 15] (cD 16 (sB 16 [uI 0,uH 6 17] .ret) sK)) qQZ))⟩
abbrev qQ3:=bO 3 [uI 0,uO,uK 0,uJ,uI 1,uI 0,uO,uK 1,uJ,uA (.build (.agg [iI 0,iI 0,iI 0,.nils,.nils]) [(2,1,.t 12)]),uf 5 7 8,ue 5 13]
abbrev qQ4:=bO 14 [uI 0,uI 1,vF 15,uK 1,ue 1 16]
def XA:qK:=⟨2,19,[],sr qQ3 (rg qQ4)⟩
def Uv:qK:=⟨0,2,[.l 0 (some 2)],sr [.mk 0 (some 0) none (.lalloc (.agg [iI 0,iI 0])) []] (sB 0 [vX 0 1 0 1 1 0,ug 0 0 2] .ret)⟩
abbrev qS0:=bO 5 [uI 0,uI 0,uO,uK 4,uJ,uI 1,uI 2,uA (.min (.t 11) (.t 12)),uI 1,uI 2,uA (.max (.t 14) (.t 15)),vI 0 1 13 1 1 16,u5 2 1 0 17,uo 2 10,vF 6,uK 4,ue 1 19]
def KG:qK:=⟨3,22,[],rg qS0⟩
def K6:qK:=⟨1,5,[.l 2 (some 2)],sr [ui 0 1] (sB 2 [uI 0,vG 0 1 2 1 1 3,ug 2 0 2] .ret)⟩
abbrev qXQ:=bO 2 [uI 0,vL 0 1 13,uV 863 3,uQ 1521,ug 2 0 2]
def Kr:qK:=⟨1,7,[.l 2 (some 2)],sr [ui 0 1] (sr qXQ .ret)⟩
def Ks:qK:=⟨1,5,[.l 2 (some 2)],sr [ui 0 1] (sB 2 [uI 0,vG 0 1 1 1 1 3,ug 2 0 2] .ret)⟩
abbrev qRB:=bO 20 [uI 0,uO,uK 5,uJ,uL 4,uM 4 2,uT 1 24,uY 1,uL 4,uM 4 1,uV 1456 28,uH 20 31,uC 31 (uj 20 0),uj 20 1,uC 5 (vY 1),ue 1 32,uI 33]
abbrev qRC:=bO 33 [uv 0 6,uJ,uS,uA (.mksl 1 (iI 0) (.t 36) (.t 36)),uH 8 37]
abbrev qRK:=bO 37 [uv 0 6,uJ,uA (.slc 5 (.t 39) (some (.c (iI 1))) none none),uS,uN 0]
abbrev qRN:=bO 43 [uI 42,uf 5 40 42,uY 5,uC 9 uu,uH 9 44,uX 10 0 5 46]
abbrev qRO:=bO 46 [uI 8,uI 9,ub 1,uI 0,uO,uK 0,uR 10 0 5,uQ 864,uV 863 52,uf 1 47 49,ue 1 55]
abbrev qRA:qP:=.loop (sr [ux 41 0 42] (.seq (cD 43 sK (.exit 0)) (.seq (.blk 1 (sr qRN (rg qRO))) (rB 56 [uw 42 1,uH 42 57]))))
abbrev qRP:=bO 61 [uf 4 58 60,uY 4,uC 11 (uA (.lalloc (.agg [iI 0,iI 0,iI 0,iI 0]))),uX 12 0 4 63]
abbrev qRQ:=bO 63 [uI 0,uO,uK 0,uQ 1457,uC 12 ui,uX 13 0 2 67]
abbrev qRR:=bO 67 [uI 0,uO,uK 0,uL 12,uR 12 0 2,uR 13 0 2,uI 8,v7 866 70 72 73 74]
abbrev qRS:=bO 75 [uI 0,uO,uK 0,uL 12,uR 12 2 2,uR 13 0 2,uI 8,v7 866 78 80 81 82]
abbrev qQ5:=sr [ux 59 0 60] (.seq (cD 61 sK (.exit 2)) (.seq (.blk 3 (sr qRP (sr qRQ (sr qRR (rg qRS))))) (rB 83 [uw 60 1,uH 60 84])))
abbrev qRD:=bO 84 [uI 8,uI 2,uA (.iaddr 1 (.t 85) (.c (iI 0))),ue 1 86]
abbrev qRE:=bO 91 [uf 2 88 90,uY 2,uC 14 ui,uX 15 0 2 93]
abbrev qRF:=bO 93 [uR 15 0 2,uV 555 6,uC 15 ui,uX 16 0 2 95]
abbrev qRG:=bO 95 [uL 15,uM 15 1,vj 97 0,uP,uE 99 (uL 16),uE 99 (uM 16 1),uE 99 (uW 0),uZ 99]
abbrev qRH:=bO 103 [uI 0,uO,uK 0,uR 15 0 2,uI 8,uL 16,uM 16 0,uT 1 108,uJ,uD 10 (uH 114 8),uD 9 (uC 112 (uQ 1458)),uC 114 (v7 866 106 107 113 114)]
abbrev qQ6:=sr [ux 89 0 90] (.seq (cD 91 sK (.exit 4)) (.seq (.blk 5 (sr qRE (sr qRF (sr qRG (cD 103 (rg qRH) sK))))) (rB 115 [uw 90 1,uH 90 116])))
abbrev qRI:=bO 120 [uf 2 117 119,uY 2,uC 17 ui,uX 18 0 2 122]
abbrev qRJ:=bO 122 [uI 0,uO,uK 0,uI 8,uL 18,uM 18 0,uT 1 126,uJ,uI 8,uL 18,uM 18 1,uT 1 131,uJ,v8 1295 125 130 135]
abbrev qQ7:qP:=.loop (sr [ux 118 0 119] (.seq (cD 120 sK (.exit 6)) (.seq (.blk 7 (sr qRI (rg qRJ))) (rB 136 [uw 119 1,uH 119 137]))))
abbrev qRL:=bO 137 [uA (.call 1257 []),uV 555 6,uC 18 ui,uX 19 0 2 139]
abbrev qRM:=bO 142 [uI 0,uO,uK 0,uI 2,uI 8,uL 19,uM 19 0,uT 1 147,uJ,v8 1295 145 146 151]
abbrev qQ8:qP:=.seq (sB 116 [vK 376 6,uS,uN 0] (.blk 6 qQ7)) (sr qRL (sB 139 [uL 19,uM 19 1,uW 0] (cD 142 (rg qRM) sK)))
abbrev qQ9:qP:=.seq (sB 57 [vK 1421 6,uS,uN 0] (.blk 2 (.loop qQ5))) (sr qRD (.seq (sB 87 [vK 554 6,uS,uN 0] (.blk 4 (.loop qQ6))) qQ8))
def KA:qK:=⟨3,153,[],sr [ud 5 1 0 3] (.seq (.reg false qRB) (sr qRC (.seq (sr qRK (.blk 0 qRA)) qQ9)))⟩
abbrev qXR:=bO 3 [uy 0,uO,uK 0,uv 0 1,uJ,uv 1 1,uJ,uv 2 1,uJ,uv 3 1,uJ,uD 12 (uC 15 (uy 2)),uD 11 (uC 14 (uG [uy 0 0 3,uJ 4 7,uJ 6 9,uJ 8 11,uy 2 12 15] (uQ 401))),uC 16 (UE 2 16 16),vM 0 1 8 1 1 10 2 1 12 3 1 15 4 1 17,uV 863 6,uH 3 19]
def Kt:qK:=⟨3,20,[.t 3],sr [uN 0 0 2] (.seq (.reg false qXR) .ret)⟩
abbrev qRW:=bO 2 [vQ 1 0,ud 5 1,vQ 5 2,ur]
abbrev qRX:=bO 16 [uv 4 5,uJ,uS,uC 6 (uA (.halloc 1 (iI 0))),ue 1 19]
abbrev qR0:=bO 24 [uL 4,uM 4 4,uq 2 0,uY 2,uI 9,uD 7 (uC 31 (uL 4)),uD 8 (uM 4 4),uD 9 (uq 2 1),uD 10 (uY 2),uD 11 (uI 10),uD 5 (uC 29 (uG [uY 2 3 27,uY 2 10 34] (uQ 1458))),uD 6 (u9 0 2 28 2 2 30),uC 36 (uG [uY 2 3 27,uY 2 10 34] (uQ 1458)),u9 0 2 35 2 2 37,vR 4 2 0 31 1 38,uH 11 39]
abbrev qR1:=bO 39 [uv 4 5,uJ,uS,uN 0]
abbrev qR2:=bO 44 [uI 43,uf 2 41 43,uY 2,uC 12 ui,uH 12 45,uX 13 0 2 47]
abbrev qR3:=bO 47 [uy 3,uO,uK 0,uL 4,uM 4 1,uA (.mksl 2 (.agg [iI 0,iI 0]) (.c (iI 2)) (.c (iI 2))),vT 0 1 4 1 1 52 4 1 53,uV 863 50,uH 14 55]
abbrev qR4:=bO 55 [uy 3,uO,uK 0,uQ 1457,uC 14 ui,uX 15 0 2 59]
abbrev qR5:=bO 59 [uy 3,uO,uK 0,uQ 1457,uC 15 ui,uX 16 0 2 63]
abbrev qR6:=bO 63 [uy 3,uO,uK 0,uK 0,uJ,uI 14,uR 15 0 2,uR 16 0 2,vS 2 2 0 70 1 71,uf 5 68 69,uK 4,ue 1 72]
abbrev qR7:=bO 74 [uy 3,uO,uK 0,uK 0,uJ,uI 9,uT 5 79,uK 4,uJ,uI 12,uR 15 0 2,uf 2 83 84,ue 2 85]
abbrev qRY:=bO 86 [uy 3,uO,uK 0,uK 0,uJ,uI 10,uT 5 91,uK 4,uJ,uI 12,uR 16 0 2,uf 2 95 96,ue 2 97]
abbrev qRZ:=bO 98 [uI 11,uR 13 0 2,uI 14,uQ 1458,u9 0 2 100 2 2 102,vE 4 1 0 103,uo 4 99,uH 11 105]
abbrev qRT:qP:=.seq (.blk 1 (sr qR2 (sr qR3 (sr qR4 (sr qR5 (sr qR6 (sr qR7 (sr qRY (rg qRZ))))))))) (rB 105 [uw 43 1,uH 43 106])
abbrev qRU:=sr qR0 (.seq (sr qR1 (.blk 0 (.loop (sr [ux 42 0 43] (.seq (cD 44 sK (.exit 0)) qRT))))) (sB 106 [uI 11,uH 6 107] .ret))
abbrev qRV:=sB 19 [uA (.mkfn 1459 [.t 3,.t 5,.t 7]),uH 8 20] (sB 20 [uI 8,uA (.callv (.t 21) []),uH 9 22] (sB 22 [uI 8,uA (.callv (.t 23) []),uH 10 24] qRU))
def KB:qK:=⟨3,108,[.t 6],sr qRW (sr qRX qRV)⟩
abbrev qR9:=bO 7 [uL 3,uM 3 4,uS,uN 0]
abbrev qSA:=bO 12 [uf 2 9 11,uY 2,uC 6 ui,uX 7 0 2 14]
abbrev qSB:=bO 14 [uI 5,uR 7 0 2,uI 0,uO,uK 0,vL 0 1 5,uV 863 19,uQ 1458,u9 0 2 16 2 2 22,vE 4 1 0 23,uo 4 15,uH 5 25]
abbrev qR8:qP:=.loop (sr [ux 10 0 11] (.seq (cD 12 sK (.exit 0)) (.seq (.blk 1 (sr qSA (rg qSB))) (rB 25 [uw 11 1,uH 11 26]))))
def KC:qK:=⟨2,28,[.t 4],sB 2 [ud 5 1,ur] (sr [ur 0 4] (.seq (sr qR9 (.blk 0 qR8)) (sB 26 [uI 5,uH 4 27] .ret)))⟩
abbrev qSD:=bO 11 [uL 5,uM 5 1,uL 5,uM 5 2,uL 4,uM 4 2,uD 7 (uC 18 (uL 5)),uD 8 (uM 5 4),uD 9 (uq 2 1),uD 10 (uY 2),uD 6 (uC 17 (vN 1 0 1 0 17)),uC 22 (u5 2 1 0 22),va 0 1 8 1 1 13 2 1 15 3 1 18 4 1 23,ug 7 0 5]
abbrev qSE:=bO 24 [uL 5,uM 5 2,uL 5,uM 5 3,uq 1 0,uJ,uL 4,uM 4 2,v8 1118 26 30 32,uL 7,uX 7 2 1 33]
abbrev qSF:=bO 34 [uL 5,uM 5 4,uq 2 0,uY 2,uI 0,uO,uK 0,uR 7 0 5,uG [uY 2 3 37] (uV 863 41),uG [uY 2 3 37] (uQ 1458),u9 0 2 38 2 2 44,vE 4 1 0 45,uH 6 46]
abbrev qSC:=sB 7 [vL 0 1 6,uC 6 uu,uX 7 0 5 8] (.seq (sB 8 [uL 5,uM 5 0,uW 7] (cD 11 (rg qSD) (rg qSE))) (sr qSF .ret))
def KD:qK:=⟨3,47,[.t 6],sB 3 [ud 5 1,ud 5 2,ur] qSC⟩
abbrev qSK:=bO 12 [uL 5,uM 5 3,uq 1 0,uJ,uH 7 16]
abbrev qSL:=bO 19 [uL 5,uM 5 3,uL 4,uM 4 2,uT 1 21,uJ,uH 7 25]
abbrev qSP:=bO 28 [uL 5,uM 5 3,uq 1 1,uJ,uH 7 32]
abbrev qSJ:=sB 16 [uL 5,uM 5 0,uW 10] (cD 19 (rg qSL) (sB 25 [uL 4,uM 4 2,uW 0] (cD 28 (rg qSP) sK)))
abbrev qSQ:=bO 32 [uI 0,uO,uK 0,uL 5,uM 5 1,uI 7,vT 0 1 12 1 1 37 2 1 38,uV 863 35,uH 8 40]
abbrev qSR:=bO 40 [uL 4,uM 4 4,uS,uW 0]
abbrev qSS:=bO 44 [uL 5,uM 5 4,uq 2 0,uY 2,uI 8,uG [uY 2 3 47] (uQ 1458),u9 0 2 48 2 2 50,vE 4 1 0 51,uH 6 52]
abbrev qST:=bO 52 [uL 4,uM 4 4,uS,uN 0]
abbrev qSU:=bO 57 [uf 2 54 56,uY 2,uC 10 ui,uX 11 0 2 59]
abbrev qSV:=bO 59 [uI 9,uI 0,uO,uK 0,uL 5,uM 5 1,uR 11 0 2,uL 5,uM 5 4,uq 2 0,uY 2,vS 2 2 0 66 1 70,vT 0 1 3 1 1 65 4 1 71,uV 863 63,vN 1 0 1 0 73,uo 1 60,uH 9 75]
abbrev qSG:qP:=.loop (sr [ux 55 0 56] (.seq (cD 57 sK (.exit 0)) (.seq (.blk 1 (sr qSU (rg qSV))) (rB 75 [uw 56 1,uH 56 76]))))
abbrev qSM:=bO 76 [uI 9,uS,vv 78 1,uN 0]
abbrev qSN:=bO 82 [uI 0,uO,uK 0,uK 0,uJ,uI 9,uI 12,uT 1 88,uJ,uT 5 87,uK 4,uJ,uI 9,uI 12,ub 1,uT 1 95,uJ,uG [uJ 4 86,uJ 8 90,uJ 11 93] (uQ 1458),uA (.iaddr 2 (.t 94) (.c (iI 1))),ue 2 100]
abbrev qSH:=sr [ux 79 0 80] (.seq (cD 81 sK (.exit 2)) (.seq (.blk 3 (sB 81 [uI 80,uH 12 82] (rg qSN))) (rB 101 [uw 80 1,uH 80 102])))
abbrev qSO:=bO 102 [uI 0,uO,uK 0,uI 8,uI 9,uq 1 0,uJ,v8 1295 105 106 109]
abbrev qSI:=sr [ur 0 8] (.seq (sr qST (.blk 0 qSG)) (.seq (sr qSM (.blk 2 (.loop qSH))) (sr qSO (sr [ur 0 5] .ret))))
def KE:qK:=⟨3,111,[.t 6],sB 3 [ud 5 1,ud 5 2,ur] (sr qSK (.seq qSJ (sr qSQ (.seq (sr qSR (cD 44 (sr qSS .ret) sK)) qSI))))⟩
abbrev qiT:=bO 18 [uI 0,uO,uK 0,uK 4,uJ,uI 1,uT 2 23,uY 2,uC 6 ui,uX 7 0 2 26]
abbrev qiU:=bO 27 [uI 0,uR 7 0 2,uV 1183 28,uH 27 30,uC 30 (uj 27 0),uj 27 1,uH 8 31,uI 32]
abbrev qi3:=bO 34 [uI 9,uC 3 (uN 0),ur,uI 35]
abbrev qi4:=bO 36 [uI 0,uO,uK 0,uR 7 0 2,uV 1285 39,uH 36 41,uC 41 (uj 36 0),uj 36 1,uj 36 2,uH 10 42,uI 43,uI 44]
abbrev qi5:=bO 45 [uI 0,uO,uK 0,uQ 1286,uH 45 49,uC 49 (uj 45 0),uj 45 1,uj 45 2,uH 13 50,uI 51,uI 52]
abbrev qi6:=bO 52 [uI 8,uI 15,ub 2,uI 10,uW 7,uQ 566,vx 55 58,vk 53 59]
abbrev qi7:=bO 60 [uI 0,uI 0,uO,uK 0,uK 4,uJ,uI 1,uI 1,ub 1,v8 1287 66 67 69,vF 61,uK 0,uK 4,ue 1 70]
abbrev qi8:=bO 73 [uI 0,uO,uK 0,uK 0,uJ,uI 11,uT 5 78,uY 5,uI 0,uO,uK 0,uK 0,uJ,uI 12,uT 5 86,uY 5,uC 15 uu,uu,uX 16 0 5 81,uX 17 0 5 89]
abbrev qi9:=bO 89 [uI 0,uO,uK 0,uI 11,uV 1288 92]
abbrev qjA:=bO 96 [uI 0,uR 16 0 5,uI 12,v8 1289 97 98 99]
abbrev qiV:=bO 100 [uI 10,uH 4 101,ur,uN 0]
abbrev qiW:=bO 101 [uI 0,uO,uK 0,uI 12,uV 1288 104]
abbrev qiX:=bO 110 [uL 16,uM 16 4,uq 2 0,uY 2,uL 17,uM 17 4,uq 2 0,uY 2,u9 0 2 114 2 2 118,uL 16,uM 16 4,uq 2 1,uY 2,uL 17,uM 17 4,uq 2 1,uY 2,u9 0 2 123 2 2 127,vR 4 2 0 119 1 128,uH 18 129]
abbrev qiY:=bO 131 [uI 0,uR 16 0 5,uR 17 0 5,v8 1290 132 133 134,uH 18 135]
abbrev qiZ:=bO 137 [uI 0,uR 17 0 5,uV 1291 138,uH 18 140]
abbrev qi0:=bO 142 [uI 0,uR 16 0 5,uR 17 0 5,v8 1292 143 144 145,uH 18 146]
abbrev qi1:=bO 148 [uI 0,uR 16 0 5,uR 17 0 5,v8 1293 149 150 151,uH 18 152]
abbrev qiP:=cD 136 (rg qiZ) (sB 141 [ua 107 5,uH 141 142] (cD 141 (rg qi0) (sB 147 [ua 107 6,uH 147 148] (cD 147 (rg qi1) sK))))
abbrev qiQ:qP:=.seq (sB 108 [ua 107 1,uH 108 109] (cD 108 sK (rB 109 [ua 107 2,uH 108 110]))) (cD 108 (rg qiX) (sB 130 [ua 107 3,uH 130 131] (cD 130 (rg qiY) (sB 136 [ua 107 4,uH 136 137] qiP))))
abbrev qi2:=bO 152 [uI 10,uI 18,uH 4 153,uI 154,uN 0]
abbrev qiR:qP:=.seq (sB 94 [uI 10,uW 7] (cD 96 (sr qjA (sr qiV .ret)) sK)) (sr qiW (sr [ur 0 17] (.seq (sr [uI 10 0 106] (.blk 0 qiQ)) (sr qi2 .ret))))
abbrev qiS:=sr qi5 (.seq (sr qi6 (cD 60 (sB 3 [uN 0,ur,uN 4] .ret) sK)) (sr qi7 (sr qi8 (sr qi9 qiR))))
def F975:qK:=⟨2,155,[.t 4,.t 5,.t 6],sB 3 [uN 0,ur,uN 0] (sr qiT (sr qiU (.seq (sB 32 [uI 9,vu 33 0] (cD 34 (sr qi3 .ret) sK)) (sr qi4 qiS))))⟩
abbrev qSX:=bO 5 [uL 3,uM 3 0,uW 2,uP,uE 9 (uI 0),uE 9 uO,uE 9 (uK 0),uE 9 uJ,uE 9 (uL 3),uE 9 (uM 3 1),uE 9 (uT 5 13),uE 9 (uK 4),uE 9 uJ,uE 9 uS,uE 9 (vj 19 0),uZ 9]
abbrev qSY:=bO 21 [uI 0,uO,uK 0,uJ,uL 3,uM 3 1,uT 5 25,uK 4,uJ,uq 2 0,uY 2,uC 4 ui,uX 5 0 2 32]
abbrev qSZ:=bO 32 [uI 0,uL 3,uM 3 1,uV 1288 33]
abbrev qSW:qP:=.seq (.blk 0 (.loop (.seq (sr qSX (cD 21 sK (.exit 0))) (.blk 1 (sr qSY (sr qSZ (rB 36 [uR 5 0 2,ug 3 0 2]))))))) (sB 37 [uR 3 0 2,ug 4 0 2] .ret)
def KF:qK:=⟨2,39,[.l 4 (some 2)],sB 2 [ud 2 1,ui] qSW⟩
abbrev qjC:=bO 5 [uI 0,uR 4 0 2,uV 1294 6,ug 4 0 2]
abbrev qjD:=bO 8 [uI 0,uR 5 0 2,uV 1294 9,ug 5 0 2]
abbrev qjE:=bO 22 [uL 4,uM 4 0,uW 1,uP,uE 26 (uL 5),uE 26 (uM 5 0),uE 26 (uW 1),uZ 26,uH 22 30]
abbrev qjF:=bO 30 [uI 0,uL 4,uM 4 1,uL 5,uM 5 1,v8 1295 31 33 35]
abbrev qjG:=bO 37 [uR 4 0 2,uR 5 0 2,UF 1 1 38 39,uH 37 40]
abbrev qjH:=bO 40 [uI 0,uL 4,uM 4 1,uV 1288 41]
abbrev qjI:=bO 45 [uL 4,uM 4 0,uW 2,uH 45 48]
abbrev qjJ:=bO 48 [uI 0,uO,uK 0,uJ,uL 4,uM 4 1,uR 5 0 2,u5 2 1 0 55,uf 5 52 54,uK 4,ue 1 56]
abbrev qjK:=bO 11 [uI 0,uO,uK 0,uJ,uL 5,uM 5 1,uR 4 0 2,u5 2 1 0 18,uf 5 15 17,uK 4,ue 1 19]
abbrev qjB:=sr qjC (sr qjD (.blk 0 (sr qjE (cD 22 (rg qjF) (sr qjG (cD 37 (rg qjH) (sr qjI (cD 45 (rg qjJ) (rg qjK)))))))))
def F976:qK:=⟨3,59,[],sB 3 [ud 2 1,ud 2 2] qjB⟩
abbrev qc9:=bO 11 [uI 0,uI 1,uV 975 12,uH 11 14,uC 14 (uj 11 0),uj 11 1,uj 11 2,uH 6 15,uI 16,uI 17]
abbrev qdA:=bO 21 [uf 4 18 20,uY 4,uC 9 (uA (.lalloc (.agg [iI 0,iI 0,iI 0,iI 0]))),uX 10 0 4 23]
abbrev qdB:=bO 23 [uI 0,uO,uK 0,uL 10,uR 10 0 2,uL 10,uR 10 2 2,v8 976 26 28 30]
abbrev qc8:qP:=.loop (sr [ux 19 0 20] (.seq (cD 21 sK (.exit 0)) (.seq (.blk 1 (sr qdA (rg qdB))) (rB 31 [uw 20 1,uH 20 32]))))
abbrev qdC:=bO 32 [uI 6,uI 8,uH 4 33,uI 34]
def F602:qK:=⟨2,35,[.t 4,.t 5],sB 3 [uN 0,uN 0] (sr qc9 (.seq (sB 17 [uI 7,uS,uN 0] (.blk 0 qc8)) (sr qdC .ret)))⟩
def qDX:qK:=Wz
abbrev qgN:=bO 4 [uL 2,uM 2 3,uI 1,uV 338 6,uH 1 8]
abbrev qgO:=bO 10 [uL 2,uM 2 4,uI 1,uV 1242 12,uH 1 14]
abbrev qgM:=sr qgO (.seq (sB 14 [uI 1,vt 15 0] (cD 16 (sr [uN (-1) 0 3] .ret) sK)) (sB 16 [uI 1,uH 4 17] .ret))
def F922:qK:=⟨2,18,[.t 4],sB 1 [ud 5 0,uC 3 (uN 0)] (sr qgN (.seq (sB 8 [uI 1,vt 9 0] (cD 10 (sr [uN (-1) 0 3] .ret) sK)) qgM))⟩
def F542:qK:=szS 5 (some 5) 922
def F543:qK:=Wz
abbrev qYA:=bO 4 [uL 2,uM 2 0,uI 1,uV 542 6,uH 1 8]
abbrev qYB:=bO 10 [uL 2,uM 2 4,uI 1,uV 543 12,uH 1 14]
abbrev qX9:=sr qYB (.seq (sB 14 [uI 1,vt 15 0] (cD 16 (sr [uN (-1) 0 3] .ret) sK)) (sB 16 [uI 1,uH 4 17] .ret))
def kA:qK:=⟨2,18,[.t 4],sB 1 [ud 5 0,uC 3 (uN 0)] (sr qYA (.seq (sB 8 [uI 1,vt 9 0] (cD 10 (sr [uN (-1) 0 3] .ret) sK)) qX9))⟩
abbrev qhB:=bO 2 [uI 0,uO,uK 0,uJ,vz 340 6 2 12,uH 2 7]
def F950:qK:=⟨1,8,[.t 2],sr [uU 0 1] (sr qhB .ret)⟩
abbrev qhE:=bO 6 [uI 0,uO,uK 0,uJ,uS,uH 6 11]
abbrev qhF:=bO 15 [uL 3,uM 3 0,vu 17 2,uP,uF 19 (uI 0),uF 19 uO,uF 19 (uK 0),uF 19 uJ,uF 19 (uL 3),uF 19 (uM 3 1),uF 19 (uT 5 23),uF 19 (uK 4),uF 19 uJ,uF 19 uS,uF 19 (uW 0),uk 19]
abbrev qhG:=bO 32 [uI 0,uO,uK 0,uJ,uL 3,uM 3 1,uT 5 36,uK 4,uJ,uq 2 0,uY 2,ug 3 0 2]
abbrev qhC:qP:=.seq (.blk 1 (.seq (sr qhF (cD 31 (sB 31 [uR 3 0 2,ug 4 0 2,uC 4 uz] .ret) sK)) (rg qhG))) (rB 13 [uI 6,vv 14 1,uH 6 15])
abbrev qhD:qP:=.seq (sr qhE (.blk 0 (.loop (.seq (sB 11 [uI 6,vh 12 0] (cD 13 sK (.exit 0))) qhC)))) (sB 43 [uR 3 0 2,ug 4 0 2,uC 4 uU] .ret)
def F951:qK:=⟨2,45,[.l 4 (some 2),.t 5],sB 2 [ud 2 1,ui,uU] qhD⟩
abbrev qTX:=bO 6 [uI 0,uO,uK 0,uJ,uW 0,uH 6 11]
abbrev qTY:=bO 11 [uI 0,uO,uK 1,uJ,uW 0,uP,uE 17 (uI 0),uE 17 uO,uE 17 (uK 3),uE 17 uJ,uE 17 uS,uE 17 (uW 0),uZ 17,uP,uE 25 (uI 0),uE 25 uO,uE 25 (uK 4),uE 25 uJ,uE 25 uS,uE 25 (uW 0),uZ 25,uP,uE 33 (uI 0),uE 33 uO,uE 33 (uK 2),uE 33 uJ,uE 33 (uI 1),uE 33 (vv 38 1),uE 33 (v5 340 37 (-1) 39),uZ 33,uH 4 41]
abbrev qTZ:=bO 42 [uI 0,uO,uK 0,uJ,uW 13,uH 42 47]
abbrev qT0:=bO 47 [uI 0,uO,uK 1,uJ,uW 0,uP,uE 53 (uI 0),uE 53 uO,uE 53 (uK 2),uE 53 uJ,uE 53 (uW 0),uZ 53,uP,uE 60 (uI 0),uE 60 uO,uE 60 (uK 3),uE 60 uJ,uE 60 uS,uE 60 (uW 0),uZ 60,uP,uE 68 (uI 0),uE 68 uO,uE 68 (uK 4),uE 68 uJ,uE 68 uS,uE 68 (vt 73 2),uZ 68,uH 4 75]
abbrev qT1:=bO 78 [uI 0,uQ 1277,uC 4 (vP 5),ue 5 80]
abbrev qTW:=cD 42 (sr qT0 .ret) (sB 76 [uI 0,uQ 950,uH 76 78] (cD 76 (sr qT1 (sB 80 [vK 1096 5,uH 4 81] .ret)) sK))
def KI:qK:=⟨2,82,[.t 4],sr [uU 0 3] (.seq (.blk 0 (sr qTX (cD 6 (sr qTY .ret) (sr qTZ qTW)))) (sr [uU 0 3] .ret))⟩
abbrev qT3:=bO 4 [uI 0,uO,uK 2,uY 2,u5 2 1 0 8,uH 3 9]
abbrev qT4:=bO 9 [uI 4,uI 0,uO,uK 0,uJ,uS,un 10]
abbrev qT5:=bO 18 [uI 3,uI 0,uO,uK 0,uJ,uI 4,uT 5 23,uK 4,uJ,uo 2 19,uH 3 28]
abbrev qT2:=sr [uN 0 0 3] (.blk 0 (.loop (.seq (sr qT4 (cD 16 sK (.exit 0))) (.seq (.blk 1 (rg qT5)) (rB 16 [uI 4,ub 1,uH 4 18])))))
def KJ:qK:=⟨1,30,[.t 2],sr [ur 0 1] (sr qT3 (.seq qT2 (sB 28 [uI 3,uH 2 29] .ret)))⟩
abbrev qT6:=bO 5 [uL 3,uM 3 1,uI 0,uO,uK 0,uJ,uS,vv 12 1,v5 340 7 0 13,uc]
abbrev qT7:=bO 15 [uI 0,uO,uK 0,uJ,uL 3,uM 3 1,uT 5 19,uH 5 22]
abbrev qT8:=bO 22 [uL 3,uM 3 0,uW 1,uP,uE 26 (uI 5),uE 26 (uQ 950),uZ 26,uP,uF 30 (uL 3),uF 30 (uM 3 0),uF 30 (uW 2),uF 30 uP,uE 34 (uI 5),uE 34 uO,uE 34 (uK 0),uE 34 uJ,uE 34 (uW 13),uF 30 (uZ 34),uk 30,uH 4 41]
def KL:qK:=⟨2,42,[.t 4],sB 2 [ud 2 1,uU] (.seq (sr qT6 (cD 15 (sr [uU 0 3] .ret) sK)) (sr qT7 (sr qT8 .ret)))⟩
abbrev qUC:=bO 5 [uI 4,uI 0,uO,uK 0,uJ,uS,un 6]
abbrev qUD:=bO 14 [uI 0,uO,uK 0,uJ,uI 4,uT 5 18,uK 0,uJ,uW 0]
abbrev qT9:qP:=.seq (.blk 1 (sr qUD (cD 23 (rB 23 [uI 3,ub 1,uH 3 25]) sK))) (rB 12 [uI 4,ub 1,uH 4 14])
abbrev qUE:=bO 25 [uI 0,uO,uK 1,uJ,uH 5 29]
abbrev qUF:=bO 33 [uI 5,uI 0,uO,uK 0,uJ,uS,vv 39 1,v5 340 34 0 40,uc,uP,uF 43 (uI 0),uF 43 uO,uF 43 (uK 0),uF 43 uJ,uF 43 (uI 5),uF 43 (uT 5 47),uF 43 (uK 0),uF 43 uJ,uF 43 (vu 51 0),uk 43]
abbrev qUG:=bO 53 [uI 0,uO,uK 0,uJ,uI 5,uT 5 57,uK 2,uJ,uH 5 61]
abbrev qUA:qP:=.seq (sB 29 [uI 3,vj 30 0] (cD 31 sK (.exit 2))) (.seq (.blk 3 (.seq (sr qUF (cD 53 (sr [uU 0 1] .ret) sK)) (rg qUG))) (rB 31 [uI 3,vv 32 1,uH 3 33]))
abbrev qUB:qP:=.seq (sr [uN 0 0 3] (.blk 0 (.loop (.seq (sr qUC (cD 12 sK (.exit 0))) qT9)))) (sr qUE (.seq (.blk 2 (.loop qUA)) (sB 61 [uI 5,uW (-1),uH 2 63] .ret)))
def KM:qK:=⟨1,64,[.t 2],sr [uU 0 1] (sr [uN 0 0 2] qUB)⟩
abbrev qLJ:=bO 17 [uI 0,uO,uK 0,uJ,uS,uH 7 22]
abbrev qLK:=bO 22 [uI 7,vz 340 23 1 1500,uc,uP,uF 26 (uI 2),uF 26 uS,uF 26 (uI 7),uF 26 (vk 28 29),uk 26]
abbrev qLT:=bO 32 [uI 9,uI 0,uO,uK 0,uJ,uS,un 33]
abbrev qLW:=bO 41 [uI 0,uO,uK 0,uJ,uI 9,uT 5 45,uI 7,uV 1351 47,uc]
abbrev qLX:=bO 50 [uI 8,uA (.bslice 1 (iI 0) 1 [(0,.c (iI 0))]),uo 1 51,uH 8 53]
abbrev qLI:qP:=.seq (sr qLT (cD 39 sK (.exit 0))) (.seq (.blk 1 (.seq (sr qLW (cD 50 (sr [uU 0 5] .ret) sK)) (rg qLX))) (rB 39 [uI 9,ub 1,uH 9 41]))
abbrev qLY:=bO 53 [uI 0,uQ 1352,uI 1,uo 2 55,uH 10 57]
abbrev qLZ:=bO 57 [uI 11,uI 10,uS,un 58]
abbrev qL0:=bO 63 [uI 0,uI 10,uI 11,uT 2 65,uY 2,uV 1353 64,uc]
abbrev qL1:=bO 70 [uI 8,uI 10,uI 11,uT 2 72,uK 1,uJ,uT 1 71,uJ,ub 1,uf 1 71 76,ue 1 79]
abbrev qLC:qP:=.seq (sr qLZ (cD 61 sK (.exit 2))) (.seq (.blk 3 (.seq (sr qL0 (cD 70 (sr [uU 0 5] .ret) sK)) (rg qL1))) (rB 61 [uI 11,ub 1,uH 11 63]))
abbrev qLL:=bO 80 [uI 12,uI 2,uS,un 81]
abbrev qLM:=bO 86 [uI 2,uI 12,uT 2 87,uY 2,uC 12 ui,uX 13 0 2 90]
abbrev qLN:=bO 90 [uL 13,uM 13 1,uI 7,vv 93 1,v5 340 92 1 94,uc,uP,uF 97 (uL 13),uF 97 (uM 13 0),uF 97 (uL 13),uF 97 (uM 13 1),uF 97 (vv 101 1),uF 97 (v5 340 99 0 102),uF 97 uc,uk 97,uP,uF 106 (uI 0),uF 106 uO,uF 106 (uK 0),uF 106 uJ,uF 106 (uL 13),uF 106 (uM 13 0),uF 106 (uT 5 110),uF 106 (uQ 950),uF 106 uc,uk 106,uP,uF 117 (uI 0),uF 117 uO,uF 117 (uK 0),uF 117 uJ,uF 117 (uL 13),uF 117 (uM 13 1),uF 117 (uT 5 121),uF 117 (uQ 950),uF 117 uc,uk 117]
abbrev qLO:=bO 127 [uI 8,uL 13,uM 13 0,uT 1 128,uJ,ub 1,uf 1 128 130,ue 1 133]
abbrev qLP:=bO 134 [uI 8,uL 13,uM 13 1,uT 1 135,uJ,ub 1,uf 1 135 137,ue 1 140]
abbrev qLD:qP:=.seq (.blk 5 (sr qLM (.seq (sr qLN (cD 127 (sr [uU 0 5] .ret) sK)) (sr qLO (rg qLP))))) (rB 84 [uI 12,ub 1,uH 12 86])
abbrev qLQ:=bO 141 [uI 14,uI 0,uO,uK 0,uJ,uS,un 142]
abbrev qLR:=bO 150 [uI 0,uO,uK 0,uJ,uI 14,uT 5 154,uH 15 156]
abbrev qLS:=bO 156 [uI 15,uQ 950,uP,uE 159 (uI 8),uE 159 (uI 14),uE 159 (uT 1 160),uE 159 uJ,uE 159 (vu 163 1),uZ 159,uP,uF 166 (uI 15),uF 166 uO,uF 166 (uK 0),uF 166 uJ,uF 166 (uW 13),uF 166 uP,uE 172 (uI 8),uE 172 (uI 14),uE 172 (uT 1 173),uE 172 uJ,uE 172 (uI 15),uE 172 uO,uE 172 (uK 4),uE 172 uJ,uE 172 uS,uE 172 (uA (.bin .sub (.c (iI 2)) (.t 181))),uE 172 (ut 176),uF 166 (uZ 172),uk 166]
abbrev qLU:=bO 185 [uI 15,uO,uK 0,uJ,uW 13]
abbrev qLV:=bO 191 [uI 0,uI 14,vG 0 1 2 1 1 193,uV 951 192,uH 191 195,uC 195 (uj 191 0),uj 191 1,uC 15 ui,uX 16 0 2 196,uI 197]
abbrev qLE:qP:=.seq (sr qLS (cD 185 (sr [uU 0 5] .ret) sK)) (sr qLU (cD 190 (sr qLV (sB 197 [uI 17,uc] (cD 199 (sr [uU 0 5] .ret) sK))) sK))
abbrev qLF:=sr [uN 0 0 13] (.blk 6 (.loop (.seq (sr qLQ (cD 148 sK (.exit 6))) (.seq (.blk 7 (sr qLR qLE)) (rB 148 [uI 14,ub 1,uH 14 150])))))
abbrev qLG:qP:=.seq (sr [uN 0 0 11] (.blk 4 (.loop (.seq (sr qLL (cD 84 sK (.exit 4))) qLD)))) (.seq qLF (sB 199 [uI 0,uQ 1354,uH 6 201] .ret))
abbrev qLH:qP:=.seq (sr [uN 0 0 8] (.blk 0 (.loop qLI))) (sr qLY (.seq (sr [uN 0 0 10] (.blk 2 (.loop qLC))) qLG))
def Ub:qK:=⟨3,202,[.t 6],sr [uU 0 5] (sr qLJ (.seq (sr qLK (cD 31 (sr [uU 0 5] .ret) sK)) (sB 31 [vC 1,uH 8 32] qLH)))⟩
abbrev qgP:=bO 2 [uI 0,uI 0,uO,uK 4,uJ,uA (.call 1058 [.t 3,.c (.nils),.t 7]),uH 2 8]
def F923:qK:=⟨1,9,[.t 2],sr [uU 0 1] (sr qgP .ret)⟩
abbrev qbN:=bO 4 [uI 0,uO,uK 1,uJ,uI 0,uO,uK 2,uY 2,vC 2,uI 0,uO,uK 4,uJ,uD 15 (uC 2 vD),uD 13 (uC 17 (uG [uJ 3 7,uY 2 7 11] (uo 2 13))),uD 14 (uA (.build (.agg [.nils,iI 0,iI 0,iI 0,.nils]) [(1,1,.t 8),(2,2,.t 12),(4,1,.t 18)])),ug 3 0 5]
abbrev qbO:=bO 19 [uI 4,uI 0,uO,uK 0,uJ,uS,un 20]
abbrev qbP:=bO 28 [uL 3,uM 3 0,uI 0,uO,uK 0,uJ,uI 4,uT 5 34,uQ 924,vU 5 1 0 37,uo 5 30,uL 3,uX 3 0 1 39]
abbrev qbM:=sr [uN 0 0 3] (.blk 0 (.loop (.seq (sr qbO (cD 26 sK (.exit 0))) (.seq (.blk 1 (rg qbP)) (rB 26 [uI 4,ub 1,uH 4 28])))))
def kR:qK:=⟨1,42,[.l 2 (some 5)],sr [vD 0 1] (sr qbN (.seq qbM (sB 40 [uR 3 0 5,ug 2 0 5] .ret)))⟩
abbrev qbQ:=bO 3 [uL 1,uM 1 0,uL 3,uX 3 0 1 5]
abbrev qbR:=bO 6 [uL 1,uM 1 1,uL 3,uX 3 1 1 8]
def XE:qK:=⟨1,11,[.l 2 (some 2)],sB 0 [ud 2 0,ui] (sr [ui 0 2] (sr qbQ (sr qbR (sB 9 [uR 3 0 2,ug 2 0 2] .ret))))⟩
def Us:qK:=toS 2 (some 2) (.agg [iI 0,iI 0]) 547
abbrev qgS:=bO 3 [uL 1,uM 1 0,uL 3,uX 3 0 1 5]
abbrev qgT:=bO 6 [uL 1,uM 1 1,uL 3,uX 3 1 1 8]
abbrev qgU:=bO 9 [uL 1,uM 1 2,uL 3,uX 3 2 1 11]
abbrev qgV:=bO 12 [uL 1,uM 1 3,uQ 147,uL 3,uX 3 3 1 15]
abbrev qgW:=bO 16 [uL 1,uM 1 4,uQ 1243,uL 3,uX 3 4 1 19]
abbrev qgR:=sr [uu 0 2] (sr qgS (sr qgT (sr qgU (sr qgV (sr qgW (sB 20 [uR 3 0 5,ug 2 0 5] .ret))))))
def XH:qK:=⟨1,22,[.l 2 (some 5)],sB 0 [ud 5 0,uu] qgR⟩
def kS:qK:=toS 5 (some 5) (.agg [iI 0,iI 0,iI 0,.nils,.nils]) 925
abbrev qgX:=bO 3 [uL 1,uM 1 0,uL 3,uX 3 0 1 5]
abbrev qgY:=bO 6 [uL 1,uM 1 1,uL 3,uX 3 1 1 8]
def XI:qK:=⟨1,11,[.l 2 (some 2)],sB 0 [ud 2 0,ui] (sr [ui 0 2] (sr qgX (sr qgY (sB 9 [uR 3 0 2,ug 2 0 2] .ret))))⟩
def kT:qK:=toS 2 (some 2) (.agg [iI 0,iI 0]) 926
abbrev qYD:=bO 3 [uL 1,uM 1 0,uQ 546,uL 3,uX 3 0 1 6]
abbrev qYE:=bO 7 [uL 1,uM 1 1,uL 3,uX 3 1 1 9]
abbrev qYF:=bO 10 [uL 1,uR 1 2 2,uQ 547,uL 3,uX 3 2 2 13]
abbrev qYG:=bO 14 [uL 1,uM 1 4,uQ 548,uL 3,uX 3 4 1 17]
abbrev qYC:=sr [vD 0 2] (sr qYD (sr qYE (sr qYF (sr qYG (sB 18 [uR 3 0 5,ug 2 0 5] .ret)))))
def XD:qK:=⟨1,20,[.l 2 (some 5)],sB 0 [ud 5 0,vD] qYC⟩
abbrev qbS:=bO 4 [uL 2,uM 2 0,uL 3,uM 3 0,ut 6]
abbrev qbT:=bO 9 [uL 2,uM 2 1,uL 3,uM 3 1,ut 11]
def kU:qK:=⟨2,15,[.t 4],sB 1 [ud 2 0,ud 2 1,uU] (.seq (sr qbS (cD 9 (sr [uU 0 3] .ret) sK)) (.seq (sr qbT (cD 14 (sr [uU 0 3] .ret) sK)) (sr [uz 0 3] .ret)))⟩
def qDY:qK:=eqS 2 (some 2) 550
abbrev qg0:=bO 4 [uL 2,uM 2 0,uL 3,uM 3 0,ut 6]
abbrev qg1:=bO 9 [uL 2,uM 2 1,uL 3,uM 3 1,ut 11]
abbrev qg2:=bO 14 [uL 2,uM 2 2,uL 3,uM 3 2,ut 16]
abbrev qg3:=bO 19 [uL 2,uM 2 3,uL 3,uM 3 3,uV 86 21,uc]
abbrev qg4:=bO 25 [uL 2,uM 2 4,uL 3,uM 3 4,uV 1244 27,uc]
abbrev qgZ:qP:=.seq (sr qg2 (cD 19 (sr [uU 0 3] .ret) sK)) (.seq (sr qg3 (cD 25 (sr [uU 0 3] .ret) sK)) (.seq (sr qg4 (cD 31 (sr [uU 0 3] .ret) sK)) (sr [uz 0 3] .ret)))
def F927:qK:=⟨2,32,[.t 4],sB 1 [ud 5 0,ud 5 1,uU] (.seq (sr qg0 (cD 9 (sr [uU 0 3] .ret) sK)) (.seq (sr qg1 (cD 14 (sr [uU 0 3] .ret) sK)) qgZ))⟩
def F549:qK:=eqS 5 (some 5) 927
abbrev qg5:=bO 4 [uL 2,uM 2 0,uL 3,uM 3 0,ut 6]
abbrev qg6:=bO 9 [uL 2,uM 2 1,uL 3,uM 3 1,ut 11]
def F928:qK:=⟨2,15,[.t 4],sB 1 [ud 2 0,ud 2 1,uU] (.seq (sr qg5 (cD 9 (sr [uU 0 3] .ret) sK)) (.seq (sr qg6 (cD 14 (sr [uU 0 3] .ret) sK)) (sr [uz 0 3] .ret)))⟩
def F551:qK:=eqS 2 (some 2) 928
abbrev qYI:=bO 4 [uL 2,uM 2 0,uL 3,uM 3 0,uV 549 6,uc]
abbrev qYJ:=bO 10 [uL 2,uM 2 1,uL 3,uM 3 1,ut 12]
abbrev qYK:=bO 15 [uL 2,uR 2 2 2,uL 3,uR 3 2 2,uV 550 17,uc]
abbrev qYL:=bO 21 [uL 2,uM 2 4,uL 3,uM 3 4,uV 551 23,uc]
abbrev qYH:qP:=.seq (sr qYJ (cD 15 (sr [uU 0 3] .ret) sK)) (.seq (sr qYK (cD 21 (sr [uU 0 3] .ret) sK)) (.seq (sr qYL (cD 27 (sr [uU 0 3] .ret) sK)) (sr [uz 0 3] .ret)))
def kC:qK:=⟨2,28,[.t 4],sB 1 [ud 5 0,ud 5 1,uU] (.seq (sr qYI (cD 10 (sr [uU 0 3] .ret) sK)) qYH)⟩
abbrev qhJ:=bO 5 [uP,uI 0,uS,un 6]
abbrev qhK:=bO 11 [uI 0,uI 5,uI 1,uf 2 12 13,uK 0,ue 1 14]
abbrev qhL:=bO 18 [uI 0,uI 5,uI 1,uf 2 19 20,uK 1,ue 1 21]
abbrev qhH:=sB 16 [uI 1,ub 1,uH 1 18] (sr qhL (rB 23 [uI 1,ub 1,uH 1 25]))
abbrev qhI:=sr [uN 0 0 4] (.blk 0 (.loop (.seq (sr qhJ (cD 9 sK (.exit 0))) (.seq (.blk 1 (sr qhK qhH)) (rB 9 [uI 5,ub 1,uH 5 11])))))
def F968:qK:=⟨2,27,[.t 4],sr [uN 0 0 3] (.seq qhI (sB 25 [uI 1,uH 4 26] .ret))⟩
abbrev qcB:=bO 5 [uP,uI 0,uS,un 6]
abbrev qcC:=bO 11 [uI 0,uI 5,uI 1,uf 5 12 13,uK 0,ue 1 14]
abbrev qcD:=bO 18 [uI 0,uI 5,uI 1,uf 5 19 20,uK 1,ue 1 21]
abbrev qcE:=bO 25 [uI 0,uI 5,uI 1,uf 5 26 27,uK 2,ue 1 28]
abbrev qcF:=bO 32 [uI 0,uI 5,uT 5 33,uK 3,uJ,uI 1,uV 90 37,uH 1 39]
abbrev qcG:=bO 39 [uI 0,uI 5,uT 5 40,uK 4,uJ,uI 1,uV 968 44,uH 1 46]
abbrev qb9:=sB 23 [uI 1,ub 1,uH 1 25] (sr qcE (sB 30 [uI 1,ub 1,uH 1 32] (sr qcF (rg qcG))))
abbrev qcA:qP:=.seq (.blk 1 (sr qcC (sB 16 [uI 1,ub 1,uH 1 18] (sr qcD qb9)))) (rB 9 [uI 5,ub 1,uH 5 11])
def ke:qK:=⟨2,48,[.t 4],sr [uN 0 0 3] (.seq (sr [uN 0 0 4] (.blk 0 (.loop (.seq (sr qcB (cD 9 sK (.exit 0))) qcA)))) (sB 46 [uI 1,uH 4 47] .ret))⟩
abbrev qcJ:=bO 5 [uP,uI 0,uS,un 6]
abbrev qcK:=bO 11 [uI 0,uI 5,uI 1,uf 2 12 13,uK 0,ue 1 14]
abbrev qcL:=bO 18 [uI 0,uI 5,uI 1,uf 2 19 20,uK 1,ue 1 21]
abbrev qcH:=sB 16 [uI 1,ub 1,uH 1 18] (sr qcL (rB 23 [uI 1,ub 1,uH 1 25]))
abbrev qcI:=sr [uN 0 0 4] (.blk 0 (.loop (.seq (sr qcJ (cD 9 sK (.exit 0))) (.seq (.blk 1 (sr qcK qcH)) (rB 9 [uI 5,ub 1,uH 5 11])))))
def kj:qK:=⟨2,27,[.t 4],sr [uN 0 0 3] (.seq qcI (sB 25 [uI 1,uH 4 26] .ret))⟩
abbrev qYV:=bO 4 [uL 2,uM 2 0,uI 1,uV 595 6,uH 1 8]
abbrev qYW:=bO 8 [uL 2,uM 2 4,uI 1,uV 596 10,uH 1 12]
def kE:qK:=⟨2,14,[.t 4],sB 1 [ud 5 0,uC 3 (uN 0)] (sr qYV (sr qYW (sB 12 [uI 1,uH 4 13] .ret)))⟩
abbrev qcR:=bO 7 [uI 1,uI 0,uO,uK 4,uJ,uS,vv 13 1,v5 340 8 0 14,uc]
abbrev qcQ:qP:=.seq (sB 4 [uI 0,uQ 923,uc] (cD 7 (sr [uN 1 0 3] .ret) sK)) (.seq (sr qcR (cD 16 (sr [uN 2 0 3] .ret) sK)) (sr [uN 0 0 3] .ret))
def kw:qK:=⟨2,17,[.t 4],sr [uN 0 0 3] qcQ⟩
abbrev qYZ:=bO 3 [vQ 5 1,uC 5 vD,uN 0,uN 0]
abbrev qY0:=bO 14 [vO,ug 6 0 5,uC 6 (uN 0),uN 1]
abbrev qY1:=bO 19 [vO,uI 9,uX 6 0 5 20,uC 6 (uN 0),uI 21]
abbrev qY2:=bO 23 [uI 0,uI 2,v8 600 24 10 25,uH 23 26,uC 26 (uj 23 0),uj 23 1,uH 11 27,uH 9 28]
abbrev qY3:=bO 30 [vO,uI 9,uX 6 0 5 31,uC 6 (uN 0),uI 32]
abbrev qY4:=bO 32 [uA (.load (some 5) (.t 10)),uI 11,uX 6 0 5 33,uH 7 34,uN 0]
abbrev qYX:=sB 21 [vK 545 4,uC 9 (uA (.halloc 5 (.agg [.nils,iI 0,iI 0,iI 0,.nils]))),ue 5 22] (sr qY2 (.seq (sB 28 [uI 9,vu 29 0] (cD 30 (sr qY3 .ret) sK)) (sr qY4 .ret)))
abbrev qYY:qP:=.seq (sB 11 [uI 0,uQ 598,uc] (cD 14 (sr qY0 .ret) sK)) (sB 15 [uI 2,uV 599 4,uH 9 17] (.seq (sB 17 [uI 9,vu 18 0] (cD 19 (sr qY1 .ret) sK)) qYX))
def kF:qK:=⟨3,35,[.l 6 (some 5),.t 7,.t 8],sr qYZ qYY⟩
abbrev qiO:=bO 4 [uI 1,vh 5 0,uP,uE 7 (uI 1),uE 7 (uI 0),uE 7 uO,uE 7 (uK 4),uE 7 uJ,uE 7 uS,uE 7 (un 8),uZ 7,uH 4 15]
def F974:qK:=⟨2,16,[.t 4],sr [uU 0 3] (sr qiO .ret)⟩
abbrev qc5:=bO 8 [uI 0,uQ 505,uc,uP,uF 12 (uA (.load (some 5) (.t 4))),uF 12 (uQ 867),uF 12 uc,uk 12,uH 8 16]
abbrev qc6:=bO 17 [uI 2,uV 974 4,uc,uH 17 20]
abbrev qc7:=bO 20 [uA (.load (some 5) (.t 4)),uQ 868,uI 0,uA (.build (.agg [.nils,iI 0,iI 0,iI 0,.nils,.nils]) [(0,5,.t 22),(5,1,.t 23)]),vQ 6 24,uH 6 25,uN 0]
abbrev qc4:qP:=.seq (.blk 0 (sr qc5 (cD 8 (sB 5 [vZ,uN 1] .ret) (sr qc6 (cD 17 (sB 5 [vZ,uN 2] .ret) sK))))) (sr qc7 .ret)
def F601:qK:=⟨3,26,[.t 6,.t 7],sB 3 [vQ 5 1,uC 5 vZ,uN 0] qc4⟩
abbrev qY6:=bO 3 [ud 5 1,uC 5 vD,uN 0,uN 0]
abbrev qY7:=bO 12 [uI 0,uR 4 0 5,uI 2,v8 601 13 14 15,uH 12 16,uC 16 (uj 12 0),uj 12 1,uH 9 17,uI 18]
abbrev qY8:=bO 20 [vO,uI 10,uX 6 0 5 21,uC 6 (uN 0),uI 22]
abbrev qY9:=bO 23 [uI 9,uI 2,uV 602 24,uH 23 26,uC 26 (uj 23 0),uj 23 1,uH 11 27,uH 10 28]
abbrev qZA:=bO 30 [vO,uI 10,uX 6 0 5 31,uC 6 (uN 0),uI 32]
abbrev qZB:=bO 32 [uI 9,uO,uK 0,uY 5,uI 11,uX 6 0 5 36,uH 7 37,uN 0]
abbrev qY5:qP:=.seq (sB 18 [uI 10,vu 19 0] (cD 20 (sr qY8 .ret) sK)) (sr qY9 (.seq (sB 28 [uI 10,vu 29 0] (cD 30 (sr qZA .ret) sK)) (sr qZB .ret)))
def kG:qK:=⟨3,38,[.l 6 (some 5),.t 7,.t 8],sr qY6 (sr qY7 qY5)⟩
abbrev qjN:=bO 5 [uP,uI 0,uS,un 6]
abbrev qjO:=bO 11 [uI 0,uI 5,uT 2 12,uK 0,uJ,uI 1,ut 16]
abbrev qjP:=bO 20 [uI 0,uI 5,uT 2 21,uK 1,uJ,uI 1,ut 25]
abbrev qjL:=sB 18 [uI 1,ub 1,uH 1 20] (.seq (sr qjP (cD 27 (sr [uN (-1) 0 3] .ret) sK)) (rB 27 [uI 1,ub 1,uH 1 29]))
abbrev qjM:qP:=.loop (.seq (sr qjN (cD 9 sK (.exit 0))) (.seq (.blk 1 (.seq (sr qjO (cD 18 (sr [uN (-1) 0 3] .ret) sK)) qjL)) (rB 9 [uI 5,ub 1,uH 5 11])))
def F977:qK:=⟨2,31,[.t 4],sr [uN 0 0 3] (.seq (sr [uN 0 0 4] (.blk 0 qjM)) (sB 29 [uI 1,uH 4 30] .ret))⟩
abbrev qdH:=bO 5 [uP,uI 0,uS,un 6]
abbrev qdI:=bO 11 [uI 0,uI 5,uT 5 12,uK 0,uJ,uI 1,ut 16]
abbrev qdJ:=bO 20 [uI 0,uI 5,uT 5 21,uK 1,uJ,uI 1,ut 25]
abbrev qdK:=bO 29 [uI 0,uI 5,uT 5 30,uK 2,uJ,uI 1,ut 34]
abbrev qdL:=bO 38 [uI 0,uI 5,uT 5 39,uK 3,uJ,uI 1,uV 92 43,uH 1 45]
abbrev qdM:=bO 47 [uI 0,uI 5,uT 5 48,uK 4,uJ,uI 1,uV 977 52,uH 1 54]
abbrev qdD:qP:=.seq (sB 45 [uI 1,vt 46 0] (cD 47 (sr [uN (-1) 0 3] .ret) sK)) (sr qdM (sB 54 [uI 1,vt 55 0] (cD 56 (sr [uN (-1) 0 3] .ret) sK)))
abbrev qdE:=sB 27 [uI 1,ub 1,uH 1 29] (.seq (sr qdK (cD 36 (sr [uN (-1) 0 3] .ret) sK)) (sB 36 [uI 1,ub 1,uH 1 38] (sr qdL qdD)))
abbrev qdF:qP:=.seq (sr qdI (cD 18 (sr [uN (-1) 0 3] .ret) sK)) (sB 18 [uI 1,ub 1,uH 1 20] (.seq (sr qdJ (cD 27 (sr [uN (-1) 0 3] .ret) sK)) qdE))
abbrev qdG:=sr [uN 0 0 4] (.blk 0 (.loop (.seq (sr qdH (cD 9 sK (.exit 0))) (.seq (.blk 1 qdF) (rB 9 [uI 5,ub 1,uH 5 11])))))
def F603:qK:=⟨2,58,[.t 4],sr [uN 0 0 3] (.seq qdG (sB 56 [uI 1,uH 4 57] .ret))⟩
abbrev qdP:=bO 5 [uP,uI 0,uS,un 6]
abbrev qdQ:=bO 11 [uI 0,uI 5,uT 2 12,uK 0,uJ,uI 1,ut 16]
abbrev qdR:=bO 20 [uI 0,uI 5,uT 2 21,uK 1,uJ,uI 1,ut 25]
abbrev qdN:=sB 18 [uI 1,ub 1,uH 1 20] (.seq (sr qdR (cD 27 (sr [uN (-1) 0 3] .ret) sK)) (rB 27 [uI 1,ub 1,uH 1 29]))
abbrev qdO:qP:=.loop (.seq (sr qdP (cD 9 sK (.exit 0))) (.seq (.blk 1 (.seq (sr qdQ (cD 18 (sr [uN (-1) 0 3] .ret) sK)) qdN)) (rB 9 [uI 5,ub 1,uH 5 11])))
def F604:qK:=⟨2,31,[.t 4],sr [uN 0 0 3] (.seq (sr [uN 0 0 4] (.blk 0 qdO)) (sB 29 [uI 1,uH 4 30] .ret))⟩
abbrev qZD:=bO 4 [uL 2,uM 2 0,uI 1,uV 603 6,uH 1 8]
abbrev qZE:=bO 10 [uL 2,uM 2 4,uI 1,uV 604 12,uH 1 14]
abbrev qZC:=sr qZE (.seq (sB 14 [uI 1,vt 15 0] (cD 16 (sr [uN (-1) 0 3] .ret) sK)) (sB 16 [uI 1,uH 4 17] .ret))
def kH:qK:=⟨2,18,[.t 4],sB 1 [ud 5 0,uC 3 (uN 0)] (sr qZD (.seq (sB 8 [uI 1,vt 9 0] (cD 10 (sr [uN (-1) 0 3] .ret) sK)) qZC))⟩
abbrev qZ5:=bO 21 [uI 0,uI 7,uV 181 22,uH 7 24]
abbrev qZ6:=bO 26 [uR 4 0 5,uI 7,uV 209 27,uH 7 29]
abbrev qaD:=bO 32 [uI 0,uD 2 (uC 34 (uR 4 0 5)),uD 4 (uH 37 2),uD 10 (uC 7 vD),uD 1 (uC 33 (uQ 184)),uD 3 (uC 35 (uQ 211)),uD 5 (uC 37 (v8 243 34 36 37)),uD 6 (uH 32 38),uD 7 (uC 38 (uj 32 0)),uD 8 (uj 32 1),uD 9 (uj 32 2),uX 8 0 5 39,uH 9 40,uI 41]
abbrev qaE:=bO 43 [uR 4 0 5,uQ 211,uC 11 vD,uX 12 0 5 45]
abbrev qaF:=bO 46 [uI 11,uR 12 0 5,uI 2,v8 244 47 48 49,uH 46 50,uC 50 (uj 46 0),uj 46 1,uj 46 2,uC 12 vD,uX 13 0 5 51,uI 52,uI 53]
abbrev qaG:=bO 53 [uR 13 0 5,uR 8 0 5,uV 213 54,uc,uP,uF 58 (uI 14),uF 58 (uI 9),uF 58 (ut 59),uk 58,uP,uF 63 (uI 15),uF 63 (uI 10),uF 63 (ut 64),uk 63]
abbrev qaH:=bO 67 [uI 11,uI 0,uQ 184,uV 187 68,uc]
abbrev qaI:=bO 72 [uR 12 0 5,uR 4 0 5,uQ 211,uV 213 73,uc]
abbrev qaJ:=bO 77 [uI 11,uI 16,uV 225 78,uH 16 80]
abbrev qaK:=bO 80 [uR 12 0 5,uI 16,uV 240 81,uH 16 83]
abbrev qZ7:=bO 83 [uI 16,vt 84 0,uP,uF 86 (uR 13 0 5),uF 86 (uR 8 0 5),uF 86 (uV 213 87),uF 86 uc,uk 86,uP,uF 92 (uI 14),uF 92 (uI 9),uF 92 (ut 93),uk 92,uP,uF 97 (uI 15),uF 97 (uI 10),uF 97 (ut 98),uk 97]
abbrev qZ8:=bO 101 [uR 13 0 5,uI 17,uV 240 102,uH 17 104]
abbrev qZ9:=bO 104 [uR 13 0 5,uI 18,uV 245 105,uH 18 107]
abbrev qaA:=bO 113 [uI 0,uD 2 (uC 115 (uR 4 0 5)),uD 4 (uH 118 2),uD 10 (uC 18 vD),uD 1 (uC 114 (uQ 184)),uD 3 (uC 116 (uQ 211)),uD 5 (uC 118 (v8 244 115 117 118)),uD 6 (uH 113 119),uD 7 (uC 119 (uj 113 0)),uD 8 (uj 113 1),uD 9 (uj 113 2),uX 19 0 5 120,uH 20 121,uI 122]
abbrev qaB:=bO 122 [uR 19 0 5,uR 8 0 5,uV 213 123,uc,uP,uF 127 (uI 20),uF 127 (uI 9),uF 127 (ut 128),uk 127,uP,uF 132 (uI 21),uF 132 (uI 10),uF 132 (ut 133),uk 132]
abbrev qaC:=bO 136 [uR 13 0 5,uI 18,uV 245 137,uH 18 139]
abbrev qZY:qP:=.seq (sB 139 [uI 18,vt 140 0] (cD 141 (sr [uU 0 5] .ret) sK)) (.seq (sB 141 [uI 18,uI 17,ut 142] (cD 144 (sr [uU 0 5] .ret) sK)) (sr [uz 0 5] .ret))
abbrev qZZ:qP:=.seq (sB 109 [uI 18,uI 17,ut 110] (cD 112 (sr [uU 0 5] .ret) sK)) (sr qaA (.seq (sr qaB (cD 136 (sr [uU 0 5] .ret) sK)) (sr [uN 1 0 17] (sr qaC qZY))))
abbrev qZ0:=sr qZ8 (sr [uN 1 0 17] (sr qZ9 (.seq (sB 107 [uI 18,vt 108 0] (cD 109 (sr [uU 0 5] .ret) sK)) qZZ)))
abbrev qZ1:=sr [uN 1 0 15] (sr qaJ (sr qaK (.seq (sr qZ7 (cD 101 (sr [uU 0 5] .ret) sK)) (sr [uN 1 0 16] qZ0))))
abbrev qZ2:qP:=.seq (sr qaG (cD 67 (sr [uU 0 5] .ret) sK)) (.seq (sr qaH (cD 72 (sr [uU 0 5] .ret) sK)) (.seq (sr qaI (cD 77 (sr [uU 0 5] .ret) sK)) qZ1))
abbrev qZ3:qP:=.seq (sB 29 [uI 7,vt 30 0] (cD 31 (sr [uz 0 5] .ret) sK)) (sr qaD (sB 41 [uI 0,uQ 184,uH 11 43] (sr qaE (sr qaF qZ2))))
abbrev qZ4:=sr [uN 1048576 0 6] (sr qZ5 (.seq (sB 24 [uI 7,vt 25 0] (cD 26 (sr [uz 0 5] .ret) sK)) (sr qZ6 qZ3)))
def F38:qK:=⟨3,145,[.t 6],sB 3 [ud 5 1,uC 5 uU] qZ4⟩
def tabm:List (Nat×qK):=[(338,F338),(1173,qDT),(852,F852),(501,F501),(182,K7),(181,F181),(340,kK),(488,kN),(1371,KX),(1384,Ka),(1372,KY),(1489,Kx),(1385,Kb),(1494,Ky),(1386,Kc),(1096,Ue),(710,F710),(318,kI),(598,kq),(742,F742),(1395,Kh),(1499,K0),(1500,K1),(1396,Ki),(1110,Ug),(1111,Uh),(744,F744),(147,Ku),(1419,XB),(1178,Uq),(858,XF),(504,kO),(185,XC),(184,K8),(774,F774),(397,F397),(1179,qDU),(859,F859),(554,kV),(796,F796),(1050,UZ),(1051,Ua),(1487,Kw),(1387,Kd),(1388,Ke),(1375,KZ),(1495,Kz),(1389,Kf),(1390,Kg),(1097,Uf),(711,F711),(1098,qDS),(712,F712),(555,kW),(714,F714),(713,F713),(319,kJ),(860,F860),(505,kP),(376,kL),(1501,K3),(1502,K4),(1398,Kj),(1115,Ui),(751,F751),(86,F86),(1422,Ko),(1184,qDW),(870,F870),(508,F508),(188,K9),(187,F187),(402,kM),(401,F401),(1373,qD2),(1085,Ud),(798,F798),(90,F90),(885,F885),(524,kQ),(225,kD),(92,F92),(856,F856),(1177,Uo),(1125,Uk),(1126,Ul),(762,F762),(1456,Kq),(1305,KH),(566,kY),(1400,Kk),(1118,Uj),(978,F978),(1485,qD5),(948,F948),(569,kZ),(1174,Um),(1280,Uz),(1282,U4),(1418,Kl),(1176,Un),(1277,Uw),(969,F969),(971,F971),(855,F855),(857,F857),(970,F970),(924,XG),(1278,Ux),(1279,Uy),(1281,U0),(1283,U5),(972,F972),(1284,U6),(973,F973),(600,F600),(556,kX),(863,F863),(864,F864),(866,F866),(1256,Uu),(1482,qD3),(1356,qDZ),(1254,Ut),(1368,KW),(1455,Kp),(1358,KO),(1357,KN),(1483,qD4),(1359,qD0),(1360,KP),(1484,Kv),(1362,KR),(1361,KQ),(1363,qD1),(1365,KT),(1364,KS),(1366,KU),(1367,KV),(1068,Uc),(867,F867),(1070,qDR),(1181,qDV),(868,F868),(1509,K5),(1420,Km),(1285,U7),(1421,Kn),(1183,Ur),(1286,U8),(1287,U9),(1288,XA),(1257,Uv),(1295,KG),(1521,K6),(1457,Kr),(1458,Ks),(1289,KA),(1459,Kt),(1290,KB),(1291,KC),(1292,KD),(1293,KE),(975,F975),(1294,KF),(976,F976),(602,F602),(1242,qDX),(922,F922),(542,F542),(543,F543),(209,kA),(950,F950),(951,F951),(1351,KI),(1352,KJ),(1353,KL),(1354,KM),(1058,Ub),(923,F923),(545,kR),(547,XE),(1243,Us),(925,XH),(546,kS),(926,XI),(548,kT),(211,XD),(550,kU),(1244,qDY),(927,F927),(549,F549),(928,F928),(551,F551),(213,kC),(968,F968),(595,ke),(596,kj),(240,kE),(599,kw),(243,kF),(974,F974),(601,F601),(244,kG),(977,F977),(603,F603),(604,F604),(245,kH),(38,F38)]
def Gm(g:Nat):Option AFn:=Q8 g tabm
theorem gk(g:Nat)(F:qK)(h:Gm g=some (.fn F):=by kernel_rfl):Gm g=some (.fn F):=h
theorem pI{Γ:Nat->Option AFn}{g:Nat}(F:qK){as:List AV}{v:AV}(ht:AV.trees as=true)(hv:v.tree=true)(hR:R ⟨Γ,0,[],[]⟩ [.code F.body] ⟨qN 0 as,[],[]⟩ (Xg F.res v))(hg:Γ g=some (.fn F):=by kernel_rfl)(hok:F.body.ok=true:=by kernel_rfl)(hn:as.length=F.np:=by rfl):Pure Γ g as v:=Pure.intro [] [] hg hok hn ht hv hR
theorem fI{Γ:Nat->Option AFn}{g:Nat}(F:qK){as:List AV}{t:AV}(ht:AV.trees as=true)(hp:t.pl=true)(hR:R ⟨Γ,0,[],[]⟩ [.code F.body] ⟨qN 0 as,[],[]⟩ (Y8 F.res t))(hg:Γ g=some (.fn F):=by kernel_rfl)(hok:F.body.ok=true:=by kernel_rfl)(hn:as.length=F.np:=by rfl):Fresh Γ g as t:=Fresh.intro [] [] hg hok hn ht hp hR
theorem sI{Γ:Nat->Option AFn}{g:Nat}{vs:List AV}{h:List qA}(F:qK){K:AV->List qA->Prop}(hR:R ⟨Γ,h.length,[],[]⟩ [.code F.body] ⟨qN 0 vs,[],h⟩ (WU F.res K))(hg:Γ g=some (.fn F):=by kernel_rfl)(hok:F.body.ok=true:=by kernel_rfl)(hn:vs.length=F.np:=by rfl):SCall Γ g vs h K:=SCall.run [] [] hg hok hn hR
theorem pJ{Γ:Nat->Option AFn}{g:Nat}(F:qK){as:List AV}{v:AV}(hR:R ⟨Γ,0,[],[]⟩ [.code F.body] ⟨qN 0 as,[],[]⟩ (Xg F.res v))(hg:Γ g=some (.fn F):=by kernel_rfl)(hok:F.body.ok=true:=by kernel_rfl)(hn:as.length=F.np:=by rfl)(ht:AV.trees as=true:=by simp[AV.trees,AV.tree,go_sem])(hv:v.tree=true:=by rfl):Pure Γ g as v:=Pure.intro [] [] hg hok hn ht hv hR
theorem c338(xs:List Int)(hx:xs.length<=140737488355328)(left:Nat)(hl:left<=1048576):Pure Gm 338 [lQ xs,iI left] (iI (jp xs.length left)):=
 UG (gk _ F338) shI.tree xs left hl hx
theorem qkL(xs:List qI)(hx:xs.length<=140737488355328)(left:Nat)(hl:left<=1048576):Pure Gm 1173 [.lst 2 (xs.map qI.enc) false,iI left] (iI (jp xs.length left)):=
 UG (gk _ qDT) qI.isSh.tree xs left hl hx
theorem c852(x:qB)(hb:x.bd)(left:Nat)(hl:left<=1048576):Pure Gm 852 [x.enc,iI left] (iI (jp x.sz left)):=by
 refine pI F852 (by simp[AV.trees,AV.tree,qB.tr]) rfl ?_;simp only[F852,qN,go_sem];refine qX rfl ?_;simp only[go_sem];unfold qB.bd at hb;refine qL (c338 _ hb.1 _ (by omega)) ?_;simp only[go_sem];apply qT<;>intro hc<;>simp only[hc,go_sem]
 ·have hq:=odT hc;rw[wE]at hq;exact qM rfl (by rw[JV (by unfold qB.sz;omega)])
 have hq:=odF hc;rw[wE]at hq;rw[wF (by omega)];clear hc;refine qL (qkL _ hb.2 _ (by omega)) ?_;simp only[go_sem];apply qT<;>intro hc<;>simp only[hc,go_sem]
 ·have hq:=odT hc;rw[wE]at hq;exact qM rfl (by rw[JV (by unfold qB.sz;omega)])
 have hq:=odF hc;rw[wE]at hq;rw[wF (by omega)];clear hc;exact qM rfl (by rw[wF (by unfold qB.sz;omega)];unfold qB.sz;first | rfl | (congr 2;omega))
theorem c501(xs:List qB)(hx:xs.length<=140737488355328/\(∀y∈xs,qB.bd y))(left:Nat)(hl:left<=1048576):Pure Gm 501 [.lst 5 (xs.map qB.enc) false,iI left] (iI (jp (xs.length+qJ qB.sz xs) left)):=
 qDB qB.isSh (gk _ F501) qB.sz xs (λx hm lf hlf=>c852 x (hx.2 x hm) lf hlf) left hl hx.1
theorem c182(x:qD)(hb:x.bd)(left:Nat)(hl:left<=1048576):Pure Gm 182 [x.enc,iI left] (iI (jp x.sz left)):=by
 refine pI K7 (by simp[AV.trees,AV.tree,qD.tr]) rfl ?_;simp only[K7,qN,go_sem];refine qX rfl ?_;simp only[go_sem];unfold qD.bd at hb;refine qL (c501 _ ⟨hb.1,hb.2⟩ _ (by omega)) ?_;simp only[go_sem];apply qT<;>intro hc<;>simp only[hc,go_sem]
 ·have hq:=odT hc;rw[wE]at hq;exact qM rfl (by rw[JV (by unfold qD.sz;omega)])
 have hq:=odF hc;rw[wE]at hq;rw[wF (by omega)];clear hc;exact qM rfl (by rw[wF (by unfold qD.sz;omega)];unfold qD.sz;first | rfl | (congr 2;omega))
theorem c181(xs:List qD)(hx:xs.length<=140737488355328/\(∀y∈xs,qD.bd y))(left:Nat)(hl:left<=1048576):Pure Gm 181 [.lst 1 (xs.map qD.enc) false,iI left] (iI (jp (xs.length+qJ qD.sz xs) left)):=
 qDB qD.isSh (gk _ F181) qD.sz xs (λx hm lf hlf=>c182 x (hx.2 x hm) lf hlf) left hl hx.1
theorem c147(xs:List Int)(hl:xs.length<=1048576):Pure Gm 147 [lQ xs] (lQ xs):=qsR (gk _ Ku) xs hl
theorem qlK(x:qI):Pure Gm 1419 [x.enc] x.enc:=by
 refine pI XB (by simp[AV.trees,qI.tr]) qI.tr ?_;simp only[XB,qN,go_sem];refine qX rfl ?_;simp only[go_sem];refine lsA ?_;simp only[go_sem];exact qM qI.tr rfl
theorem qkO(xs:List qI)(hl:xs.length<=1048576):Pure Gm 1178 [.lst 2 (xs.map qI.enc) false] (.lst 2 (xs.map qI.enc) false):=
 W1 qI.isSh rfl rfl (by simp) (gk _ Uq) xs (λx hm=>qlK x) (by omega)
theorem c858(x:qB)(hz:x.sz<=1048576):Pure Gm 858 [x.enc] x.enc:=by
 refine pI XF (by simp[AV.trees,qB.tr]) qB.tr ?_;simp only[XF,qN,go_sem];refine qX rfl ?_;simp only[go_sem];unfold qB.sz at hz;refine qL (c147 _ (by omega)) ?_;simp only[go_sem];refine qL (qkO _ (by omega)) ?_;simp only[go_sem];refine lsA ?_;simp only[go_sem];exact qM qB.tr rfl
theorem c504(xs:List qB)(hl:xs.length+qJ qB.sz xs<=1048576):Pure Gm 504 [.lst 5 (xs.map qB.enc) false] (.lst 5 (xs.map qB.enc) false):=
 W1 qB.isSh rfl rfl (by simp) (gk _ kO) xs (λx hm=>c858 x (by have:=z5 (f:=qB.sz) hm;omega)) (by omega)
theorem c185(x:qD)(hz:x.sz<=1048576):Pure Gm 185 [x.enc] x.enc:=by
 refine pI XC (by simp[AV.trees,qD.tr]) qD.tr ?_;simp only[XC,qN,go_sem];refine qX rfl ?_;simp only[go_sem];unfold qD.sz at hz;refine qL (c504 _ (by omega)) ?_;simp only[go_sem];exact qM qD.tr rfl
theorem c184(xs:List qD)(hl:xs.length+qJ qD.sz xs<=1048576):Pure Gm 184 [.lst 1 (xs.map qD.enc) false] (.lst 1 (xs.map qD.enc) false):=
 W1 qD.isSh rfl rfl (by simp) (gk _ K8) xs (λx hm=>c185 x (by have:=z5 (f:=qD.sz) hm;omega)) (by omega)
theorem c86(xs:List Int)(hl:xs.length<=1073741824):Pure Gm 86 [lQ xs,lQ xs] (.bool true):=qnA (gk _ F86) xs hl
theorem qlL(x:qI):Pure Gm 1422 [x.enc,x.enc] (.bool true):=by
 refine pI Ko (by simp[AV.trees,qI.tr]) rfl ?_;simp only[Ko,qN,go_sem];refine qX rfl ?_;simp only[go_sem];refine qX rfl ?_;simp only[go_sem];exact qM rfl rfl
theorem qkQ(xs:List qI)(hl:xs.length<=1073741824):Pure Gm 1184 [.lst 2 (xs.map qI.enc) false,.lst 2 (xs.map qI.enc) false] (.bool true):=
 WS qI.isSh (gk _ qDW) xs (λx hm=>qlL x) (by omega)
theorem c870(x:qB)(hz:x.sz<=1073741824):Pure Gm 870 [x.enc,x.enc] (.bool true):=by
 refine pI F870 (by simp[AV.trees,qB.tr]) rfl ?_;simp only[F870,qN,go_sem];refine qX rfl ?_;simp only[go_sem];refine qX rfl ?_;simp only[go_sem];unfold qB.sz at hz;refine qL (c86 _ (by omega)) ?_;simp only[go_sem];refine qL (qkQ _ (by omega)) ?_;simp only[go_sem];exact qM rfl rfl
theorem c508(xs:List qB)(hl:xs.length+qJ qB.sz xs<=1073741824):Pure Gm 508 [.lst 5 (xs.map qB.enc) false,.lst 5 (xs.map qB.enc) false] (.bool true):=
 WS qB.isSh (gk _ F508) xs (λx hm=>c870 x (by have:=z5 (f:=qB.sz) hm;omega)) (by omega)
theorem c188(x:qD)(hz:x.sz<=1073741824):Pure Gm 188 [x.enc,x.enc] (.bool true):=by
 refine pI K9 (by simp[AV.trees,qD.tr]) rfl ?_;simp only[K9,qN,go_sem];refine qX rfl ?_;simp only[go_sem];refine qX rfl ?_;simp only[go_sem];unfold qD.sz at hz;refine qL (c508 _ (by omega)) ?_;simp only[go_sem];exact qM rfl rfl
theorem c187(xs:List qD)(hl:xs.length+qJ qD.sz xs<=1073741824):Pure Gm 187 [.lst 1 (xs.map qD.enc) false,.lst 1 (xs.map qD.enc) false] (.bool true):=
 WS qD.isSh (gk _ F187) xs (λx hm=>c188 x (by have:=z5 (f:=qD.sz) hm;omega)) (by omega)
def inI(n lo hi:Int):Bool:=decide (lo<=n)&&decide (n<=hi)
def jr(k f:Int):Int:=
 if k=9 then(if inI f 0 3 then f+1 else 0)else if f≠0 then 0 else
 if k=1\/k=5\/k=6\/k=12 then 1 else if k=8\/k=10\/k=11 then 2 else if k=2\/k=3\/k=4\/k=7 then 3 else 0
def jQ(k:Int):Bool:=decide (k=2) || decide (k=3) || decide (k=4) || decide (k=7) || decide (k=8) || decide (k=9) || decide (k=10) || decide (k=11) || decide (k=12)
def JU(k:Int):Bool:=inI k 1 12
def zu(k l:Int):Bool:=if jQ k then inI l 0 8 else JU k&&decide (l=0)
def jv(n:Int):Bool:=inI n 0 23
def fieldsOf(x:qB):Int:=if x.K=9 then(x.P.length:Int)-1 else 0
def z6(x:qB):Bool:=
 if x.K=6 then decide ((x.D.length:Int)=0)&&inI x.V (-2147483648) 2147483647
 else if x.K=7 then decide ((x.D.length:Int)=0)&&inI x.V 1 6
 else if x.K=8 then decide ((x.D.length:Int)=1)&&inI x.V 1 6&&x.D.all λd=>inI d (-2147483648) 2147483647
 else if x.K=9 then decide ((x.D.length:Int)=0)&&inI x.V 0 3
 else if x.K=12 then decide ((x.D.length:Int)=0)&&jv x.V
 else if x.K=10 then decide (x.V=0)&&inI x.D.length 1 4&&x.D.all jv
 else if x.K=11 then decide (x.V=0)&&decide ((x.D.length:Int)=2)&&x.D.all jv
 else decide (x.V=0)&&decide ((x.D.length:Int)=0)
def qk(x:qB):Bool:=decide (0<jr x.K (fieldsOf x))&&decide ((x.P.length:Int)=jr x.K (fieldsOf x))&&zu x.K x.L&&z6 x
def jX:List qB->Nat->Bool
 |[],_=>true
 | x::xs,i=>qk x&&(decide (x.K=1)==decide (i=0))&&jX xs (i+1)
def wL(xs:List qB):Bool:=inI xs.length 1 600&&jX xs 0
def jA(xs:List qB)(a:Int):Nat:=match xs[a.toNat]? with
 | some x=>x.P.length
 | none=>0
def wU(xs:List qB)(p:qI):Bool:=inI p.N 0 ((xs.length:Int)-1)&&inI p.S 0 ((jA xs p.N:Int)-1)
theorem JQ{α:Type}{xs:List α}{i:Nat}(h:i<xs.length):xs.drop i=xs[i]::xs.drop (i+1):=by simp
theorem wO{n lo hi:Int}:Pure Gm 340 [iI n,iI lo,iI hi] (.bool (inI n lo hi)):=by
 refine pJ kK ?_;simp only[kK,qN,go_sem]
 repeat' (first | (refine qX rfl ?_;simp only[go_sem]) | (first | (apply zH<;>intro hc<;>simp only[hc,go_sem]) | (apply qT<;>intro hc<;>simp only[hc,go_sem])) | refine qM rfl ?_)
 all_goals (simp_all[inI]<;>omega)
theorem qAM{k:Int}:Pure Gm 1372 [iI k] (.bool (jQ k)):=by
 refine pJ KY ?_;simp only[KY,qN,go_sem]
 repeat' (first | (refine qX rfl ?_;simp only[go_sem]) | (first | (apply zH<;>intro hc<;>simp only[hc,go_sem]) | (apply qT<;>intro hc<;>simp only[hc,go_sem])) | refine qM rfl ?_)
 all_goals (simp_all[jQ])
theorem qlM{k:Int}:Pure Gm 1489 [iI k] (.bool (JU k)):=by
 refine pJ Kx ?_;simp only[Kx,qN,go_sem]
 repeat' (first | (refine qX rfl ?_;simp only[go_sem]) | (first | (apply zH<;>intro hc<;>simp only[hc,go_sem]) | (apply qT<;>intro hc<;>simp only[hc,go_sem])) | (refine qL (wO) ?_;simp only[go_sem]) | refine qM rfl ?_)
 all_goals (simp_all[JU])
theorem qAO{k l:Int}:Pure Gm 1385 [iI k,iI l] (.bool (zu k l)):=by
 refine pJ Kb ?_;simp only[Kb,qN,go_sem]
 repeat' (first | (refine qX rfl ?_;simp only[go_sem]) | (first | (apply zH<;>intro hc<;>simp only[hc,go_sem]) | (apply qT<;>intro hc<;>simp only[hc,go_sem])) | (refine qL (wO) ?_;simp only[go_sem]) | (refine qL (qAM) ?_;simp only[go_sem]) | (refine qL (qlM) ?_;simp only[go_sem]) | refine qM rfl ?_)
 all_goals (simp_all[zu])
theorem qE0{k:Int}:Pure Gm 1494 [iI k] (.bool (jv k)):=by
 refine pJ Ky ?_;simp only[Ky,qN,go_sem]
 repeat' (first | (refine qX rfl ?_;simp only[go_sem]) | (first | (apply zH<;>intro hc<;>simp only[hc,go_sem]) | (apply qT<;>intro hc<;>simp only[hc,go_sem])) | (refine qL (wO) ?_;simp only[go_sem]) | refine qM rfl ?_)
 all_goals (simp_all[jv])
theorem qlC{k f:Int}:Pure Gm 1371 [iI k,iI f] (iI (jr k f)):=by
 refine pJ KX ?_;simp only[KX,qN,go_sem]
 repeat' (first | (refine qX rfl ?_;simp only[go_sem]) | (first | (apply zH<;>intro hc<;>simp only[hc,go_sem]) | (apply qT<;>intro hc<;>simp only[hc,go_sem])) | (refine qL (wO) ?_;simp only[go_sem]) | refine qM rfl ?_)
 all_goals ((try rw[jc (by simp_all[inI];omega) (by simp_all[inI];omega)]);simp_all[jr]<;>omega)
theorem qlD{x:qB}(hx:x.P.length<=140737488355328):Pure Gm 1384 [.ept x.enc 0] (iI (fieldsOf x)):=by
 refine pJ Ka ?_;simp only[Ka,qN,go_sem]
 repeat' (first | (refine qX rfl ?_;simp only[go_sem]) | (first | (apply zH<;>intro hc<;>simp only[hc,go_sem]) | (apply qT<;>intro hc<;>simp only[hc,go_sem])) | refine qM rfl ?_)
 all_goals ((try rw[wsA]);simp_all[fieldsOf]<;>omega)
theorem qlE{x:qB}(hx:x.D.length<=1048576):Pure Gm 1386 [.ept x.enc 0] (.bool (z6 x)):=by
 refine pJ Kc ?_;simp only[Kc,qN,go_sem];have one:(x.D.length:Int)=1->∃d,x.D=[d]:=λh=>List.length_eq_one_iff.1 (by omega);have z0:(x.D.length:Int)=1->(x.D.map qQ)[0]?=some (iI (x.D.headD 0)):=λh=>by
  obtain⟨d,hd⟩:=one h;rw[hd];rfl
 have z1:(x.D.length:Int)=1->(x.D.all λd=>inI d (-2147483648) 2147483647)=inI (x.D.headD 0) (-2147483648) 2147483647:=λh=>by
  obtain⟨d,hd⟩:=one h;rw[hd];simp
 repeat' (first
  | (first | (apply zH<;>intro hc<;>simp only[hc,go_sem]) | (apply qT<;>intro hc<;>simp only[hc,go_sem]))
  | (refine qL (wO) ?_;simp only[go_sem])
  | (refine qL (qE0) ?_;simp only[go_sem])
  | refine qM rfl ?_
  | (rw[z0 (odT (by assumption))];simp only[oMs];simp only[go_sem])
  | (refine Sem.loop (λi:Nat=>i<=x.D.length/\z6 x=(x.D.drop i).all jv) (λi=>(⟨[(0,.ept x.enc 0),(3,iI (i:Nat))],[],[]⟩:VSt)) (λi=>x.D.length-i) 0 (by kernel_rfl) ⟨nZl _, ?_⟩ csA ?_))
 all_goals try (simp_all[z6];done)
 all_goals
  clear z0 z1 one;rintro i ⟨hi,hI⟩;simp only[go_sem];apply qT<;>intro hc<;>simp only[hc,go_sem]
  ·have hlt:i<x.D.length:=by have:=odT hc;omega
   simp only[gMp,gEg hlt,oMs,go_sem];simp only[qQ];simp only[go_sem];refine qL qE0 ?_;simp only[go_sem];apply qT<;>intro hc<;>simp only[hc,go_sem]
   ·refine qM rfl ?_;have hd:jv x.D[i]=false:=by simpa using hc
    rw[hI,JQ hlt,lAc,hd,Bool.false_and]
   ·simp only[wuA (n:=i)];refine qa (i+1) ⟨by omega, ?_⟩ (by omega) csA;have hd:jv x.D[i]=true:=by simpa using hc
    rw[hI,JQ hlt,lAc,hd,Bool.true_and]
  ·have hge:i=x.D.length:=by have:=odF hc;omega
   subst hge;refine qM rfl ?_;rw[hI];simp
theorem qES{x:qB}(hz:x.sz<=1048576):Pure Gm 1096 [.ept x.enc 0] (.bool (qk x)):=by
 refine pJ Ue ?_;simp only[Ue,qN,go_sem]
 repeat' (first | (refine qX rfl ?_;simp only[go_sem]) | (first | (apply zH<;>intro hc<;>simp only[hc,go_sem]) | (apply qT<;>intro hc<;>simp only[hc,go_sem])) | (refine qL (qlD (by unfold qB.sz at hz;omega)) ?_;simp only[go_sem]) | (refine qL (qlC) ?_;simp only[go_sem]) | (refine qL (qAO) ?_;simp only[go_sem]) | (refine qL (qlE (by unfold qB.sz at hz;omega)) ?_;simp only[go_sem]) | refine qM rfl ?_)
 all_goals (simp_all[qk]<;>omega)
theorem c710{xs:List qB}(hl:xs.length+qJ qB.sz xs<=1048576):Pure Gm 710 [.lst 5 (xs.map qB.enc) false] (.bool (wL xs)):=by
 refine pI F710 (by simp[AV.trees,AV.tree,qb qB.isSh.tree]) rfl ?_;simp only[F710,qN,go_sem];refine qL wO ?_;simp only[go_sem];apply qT<;>intro hc<;>simp only[hc,go_sem]
 ·refine qM rfl ?_;simp_all[wL]
 refine Sem.loop (λi:Nat=>i<=xs.length/\wL xs=jX (xs.drop i) i) (λi=>(⟨[(0,.lst 5 (xs.map qB.enc) false),(3,iI (i:Nat))],[],[]⟩:VSt)) (λi=>xs.length-i) 0 (by kernel_rfl) ⟨nZl _,by simp_all[wL]⟩ csA ?_;rintro i ⟨hi,hI⟩;simp only[go_sem];apply qT<;>intro hc<;>simp only[hc,go_sem]
 ·have hlt:i<xs.length:=by have:=odT hc;omega
  simp only[gMp,gEg hlt,oMs,go_sem];have hs:=z5 (f:=qB.sz) (gMm hlt);refine qL (qES (by omega)) ?_;simp only[go_sem];apply zH<;>intro hc<;>simp only[hc,go_sem]
  ·simp only[gMp,gEg hlt,oMs,go_sem];apply qT<;>intro hc<;>simp only[hc,go_sem]
   ·refine qM rfl ?_;rw[hI,JQ hlt];simp_all[jX]
   ·simp only[wuA (n:=i)];refine qa (i+1) ⟨by omega, ?_⟩ (by omega) csA;rw[hI,JQ hlt];simp_all[jX]
  ·refine qM rfl ?_;rw[hI,JQ hlt];simp_all[jX]
 ·obtain rfl:i=xs.length:=by have:=odF hc;omega
  refine qM rfl ?_;rw[hI];simp[jX]
theorem Js{n lo hi:Int}:inI n lo hi=true↔lo<=n/\n<=hi:=by simp[inI]
def Ji(xs:List qB)(q:qI):Option qI:=match xs[q.N.toNat]? with
 | some y=>y.P[q.S.toNat]?
 | none=>none
def wX(xs:List qB)(me q:qI):Bool:= !(decide (q=me))&&wU xs q&&decide (Ji xs q=some me)
def wY(xs:List qB)(i:Nat):List qI->Nat->Bool
 |[],_=>true
 | q::qs,k=>wX xs ⟨i,k⟩ q&&wY xs i qs (k+1)
def w5(xs:List qB):List qB->Nat->Bool
 |[],_=>true
 | x::r,i=>wY xs i x.P 0&&w5 xs r (i+1)
def zM(n:qD):Bool:=wL n.G&&w5 n.G n.G 0
def jG(xs:List qD):Bool:=decide (xs.length<=24)&&xs.all zM
theorem c488{xs:List qB}{p:qI}(hl:xs.length+qJ qB.sz xs<=1048576):Pure Gm 488 [.lst 5 (xs.map qB.enc) false,p.enc] (.bool (wU xs p)):=by
 refine pI kN (by simp[AV.trees,AV.tree,qb qB.isSh.tree,qI.tr]) rfl ?_;simp only[kN,qN,go_sem];refine qX rfl ?_;simp only[go_sem];rw[wsA];refine qL wO ?_;simp only[go_sem];apply zH<;>intro hc<;>simp only[hc,go_sem]
 ·have h:=Js.1 hc;have hlt:p.N.toNat<xs.length:=by omega
  rw[VE h.1];simp only[gMp,gEg hlt,oMs,go_sem];have hs:xs[p.N.toNat].D.length+xs[p.N.toNat].P.length<=qJ qB.sz xs:=z5 (f:=qB.sz) (gMm hlt);rw[wsA];refine qL wO ?_;simp only[go_sem];refine qM rfl ?_;simp[wU,hc,jA,gEg hlt]
 ·refine qM rfl ?_;simp_all[wU]
theorem c318{n:qD}(hz:n.sz<=1048576):Pure Gm 318 [.ept n.enc 0] (.bool (zM n)):=by
 refine pJ kI ?_;simp only[kI,qN,go_sem];have hz':n.G.length+qJ qB.sz n.G<=1048576:=hz;refine qL (c710 hz') ?_;simp only[go_sem];apply qT<;>intro hc<;>simp only[hc,go_sem]
 ·refine qM rfl ?_;simp_all[zM]
 refine Sem.loop (λi:Nat=>i<=n.G.length/\zM n=w5 n.G (n.G.drop i) i) (λi=>(⟨[(0,.ept n.enc 0),(3,iI (i:Nat))],[],[]⟩:VSt)) (λi=>n.G.length-i) 0 (by kernel_rfl) ⟨nZl _,by simp_all[zM]⟩ csA ?_;rintro i ⟨hi,hI⟩;simp only[go_sem];apply qT<;>intro hc<;>simp only[hc,go_sem]
 ·have hlt:i<n.G.length:=by have:=odT hc;omega
  simp only[gMp,gEg hlt,oMs,go_sem];have hs:n.G[i].D.length+n.G[i].P.length<=qJ qB.sz n.G:=z5 (f:=qB.sz) (gMm hlt);refine Sem.loop (λk:Nat=>k<=n.G[i].P.length/\zM n=(wY n.G i (n.G[i].P.drop k) k&&w5 n.G (n.G.drop (i+1)) (i+1))) (λk=>(⟨[(0,.ept n.enc 0),(3,iI (i:Nat)),(4,.ept n.G[i].enc 0),(5,iI (k:Nat))],[],[]⟩:VSt)) (λk=>n.G[i].P.length-k) 0 (by kernel_rfl) ⟨nZl _,by rw[hI,JQ hlt];rfl⟩ csA ?_;rintro k ⟨hk,hK⟩;simp only[go_sem];apply qT<;>intro hc<;>simp only[hc,go_sem]
  ·have hkl:k<n.G[i].P.length:=by have:=odT hc;omega
   rw[show AV.agg [AV.int IntKind.i64 (i:Nat),AV.int IntKind.i64 (k:Nat)]=qI.enc ⟨i,k⟩from rfl];refine lsA ?_;simp only[gMp,gEg hkl,oMs,go_sem];refine lsA ?_;simp only[go_sem];have stop:wX n.G ⟨i,k⟩ n.G[i].P[k]=false->zM n=false:=λh=>by rw[hK,JQ hkl];simp[wY,h]
   have go:wX n.G ⟨i,k⟩ n.G[i].P[k]=true->zM n=(wY n.G i (n.G[i].P.drop (k+1)) (k+1)&&w5 n.G (n.G.drop (i+1)) (i+1)):=λh=>by rw[hK,JQ hkl];simp[wY,h]
   apply zH<;>intro hc<;>simp only[hc,go_sem]
   ·have hne:¬n.G[i].P[k]=⟨i,k⟩:=odF hc;refine qL (c488 hz') ?_;simp only[go_sem];apply zH<;>intro hc<;>simp only[hc,go_sem]
    ·have hp:wU n.G n.G[i].P[k]=true:=by simpa using hc
     have hp2:=hp;simp only[wU,bAt,Js]at hp2;have hlt2:n.G[i].P[k].N.toNat<n.G.length:=by omega
     have hpl:jA n.G n.G[i].P[k].N=n.G[n.G[i].P[k].N.toNat].P.length:=by simp[jA,gEg hlt2]
     rw[hpl]at hp2;have hlt3:n.G[i].P[k].S.toNat<n.G[n.G[i].P[k].N.toNat].P.length:=by omega
     have hpe:Ji n.G n.G[i].P[k]=some n.G[n.G[i].P[k].N.toNat].P[n.G[i].P[k].S.toNat]:=by simp[Ji,gEg hlt2,gEg hlt3]
     rw[VE (by omega)];simp only[gMp,gEg hlt2,oMs,go_sem];rw[VE (by omega)];simp only[gMp,gEg hlt3,oMs,go_sem];apply qT<;>intro hc<;>simp only[hc,go_sem]
     ·refine qM rfl ?_;rw[stop (by simp[wX,hpe];intro _ _;simpa using hc)]
     ·simp only[wuA (n:=k)];refine qa (k+1) ⟨by omega, ?_⟩ (by omega) csA;exact go (by simp[wX,hpe,hp,hne];simpa using hc)
    ·refine qM rfl ?_;have hp:wU n.G n.G[i].P[k]=false:=by simpa using hc
     rw[stop (by simp[wX,hp])]
   ·refine qM rfl ?_;have he:n.G[i].P[k]=⟨i,k⟩:=odT hc;rw[stop (by simp[wX,he])]
  ·obtain rfl:k=n.G[i].P.length:=by have:=odF hc;omega
   simp only[wuA (n:=i)];refine qa (i+1) ⟨by omega, ?_⟩ (by omega) csA;rw[hK];simp[wY]
 ·obtain rfl:i=n.G.length:=by have:=odF hc;omega
  refine qM rfl ?_;rw[hI];simp[w5]
theorem c598{xs:List qD}(hl:xs.length+qJ qD.sz xs<=1048576):Pure Gm 598 [.lst 1 (xs.map qD.enc) false] (.bool (jG xs)):=by
 refine pI kq (by simp[AV.trees,AV.tree,qb qD.isSh.tree]) rfl ?_;simp only[kq,qN,go_sem];apply qT<;>intro hc<;>simp only[hc,go_sem]
 ·refine qM rfl ?_;have:=odT hc;have h2:¬xs.length<=24:=by omega
  simp[jG,h2]
 have h0:xs.length<=24:=by have:=odF hc;omega
 refine Sem.loop (λi:Nat=>i<=xs.length/\jG xs=(xs.drop i).all zM) (λi=>(⟨[(0,.lst 1 (xs.map qD.enc) false),(3,iI (i:Nat))],[],[]⟩:VSt)) (λi=>xs.length-i) 0 (by kernel_rfl) ⟨nZl _,by simp[jG,h0]⟩ csA ?_;rintro i ⟨hi,hI⟩;simp only[go_sem];apply qT<;>intro hc<;>simp only[hc,go_sem]
 ·have hlt:i<xs.length:=by have:=odT hc;omega
  simp only[gMp,gEg hlt,oMs,go_sem];have hs:=z5 (f:=qD.sz) (gMm hlt);refine qL (c318 (by omega)) ?_;simp only[go_sem];apply qT<;>intro hc<;>simp only[hc,go_sem]
  ·refine qM rfl ?_;rw[hI,JQ hlt,lAc];simp_all
  ·simp only[wuA (n:=i)];refine qa (i+1) ⟨by omega, ?_⟩ (by omega) csA;rw[hI,JQ hlt,lAc];simp_all
 ·obtain rfl:i=xs.length:=by have:=odF hc;omega
  refine qM rfl ?_;rw[hI];simp
def wG(ka la kb lb:Int):Bool:=zu ka la&&zu kb lb&& !decide (ka=1)&& !decide (kb=1)
def Xc(l k m:Int):Bool:=inI l 0 8&&zu k m&&(decide (k=6) || decide (k=12) || jQ k&&decide (l<m))
def WY(k:Int):Bool:=decide (k=3) || decide (k=7) || decide (k=8) || decide (k=10) || decide (k=11)
def zS(ka la kb lb:Int):Int:=
 if ka=5 then 4 else if ka=4 then(if kb=4/\la=lb then 2 else if Xc la kb lb then 3 else 0)
 else if ka=2 then(if kb=3/\la=lb then 1 else 0)
 else if ka=6 then(if kb=7\/kb=8 then 5 else if kb=11 then 6 else 0)
 else if ka=9 then(if kb=10 then 6 else 0)
 else if ka=12 then(if WY kb then 7 else 0)else 0
def zt(ka la kb lb:Int):Int:=if wG ka la kb lb then(if zS ka la kb lb≠0 then 1 else if zS kb lb ka la≠0 then 2 else 0)else 0
def jH(ka la kb lb:Int):Int:=if wG ka la kb lb then(if zS ka la kb lb≠0 then zS ka la kb lb else if zS kb lb ka la≠0 then zS kb lb ka la else 8)else 0
def zb(x y:qB):Int:=
 if x.K=9/\y.K=10/\(y.D.length:Int)<=x.V then 8 else if x.K=10/\y.K=9/\(x.D.length:Int)<=y.V then 8
 else jH x.K x.L y.K y.L
theorem qEW{ka la kb lb:Int}:Pure Gm 1395 [iI ka,iI la,iI kb,iI lb] (.bool (wG ka la kb lb)):=by
 refine pJ Kh ?_;simp only[Kh,qN,go_sem]
 repeat' (first | (refine qX rfl ?_;simp only[go_sem]) | (first | (apply zH<;>intro hc<;>simp only[hc,go_sem]) | (apply qT<;>intro hc<;>simp only[hc,go_sem])) | (refine qL (qAO) ?_;simp only[go_sem]) | refine qM rfl ?_)
 all_goals (simp_all[wG])
theorem qlN{l k m:Int}:Pure Gm 1499 [iI l,iI k,iI m] (.bool (Xc l k m)):=by
 refine pJ K0 ?_;simp only[K0,qN,go_sem]
 repeat' (first | (refine qX rfl ?_;simp only[go_sem]) | (first | (apply zH<;>intro hc<;>simp only[hc,go_sem]) | (apply qT<;>intro hc<;>simp only[hc,go_sem])) | (refine qL (wO) ?_;simp only[go_sem]) | (refine qL (qAO) ?_;simp only[go_sem]) | (refine qL (qAM) ?_;simp only[go_sem]) | refine qM rfl ?_)
 all_goals (simp_all[Xc])
theorem qlO{k:Int}:Pure Gm 1500 [iI k] (.bool (WY k)):=by
 refine pJ K1 ?_;simp only[K1,qN,go_sem]
 repeat' (first | (refine qX rfl ?_;simp only[go_sem]) | (first | (apply zH<;>intro hc<;>simp only[hc,go_sem]) | (apply qT<;>intro hc<;>simp only[hc,go_sem])) | refine qM rfl ?_)
 all_goals (simp_all[WY])
theorem qEX{ka la kb lb:Int}:Pure Gm 1396 [iI ka,iI la,iI kb,iI lb] (iI (zS ka la kb lb)):=by
 refine pJ Ki ?_;simp only[Ki,qN,go_sem]
 repeat' (first | (refine qX rfl ?_;simp only[go_sem]) | (first | (apply zH<;>intro hc<;>simp only[hc,go_sem]) | (apply qT<;>intro hc<;>simp only[hc,go_sem])) | (refine qL (qlN) ?_;simp only[go_sem]) | (refine qL (qlO) ?_;simp only[go_sem]) | refine qM rfl ?_)
 all_goals (simp_all[zS])
theorem qkH{ka la kb lb:Int}:Pure Gm 1110 [iI ka,iI la,iI kb,iI lb] (iI (zt ka la kb lb)):=by
 refine pJ Ug ?_;simp only[Ug,qN,go_sem]
 repeat' (first | (refine qX rfl ?_;simp only[go_sem]) | (first | (apply zH<;>intro hc<;>simp only[hc,go_sem]) | (apply qT<;>intro hc<;>simp only[hc,go_sem])) | (refine qL (qEW) ?_;simp only[go_sem]) | (refine qL (qEX) ?_;simp only[go_sem]) | refine qM rfl ?_)
 all_goals (simp_all[zt])
theorem qkI{ka la kb lb:Int}:Pure Gm 1111 [iI ka,iI la,iI kb,iI lb] (iI (jH ka la kb lb)):=by
 refine pJ Uh ?_;simp only[Uh,qN,go_sem]
 repeat' (first | (refine qX rfl ?_;simp only[go_sem]) | (first | (apply zH<;>intro hc<;>simp only[hc,go_sem]) | (apply qT<;>intro hc<;>simp only[hc,go_sem])) | (refine qL (qEW) ?_;simp only[go_sem]) | (refine qL (qEX) ?_;simp only[go_sem]) | refine qM rfl ?_)
 all_goals (simp_all[jH])
theorem c744{x y:qB}:Pure Gm 744 [.ept x.enc 0,.ept y.enc 0] (iI (zb x y)):=by
 refine pJ F744 ?_;simp only[F744,qN,go_sem]
 repeat' (first | (refine qX rfl ?_;simp only[go_sem]) | (first | (apply zH<;>intro hc<;>simp only[hc,go_sem]) | (apply qT<;>intro hc<;>simp only[hc,go_sem])) | (refine qL (qkI) ?_;simp only[go_sem]) | refine qM rfl ?_)
 all_goals (simp_all[zb]<;>(intro h;omega))
def fil(e:Env)(w:Nat)(el:List AV)(i:Nat)(v:Option AV)(r:List (Nat×Ao)):Option (List AV):=match v with
 | some v=>if v.cells.length=w/\i<el.length then jD e w (el.set i v) r else none
 | none=>none
section
variable {e:Env} {w i:Nat} {el:List AV} {v:AV} {x:Ao} {r:List (Nat×Ao)}
@[go_sem] theorem qt7:jD e w el []=some el:=nr (by unfold jD;rfl)
@[go_sem] theorem qt6:jD e w el ((i,x)::r)=fil e w el i (ev e x) r:=nr (by unfold jD;rfl)
@[go_sem] theorem qt8{el0:AV}(h:v.cells.length=w):fil e w [el0] 0 (some v) r=jD e w [v] r:=by
 show (if v.cells.length=w/\0<1 then _ else _)=_;rw[iP ⟨h,by omega⟩];rfl
@[go_sem] theorem rep0{v:AV}:List.replicate 0 v=[]:=nr rfl
@[go_sem] theorem rep1{v:AV}:List.replicate 1 v=[v]:=nr rfl
end
structure qF where
 A:Int
 B:Int
deriving DecidableEq
def qF.enc(x:qF):AV:=.agg [iI x.A,iI x.B]
theorem qF.isSh:Sh qF.enc 2 (some 2):=⟨λx=>by simp[qF.enc,AV.tree,AV.trees],λ_=>rfl,λ_=>rfl,by decide,λx=>by simp[qF.enc]⟩
section
variable {x:qF}
@[go_sem] theorem qF.tr:x.enc.tree=true:=qF.isSh.tree x
@[go_sem] theorem qF.ln:x.enc.cells.length=2:=nr rfl
@[go_sem] theorem qF.all:x.enc.part 0 (some 2)=some x.enc:=nr rfl
@[go_sem] theorem qF.cs:x.enc.cells=[iI x.A,iI x.B]:=nr rfl
@[go_sem] theorem qF.p0:x.enc.part 0 none=some (iI x.A):=nr rfl
@[go_sem] theorem qF.p1:x.enc.part 1 none=some (iI x.B):=nr rfl
@[go_sem] theorem qF.eqf{y:qF}:ja false [1,1] (some x.enc) (some y.enc)=some (.bool (decide (x=y))):=by
 obtain⟨a0,a1⟩:=x;obtain⟨b0,b1⟩:=y;simp only[ja,qF.enc,lMc,List.map_nil,dig,and_self,if_true,wZ,Jm,qF.mk.injEq]
 repeat' (split<;>simp_all)
end
def jR(x y:qB):Bool:=decide (zt x.K x.L y.K y.L=2)
def Jb(xs:List qB)(k:Nat):List qF:=match xs[k]? with
 | some x=>if x.K=0 then []else match x.P[0]? with
  | some p=>if p.S=0/\(k:Int)<p.N then [⟨k,p.N⟩]else []
  | none=>[]
 | none=>[]
def zI(xs:List qB):Nat->List qF
 | 0=>[]
 | i+1=>zI xs i++Jb xs (i+1)
theorem qqI(xs:List qB)(k:Nat):(Jb xs k).length<=1:=by
 unfold Jb;repeat' (split<;>try simp)
theorem Wr(xs:List qB):∀i,(zI xs i).length<=i
 | 0=>nLr _
 | i+1=>by have:=Wr xs i;have:=qqI xs (i+1);simp[zI];omega
theorem c742{n:qD}(hz:n.sz<=1048576)(hp:∀x∈n.G,x.K≠0->0<x.P.length):Pure Gm 742 [.ept n.enc 0] (.lst 2 ((zI n.G (n.G.length-1)).map qF.enc) false):=by
 refine pI F742 (by simp[AV.trees,AV.tree,go_sem]) (by simp[AV.tree,qb qF.isSh.tree]) ?_;simp only[F742,qN,go_sem];unfold qD.sz at hz;refine Sem.loop (λi:Nat=>i<=n.G.length-1) (λi=>(⟨[(0,.ept n.enc 0),(4,iI ((i+1:Nat):Int)),(3,.slice 2 0 0 (zI n.G i).length false)],[],[.row 2 ((zI n.G i).map qF.enc) true]⟩:VSt)) (λi=>n.G.length-1-i) 0 (by kernel_rfl) (nZl _) (Can.renum [none] rfl ⟨.ph,trivial⟩ ⟨⟨_,rfl,.tree (by simp only[AV.tree,qD.tr])⟩,⟨_,rfl,.tree rfl⟩,⟨_,rfl,.ph2 rfl⟩,trivial⟩ trivial) ?_;rintro i hi;simp only[go_sem];apply qT<;>intro hc<;>simp only[hc,go_sem]
 ·have hlt:i+1<n.G.length:=by have:=odT hc;omega
  simp only[gMp,gEg hlt,oMs,go_sem];have hx:=hp _ (gMm hlt);apply qT<;>intro hc<;>simp only[hc,go_sem]
  ·have e:zI n.G (i+1)=zI n.G i:=by simp_all[zI,Jb]
   simp only[wuA (n:=i+1)];refine qa (i+1) (by omega) (by omega) ?_;rw[e];exact csA
  ·have hp0:=hx (by simpa using hc);simp only[gMp,gEg hlt,oMs,go_sem];simp only[gEg hp0,oMs,go_sem];refine lsA ?_;simp only[go_sem];have same (hn:¬(n.G[i+1].P[0].S=0/\((i+1:Nat):Int)<n.G[i+1].P[0].N)):zI n.G (i+1)=zI n.G i:=by
    have hk:¬n.G[i+1].K=0:=by simpa using hc
    simp only[zI,Jb,gEg hlt,gEg hp0,iN hk,iN hn,lAn]
   first | (apply zH<;>intro hc<;>simp only[hc,go_sem]) | (apply qT<;>intro hc<;>simp only[hc,go_sem])
   ·first | (apply zH<;>intro hc<;>simp only[hc,go_sem]) | (apply qT<;>intro hc<;>simp only[hc,go_sem])
    ·refine ZY (el:=(zI n.G i).map qF.enc) rfl rfl (by simp) (by have:=Wr n.G i;omega) ?_;simp only[go_sem];simp only[wuA (n:=i+1)];have e:zI n.G (i+1)=zI n.G i++[⟨((i+1:Nat):Int),n.G[i+1].P[0].N⟩]:=by
      have hk:¬n.G[i+1].K=0:=by simp_all
      have hn:n.G[i+1].P[0].S=0/\((i+1:Nat):Int)<n.G[i+1].P[0].N:=⟨by simp_all,by simp_all⟩;simp only[zI,Jb,gEg hlt,gEg hp0,iN hk,iP hn]
     refine qa (i+1) (by omega) (by omega) ?_;simp only[e,lAp,lCo,lNi,nZa];refine Can.renum [some 2] rfl ⟨.row rfl ?_,trivial⟩ ⟨⟨_,rfl,.tree (by simp only[AV.tree,qD.tr])⟩,⟨_,rfl,.tree rfl⟩,⟨_,rfl,.slice rfl⟩,trivial⟩ trivial;rw[lMa];have t:=qb qF.isSh.tree (zI n.G i++[⟨((i+1:Nat):Int),n.G[i+1].P[0].N⟩]);rw[lMa]at t;exact VR2s.trees t
    ·simp only[wuA (n:=i+1)];refine qa (i+1) (by omega) (by omega) ?_;rw[same (by simp_all)];exact csA
   ·simp only[wuA (n:=i+1)];refine qa (i+1) (by omega) (by omega) ?_;rw[same (by simp_all)];exact csA
 ·obtain rfl:i=n.G.length-1:=by have:=odF hc;omega
  refine J8 (Cv.row rfl (by simp) (qb qF.isSh.tree _) (by omega))
theorem UR{xs:List qB}{i:Nat}:∀{qs:List qI}{j:Nat},wY xs i qs j=true->∀(m:Nat)(hm:m<qs.length),wX xs ⟨i,(j+m:Nat)⟩ qs[m]=true
 |[],_,_,m,hm=>by simp at hm
 | q::qs,j,h,m,hm=>by
  simp only[wY,bAt]at h;cases m with
  | zero=>exact h.1
  | succ m=>
   have:=UR h.2 m (by simpa using hm);rw[show j+(m+1)=j+1+m by omega];simpa using this
theorem Vd{xs:List qB}:∀{l:List qB}{i:Nat},w5 xs l i=true->∀(k:Nat)(hk:k<l.length),wY xs (i+k) l[k].P 0=true
 |[],_,_,k,hk=>by simp at hk
 | x::l,i,h,k,hk=>by
  simp only[w5,bAt]at h;cases k with
  | zero=>exact h.1
  | succ k=>
   have:=Vd h.2 k (by simpa using hk);rw[show i+(k+1)=i+1+k by omega];simpa using this
theorem J4:∀{l:List qB}{i:Nat},jX l i=true->∀x∈l,qk x=true
 |[],_,_,x,hx=>by cases hx
 | y::l,i,h,x,hx=>by
  simp only[jX,bAt]at h;rcases mCo.1 hx with rfl | hx
  ·exact h.1.1
  ·exact J4 h.2 x hx
theorem qpP{n:qD}(h:zM n=true):∀x∈n.G,0<x.P.length:=by
 simp only[zM,wL,bAt]at h;intro x hx;have:=J4 h.1.2 x hx;simp only[qk,bAt,dTe]at this;omega
theorem qqJ{n:qD}(h:zM n=true){k:Nat}{p:qF}(hp:p∈Jb n.G k):∃a b:Nat,p=⟨a,b⟩/\a<n.G.length/\b<n.G.length:=by
 simp only[zM,bAt]at h;unfold Jb at hp;split at hp
 next x hx=>
  obtain⟨hk,rfl⟩:=gSi.1 hx;split at hp
  ·cases hp
  split at hp
  next q hq=>
   obtain⟨hm,rfl⟩:=gSi.1 hq;split at hp
   next hc=>
    have:=UR (Vd h.2 k hk) 0 hm;simp only[wX,wU,bAt]at this;have e:=Js.1 this.1.2.1;simp only[lMg]at hp;subst hp;refine⟨k,n.G[k].P[0].N.toNat, ?_,hk,by omega⟩;rw[Int.toNat_of_nonneg (by omega)]
   ·cases hp
  ·cases hp
 ·cases hp
theorem qIN{n:qD}(h:zM n=true):∀{i:Nat}{p:qF},p∈zI n.G i->∃a b:Nat,p=⟨a,b⟩/\a<n.G.length/\b<n.G.length
 | 0,p,hp=>by cases hp
 | i+1,p,hp=>by
  simp only[zI,z9]at hp;rcases hp with hp | hp
  ·exact qIN h hp
  ·exact qqJ h hp
def Vc(n:qD):List qF:=zI n.G (n.G.length-1)
structure qE where
 T:Int
 I:Int
deriving DecidableEq
def qE.enc(x:qE):AV:=.agg [iI x.T,iI x.I]
theorem qE.isSh:Sh qE.enc 2 (some 2):=⟨λx=>by simp[qE.enc,AV.tree,AV.trees],λ_=>rfl,λ_=>rfl,by decide,λx=>by simp[qE.enc]⟩
section
variable {x:qE}
@[go_sem] theorem qE.tr:x.enc.tree=true:=qE.isSh.tree x
@[go_sem] theorem qE.ln:x.enc.cells.length=2:=nr rfl
@[go_sem] theorem qE.all:x.enc.part 0 (some 2)=some x.enc:=nr rfl
@[go_sem] theorem qE.cs:x.enc.cells=[iI x.T,iI x.I]:=nr rfl
@[go_sem] theorem qE.p0:x.enc.part 0 none=some (iI x.T):=nr rfl
@[go_sem] theorem qE.p1:x.enc.part 1 none=some (iI x.I):=nr rfl
@[go_sem] theorem qE.eqf{y:qE}:ja false [1,1] (some x.enc) (some y.enc)=some (.bool (decide (x=y))):=by
 obtain⟨a0,a1⟩:=x;obtain⟨b0,b1⟩:=y;simp only[ja,qE.enc,lMc,List.map_nil,dig,and_self,if_true,wZ,Jm,qE.mk.injEq]
 repeat' (split<;>simp_all)
@[go_sem] theorem qE.eqt{y:qE}:ja true [1,1] (some x.enc) (some y.enc)=some (.bool (!decide (x=y))):=by
 have h:=qE.eqf (x:=x) (y:=y);unfold ja at h|-;split<;>simp_all
end
structure qC where
 K:Int
 L:Int
 V:Int
 D:List Int
 W:List qE
def qC.enc(x:qC):AV:=.agg [iI x.K,iI x.L,iI x.V,lQ x.D,.lst 2 (x.W.map qE.enc) false]
theorem qC.isSh:Sh qC.enc 5 (some 5):=⟨λx=>by simp[qC.enc,AV.tree,AV.trees,qb qE.isSh.tree,qb shI.tree],λ_=>rfl,λ_=>rfl,by decide,λx=>by simp[qC.enc]⟩
section
variable {x:qC}
@[go_sem] theorem qC.tr:x.enc.tree=true:=qC.isSh.tree x
@[go_sem] theorem qC.ln:x.enc.cells.length=5:=nr rfl
@[go_sem] theorem qC.all:x.enc.part 0 (some 5)=some x.enc:=nr rfl
@[go_sem] theorem qC.cs:x.enc.cells=[iI x.K,iI x.L,iI x.V,lQ x.D,.lst 2 (x.W.map qE.enc) false]:=nr rfl
@[go_sem] theorem qC.p0:x.enc.part 0 none=some (iI x.K):=nr rfl
@[go_sem] theorem qC.p1:x.enc.part 1 none=some (iI x.L):=nr rfl
@[go_sem] theorem qC.p2:x.enc.part 2 none=some (iI x.V):=nr rfl
@[go_sem] theorem qC.p3:x.enc.part 3 none=some (lQ x.D):=nr rfl
@[go_sem] theorem qC.p4:x.enc.part 4 none=some (.lst 2 (x.W.map qE.enc) false):=nr rfl
end
def qC.sz(x:qC):Nat:=x.D.length+x.W.length
def qC.bd(x:qC):Prop:=x.D.length<=140737488355328/\x.W.length<=140737488355328
structure qH where
 C:List qC
 F:Int
 O:qE
 R:List qF
def qH.enc(x:qH):AV:=.agg [.lst 5 (x.C.map qC.enc) false,iI x.F,iI x.O.T,iI x.O.I,.lst 2 (x.R.map qF.enc) false]
theorem qH.isSh:Sh qH.enc 5 (some 5):=⟨λx=>by simp[qH.enc,AV.tree,AV.trees,qb qC.isSh.tree,qb qF.isSh.tree],λ_=>rfl,λ_=>rfl,by decide,λx=>by simp[qH.enc]⟩
section
variable {x:qH}
@[go_sem] theorem qH.tr:x.enc.tree=true:=qH.isSh.tree x
@[go_sem] theorem qH.ln:x.enc.cells.length=5:=nr rfl
@[go_sem] theorem qH.all:x.enc.part 0 (some 5)=some x.enc:=nr rfl
@[go_sem] theorem qH.cs:x.enc.cells=[.lst 5 (x.C.map qC.enc) false,iI x.F,iI x.O.T,iI x.O.I,.lst 2 (x.R.map qF.enc) false]:=nr rfl
@[go_sem] theorem qH.p0:x.enc.part 0 none=some (.lst 5 (x.C.map qC.enc) false):=nr rfl
@[go_sem] theorem qH.p1:x.enc.part 1 none=some (iI x.F):=nr rfl
@[go_sem] theorem qH.p2:x.enc.part 2 none=some (iI x.O.T):=nr rfl
@[go_sem] theorem qH.p3:x.enc.part 3 none=some (iI x.O.I):=nr rfl
@[go_sem] theorem qH.p4:x.enc.part 4 none=some (.lst 2 (x.R.map qF.enc) false):=nr rfl
@[go_sem] theorem qH.q2_2:x.enc.part 2 (some 2)=some (qE.enc x.O):=nr rfl
end
def qH.sz(x:qH):Nat:=(x.C.length+qJ qC.sz x.C)+x.R.length
def qH.bd(x:qH):Prop:=x.C.length<=140737488355328/\(∀y∈x.C,qC.bd y)/\x.R.length<=140737488355328
structure qp where
 A:qE
 B:qE
deriving DecidableEq
def qp.enc(x:qp):AV:=.agg [iI x.A.T,iI x.A.I,iI x.B.T,iI x.B.I]
theorem qp.isSh:Sh qp.enc 4 (some 4):=⟨λx=>by simp[qp.enc,AV.tree,AV.trees],λ_=>rfl,λ_=>rfl,by decide,λx=>by simp[qp.enc]⟩
section
variable {x:qp}
@[go_sem] theorem qp.tr:x.enc.tree=true:=qp.isSh.tree x
@[go_sem] theorem qp.ln:x.enc.cells.length=4:=nr rfl
@[go_sem] theorem qp.all:x.enc.part 0 (some 4)=some x.enc:=nr rfl
@[go_sem] theorem qp.cs:x.enc.cells=[iI x.A.T,iI x.A.I,iI x.B.T,iI x.B.I]:=nr rfl
@[go_sem] theorem qp.p0:x.enc.part 0 none=some (iI x.A.T):=nr rfl
@[go_sem] theorem qp.p1:x.enc.part 1 none=some (iI x.A.I):=nr rfl
@[go_sem] theorem qp.p2:x.enc.part 2 none=some (iI x.B.T):=nr rfl
@[go_sem] theorem qp.p3:x.enc.part 3 none=some (iI x.B.I):=nr rfl
@[go_sem] theorem qp.q0_2:x.enc.part 0 (some 2)=some (qE.enc x.A):=nr rfl
@[go_sem] theorem qp.q2_2:x.enc.part 2 (some 2)=some (qE.enc x.B):=nr rfl
@[go_sem] theorem qp.eqf{y:qp}:ja false [1,1,1,1] (some x.enc) (some y.enc)=some (.bool (decide (x=y))):=by
 obtain⟨⟨a0,a1⟩,⟨a2,a3⟩⟩:=x;obtain⟨⟨b0,b1⟩,⟨b2,b3⟩⟩:=y;simp only[ja,qp.enc,lMc,List.map_nil,dig,and_self,if_true,wZ,Jm,qp.mk.injEq,qE.mk.injEq]
 repeat' (split<;>simp_all)
@[go_sem] theorem qp.eqt{y:qp}:ja true [1,1,1,1] (some x.enc) (some y.enc)=some (.bool (!decide (x=y))):=by
 have h:=qp.eqf (x:=x) (y:=y);unfold ja at h|-;split<;>simp_all
end
structure jE where
 Phase:Int
 Victim:Int
 R:List qF
 Links:List qp
 U:List Int
def jE.enc(x:jE):AV:=.agg [iI x.Phase,iI x.Victim,.lst 2 (x.R.map qF.enc) false,.lst 4 (x.Links.map qp.enc) false,lQ x.U]
theorem jE.isSh:Sh jE.enc 5 (some 5):=⟨λx=>by simp[jE.enc,AV.tree,AV.trees,qb qp.isSh.tree,qb qF.isSh.tree,qb shI.tree],λ_=>rfl,λ_=>rfl,by decide,λx=>by simp[jE.enc]⟩
section
variable {x:jE}
@[go_sem] theorem jE.tr:x.enc.tree=true:=jE.isSh.tree x
@[go_sem] theorem jE.ln:x.enc.cells.length=5:=nr rfl
@[go_sem] theorem jE.all:x.enc.part 0 (some 5)=some x.enc:=nr rfl
@[go_sem] theorem jE.cs:x.enc.cells=[iI x.Phase,iI x.Victim,.lst 2 (x.R.map qF.enc) false,.lst 4 (x.Links.map qp.enc) false,lQ x.U]:=nr rfl
@[go_sem] theorem jE.p0:x.enc.part 0 none=some (iI x.Phase):=nr rfl
@[go_sem] theorem jE.p1:x.enc.part 1 none=some (iI x.Victim):=nr rfl
@[go_sem] theorem jE.p2:x.enc.part 2 none=some (.lst 2 (x.R.map qF.enc) false):=nr rfl
@[go_sem] theorem jE.p3:x.enc.part 3 none=some (.lst 4 (x.Links.map qp.enc) false):=nr rfl
@[go_sem] theorem jE.p4:x.enc.part 4 none=some (lQ x.U):=nr rfl
end
def jE.sz(x:jE):Nat:=x.R.length+x.Links.length+x.U.length
def jE.bd(x:jE):Prop:=x.R.length<=140737488355328/\x.Links.length<=140737488355328/\x.U.length<=140737488355328
structure je where
 Memory:qH
 Workers:List jE
 Active:Int
def je.enc(x:je):AV:=.agg [.lst 5 (x.Memory.C.map qC.enc) false,iI x.Memory.F,iI x.Memory.O.T,iI x.Memory.O.I,.lst 2 (x.Memory.R.map qF.enc) false,.lst 5 (x.Workers.map jE.enc) false,iI x.Active]
theorem je.isSh:Sh je.enc 7 (some 7):=⟨λx=>by simp[je.enc,AV.tree,AV.trees,qb qC.isSh.tree,qb qF.isSh.tree,qb jE.isSh.tree],λ_=>rfl,λ_=>rfl,by decide,λx=>by simp[je.enc]⟩
section
variable {x:je}
@[go_sem] theorem je.tr:x.enc.tree=true:=je.isSh.tree x
@[go_sem] theorem je.ln:x.enc.cells.length=7:=nr rfl
@[go_sem] theorem je.all:x.enc.part 0 (some 7)=some x.enc:=nr rfl
@[go_sem] theorem je.cs:x.enc.cells=[.lst 5 (x.Memory.C.map qC.enc) false,iI x.Memory.F,iI x.Memory.O.T,iI x.Memory.O.I,.lst 2 (x.Memory.R.map qF.enc) false,.lst 5 (x.Workers.map jE.enc) false,iI x.Active]:=nr rfl
@[go_sem] theorem je.p0:x.enc.part 0 none=some (.lst 5 (x.Memory.C.map qC.enc) false):=nr rfl
@[go_sem] theorem je.p1:x.enc.part 1 none=some (iI x.Memory.F):=nr rfl
@[go_sem] theorem je.p2:x.enc.part 2 none=some (iI x.Memory.O.T):=nr rfl
@[go_sem] theorem je.p3:x.enc.part 3 none=some (iI x.Memory.O.I):=nr rfl
@[go_sem] theorem je.p4:x.enc.part 4 none=some (.lst 2 (x.Memory.R.map qF.enc) false):=nr rfl
@[go_sem] theorem je.q2_2:x.enc.part 2 (some 2)=some (qE.enc x.Memory.O):=nr rfl
end
def je.sz(x:je):Nat:=qH.sz x.Memory+(x.Workers.length+qJ jE.sz x.Workers)
def je.bd(x:je):Prop:=qH.bd x.Memory/\x.Workers.length<=140737488355328/\(∀y∈x.Workers,jE.bd y)
def qy(k:Int):Bool:=decide (2<=k)&&decide (k<=12)
def qZ(c:qC):qB:=⟨c.K,c.L,c.V,c.D,List.replicate (c.W.length+1) ⟨0,0⟩⟩
def zw(c:qC):Prop:=(qy c.K=true/\qk (qZ c)=true)\/(c.K=13/\c.L=0/\c.V=0/\c.D=[]/\c.W.length<=1)\/(c.K=0/\c.L=0/\c.D=[]/\c.W=[])
def zq(v:Int):qC:=⟨0,0,v,[],[]⟩
def qg(ws:List qE):qC:=⟨13,0,0,[],ws⟩
def aW(k:Nat):qE:=⟨1,(k:Int)⟩
def vW(k:Nat):qE:=⟨2,(k:Int)⟩
def wOk(C:List qC)(w:qE):Prop:=∃(k:Nat)(c:qC),w.I=k/\C[k]?=some c/\((w.T=1/\qy c.K=true)\/(w.T=2/\c.K=13))
def cw(k:Nat)(ws:List qE):Nat:=ws.countP λw=>decide (w.I=(k:Int))
def cr(k:Nat)(rx:List qF):Nat:=rx.countP (λp=>decide (p.A=(k:Int)))+rx.countP (λp=>decide (p.B=(k:Int)))
def wS(O:Nat->Bool)(k:Nat):Nat->List qC->Nat
 | _,[]=>0
 | i,c::r=>(if O i then 0 else cw k c.W)+wS O k (i+1) r
def zU(c:qC):Nat:=if c.K=0 then 0 else if c.K=13/\c.W=[]then 2 else 1
def chn(C:List qC):Int->List Nat->Prop
 | fr,[]=>fr= -1
 | fr,k::L=>fr=k/\∃c,C[k]?=some c/\c.K=0/\chn C c.V L
structure FrC(C:List qC)(fr:Int)(L:List Nat):Prop where
 nd:L.Nodup
 ch:chn C fr L
 all:∀(k:Nat)(c:qC),C[k]?=some c->c.K=0->k∈L
structure MI(C:List qC)(fr:Int)(root:qE)(rx:List qF)(P:List qE)(O:Nat->Bool):Prop where
 form:∀(k:Nat)(c:qC),C[k]?=some c->O k=false->zw c
 opn:∀(k:Nat)(c:qC),C[k]?=some c->O k=true->qy c.K=true
 wrd:∀(k:Nat)(c:qC),C[k]?=some c->O k=false->∀w∈c.W,wOk C w
 rt:wOk C root
 pw:∀w∈P,wOk C w
 pr:∀p∈rx,p.A<p.B/\wOk C ⟨1,p.A⟩/\wOk C ⟨1,p.B⟩
 occ:∀(k:Nat)(c:qC),C[k]?=some c->cw k (root::P)+wS O k 0 C+cr k rx=zU c
 fre:∃L,FrC C fr L
section
variable {C:List qC} {fr:Int} {root w:qE} {rx:List qF} {P Q:List qE} {O:Nat->Bool} {k j:Nat} {c c':qC}
theorem Zb{a b:List qE}:cw k (a++b)=cw k a+cw k b:=List.countP_append ..
theorem zQ{a:qE}{b:List qE}:cw k (a::b)=(if a.I=(k:Int)then 1 else 0)+cw k b:=by
 unfold cw;rw[List.countP_cons];simp[Nat.add_comm]
theorem Zd:cw k []=0:=rfl
theorem qA6{ws:List qE}(h:w∈ws)(e:w.I=(k:Int)):0<cw k ws:=List.countP_pos_iff.2 ⟨w,h,by simpa using e⟩
theorem qKW(i:Nat):∀{C:List qC}{j:Nat}(h:j<C.length),wS O k i (C.set j c')+(if O (i+j)then 0 else cw k C[j].W)=wS O k i C+(if O (i+j)then 0 else cw k c'.W)
 |[],j,h=>by simp at h
 | c::r,0,h=>by simp only[lSz,wS,List.getElem_cons_zero,nAz];omega
 | c::r,j+1,h=>by
  have:=qKW (i+1) (C:=r) (j:=j) (by simpa using h);simp only[List.set_cons_succ,wS,List.getElem_cons_succ];rw[show i+1+j=i+(j+1) by omega]at this;omega
theorem YW(h:C[j]?=some c):wS O k 0 (C.set j c')+(if O j then 0 else cw k c.W)=wS O k 0 C+(if O j then 0 else cw k c'.W):=by
 obtain⟨hl,e⟩:=gSi.1 h;have:=qKW (O:=O) (k:=k) (c':=c') 0 hl;rw[nZa,e]at this;exact this
theorem wS_O{O':Nat->Bool}(i:Nat):∀{C:List qC}{j:Nat}(h:j<C.length),O (i+j)=false->O' (i+j)=true->(∀x,x≠i+j->O' x=O x)->wS O' k i C+cw k C[j].W=wS O k i C
 |[],j,h,_,_,_=>by simp at h
 | c::r,0,h,h1,h2,h3=>by
  have hr:∀(r:List qC)(m:Nat),i<m->wS O' k m r=wS O k m r:=by
   intro r
   induction r with
   | nil=>intro m _;rfl
   | cons a r ih=>intro m hm;rw[wS,wS,h3 m (by omega),ih (m+1) (by omega)]
  rw[nAz]at h1 h2;simp only[wS,List.getElem_cons_zero,h1,h2,if_true,bFt,if_false];rw[hr r (i+1) (by omega)];omega
 | c::r,j+1,h,h1,h2,h3=>by
  have:=wS_O (i+1) (C:=r) (j:=j) (by simpa using h) (by rw[show i+1+j=i+(j+1) by omega];exact h1) (by rw[show i+1+j=i+(j+1) by omega];exact h2) (λx hx=>h3 x (by omega));simp only[wS,List.getElem_cons_succ];rw[h3 i (by omega)];omega
theorem qKV(i:Nat):∀{C:List qC}{j:Nat}{c:qC},C[j]?=some c->O (i+j)=false->w∈c.W->w.I=(k:Int)->0<wS O k i C
 |[],j,c,h,_,_,_=>by simp at h
 | a::r,0,c,h,h1,h2,h3=>by
  simp only[List.getElem?_cons_zero,oSi]at h;subst h;rw[nAz]at h1;have:=qA6 h2 h3;simp only[wS,h1,bFt,if_false];omega
 | a::r,j+1,c,h,h1,h2,h3=>by
  have:=qKV (i+1) (C:=r) (j:=j) (c:=c) (by simpa using h) (by rw[show i+1+j=i+(j+1) by omega];exact h1) h2 h3;simp only[wS];omega
theorem zd(h:k≠j):(C.set j c')[k]?=C[k]?:=gSn (Ne.symm h)
theorem jT(h:C[j]?=some c):(C.set j c')[j]?=some c':=gSs (gSi.1 h).1
theorem zO(h:C[j]?=some c):j<C.length:=(gSi.1 h).1
theorem wOk.set(h:wOk C w)(hj:w.I≠(j:Int)):wOk (C.set j c') w:=by
 obtain⟨k,c,h1,h2,h3⟩:=h;exact⟨k,c,h1,by rw[zd (by rintro rfl;exact hj h1)];exact h2,h3⟩
theorem wOk.kind(h:wOk C w)(hc:C[j]?=some c)(hk:c'.K=c.K):wOk (C.set j c') w:=by
 obtain⟨k,d,h1,h2,h3⟩:=h;by_cases e:k=j
 ·subst e;rw[hc]at h2;cases h2;exact⟨k,c',h1,jT hc,by rw[hk];exact h3⟩
 ·exact⟨k,d,h1,by rw[zd e];exact h2,h3⟩
theorem MI.tot(m:MI C fr root rx P O)(h:C[k]?=some c):cw k (root::P)+wS O k 0 C+cr k rx=zU c:=m.occ k c h
structure WE(C:List qC)(root:qE)(rx:List qF)(P:List qE)(O:Nat->Bool)(k:Nat):Prop where
 rt:root.I≠(k:Int)
 pw:∀w∈P,w.I≠(k:Int)
 wd:∀(i:Nat)(c:qC),C[i]?=some c->O i=false->∀w∈c.W,w.I≠(k:Int)
 pr:∀p∈rx,p.A≠(k:Int)/\p.B≠(k:Int)
theorem WE.of(h:cw k (root::P)+wS O k 0 C+cr k rx=0):WE C root rx P O k:=by
 have h1:cw k (root::P)=0:=by omega
 have h2:wS O k 0 C=0:=by omega
 have h3:cr k rx=0:=by omega
 refine⟨λe=>?_,λw hw e=>?_,λi c hc ho w hw e=>?_,λp hp=>⟨λe=>?_,λe=>?_⟩⟩
 ·have:=qA6 (ws:=root::P) (.head _) e;omega
 ·have:=qA6 (ws:=root::P) (.tail _ hw) e;omega
 ·have:=qKV (O:=O) (k:=k) 0 hc (by rw[nZa];exact ho) hw e;omega
 ·have:0<rx.countP (λp=>decide (p.A=(k:Int))):=List.countP_pos_iff.2 ⟨p,hp,by simpa using e⟩;unfold cr at h3;omega
 ·have:0<rx.countP (λp=>decide (p.B=(k:Int))):=List.countP_pos_iff.2 ⟨p,hp,by simpa using e⟩;unfold cr at h3;omega
theorem XV{L:List Nat}:∀{fr:Int}{L:List Nat},chn C fr L->j∉L->chn (C.set j c') fr L
 | fr,[],h,_=>h
 | fr,k::L,h,hn=>by
  obtain⟨h1,c,h2,h3,h4⟩:=h;have hkj:k≠j:=λe=>hn (by rw[e];exact .head _);exact⟨h1,c,by rw[zd hkj];exact h2,h3,XV (L:=L) h4 λq=>hn (.tail _ q)⟩
theorem WL{L:List Nat}:∀{fr:Int}{L:List Nat},chn C fr L->∀k∈L,∃c,C[k]?=some c/\c.K=0
 | fr,[],h,k,hk=>by cases hk
 | fr,a::L,h,k,hk=>by
  obtain⟨h1,c,h2,h3,h4⟩:=h;rcases mCo.1 hk with rfl | hk
  ·exact⟨c,h2,h3⟩
  ·exact WL (L:=L) h4 k hk
theorem MI.rel(m:MI C fr root rx (Q++P) O)(hc:C[k]?=some c)(ho:O k=false)(hk:c.K≠0)(hq:∀w∈Q,w.I=(k:Int))(hl:Q.length=zU c):MI (C.set k (zq fr)) k root rx (c.W++P) O:=by
 have hQ:cw k Q=zU c:=by
  rw[<-hl];unfold cw;rw[List.countP_eq_length];intro w hw;simpa using hq w hw
 have ht:=m.tot hc;rw[zQ,Zb,hQ]at ht;have nn:WE C root rx P O k:=WE.of (by rw[zQ];omega);have set1:∀w,wOk C w->w.I≠(k:Int)->wOk (C.set k (zq fr)) w:=λw h q=>h.set q;obtain⟨L,f1,f2,f3⟩:=m.fre;have hkL:k∉L:=λq=>by
  obtain⟨d,d1,d2⟩:=WL (L:=L) f2 k q;rw[hc]at d1;cases d1;exact hk d2
 refine⟨?_, ?_, ?_,set1 _ m.rt nn.rt, ?_, ?_, ?_,k::L, ?_,⟨rfl,zq fr,jT hc,rfl,XV (L:=L) f2 hkL⟩, ?_⟩
 ·intro i d hd hoi;by_cases e:i=k
  ·subst e;rw[jT hc]at hd;cases hd;exact .inr (.inr ⟨rfl,rfl,rfl,rfl⟩)
  ·rw[zd e]at hd;exact m.form i d hd hoi
 ·intro i d hd hoi;by_cases e:i=k
  ·subst e;rw[ho]at hoi;cases hoi
  ·rw[zd e]at hd;exact m.opn i d hd hoi
 ·intro i d hd hoi w hw;by_cases e:i=k
  ·subst e;rw[jT hc]at hd;cases hd;cases hw
  ·rw[zd e]at hd;exact set1 _ (m.wrd i d hd hoi w hw) (nn.wd i d hd hoi w hw)
 ·intro w hw;rcases z9.1 hw with hw | hw
  ·exact set1 _ (m.wrd k c hc ho w hw) (nn.wd k c hc ho w hw)
  ·exact set1 _ (m.pw w (List.mem_append_right _ hw)) (nn.pw w hw)
 ·intro p hp;obtain⟨p1,p2,p3⟩:=m.pr p hp;exact⟨p1,set1 _ p2 (nn.pr p hp).1,set1 _ p3 (nn.pr p hp).2⟩
 ·intro i d hd;have hs:=YW (O:=O) (k:=i) (c':=zq fr) hc;rw[ho]at hs;simp only[bFt,if_false,zq,Zd,nAz]at hs;by_cases e:i=k
  ·subst e;rw[jT hc]at hd;cases hd;have:cw i c.W=0:=by
    unfold cw;rw[List.countP_eq_zero];intro w hw;simpa using nn.wd i c hc ho w hw
   have w0:zU (zq fr)=0:=by simp[zU,zq]
   rw[w0,zQ,Zb];unfold zq;omega
  ·rw[zd e]at hd;have:=m.tot hd;have hq0:cw i Q=0:=by
    unfold cw;rw[List.countP_eq_zero];intro w hw;simp[hq w hw];omega
   rw[zQ,Zb,hq0]at this;rw[zQ,Zb];unfold zq;omega
 ·exact List.nodup_cons.2 ⟨hkL,f1⟩
 ·intro i d hd hdk;by_cases e:i=k
  ·rw[e];exact .head _
  ·rw[zd e]at hd;exact .tail _ (f3 i d hd hdk)
theorem MI.head(m:MI C fr root rx P O)(h:0<=fr):∃(k:Nat)(d:qC),fr=k/\C[k]?=some d/\d.K=0/\O k=false/\d.W=[]/\WE C root rx P O k/\∃L,FrC C fr (k::L):=by
 obtain⟨L,f1,f2,f3⟩:=m.fre;cases L with
 | nil=>have:fr= -1:=f2;omega
 | cons k L=>
  have f2':=f2;obtain⟨h1,d,h2,h3,h4⟩:=f2;have ho:O k=false:=by
   cases q:O k with
   | false=>rfl
   | true=>
    have:=m.opn k d h2 q;rw[h3]at this;cases this
  have hw:d.W=[]:=by
   rcases m.form k d h2 ho with⟨q,_⟩ | ⟨q,_⟩ | ⟨_,_,_,q⟩
   ·rw[h3]at q;cases q
   ·omega
   ·exact q
  refine⟨k,d,h1,h2,h3,ho,hw,WE.of ?_,L,f1,f2',f3⟩;rw[m.tot h2];simp[zU,h3]
theorem FrC.tl{L:List Nat}{d:qC}(f:FrC C fr (k::L))(hd:C[k]?=some d)(hn:c'.K≠0):FrC (C.set k c') d.V L:=by
 obtain⟨f1,f2,f3⟩:=f;obtain⟨h1,d',h2,h3,h4⟩:=f2;rw[hd]at h2;cases h2;rw[List.nodup_cons]at f1;refine⟨f1.2,XV (L:=L) h4 f1.1,λi e he hk=>?_⟩;by_cases q:i=k
 ·subst q;rw[jT hd]at he;cases he;exact absurd hk hn
 ·rw[zd q]at he;rcases mCo.1 (f3 i e he hk)with r | r
  ·exact absurd r q
  ·exact r
def opO(O:Nat->Bool)(k:Nat):Nat->Bool:=λi=>decide (i=k) || O i
def clO(O:Nat->Bool)(k:Nat):Nat->Bool:=λi=> !decide (i=k)&&O i
theorem MI.takeA{d:qC}(m:MI C fr root rx P O)(hf:fr=k)(hd:C[k]?=some d)(hc:qy c.K=true):MI (C.set k c) d.V root rx (aW k::P) (opO O k):=by
 obtain⟨k',d',e1,e2,e3,e4,e5,nn,L,fL⟩:=m.head (by omega);obtain rfl:k'=k:=by omega
 rw[hd]at e2;cases e2;have hck:c.K≠0:=by intro q;rw[q]at hc;cases hc
 have set1:∀w,wOk C w->w.I≠(k':Int)->wOk (C.set k' c) w:=λw h q=>h.set q;have o1:∀i,opO O k' i=false->i≠k'/\O i=false:=λi h=>by
  unfold opO at h;simp only[Bool.or_eq_false_iff,decide_eq_false_iff_not]at h;exact h
 refine⟨?_, ?_, ?_,set1 _ m.rt nn.rt, ?_, ?_, ?_,L,fL.tl hd hck⟩
 ·intro i e he ho;obtain⟨h1,h2⟩:=o1 i ho;rw[zd h1]at he;exact m.form i e he h2
 ·intro i e he ho;by_cases q:i=k'
  ·subst q;rw[jT hd]at he;cases he;exact hc
  ·rw[zd q]at he;refine m.opn i e he ?_;unfold opO at ho;simpa[q]using ho
 ·intro i e he ho w hw;obtain⟨h1,h2⟩:=o1 i ho;rw[zd h1]at he;exact set1 _ (m.wrd i e he h2 w hw) (nn.wd i e he h2 w hw)
 ·intro w hw;rcases mCo.1 hw with rfl | hw
  ·exact⟨k',c,rfl,jT hd,.inl ⟨rfl,hc⟩⟩
  ·exact set1 _ (m.pw w hw) (nn.pw w hw)
 ·intro p hp;obtain⟨p1,p2,p3⟩:=m.pr p hp;exact⟨p1,set1 _ p2 (nn.pr p hp).1,set1 _ p3 (nn.pr p hp).2⟩
 ·intro i e he;have hO:=wS_O (O:=O) (O':=opO O k') (k:=i) 0 (C:=C.set k' c) (j:=k') (by rw[lLs];exact zO hd) (by rw[nZa];exact e4) (by simp[opO]) (λx hx=>by simp[opO];intro q;omega);have hs:=YW (O:=O) (k:=i) (c':=c) hd;rw[e4,e5]at hs;simp only[bFt,if_false,Zd,nAz]at hs;have hg:(C.set k' c)[k']'(by rw[lLs];exact zO hd)=c:=by simp
  rw[hg]at hO;by_cases q:i=k'
  ·subst q;rw[jT hd]at he;cases he;have:=m.tot hd;have w0:zU d=0:=by simp[zU,e3]
   have w1:zU c=1:=by
    unfold zU;rw[iN hck,iN];rintro⟨q,_⟩;rw[q]at hc;cases hc
   rw[w0,zQ]at this;rw[w1,zQ,zQ];simp only[aW,if_true];omega
  ·rw[zd q]at he;have:=m.tot he;rw[zQ]at this;rw[zQ,zQ];have:¬(aW k').I=(i:Int):=by simp[aW];omega
   rw[iN this];omega
theorem MI.takeV{d:qC}(m:MI C fr root rx P O)(hf:fr=k)(hd:C[k]?=some d):MI (C.set k (qg [])) d.V root rx (vW k::vW k::P) O:=by
 obtain⟨k',d',e1,e2,e3,e4,e5,nn,L,fL⟩:=m.head (by omega);obtain rfl:k'=k:=by omega
 rw[hd]at e2;cases e2;have set1:∀w,wOk C w->w.I≠(k':Int)->wOk (C.set k' (qg [])) w:=λw h q=>h.set q;have vo:wOk (C.set k' (qg [])) (vW k'):=⟨k',qg [],rfl,jT hd,.inr ⟨rfl,rfl⟩⟩;refine⟨?_, ?_, ?_,set1 _ m.rt nn.rt, ?_, ?_, ?_,L,fL.tl hd (by simp[qg])⟩
 ·intro i e he ho;by_cases q:i=k'
  ·subst q;rw[jT hd]at he;cases he;exact .inr (.inl ⟨rfl,rfl,rfl,rfl,by simp[qg]⟩)
  ·rw[zd q]at he;exact m.form i e he ho
 ·intro i e he ho;by_cases q:i=k'
  ·subst q;rw[e4]at ho;cases ho
  ·rw[zd q]at he;exact m.opn i e he ho
 ·intro i e he ho w hw;by_cases q:i=k'
  ·subst q;rw[jT hd]at he;cases he;cases hw
  ·rw[zd q]at he;exact set1 _ (m.wrd i e he ho w hw) (nn.wd i e he ho w hw)
 ·intro w hw;rcases mCo.1 hw with rfl | hw
  ·exact vo
  ·rcases mCo.1 hw with rfl | hw
   ·exact vo
   ·exact set1 _ (m.pw w hw) (nn.pw w hw)
 ·intro p hp;obtain⟨p1,p2,p3⟩:=m.pr p hp;exact⟨p1,set1 _ p2 (nn.pr p hp).1,set1 _ p3 (nn.pr p hp).2⟩
 ·intro i e he;have hs:=YW (O:=O) (k:=i) (c':=qg []) hd;rw[e4,e5]at hs;simp only[bFt,if_false,Zd,nAz,qg]at hs;unfold qg at he|-;by_cases q:i=k'
  ·subst q;rw[jT hd]at he;cases he;have:=m.tot hd;have w0:zU d=0:=by simp[zU,e3]
   rw[w0,zQ]at this;rw[zQ,zQ,zQ];simp only[vW,if_true,zU];simp;omega
  ·rw[zd q]at he;have:=m.tot he;rw[zQ]at this;rw[zQ,zQ,zQ];have:¬(vW k').I=(i:Int):=by simp[vW];omega
   rw[iN this];omega
theorem MI.close(m:MI C fr root rx (c.W++P) O)(hc:C[k]?=some c)(ho:O k=true)(hf:zw c):MI C fr root rx P (clO O k):=by
 have o1:∀i,i≠k->clO O k i=O i:=λi h=>by simp[clO,h]
 have o2:clO O k k=false:=by simp[clO]
 refine⟨?_, ?_, ?_,m.rt,λw hw=>m.pw w (List.mem_append_right _ hw),m.pr, ?_,m.fre⟩
 ·intro i e he h;by_cases q:i=k
  ·subst q;rw[hc]at he;cases he;exact hf
  ·rw[o1 i q]at h;exact m.form i e he h
 ·intro i e he h;by_cases q:i=k
  ·subst q;rw[o2]at h;cases h
  ·rw[o1 i q]at h;exact m.opn i e he h
 ·intro i e he h w hw;by_cases q:i=k
  ·subst q;rw[hc]at he;cases he;exact m.pw w (List.mem_append_left _ hw)
  ·rw[o1 i q]at h;exact m.wrd i e he h w hw
 ·intro i e he;have hO:=wS_O (O:=clO O k) (O':=O) (k:=i) 0 (C:=C) (j:=k) (zO hc) (by rw[nZa];exact o2) (by rw[nZa];exact ho) (λx hx=>(o1 x (by omega)).symm);rw[(gSi.1 hc).2]at hO;have:=m.tot he;rw[zQ,Zb]at this;rw[zQ];omega
theorem MI.wopen(m:MI C fr root rx P O)(hc:C[k]?=some c)(ho:O k=true)(hk:c'.K=c.K):MI (C.set k c') fr root rx P O:=by
 have hcK:c.K≠0:=by
  intro q;have:=m.opn k c hc ho;rw[q]at this;cases this
 refine⟨?_, ?_, ?_,m.rt.kind hc hk,λw hw=>(m.pw w hw).kind hc hk,λp hp=>⟨(m.pr p hp).1,(m.pr p hp).2.1.kind hc hk,(m.pr p hp).2.2.kind hc hk⟩, ?_, ?_⟩
 ·intro i e he h;by_cases q:i=k
  ·subst q;rw[ho]at h;cases h
  ·rw[zd q]at he;exact m.form i e he h
 ·intro i e he h;by_cases q:i=k
  ·subst q;rw[jT hc]at he;cases he;rw[hk];exact m.opn i c hc ho
  ·rw[zd q]at he;exact m.opn i e he h
 ·intro i e he h w hw;by_cases q:i=k
  ·subst q;rw[ho]at h;cases h
  ·rw[zd q]at he;exact(m.wrd i e he h w hw).kind hc hk
 ·intro i e he;have hs:=YW (O:=O) (k:=i) (c':=c') hc;rw[ho]at hs;simp only[if_true,nAz]at hs;rw[hs];by_cases q:i=k
  ·subst q;rw[jT hc]at he;cases he;rw[m.tot hc];have hag:=m.opn i c hc ho;have:∀c:qC,qy c.K=true->zU c=1:=λc h=>by
    unfold zU;rw[iN (by intro q;rw[q]at h;cases h),iN];rintro⟨q,_⟩;rw[q]at h;cases h
   rw[this c hag,this c' (by rw[hk];exact hag)]
  ·rw[zd q]at he;exact m.tot he
 ·obtain⟨L,f1,f2,f3⟩:=m.fre;have hkL:k∉L:=λq=>by
   obtain⟨d,d1,d2⟩:=WL (L:=L) f2 k q;rw[hc]at d1;cases d1;exact hcK d2
  refine⟨L,f1,XV (L:=L) f2 hkL,λi e he h=>?_⟩;by_cases q:i=k
  ·subst q;rw[jT hc]at he;cases he;rw[hk]at h;exact absurd h hcK
  ·rw[zd q]at he;exact f3 i e he h
theorem MI.bind{b:qE}(m:MI C fr root rx (vW k::b::P) O)(hc:C[k]?=some (qg []))(hb:b.I≠(k:Int)):MI (C.set k (qg [b])) fr root rx P O:=by
 have ho:O k=false:=by
  cases q:O k with
  | false=>rfl
  | true=>have:=m.opn k _ hc q;simp[qg,qy]at this
 have hk:(qg [b]).K=(qg []).K:=rfl;have bo:wOk C b:=m.pw b (.tail _ (.head _));refine⟨?_, ?_, ?_,m.rt.kind hc hk,λw hw=>(m.pw w (.tail _ (.tail _ hw))).kind hc hk,λp hp=>⟨(m.pr p hp).1,(m.pr p hp).2.1.kind hc hk,(m.pr p hp).2.2.kind hc hk⟩, ?_, ?_⟩
 ·intro i e he h;by_cases q:i=k
  ·subst q;rw[jT hc]at he;cases he;exact .inr (.inl ⟨rfl,rfl,rfl,rfl,by simp[qg]⟩)
  ·rw[zd q]at he;exact m.form i e he h
 ·intro i e he h;by_cases q:i=k
  ·subst q;rw[ho]at h;cases h
  ·rw[zd q]at he;exact m.opn i e he h
 ·intro i e he h w hw;by_cases q:i=k
  ·subst q;rw[jT hc]at he;cases he;simp only[qg,mCo,List.not_mem_nil,or_false]at hw;subst hw;exact bo.kind hc hk
  ·rw[zd q]at he;exact(m.wrd i e he h w hw).kind hc hk
 ·intro i e he;have hs:=YW (O:=O) (k:=i) (c':=qg [b]) hc;rw[ho]at hs;simp only[bFt,if_false,qg,Zd,nAz,zQ]at hs;unfold qg at he|-;by_cases q:i=k
  ·subst q;rw[jT hc]at he;cases he;have:=m.tot hc;simp only[zU,qg]at this;rw[zQ,zQ,zQ]at this;simp only[vW,if_true,iN hb]at this;rw[iN hb]at hs;simp only[zU];rw[zQ];simp at this|-;omega
  ·rw[zd q]at he;have:=m.tot he;rw[zQ,zQ,zQ]at this;have hv:¬(vW k).I=(i:Int):=by simp[vW];omega
   rw[iN hv]at this;rw[zQ];omega
 ·obtain⟨L,f1,f2,f3⟩:=m.fre;have hkL:k∉L:=λq=>by
   obtain⟨d,d1,d2⟩:=WL (L:=L) f2 k q;rw[hc]at d1;cases d1;simp[qg]at d2
  refine⟨L,f1,XV (L:=L) f2 hkL,λi e he h=>?_⟩;by_cases q:i=k
  ·subst q;rw[jT hc]at he;cases he;simp[qg]at h
  ·rw[zd q]at he;exact f3 i e he h
theorem qA4{a b:List qF}:cr k (a++b)=cr k a+cr k b:=by unfold cr;rw[List.countP_append,List.countP_append];omega
theorem qFS{p:qF}{b:List qF}:cr k (p::b)=(if p.A=(k:Int)then 1 else 0)+(if p.B=(k:Int)then 1 else 0)+cr k b:=by
 unfold cr;rw[List.countP_cons,List.countP_cons];simp;omega
theorem qmH:cr k []=0:=rfl
theorem MI.redex{a b:Nat}(m:MI C fr root rx (aW a::aW b::P) O):a≠b/\MI C fr root (rx++[⟨min (a:Int) b,max (a:Int) b⟩]) P O:=by
 have ha:wOk C (aW a):=m.pw _ (.head _);have hb:wOk C (aW b):=m.pw _ (.tail _ (.head _));have ha':=ha;obtain⟨a',c,e1,e2,e3⟩:=ha';obtain rfl:a'=a:=by simp[aW]at e1;omega
 have hag:qy c.K=true:=by
  rcases e3 with⟨_,q⟩ | ⟨q,_⟩
  ·exact q
  ·simp[aW]at q
 have hne:a'≠b:=by
  rintro rfl;have:=m.tot e2;rw[zQ,zQ,zQ]at this;have w1:zU c=1:=by
   unfold zU;rw[iN (by intro q;rw[q]at hag;cases hag),iN];rintro⟨q,_⟩;rw[q]at hag;cases hag
  rw[w1]at this;simp only[aW,if_true]at this;omega
 refine⟨hne,m.form,m.opn,m.wrd,m.rt,λw hw=>m.pw w (.tail _ (.tail _ hw)),λp hp=>?_,λi e he=>?_,m.fre⟩
 ·rcases z9.1 hp with hp | hp
  ·exact m.pr p hp
  ·simp only[lMg]at hp;subst hp;simp only;rcases Nat.lt_or_ge a' b with q | q
   ·rw[Int.min_eq_left (by omega),Int.max_eq_right (by omega)];exact⟨by omega,ha,hb⟩
   ·rw[Int.min_eq_right (by omega),Int.max_eq_left (by omega)];exact⟨by omega,hb,ha⟩
 ·have:=m.tot he;rw[zQ,zQ,zQ]at this;rw[zQ,qA4,qFS,qmH];have ea:(aW a').I=(a':Int):=rfl;have eb:(aW b).I=(b:Int):=rfl;rw[ea,eb]at this;simp only;have key:(if min (a':Int) b=(i:Int)then 1 else 0)+(if max (a':Int) b=(i:Int)then 1 else 0)=(if (a':Int)=(i:Int)then 1 else 0)+(if (b:Int)=(i:Int)then 1 else 0):=by
   rcases Nat.lt_or_ge a' b with q | q
   ·rw[Int.min_eq_left (by omega),Int.max_eq_right (by omega)]
   ·rw[Int.min_eq_right (by omega),Int.max_eq_left (by omega),Nat.add_comm]
  rw[key];omega
theorem MI.unredex{p:qF}{r1 r2:List qF}(m:MI C fr root (r1++p::r2) P O):MI C fr root (r1++r2) (⟨1,p.A⟩::⟨1,p.B⟩::P) O:=by
 have hp:=m.pr p (List.mem_append_right _ (.head _));refine⟨m.form,m.opn,m.wrd,m.rt,λw hw=>?_,λq hq=>?_,λi e he=>?_,m.fre⟩
 ·rcases mCo.1 hw with rfl | hw
  ·exact hp.2.1
  ·rcases mCo.1 hw with rfl | hw
   ·exact hp.2.2
   ·exact m.pw w hw
 ·rcases z9.1 hq with hq | hq
  ·exact m.pr q (List.mem_append_left _ hq)
  ·exact m.pr q (List.mem_append_right _ (.tail _ hq))
 ·have:=m.tot he;rw[zQ,qA4,qFS]at this;rw[zQ,zQ,zQ,qA4];simp only;omega
theorem MI.perm{P':List qE}(m:MI C fr root rx P O)(h:P.Perm P'):MI C fr root rx P' O:=
 ⟨m.form,m.opn,m.wrd,m.rt,λw hw=>m.pw w (h.mem_iff.2 hw),m.pr,λi e he=>by
  have:=m.tot he;rw[zQ]at this|-;unfold cw at this|-;rw[<-h.countP_eq];exact this,m.fre⟩
end
abbrev MM(m:qH)(P:List qE)(O:Nat->Bool):Prop:=MI m.C m.F m.O m.R P O
def nF(C:List qC):Nat:=C.countP λc=>decide (c.K=0)
def nV(C:List qC):Nat:=C.countP λc=>decide (c.K=13)
def za(m:qH)(a:Int):qC:=(m.C[a.toNat]?).getD (zq 0)
def qV(m:qH)(a:Int):qH:={m with C:=m.C.set a.toNat (zq m.F),F:=a}
def qW(m:qH)(c:qC):qH:={m with C:=m.C.set m.F.toNat c,F:=(za m m.F).V}
def qr(m:qH)(a:Int)(ws:List qE):qH:={m with C:=m.C.set a.toNat {za m a with W:=ws}}
def Jj(m:qH)(a b:Int):qH:={m with R:=m.R++[⟨min a b,max a b⟩]}
def flw:Nat->qH->qE->qH×qE
 | 0,m,w=>(m,w)
 | n+1,m,w=>if w.T=2 then(match (za m w.I).W with
   |[]=>(m,w)
   | x::_=>flw n (qV m w.I) x)else(m,w)
def wQ(m:qH)(a b:qE):qH:=
 let r:=flw (nV m.C) m a;let s:=flw (nV r.1.C) r.1 b
 if r.2.T=1/\s.2.T=1 then Jj s.1 r.2.I s.2.I
 else if r.2=s.2 then qV s.1 r.2.I
 else if r.2.T=2 then qr s.1 r.2.I [s.2]else qr s.1 s.2.I [r.2]
section
variable {C:List qC} {fr:Int} {root w:qE} {rx:List qF} {P Q:List qE} {O:Nat->Bool} {k j:Nat} {c c':qC} {m m':qH}
theorem qA1{p:qC->Bool}:∀{C:List qC}{j:Nat}{c:qC},C[j]?=some c->(C.set j c').countP p+(if p c then 1 else 0)=C.countP p+(if p c' then 1 else 0)
 |[],j,c,h=>by simp at h
 | a::r,0,c,h=>by
  simp only[List.getElem?_cons_zero,oSi]at h;subst h;simp only[lSz,List.countP_cons];omega
 | a::r,j+1,c,h=>by
  have:=qA1 (p:=p) (C:=r) (j:=j) (c:=c) (by simpa using h);simp only[List.set_cons_succ,List.countP_cons];omega
theorem Zn(h:C[j]?=some c):nF (C.set j c')+(if c.K=0 then 1 else 0)=nF C+(if c'.K=0 then 1 else 0):=by
 have:=qA1 (c':=c') (p:=λc=>decide (c.K=0)) h;simpa[nF]using this
theorem qHV(h:C[j]?=some c):nV (C.set j c')+(if c.K=13 then 1 else 0)=nV C+(if c'.K=13 then 1 else 0):=by
 have:=qA1 (c':=c') (p:=λc=>decide (c.K=13)) h;simpa[nV]using this
theorem qHU(h:C[j]?=some c)(hk:c.K=13):0<nV C:=List.countP_pos_iff.2 ⟨c,lMo h,by simpa using hk⟩
theorem FrC.len{L:List Nat}(f:FrC C fr L):L.length=nF C:=by
 have hc:nF C=((List.range C.length).filter λk=>decide ((C[k]?.getD (zq 1)).K=0)).length:=by
  have:∀(C:List qC),C.countP (λc=>decide (c.K=0))=((List.range C.length).filter λk=>decide ((C[k]?.getD (zq 1)).K=0)).length:=by
   intro C;rw[<-List.countP_eq_length_filter]
   induction C with
   | nil=>rfl
   | cons a r ih=>
    rw[lCo,List.range_succ_eq_map,List.countP_cons,List.countP_cons,ih,List.countP_map];rfl
  exact this C
 rw[hc];refine List.Perm.length_eq ((List.perm_ext_iff_of_nodup f.nd (List.nodup_range.filter _)).2 λk=>?_);rw[mFi,lMr];constructor
 ·intro hk;obtain⟨c,h1,h2⟩:=WL (L:=L) f.ch k hk;exact⟨zO h1,by rw[h1];simpa using h2⟩
 ·rintro⟨h1,h2⟩;rw[gEg h1]at h2;exact f.all k _ (gEg h1) (by simpa using h2)
theorem MI.fr0(m:MI C fr root rx P O)(h:0<nF C):0<=fr:=by
 obtain⟨L,f⟩:=m.fre;have:=f.len;cases L with
 | nil=>simp at this;omega
 | cons k L=>have:=f.ch.1;omega
theorem Je(h:m.C[k]?=some c):za m (k:Int)=c:=by unfold za;rw[iTn,h];rfl
theorem qDF(h:qy c.K=true):zU c=1:=by
 unfold zU;rw[iN (by intro q;rw[q]at h;cases h),iN];rintro⟨q,_⟩;rw[q]at h;cases h
theorem qIF(m:MI C fr root rx P O)(hc:C[k]?=some c)(h:qy c.K=false):O k=false:=by
 cases q:O k with
 | false=>rfl
 | true=>rw[m.opn k c hc q]at h;cases h
theorem MI.var(m:MI C fr root rx P O)(hc:C[k]?=some c)(h:c.K=13):O k=false/\∃ws,c=qg ws/\ws.length<=1:=by
 have ho:=qIF m hc (by rw[h];rfl);refine⟨ho,c.W, ?_⟩;rcases m.form k c hc ho with⟨q,_⟩ | ⟨h1,h2,h3,h4,h5⟩ | ⟨q,_⟩
 ·rw[h]at q;cases q
 ·refine⟨?_,h5⟩;obtain⟨a,b,d,e,f⟩:=c;simp only at h1 h2 h3 h4;subst h1 h2 h3 h4;rfl
 ·omega
structure Flw(m m':qH)(w':qE):Prop where
 len:m'.C.length=m.C.length
 root:m'.O=m.O
 rx:m'.R=m.R
 keep:∀(k:Nat)(c:qC),m.C[k]?=some c->(c.K≠13\/c.W=[])->m'.C[k]?=some c
 nv:nV m'.C<=nV m.C
 nf:nF m.C<=nF m'.C
 stop:w'.T=1\/∃k:Nat,w'=vW k/\m'.C[k]?=some (qg [])
theorem Ze:∀(n:Nat){m:qH}{w:qE},MM m (w::P) O->nV m.C<=n->MM (flw n m w).1 ((flw n m w).2::P) O/\Flw m (flw n m w).1 (flw n m w).2
 | n,m,w,h,hn=>by
  obtain⟨k,c,e1,e2,e3⟩:=h.pw w (.head _);by_cases ht:w.T=2
  ·have hk:c.K=13:=by
    rcases e3 with⟨q,_⟩ | ⟨_,q⟩
    ·omega
    ·exact q
   obtain⟨ho,ws,hv,hl⟩:=h.var e2 hk;have hpos:=qHU e2 hk;obtain⟨n',rfl⟩:∃n',n=n'+1:=⟨n-1,by omega⟩;have hca:za m w.I=c:=by rw[e1];exact Je e2
   have hwv:w=vW k:=by
    obtain⟨t,a⟩:=w;simp only at ht e1;subst ht e1;rfl
   cases ws with
   | nil=>
    have e:flw (n'+1) m w=(m,w):=by
     rw[flw,iP ht,hca,hv];rfl
    rw[e];exact⟨h,rfl,rfl,rfl,λ_ _ q _=>q,nLr _,nLr _,.inr ⟨k,hwv,by rw[e2,hv]⟩⟩
   | cons x r=>
    have hr:r=[]:=by cases r with | nil=>rfl | cons a r=>simp at hl
    subst hr;have e:flw (n'+1) m w=flw n' (qV m w.I) x:=by
     rw[flw,iP ht,hca,hv];rfl
    have h1:=MI.rel (Q:=[w]) h e2 ho (by omega) (λy hy=>by simp only[lMg]at hy;rw[hy];exact e1) (by rw[hv];simp[zU,qg]);have hrel:qV m w.I={m with C:=m.C.set k (zq m.F),F:=(k:Int)}:=by
     unfold qV;rw[e1,iTn]
    have h2:MM (qV m w.I) (x::P) O:=by
     rw[hrel,hv]at*;exact h1
    have hnv:=qHV (c':=zq m.F) e2;have hnf:=Zn (c':=zq m.F) e2;rw[iP hk,iN (by simp[zq])]at hnv;rw[iN (by omega),iP (by simp[zq])]at hnf;have hcells:(qV m w.I).C=m.C.set k (zq m.F):=by rw[hrel]
    obtain⟨g1,g2⟩:=Ze n' h2 (by rw[hcells];omega);rw[e];refine⟨g1,by rw[g2.len,hcells,lLs],by rw[g2.root,hrel],by rw[g2.rx,hrel],λi d hd hq=>?_,by have:=g2.nv;rw[hcells]at this;omega,by have:=g2.nf;rw[hcells]at this;omega,g2.stop⟩;refine g2.keep i d ?_ hq;rw[hcells];by_cases q:i=k
    ·subst q;rw[e2]at hd;cases hd;rcases hq with hq | hq
     ·exact absurd hk hq
     ·rw[hv]at hq;simp[qg]at hq
    ·rw[zd q];exact hd
  ·have e:flw n m w=(m,w):=by
    cases n with
    | zero=>rfl
    | succ n=>rw[flw,iN ht]
   have h1:w.T=1:=by
    rcases e3 with⟨q,_⟩ | ⟨q,_⟩
    ·exact q
    ·exact absurd q ht
   rw[e];exact⟨h,rfl,rfl,rfl,λ_ _ q _=>q,nLr _,nLr _,.inl h1⟩
theorem qoS{a b:qE}(h:MM m (a::b::P) O):MM (wQ m a b) P O/\(wQ m a b).C.length=m.C.length/\nF m.C<=nF (wQ m a b).C/\(wQ m a b).O=m.O:=by
 obtain⟨g1,g2⟩:=Ze (nV m.C) h (nLr _);unfold wQ;generalize flw (nV m.C) m a=r at g1 g2|-;obtain⟨m1,a1⟩:=r;have g3:MM m1 (b::a1::P) O:=MI.perm g1 (List.Perm.swap _ _ _);obtain⟨k1,k2⟩:=Ze (nV m1.C) g3 (nLr _);simp only at g1 g2 k1 k2|-;generalize flw (nV m1.C) m1 b=s at k1 k2|-;obtain⟨m2,b1⟩:=s;simp only at k1 k2|-;have k3:MM m2 (a1::b1::P) O:=MI.perm k1 (List.Perm.swap _ _ _);have hlen:m2.C.length=m.C.length:=by rw[k2.len,g2.len]
 have hnf:nF m.C<=nF m2.C:=nLt g2.nf k2.nf;have hroot:m2.O=m.O:=by rw[k2.root,g2.root]
 have hstop:a1.T=1\/∃k:Nat,a1=vW k/\m2.C[k]?=some (qg []):=by
  rcases g2.stop with q | ⟨k,q1,q2⟩
  ·exact .inl q
  ·exact .inr ⟨k,q1,k2.keep k _ q2 (.inr rfl)⟩
 have agk:∀w:qE,wOk m2.C w->w.T=1->∃k:Nat,w=aW k:=λw hw ht=>by
  obtain⟨k,c,e1,_,_⟩:=hw;refine⟨k, ?_⟩;obtain⟨t,x⟩:=w;simp only at ht e1;subst ht e1;rfl
 rcases hstop with ha | ⟨ka,rfl,hca⟩
 ·obtain⟨i,rfl⟩:=agk a1 (k3.pw _ (.head _)) ha;rcases k2.stop with hb | ⟨kb,rfl,hcb⟩
  ·obtain⟨j,rfl⟩:=agk b1 (k3.pw _ (.tail _ (.head _))) hb;rw[iP ⟨rfl,rfl⟩];exact⟨(MI.redex k3).2,hlen,hnf,hroot⟩
  ·rw[iN (by simp[aW,vW]),iN (by simp[aW,vW]),iN (by simp[aW])];have hne:(aW i).I≠(kb:Int):=by
    intro q;obtain⟨k,c,e1,e2,e3⟩:=k3.pw (aW i) (.head _);have:k=kb:=by rw[q]at e1;omega
    subst this;rw[hcb]at e2;cases e2;rcases e3 with⟨_,q⟩ | ⟨q,_⟩
    ·simp[qg,qy]at q
    ·simp[aW]at q
   have:=MI.bind (MI.perm k3 (List.Perm.swap _ _ _)) hcb hne;have hp:qr m2 (vW kb).I [aW i]={m2 with C:=m2.C.set kb (qg [aW i])}:=by
    unfold qr;have:(vW kb).I=(kb:Int):=rfl;rw[this,Je hcb,iTn];rfl
   rw[hp];have hs:=Zn (c':=qg [aW i]) hcb;simp only[qg]at hs;simp at hs;exact⟨this,by simp[hlen],by simp only[qg];omega,hroot⟩
 ·have hpv:∀x:qE,qr m2 (vW ka).I [x]={m2 with C:=m2.C.set ka (qg [x])}:=λx=>by
   unfold qr;have:(vW ka).I=(ka:Int):=rfl;rw[this,Je hca,iTn];rfl
  rw[iN (by simp[vW])];by_cases heq:vW ka=b1
  ·subst heq;rw[iP rfl];have:=MI.rel (Q:=[vW ka,vW ka]) k3 hca (qIF k3 hca rfl) (by simp[qg]) (λw hw=>by simp at hw;rw[hw];rfl) (by simp[zU,qg]);have hrel:qV m2 (vW ka).I={m2 with C:=m2.C.set ka (zq m2.F),F:=(ka:Int)}:=by
    unfold qV;have:(vW ka).I=(ka:Int):=rfl;rw[this,iTn]
   rw[hrel];have hs:=Zn (c':=zq m2.F) hca;simp[qg,zq]at hs;exact⟨this,by simp[hlen],by simp only[zq];omega,hroot⟩
  ·rw[iN heq,iP (show (vW ka).T=2 from rfl),hpv];have hne:b1.I≠(ka:Int):=by
    intro q;obtain⟨k,c,e1,e2,e3⟩:=k3.pw b1 (.tail _ (.head _));have:k=ka:=by rw[q]at e1;omega
    subst this;rw[hca]at e2;cases e2;rcases e3 with⟨_,q⟩ | ⟨q,_⟩
    ·simp[qg,qy]at q
    ·apply heq;obtain⟨t,x⟩:=b1;simp only at q e1;subst q e1;rfl
   have:=MI.bind k3 hca hne;have hs:=Zn (c':=qg [b1]) hca;simp[qg]at hs;exact⟨this,by simp[hlen],by simp only[qg];omega,hroot⟩
def lws:List qp->List qE
 |[]=>[]
 | l::r=>l.A::l.B::lws r
def JW(m:qH)(ls:List qp):qH:=ls.foldl (λm l=>wQ m l.A l.B) m
theorem qBY:∀(ls:List qp){m:qH},MM m (lws ls++P) O->MM (JW m ls) P O/\(JW m ls).C.length=m.C.length/\(JW m ls).O=m.O
 |[],m,h=>⟨h,rfl,rfl⟩
 | l::r,m,h=>by
  obtain⟨g1,g2,_,g4⟩:=qoS (m:=m) (a:=l.A) (b:=l.B) (P:=lws r++P) h;obtain⟨k1,k2,k3⟩:=qBY r g1;exact⟨k1,by rw[<-g2];exact k2,by rw[<-g4];exact k3⟩
end
def awI(a:Int):qE:=⟨1,a⟩
def vwI(a:Int):qE:=⟨2,a⟩
def QX(lev:Int)(s:qH×List qE×List qE×List qp)(w:qE):qH×List qE×List qE×List qp:=
 let m1:=qW s.1 ⟨4,lev,0,[],[]⟩;let m2:=qW m1 (qg []);let m3:=qW m2 (qg [])
 (qr m3 s.1.F [vwI m1.F,vwI m2.F],s.2.1++[vwI m1.F],s.2.2.1++[vwI m2.F],s.2.2.2++[⟨w,awI s.1.F⟩])
def zg(y:qC):qC:=⟨y.K,y.L,y.V,y.D,[]⟩
def WR(m:qH)(y:qC):qH:=qW (qW m (zg y)) (zg y)
def zR(m:qH)(x y:qC)(i:Nat):qH×List qE×List qE×List qp:=
 (y.W.take i).foldl (QX x.L) (WR m y,[],[],[⟨x.W.getD 0 ⟨0,0⟩,awI m.F⟩,⟨x.W.getD 1 ⟨0,0⟩,awI (qW m (zg y)).F⟩])
def wc(m:qH)(x y:qC):qH×List qp:=
 let s:=zR m x y y.W.length
 (qr (qr s.1 m.F s.2.1) (qW m (zg y)).F s.2.2.1,s.2.2.2)
def QW(s:qH×List qp)(w:qE):qH×List qp:=(qW s.1 ⟨5,0,0,[],[]⟩,s.2++[⟨w,awI s.1.F⟩])
def zr(m:qH)(y:qC)(i:Nat):qH×List qp:=(y.W.take i).foldl QW (m,[])
section
variable {P Q:List qE} {O:Nat->Bool} {k j:Nat} {c c':qC} {m m':qH}
structure Tk(m m':qH)(k:Nat)(c:qC):Prop where
 fr:m.F=k
 lt:k<m.C.length
 at':m'.C=m.C.set k c
 old:∃d,m.C[k]?=some d/\d.K=0
 nf:c.K≠0->nF m'.C+1=nF m.C
 root:m'.O=m.O
 rx:m'.R=m.R
theorem Tk.len(t:Tk m m' k c):m'.C.length=m.C.length:=by rw[t.at',lLs]
theorem Tk.new(t:Tk m m' k c):m'.C[k]?=some c:=by rw[t.at'];exact gSs t.lt
theorem Tk.keep(t:Tk m m' k c){i:Nat}{e:qC}(h:m.C[i]?=some e)(hk:e.K≠0):m'.C[i]?=some e/\i≠k:=by
 obtain⟨d,d1,d2⟩:=t.old;have:i≠k:=by rintro rfl;rw[d1]at h;cases h;exact hk d2
 exact⟨by rw[t.at',zd this];exact h,this⟩
theorem wW(h:MM m P O)(hf:0<nF m.C):∃(k:Nat)(d:qC),m.F=(k:Int)/\m.C[k]?=some d/\d.K=0/\O k=false/\(∀c,qW m c={m with C:=m.C.set k c,F:=d.V}/\Tk m (qW m c) k c):=by
 obtain⟨k,d,e1,e2,e3,e4,_⟩:=MI.head h (MI.fr0 h hf);refine⟨k,d,e1,e2,e3,e4,λc=>?_⟩;have e:qW m c={m with C:=m.C.set k c,F:=d.V}:=by
  unfold qW;rw[e1,Je e2,iTn]
 refine⟨e,e1,zO e2,by rw[e],⟨d,e2,e3⟩,λhc=>?_,by rw[e],by rw[e]⟩;have:=Zn (c':=c) e2;rw[iP e3,iN hc]at this;rw[e];exact this
theorem Qn(h:MM m P O)(hf:0<nF m.C)(hc:qy c.K=true):∃k,O k=false/\Tk m (qW m c) k c/\MM (qW m c) (aW k::P) (opO O k):=by
 obtain⟨k,d,e1,e2,e3,e4,e5⟩:=wW h hf;obtain⟨f1,f2⟩:=e5 c;refine⟨k,e4,f2, ?_⟩;have:=MI.takeA (c:=c) h e1 e2 hc;rw[f1];exact this
theorem YP(h:MM m P O)(hf:0<nF m.C):∃k,O k=false/\Tk m (qW m (qg [])) k (qg [])/\MM (qW m (qg [])) (vW k::vW k::P) O:=by
 obtain⟨k,d,e1,e2,e3,e4,e5⟩:=wW h hf;obtain⟨f1,f2⟩:=e5 (qg []);refine⟨k,e4,f2, ?_⟩;have:=MI.takeV h e1 e2;rw[f1];exact this
theorem j7(hc:m.C[k]?=some c)(ws:List qE):qr m (k:Int) ws={m with C:=m.C.set k {c with W:=ws}}:=by
 unfold qr;rw[Je hc,iTn]
theorem X6{ws:List qE}(h:MM m (ws++P) O)(hc:m.C[k]?=some c)(ho:O k=true)(hf:zw {c with W:=ws}):MM (qr m (k:Int) ws) P (clO O k)/\nF (qr m (k:Int) ws).C=nF m.C/\(qr m (k:Int) ws).C.length=m.C.length:=by
 rw[j7 hc];have h1:=MI.wopen (c':={c with W:=ws}) h hc ho rfl;have h2:=MI.close (k:=k) (c:={c with W:=ws}) h1 (jT hc) ho hf;refine⟨h2, ?_,by simp⟩;have:=Zn (c':={c with W:=ws}) hc;simp only at this|-;omega
theorem qFM(h:O k=false):clO (opO O k) k=O:=by
 funext i;unfold clO opO;by_cases q:i=k
 ·subst q;simp[h]
 ·simp[q]
theorem YO(h:MM m (c.W++P) O)(hf:0<nF m.C)(hc:qy c.K=true)(hF:zw c):∃k,O k=false/\Tk m (qW m c) k c/\MM (qW m c) (aW k::P) O:=by
 obtain⟨k,h1,h2,h3⟩:=Qn h hf hc;refine⟨k,h1,h2, ?_⟩;have h4:MM (qW m c) (c.W++(aW k::P)) (opO O k):=MI.perm h3 (List.perm_middle.symm);have h5:=MI.close h4 h2.new (by simp[opO]) hF;rw[qFM h1]at h5;exact h5
theorem agf{c:qC}(h:qy c.K=true)(hf:zw c):qk (qZ c)=true:=by
 rcases hf with⟨_,q⟩ | ⟨q,_⟩ | ⟨q,_⟩
 ·exact q
 ·rw[q]at h;cases h
 ·rw[q]at h;cases h
theorem qGJ{c:qC}{ws:List qE}(h:qy c.K=true)(hf:zw c)(hl:ws.length=c.W.length):zw {c with W:=ws}:=by
 refine .inl ⟨h, ?_⟩;have:=agf h hf;unfold qZ at this|-;simp only;rw[hl];exact this
theorem fanF{lev:Int}(h:inI lev 0 8=true){ws:List qE}(hl:ws.length=2):zw ⟨4,lev,0,[],ws⟩:=by
 refine .inl ⟨rfl, ?_⟩;simp[qZ,qk,hl,jr,fieldsOf,zu,jQ,z6,h]
theorem eraF:zw ⟨5,0,0,[],[]⟩:=.inl ⟨rfl,by simp[qZ,qk,jr,fieldsOf,zu,jQ,z6,JU,inI]⟩
theorem VV:∀{a b:List qp},lws (a++b)=lws a++lws b
 |[],b=>rfl
 | x::a,b=>by simp[lws,VV]
structure ZV(m0:qH)(y:qC)(P:List qE)(O:Nat->Bool)(ck dk:Nat)(s:qH×List qE×List qE×List qp)(i:Nat):Prop where
 mm:MM s.1 (s.2.1++s.2.2.1++lws s.2.2.2++y.W.drop i++P) (opO (opO O ck) dk)
 us:s.2.1.length=i
 vs:s.2.2.1.length=i
 c1:s.1.C[ck]?=some (zg y)
 c2:s.1.C[dk]?=some (zg y)
 nf:nF m0.C=nF s.1.C+2+3*i
 len:s.1.C.length=m0.C.length
theorem qm6{m0:qH}{y:qC}{lev:Int}{ck dk i:Nat}{s:qH×List qE×List qE×List qp}(hy:qy y.K=true)(hl:inI lev 0 8=true)(hne:ck≠dk)(h:ZV m0 y P O ck dk s i)(hi:i<y.W.length)(hf:2<nF s.1.C):ZV m0 y P O ck dk (QX lev s y.W[i]) (i+1):=by
 obtain⟨mm,us,vs,c1,c2,nf,len⟩:=h;obtain⟨f,f1,f2,f3⟩:=Qn (c:=⟨4,lev,0,[],[]⟩) mm (by omega) rfl;have k4:(⟨4,lev,0,[],[]⟩:qC).K≠0:=by simp
 have n1:=f2.nf k4;obtain⟨u,u1,u2,u3⟩:=YP f3 (by omega);have n2:=u2.nf (by decide);obtain⟨v,v1,v2,v3⟩:=YP u3 (by omega);have n3:=v2.nf (by decide);have hk0:(zg y).K≠0:=by intro q;unfold zg at q;simp only at q;rw[q]at hy;cases hy
 have cf:(qW (qW (qW s.1 ⟨4,lev,0,[],[]⟩) (qg [])) (qg [])).C[f]?=some ⟨4,lev,0,[],[]⟩:=(v2.keep (u2.keep f2.new k4).1 k4).1;have k1:=(v2.keep (u2.keep (f2.keep c1 hk0).1 hk0).1 hk0).1;have k2:=(v2.keep (u2.keep (f2.keep c2 hk0).1 hk0).1 hk0).1;have g1:=(f2.keep c1 hk0).2;have g2:=(f2.keep c2 hk0).2;have hp:(vW v::vW v::vW u::vW u::aW f::(s.2.1++s.2.2.1++lws s.2.2.2++y.W.drop i++P)).Perm ([vW u,vW v]++((s.2.1++[vW u])++(s.2.2.1++[vW v])++(lws s.2.2.2++[y.W[i],aW f])++y.W.drop (i+1)++P)):=by
  rw[lDc hi];rw[List.perm_iff_count];intro a;simp only[List.count_append,List.count_cons,List.count_nil];omega
 have w1:=MI.perm v3 hp;have hof:opO (opO (opO O ck) dk) f f=true:=by simp[opO]
 obtain⟨p1,p2,p3⟩:=X6 (k:=f) (c:=⟨4,lev,0,[],[]⟩) w1 cf hof (fanF hl rfl);have hoo:clO (opO (opO (opO O ck) dk) f) f=opO (opO O ck) dk:=qFM f1;rw[hoo]at p1;have e1:s.1.F=(f:Int):=f2.fr;have e2:(qW s.1 ⟨4,lev,0,[],[]⟩).F=(u:Int):=u2.fr;have e3:(qW (qW s.1 ⟨4,lev,0,[],[]⟩) (qg [])).F=(v:Int):=v2.fr;have ef:QX lev s y.W[i]=(qr (qW (qW (qW s.1 ⟨4,lev,0,[],[]⟩) (qg [])) (qg [])) (f:Int) [vW u,vW v],s.2.1++[vW u],s.2.2.1++[vW v],s.2.2.2++[⟨y.W[i],aW f⟩]):=by
  unfold QX;simp only[e1,e2,e3];rfl
 rw[ef];refine⟨?_,by simp[us],by simp[vs], ?_, ?_,by simp only;rw[p2];omega,by simp only;rw[p3,v2.len,u2.len,f2.len,len]⟩
 ·simp only;rw[VV];exact p1
 ·simp only;rw[j7 cf];simp only;rw[zd g1];exact k1
 ·simp only;rw[j7 cf];simp only;rw[zd g2];exact k2
theorem qBC{x y:qC}(h:MM m (x.W++y.W++P) O)(hy:qy y.K=true)(hyF:zw y)(hx:x.W.length=2)(hl:inI x.L 0 8=true)(hf:2+3*y.W.length<=nF m.C):MM (wc m x y).1 (lws (wc m x y).2++P) O/\(wc m x y).1.C.length=m.C.length/\(∀i,i<=y.W.length->∃ck dk,ck≠dk/\m.F=(ck:Nat)/\(qW m (zg y)).F=(dk:Nat)/\ZV m y P O ck dk (zR m x y i) i):=by
 have hk:qy (zg y).K=true:=hy;have hk0:(zg y).K≠0:=by intro q;unfold zg at q;simp only at q;rw[q]at hy;cases hy
 obtain⟨x0,x1,ex⟩:∃a b,x.W=[a,b]:=by
  match h:x.W,hx with
  |[a,b],_=>exact⟨a,b,rfl⟩
 obtain⟨ck,a1,a2,a3⟩:=Qn (c:=zg y) h (by omega) hk;have n1:=a2.nf hk0;obtain⟨dk,b1,b2,b3⟩:=Qn (c:=zg y) a3 (by omega) hk;have n2:=b2.nf hk0;have hne:ck≠dk:=(b2.keep a2.new hk0).2;have I:∀i,i<=y.W.length->ZV m y P O ck dk (zR m x y i) i:=by
  intro i
  induction i with
  | zero=>
   intro _;have e0:zR m x y 0=(WR m y,[],[],[⟨x0,aW ck⟩,⟨x1,aW dk⟩]):=by
    unfold zR;rw[ex,a2.fr,b2.fr];rfl
   rw[e0];refine⟨?_,rfl,rfl,(b2.keep a2.new hk0).1,b2.new,by unfold WR;simp only;omega,by unfold WR;simp only;rw[b2.len,a2.len]⟩;refine MI.perm b3 ?_;rw[ex,List.perm_iff_count];intro a;simp only[List.count_append,List.count_cons,List.count_nil,lws,List.drop_zero];omega
  | succ i ih=>
   intro hi;have hI:=ih (by omega);have es:zR m x y (i+1)=QX x.L (zR m x y i) (y.W[i]'(by omega)):=by
    unfold zR;rw[tA1,gEg (show i<y.W.length by omega),Option.toList_some,List.foldl_append];rfl
   rw[es];refine qm6 hy hl hne hI (by omega) ?_;have:=hI.nf;omega
 refine⟨?_, ?_,λi hi=>⟨ck,dk,hne,a2.fr,b2.fr,I i hi⟩⟩
 all_goals
  obtain⟨mm,us,vs,c1,c2,nf,len⟩:=I y.W.length (nLr _);have ed:wc m x y=(qr (qr (zR m x y y.W.length).1 (ck:Int) (zR m x y y.W.length).2.1) (dk:Int) (zR m x y y.W.length).2.2.1,(zR m x y y.W.length).2.2.2):=by
   unfold wc;simp only[a2.fr,b2.fr]
  rw[ed];generalize zR m x y y.W.length=s at*;have hw1:MM s.1 (s.2.1++(s.2.2.1++(lws s.2.2.2++P))) (opO (opO O ck) dk):=by
   have:=mm;rw[List.drop_length,lAn,lAa,lAa]at this;exact this
  have hyW:(zg y)={y with W:=[]}:=rfl;obtain⟨p1,p2,p3⟩:=X6 (k:=ck) (c:=zg y) hw1 c1 (by simp[opO]) (qGJ (c:=y) hy hyF us);have c2':(qr s.1 (ck:Int) s.2.1).C[dk]?=some (zg y):=by
   rw[j7 c1];simp only;rw[zd (Ne.symm hne)];exact c2
  obtain⟨r1,r2,r3⟩:=X6 (k:=dk) (c:=zg y) p1 c2' (by simp[clO,opO];exact Ne.symm hne) (qGJ (c:=y) hy hyF vs)
 ·have ho:clO (clO (opO (opO O ck) dk) ck) dk=O:=by
   have b1':opO O ck dk=false:=b1;funext i;unfold clO opO;unfold opO at b1';by_cases q:i=ck
   ·subst q;simp[a1,hne]
   ·by_cases q2:i=dk
    ·subst q2;simp at b1'|-;exact b1'.2
    ·simp[q,q2]
  rw[ho]at r1;exact r1
 ·simp only;rw[r3,p3,len]
theorem qBE{y:qC}(h:MM m (y.W++P) O)(hf:y.W.length<=nF m.C):∀i,i<=y.W.length->MM (zr m y i).1 (lws (zr m y i).2++y.W.drop i++P) O/\nF m.C=nF (zr m y i).1.C+i/\(zr m y i).1.C.length=m.C.length:=by
 intro i
 induction i with
 | zero=>intro _;exact⟨h,rfl,rfl⟩
 | succ i ih=>
  intro hi;obtain⟨g1,g2,g3⟩:=ih (by omega);have es:zr m y (i+1)=QW (zr m y i) (y.W[i]'(by omega)):=by
   unfold zr;rw[tA1,gEg (show i<y.W.length by omega),Option.toList_some,List.foldl_append];rfl
  obtain⟨k,k1,k2,k3⟩:=YO (c:=⟨5,0,0,[],[]⟩) (P:=lws (zr m y i).2++y.W.drop i++P) g1 (by omega) rfl eraF;have n1:=k2.nf (by decide);rw[es];unfold QW;simp only;refine⟨?_,by omega,by rw[k2.len,g3]⟩;refine MI.perm k3 ?_;rw[VV,lDc (show i<y.W.length by omega),List.perm_iff_count];intro a;have e:awI (zr m y i).1.F=aW k:=by rw[k2.fr];rfl
  rw[e];simp only[List.count_append,List.count_cons,List.count_nil,lws];omega
end
def fzp(n id:Nat)(o:Option qA)(st:VSt):VSt:=match o with
 | some (.row w [v] true)=>if w=0 then st else{s:=(n,.ept v 0)::st.s,l:=st.l,h:=st.h.set id .dead}
 | _=>st
def fzo(n:Nat)(v:Option AV)(st:VSt):VSt:=match v with
 | none=>st
 | some (.ept _ _)=>st
 | some (.lst _ _ _)=>st
 | some (.int _ _)=>st
 | some (.bool _)=>st
 | some .nils=>st
 | some (.agg _)=>st
 | some (.ptr id 0 0)=>fzp n id st.h[id]? st
 | _=>QY n st
section
variable {n id:Nat} {s m:qt} {h:List qA} {v x:AV} {st:VSt}
@[go_sem] theorem quG:QY n ⟨s,m,h⟩=fzo n (get s n) ⟨s,m,h⟩:=by
 unfold fzo;split<;>rename_i e<;>try (simp only[QY,e];done)
 ·simp only[QY,e,fzp];split<;>rename_i e2<;>simp only[e2]
  ·split<;>split<;>first | rfl | omega
@[go_sem] theorem quM:get [] n=none:=nr rfl
@[go_sem] theorem quI:fzo n none st=st:=nr rfl
@[go_sem] theorem quH{j:Nat}:fzo n (some (.ept v j)) st=st:=nr rfl
@[go_sem] theorem quJ:fzo n (some (.ptr id 0 0)) ⟨s,m,h⟩=fzp n id h[id]? ⟨s,m,h⟩:=nr rfl
@[go_sem] theorem quK{w:Nat}:fzp n id (some (.row w [v] true)) ⟨s,m,h⟩=if w=0 then⟨s,m,h⟩else⟨(n,.ept v 0)::s,m,h.set id .dead⟩:=nr rfl
end
theorem c397{f:AV}(p:Int->Bool)(hft:f.tree=true)(xs:List Int)(hf:∀x∈xs,XK Gm f [qQ x] (.bool (p x)))(hl:xs.length<=1048576):Pure Gm 397 [lQ xs,f] (.bool (xs.any p)):=
 WO shI (gc:=774) (gk _ F397) (gk _ F774) f p hft xs hf hl
theorem c859{f:AV}(p:qD->Bool)(hft:f.tree=true)(xs:List qD)(hf:∀x∈xs,XK Gm f [x.enc] (.bool (p x)))(hl:xs.length<=1048576):Pure Gm 859 [.lst 1 (xs.map qD.enc) false,f] (.bool (xs.any p)):=
 WO qD.isSh (gc:=1179) (gk _ F859) (gk _ qDU) f p hft xs hf hl
theorem c712{f:AV}(p:qI->Bool)(hft:f.tree=true)(xs:List qI)(hf:∀x∈xs,XK Gm f [x.enc] (.bool (p x)))(hl:xs.length<=1048576):Pure Gm 712 [.lst 2 (xs.map qI.enc) false,f] (.bool (xs.any p)):=
 WO qI.isSh (gc:=1098) (gk _ F712) (gk _ qDS) f p hft xs hf hl
theorem qAD{α:Type}(p:α->Bool)(xs:List α):(!xs.any λx=> !p x)=xs.all p:=by
 induction xs with
 | nil=>rfl
 | cons x xs ih=>simp only[List.any_cons,lAc,Bool.not_or,Bool.not_not,ih]
theorem qAQ{k:Int}:Pure Gm 1487 [iI k] (.bool (JU k)):=by
 refine pJ Kw ?_;simp only[Kw,qN,go_sem]
 repeat' (first | (refine qX rfl ?_;simp only[go_sem]) | (first | (apply zH<;>intro hc<;>simp only[hc,go_sem]) | (apply qT<;>intro hc<;>simp only[hc,go_sem])) | refine qM rfl ?_)
 all_goals ((simp only[JU,inI,AV.bool.injEq];rw[Bool.eq_iff_iff];simp at*;try omega))
theorem qAN{k:Int}:Pure Gm 1375 [iI k] (.bool (jQ k)):=by
 refine pJ KZ ?_;simp only[KZ,qN,go_sem]
 repeat' (first | (refine qX rfl ?_;simp only[go_sem]) | (first | (apply zH<;>intro hc<;>simp only[hc,go_sem]) | (apply qT<;>intro hc<;>simp only[hc,go_sem])) | (refine qL (qAQ) ?_;simp only[go_sem]) | refine qM rfl ?_)
 all_goals ((simp only[jQ,JU,inI,AV.bool.injEq]at*;rw[Bool.eq_iff_iff];simp at*;try omega))
theorem qE1{l:Int}:Pure Gm 1495 [iI l] (.bool (inI l 0 8)):=by
 refine pJ Kz ?_;simp only[Kz,qN,go_sem]
 repeat' (first | (refine qX rfl ?_;simp only[go_sem]) | (first | (apply zH<;>intro hc<;>simp only[hc,go_sem]) | (apply qT<;>intro hc<;>simp only[hc,go_sem])) | refine qM rfl ?_)
 all_goals ((simp only[inI,AV.bool.injEq];rw[Bool.eq_iff_iff];simp at*;try omega))
theorem qAP{k l:Int}:Pure Gm 1389 [iI k,iI l] (.bool (zu k l)):=by
 refine pJ Kf ?_;simp only[Kf,qN,go_sem]
 repeat' (first | (refine qX rfl ?_;simp only[go_sem]) | (first | (apply zH<;>intro hc<;>simp only[hc,go_sem]) | (apply qT<;>intro hc<;>simp only[hc,go_sem])) | (refine qL (qAQ) ?_;simp only[go_sem]) | (refine qL (qAN) ?_;simp only[go_sem]) | (refine qL (qE1) ?_;simp only[go_sem]) | refine qM rfl ?_)
 all_goals ((unfold zu;split<;>(simp only[jQ,JU,inI,AV.bool.injEq]at* <;>(rw[Bool.eq_iff_iff];simp at* <;>try omega))))
theorem c796{n:Int}:Pure Gm 796 [iI n] (.bool (jv n)):=by
 refine pJ F796 ?_;simp only[F796,qN,go_sem]
 repeat' (first | (refine qX rfl ?_;simp only[go_sem]) | (first | (apply zH<;>intro hc<;>simp only[hc,go_sem]) | (apply qT<;>intro hc<;>simp only[hc,go_sem])) | refine qM rfl ?_)
 all_goals (simp_all[jv,inI]<;>omega)
theorem qkE{n:Int}:Pure Gm 1050 [iI n] (.bool (inI n 1 6)):=by
 refine pJ UZ ?_;simp only[UZ,qN,go_sem]
 repeat' (first | (refine qX rfl ?_;simp only[go_sem]) | (first | (apply zH<;>intro hc<;>simp only[hc,go_sem]) | (apply qT<;>intro hc<;>simp only[hc,go_sem])) | refine qM rfl ?_)
 all_goals ((simp only[inI,AV.bool.injEq];rw[Bool.eq_iff_iff];simp at*;try omega))
theorem qER{n:Int}:Pure Gm 1051 [iI n] (.bool (inI n (-2147483648) 2147483647)):=by
 refine pJ Ua ?_;simp only[Ua,qN,go_sem]
 repeat' (first | (refine qX rfl ?_;simp only[go_sem]) | (first | (apply zH<;>intro hc<;>simp only[hc,go_sem]) | (apply qT<;>intro hc<;>simp only[hc,go_sem])) | refine qM rfl ?_)
 all_goals ((simp only[inI,AV.bool.injEq];rw[Bool.eq_iff_iff];simp at*;try omega))
theorem qlI{n:Int}:Pure Gm 1390 [iI n] (.bool (!jv n)):=by
 refine pJ Kg ?_;simp only[Kg,qN,go_sem]
 repeat' (first | (refine qX rfl ?_;simp only[go_sem]) | (first | (apply zH<;>intro hc<;>simp only[hc,go_sem]) | (apply qT<;>intro hc<;>simp only[hc,go_sem])) | (refine qL (c796) ?_;simp only[go_sem]) | refine qM rfl ?_)
 all_goals (simp_all)
theorem qCR{E:Ev}{o:Option AV}{v:AV}{k:Nat}{l:List qG}{ks:List Fr1}{s m:qt}{h:List qA}{Q:qn->VSt->Prop}(ho:o=some v)(hr:R E (.ops l::ks) ⟨(k,v)::s,m,h⟩ Q):Put E o (some k) l ks ⟨s,m,h⟩ Q:=by
 subst ho;rw[qI6];exact hr
theorem qlG{k:Int}{n:Nat}(hn:n<=1048576):Pure Gm 1388 [iI k,iI (n:Int)] (iI (if k=9 then(n:Int)-1 else 0)):=by
 refine pJ Ke ?_;simp only[Ke,qN,go_sem];apply qT<;>intro hc<;>simp only[hc,go_sem]
 ·rw[wsA];refine qM rfl ?_;simp_all
 ·refine qM rfl ?_;simp_all
theorem qlF{k f:Int}:Pure Gm 1387 [iI k,iI f] (iI (jr k f)):=by
 refine pJ Kd ?_;simp only[Kd,qN,go_sem]
 repeat' (first
  | (first | (refine zH ?_ ?_<;>intro hc<;>simp only[hc,go_sem]) | (refine qT ?_ ?_<;>intro hc<;>simp only[hc,go_sem]))
  | (refine qL qAQ ?_;simp only[go_sem])
  | refine qM rfl ?_)
 all_goals simp only[Bool.not_eq_false',bNt,Bool.not_true,Bool.not_false,dTe,decide_eq_false_iff_not,JU,inI,bAt,Bool.and_eq_false_iff]at*
 case refine_2.refine_1.refine_1.refine_2=>
  subst hc;have:k=1\/k=2\/k=3\/k=4\/k=5\/k=6\/k=7\/k=8\/k=10\/k=11\/k=12:=by omega
  rcases this with rfl | rfl | rfl | rfl | rfl | rfl | rfl | rfl | rfl | rfl | rfl
  all_goals
   first | refine qCR (v:=iI 1) rfl ?_ | refine qCR (v:=iI 2) rfl ?_ | refine qCR (v:=iI 3) rfl ?_
   simp only[go_sem];refine qM rfl rfl
 all_goals try rw[wsA]
 all_goals (simp only[jr,inI,AV.int.injEq,true_and,bAt,dTe];repeat' split)
 all_goals try omega
set_option maxHeartbeats 2000000
theorem qlH{x:qB}(hn:x.P.length<=1048576):Pure Gm 1388 [iI x.K,iI (x.P.length:Int)] (iI (fieldsOf x)):=qlG hn
theorem Yf{x:qB}(h1:¬(x.P.length:Int)=0)(h2:jr x.K (fieldsOf x)=x.P.length)(h3:zu x.K x.L=true):qk x=z6 x:=by
 have h:(0:Int)<x.P.length:=by omega
 unfold qk;rw[h2,h3];simp only[dEt h,decide_true,Bool.true_and]
theorem qET{x:qB}(hd:x.D.length<=1048576)(hn:x.P.length<=1048576):Pure Gm 1097 [x.enc] (.bool (qk x)):=by
 refine pI Uf (by simp[AV.trees,go_sem]) rfl ?_;simp only[Uf,qN,go_sem]
 repeat' (first
  | (refine qX rfl ?_;simp only[go_sem])
  | (first | (refine zH ?_ ?_<;>intro hc<;>simp only[hc,go_sem]) | (refine qT ?_ ?_<;>intro hc<;>simp only[hc,go_sem]))
  | (refine qL (qlH hn) ?_;simp only[go_sem])
  | (refine qL qlF ?_;simp only[go_sem])
  | (refine qL qAP ?_;simp only[go_sem])
  | (refine qL (c397 (f:=.fn 1390 []) (λn=> !jv n) rfl x.D (λ_ _=>⟨1390,[],rfl,qlI⟩) hd) ?_;simp only[qAD,go_sem])
  | (refine qL qkE ?_;simp only[go_sem])
  | (refine qL qER ?_;simp only[go_sem])
  | (refine qL c796 ?_;simp only[go_sem])
  | refine qM rfl ?_)
 case refine_1.refine_1.refine_2.refine_2.refine_2.refine_1.refine_1.refine_1=>
  obtain⟨d,hd1⟩:∃d,x.D=[d]:=List.length_eq_one_iff.1 (by have:=odT hc;omega);simp only[hd1,lMc,List.map_nil,qQ,go_sem];simp only[oMs,go_sem];refine qL qER ?_;simp only[go_sem];refine qM rfl ?_;simp only[Bool.not_eq_false',dTe,decide_eq_false_iff_not]at*;rw[Yf (by assumption) (by assumption) (by assumption)];simp[z6, *]
 all_goals simp only[Bool.not_true,Bool.not_false,bNt,Bool.not_eq_false',dTe,decide_eq_false_iff_not]at*
 all_goals first
  | (rw[Yf (by assumption) (by assumption) (by assumption)];simp only[AV.bool.injEq];rw[Bool.eq_iff_iff];simp[z6, *];done)
  | (rw[Yf (by assumption) (by assumption) (by assumption)];simp only[AV.bool.injEq];rw[Bool.eq_iff_iff];simp[z6,inI, *];omega)
  | (rw[Yf (by assumption) (by assumption) (by assumption)];simp only[AV.bool.injEq];rw[Bool.eq_iff_iff];simp[z6,inI, *];done)
  | (simp[qk, *];done)
  | (simp[qk, *];omega)
  | trace_state
theorem c711{xs:List qB}(hl:xs.length+qJ qB.sz xs<=1048576):Pure Gm 711 [.lst 5 (xs.map qB.enc) false] (.bool (wL xs)):=by
 refine pI F711 (by simp[AV.trees,AV.tree,qb qB.isSh.tree]) rfl ?_;simp only[F711,qN,go_sem];have fin (h1:1<=xs.length) (h2:xs.length<=600):wL xs=jX xs 0:=by
  unfold wL inI;rw[dEt (by omega),dEt (by omega)];rfl
 first | (apply zH<;>intro hc<;>simp only[hc,go_sem]) | (apply qT<;>intro hc<;>simp only[hc,go_sem])
 ·first | (apply zH<;>intro hc<;>simp only[hc,go_sem]) | (apply qT<;>intro hc<;>simp only[hc,go_sem])
  ·refine qM rfl ?_;simp only[AV.bool.injEq,wL,inI];simp at*;omega
  ·have h1:1<=xs.length:=by simp at*;omega
   have h2:xs.length<=600:=by simp at*;omega
   rw[fin h1 h2];refine Sem.loop (λi:Nat=>i<=xs.length/\jX xs 0=jX (xs.drop i) i) (λi=>(⟨[(13,.lst 5 (xs.map qB.enc) false),(14,iI (xs.length:Int)),(15,iI (i:Nat))],[],[]⟩:VSt)) (λi=>xs.length-i) 0 (by kernel_rfl) ⟨nZl _,by simp⟩ csA ?_;rintro i ⟨hi,hI⟩;simp only[go_sem];apply qT<;>intro hc<;>simp only[hc,go_sem]
   ·have hlt:i<xs.length:=by have:=odT hc;omega
    simp only[gMp,gEg hlt,oMs,go_sem];have hs:xs[i].D.length+xs[i].P.length<=qJ qB.sz xs:=z5 (f:=qB.sz) (gMm hlt);refine lsA ?_;simp only[go_sem];refine qL (qET (by omega) (by omega)) ?_;simp only[go_sem]
    first | (apply zH<;>intro hc<;>simp only[hc,go_sem]) | (apply qT<;>intro hc<;>simp only[hc,go_sem])
    ·first | (apply zH<;>intro hc<;>simp only[hc,go_sem]) | (apply qT<;>intro hc<;>simp only[hc,go_sem])
     ·refine qM rfl ?_;rw[hI,JQ hlt];simp_all[jX]
     ·simp only[wuA (n:=i)];refine qa (i+1) ⟨by omega, ?_⟩ (by omega) csA;rw[hI,JQ hlt];simp_all[jX]
    ·refine qM rfl ?_;rw[hI,JQ hlt];simp_all[jX]
   ·obtain rfl:i=xs.length:=by have:=odF hc;omega
    refine qM rfl ?_;rw[hI];simp[jX]
 ·refine qM rfl ?_;simp only[AV.bool.injEq,wL,inI];simp at*;omega
theorem Yn{n:qD}{a s:Nat}(ha:a<n.G.length)(hs:s<n.G[a].P.length):Pure Gm 555 [.ept n.enc 0,qI.enc ⟨(a:Int),(s:Int)⟩] (n.G[a].P[s].enc):=by
 refine pI kW (by simp[AV.trees,AV.tree,qD.tr,qI.tr]) (by exact qI.tr) ?_;simp only[kW,qN,go_sem];refine qX rfl ?_;simp only[go_sem];simp only[gMp,gEg ha,oMs,go_sem];simp only[gEg hs,oMs,go_sem];refine lsA ?_;simp only[go_sem];refine qM qI.tr ?_;rfl
theorem qIW{xs:List qB}{p:qI}(h:wU xs p=true):∃a s:Nat,p=⟨a,s⟩/\∃ha:a<xs.length,s<xs[a].P.length:=by
 simp only[wU,bAt]at h;have e1:=Js.1 h.1;have e2:=Js.1 h.2;have ha:p.N.toNat<xs.length:=by omega
 simp only[jA,gEg ha]at e2;refine⟨p.N.toNat,p.S.toNat, ?_,ha,by omega⟩;rw[Int.toNat_of_nonneg e1.1,Int.toNat_of_nonneg e2.1]
theorem c714{xs:List qB}{p:qI}:Pure Gm 714 [.lst 5 (xs.map qB.enc) false,p.enc] (.bool (wU xs p)):=by
 refine pI F714 (by simp[AV.trees,AV.tree,qb qB.isSh.tree,qI.tr]) rfl ?_;simp only[F714,qN,go_sem];refine qX rfl ?_;simp only[go_sem];have big (h0:0<=p.N) (h1:p.N<xs.length):wU xs p=(decide (0<=p.S)&&decide (p.S<(jA xs p.N:Int))):=by
  simp only[wU,inI];rw[Bool.eq_iff_iff];simp;omega
 first | (apply zH<;>intro hc<;>simp only[hc,go_sem]) | (apply qT<;>intro hc<;>simp only[hc,go_sem])
 ·first | (apply zH<;>intro hc<;>simp only[hc,go_sem]) | (apply qT<;>intro hc<;>simp only[hc,go_sem])
  ·first | (apply zH<;>intro hc<;>simp only[hc,go_sem]) | (apply qT<;>intro hc<;>simp only[hc,go_sem])
   ·have h0:0<=p.N:=by simp at*;omega
    have h1:p.N<xs.length:=by simp at*;omega
    have hlt:p.N.toNat<xs.length:=by omega
    rw[VE h0];simp only[gMp,gEg hlt,oMs,go_sem];refine qM rfl ?_;rw[big h0 h1];simp_all[jA]
   ·refine qM rfl ?_;rw[big (by simp at*;omega) (by simp at*;omega)];simp_all
    try (intro h;omega)
  ·refine qM rfl ?_;simp only[wU,inI,AV.bool.injEq];simp at*;omega
 ·refine qM rfl ?_;simp only[wU,inI,AV.bool.injEq];simp at*;omega
theorem c713{n:qD}{a s:Nat}(ha:a<n.G.length)(hs:s<n.G[a].P.length):Pure Gm 713 [qI.enc ⟨(a:Int),(s:Int)⟩,.ept n.enc 0] (.bool (!wX n.G ⟨(a:Int),(s:Int)⟩ n.G[a].P[s])):=by
 refine pI F713 (by simp[AV.trees,AV.tree,qD.tr,qI.tr]) rfl ?_;simp only[F713,qN,go_sem];refine qX rfl ?_;simp only[go_sem];refine qL (Yn ha hs) ?_;simp only[go_sem];refine lsA ?_;simp only[go_sem];obtain⟨q,hq⟩:∃q,q=n.G[a].P[s]:=⟨_,rfl⟩;rw[<-hq]
 first | (apply zH<;>intro hc<;>simp only[hc,go_sem]) | (apply qT<;>intro hc<;>simp only[hc,go_sem])
 ·refine qL c714 ?_;simp only[go_sem]
  first | (apply zH<;>intro hc<;>simp only[hc,go_sem]) | (apply qT<;>intro hc<;>simp only[hc,go_sem])
  ·have hp:wU n.G q=true:=by simpa using hc
   obtain⟨a2,s2,rfl,ha2,hs2⟩:=qIW hp;refine qL (Yn ha2 hs2) ?_;simp only[go_sem];refine qM rfl ?_;simp_all[wX,Ji]
  ·refine qM rfl ?_;simp_all[wX]
 ·refine qM rfl ?_;simp_all[wX]
theorem qC9{α:Type}(f:α->Nat):∀(xs ys:List α),qJ f (xs++ys)=qJ f xs+qJ f ys
 |[],ys=>by simp[qJ]
 | x::xs,ys=>by simp only[lCa,qJ,qC9 f xs ys];omega
theorem qDA{α:Type}(f:α->Nat)(xs:List α)(i:Nat):qJ f (xs.take i)<=qJ f xs:=by
 have:=qC9 f (xs.take i) (xs.drop i);rw[List.take_append_drop]at this;omega
def zf(i k:Nat):List qI:=(List.range k).map λs:Nat=>⟨(i:Int),(s:Int)⟩
theorem YL(i k:Nat):zf i (k+1)=zf i k++[⟨(i:Int),(k:Int)⟩]:=by simp[zf,List.range_succ]
def zB(xs:List qB):Nat->List qI
 | 0=>[]
 | i+1=>zB xs i++zf i (jA xs (i:Int))
theorem Zt(xs:List qB):∀i,i<=xs.length->(zB xs i).length<=qJ qB.sz (xs.take i)
 | 0,_=>nZl _
 | i+1,h=>by
  have:=Zt xs i (by omega);have hi:i<xs.length:=by omega
  have e:xs.take (i+1)=xs.take i++[xs[i]]:=by simp[List.take_append_getElem]
  have e2:qJ qB.sz (xs.take i++[xs[i]])=qJ qB.sz (xs.take i)+qB.sz xs[i]:=by
   rw[qC9];rfl
  have e3:xs[i].P.length<=qB.sz xs[i]:=by unfold qB.sz;omega
  rw[e,e2];simp[zB,zf,jA,gEg hi];omega
theorem c554{n:qD}(hz:n.sz<=1048576):Pure Gm 554 [.ept n.enc 0] (.lst 2 ((zB n.G n.G.length).map qI.enc) false):=by
 refine pI kV (by simp[AV.trees,AV.tree,qD.tr]) (by simp[AV.tree,qb qI.isSh.tree]) ?_;simp only[kV,qN,go_sem];unfold qD.sz at hz;refine Sem.loop (λi:Nat=>i<=n.G.length) (λi=>(⟨[(10,.lst 5 (n.G.map qB.enc) false),(11,iI (n.G.length:Int)),(12,iI (i:Nat)),(3,.slice 2 0 0 (zB n.G i).length false)],[],[.row 2 ((zB n.G i).map qI.enc) true]⟩:VSt)) (λi=>n.G.length-i) 0 (by kernel_rfl) (nZl _) (Can.renum [none] rfl ⟨.ph,trivial⟩ ⟨⟨_,rfl,.tree (by simp[AV.tree,qb qB.isSh.tree])⟩,⟨_,rfl,.tree rfl⟩,⟨_,rfl,.tree rfl⟩,⟨_,rfl,.ph rfl⟩,trivial⟩ trivial) ?_;rintro i hi;simp only[go_sem];apply qT<;>intro hc<;>simp only[hc,go_sem]
 ·have hlt:i<n.G.length:=by have:=odT hc;omega
  simp only[gMp,gEg hlt,oMs,go_sem];refine lsA ?_;simp only[go_sem];have e0:zB n.G i++zf i 0=zB n.G i:=by simp[zf]
  have hpl:n.G[i].P.length<=qJ qB.sz n.G:=by
   have h1:qB.sz n.G[i]<=qJ qB.sz n.G:=z5 (f:=qB.sz) (gMm hlt);have h2:n.G[i].P.length<=qB.sz n.G[i]:=by unfold qB.sz;omega
   omega
  have htl:=Zt n.G i (by omega);have htt:=qDA qB.sz n.G i;refine Sem.loop (λk:Nat=>k<=n.G[i].P.length) (λk=>(⟨[(10,.lst 5 (n.G.map qB.enc) false),(11,iI (n.G.length:Int)),(12,iI (i:Nat)),(4,iI (i:Nat)),(19,iI (n.G[i].P.length:Int)),(20,iI (k:Nat)),(3,.slice 2 0 0 (zB n.G i++zf i k).length false)],[],[.row 2 ((zB n.G i++zf i k).map qI.enc) true]⟩:VSt)) (λk=>n.G[i].P.length-k) 0 (by kernel_rfl) (nZl _) (by simp only[e0];exact csA) ?_;rintro k hk;simp only[go_sem];apply qT<;>intro hc<;>simp only[hc,go_sem]
  ·have hkl:k<n.G[i].P.length:=by have:=odT hc;omega
   refine ZY (el:=(zB n.G i++zf i k).map qI.enc) rfl rfl (by simp) (by simp[zf];omega) ?_;simp only[go_sem];simp only[wuA (n:=k)];refine qa (k+1) (by omega) (by omega) ?_;have e1:zB n.G i++zf i (k+1)=(zB n.G i++zf i k)++[⟨(i:Int),(k:Int)⟩]:=by rw[YL,lAa]
   simp only[e1,lAp,lCo,lNi,nZa];refine Can.renum [some 2] rfl ⟨.row rfl ?_,trivial⟩ ⟨⟨_,rfl,.tree (by simp[AV.tree,qb qB.isSh.tree])⟩,⟨_,rfl,.tree rfl⟩,⟨_,rfl,.tree rfl⟩,⟨_,rfl,.tree rfl⟩,⟨_,rfl,.tree rfl⟩,⟨_,rfl,.tree rfl⟩,⟨_,rfl,.slice rfl⟩,trivial⟩ trivial;have t:=qb qI.isSh.tree ((zB n.G i++zf i k)++[⟨(i:Int),(k:Int)⟩]);rw[lMa]at t;rw[show ((zB n.G i++zf i k)++[(⟨(i:Int),(k:Int)⟩:qI)]).map qI.enc=(zB n.G i++zf i k).map qI.enc++[(⟨(i:Int),(k:Int)⟩:qI)].map qI.enc from lMa];exact VR2s.trees t
  ·obtain rfl:k=n.G[i].P.length:=by have:=odF hc;omega
   simp only[wuA (n:=i)];refine qa (i+1) (by omega) (by omega) ?_;have e2:zB n.G (i+1)=zB n.G i++zf i n.G[i].P.length:=by simp[zB,jA,gEg hlt]
   rw[e2];exact csA
 ·obtain rfl:i=n.G.length:=by have:=odF hc;omega
  refine J8 (Cv.row rfl (by simp) (qb qI.isSh.tree _) (by omega))
def qR(xs:List qB)(me:qI):qI:=(Ji xs me).getD ⟨0,0⟩
def Xx(xs:List qB)(me:qI):Bool:=wX xs me (qR xs me)
theorem qo9{i k:Nat}{q:qI}:q∈zf i k↔∃s:Nat,s<k/\q=⟨i,s⟩:=by
 simp only[zf,List.mem_map,lMr];constructor
 ·rintro⟨s,h,rfl⟩;exact⟨s,h,rfl⟩
 ·rintro⟨s,h,rfl⟩;exact⟨s,h,rfl⟩
theorem VZ{xs:List qB}{q:qI}:∀{m:Nat},m<=xs.length->(q∈zB xs m↔∃(i:Nat)(hi:i<xs.length),i<m/\∃s:Nat,s<xs[i].P.length/\q=⟨i,s⟩)
 | 0,_=>by simp[zB]
 | m+1,hm=>by
  have hml:m<xs.length:=by omega
  simp only[zB,z9,VZ (xs:=xs) (q:=q) (m:=m) (by omega),qo9,jA,iTn,gEg hml];constructor
  ·rintro(⟨i,hi,h1,h2⟩ | h)
   ·exact⟨i,hi,by omega,h2⟩
   ·exact⟨m,hml,by omega,h⟩
  ·rintro⟨i,hi,h1,h2⟩;by_cases e:i=m
   ·subst e;exact .inr h2
   ·exact .inl ⟨i,hi,by omega,h2⟩
theorem qCK{xs:List qB}{a s:Nat}(ha:a<xs.length)(hs:s<xs[a].P.length):qR xs ⟨a,s⟩=xs[a].P[s]:=by
 simp[qR,Ji,gEg ha,gEg hs]
theorem qKZ{xs:List qB}{i:Nat}:∀{qs:List qI}{j:Nat},(∀(m:Nat)(hm:m<qs.length),wX xs ⟨i,(j+m:Nat)⟩ qs[m]=true)->wY xs i qs j=true
 |[],_,_=>rfl
 | q::qs,j,h=>by
  simp only[wY,bAt];refine⟨h 0 (by simp),qKZ λm hm=>?_⟩;have:=h (m+1) (by simp;omega);rw[show j+(m+1)=j+1+m by omega]at this;simpa using this
theorem qHY{xs:List qB}:∀{l:List qB}{i:Nat},(∀(k:Nat)(hk:k<l.length),wY xs (i+k) l[k].P 0=true)->w5 xs l i=true
 |[],_,_=>rfl
 | x::l,i,h=>by
  simp only[w5,bAt];refine⟨h 0 (by simp),qHY λk hk=>?_⟩;have:=h (k+1) (by simp;omega);rw[show i+(k+1)=i+1+k by omega]at this;simpa using this
theorem qqQ(xs:List qB):((zB xs xs.length).all (Xx xs))=w5 xs xs 0:=by
 rw[Bool.eq_iff_iff,lAt];constructor
 ·intro h;refine qHY λk hk=>qKZ λm hm=>?_;have:=h ⟨k,m⟩ ((VZ (nLr _)).2 ⟨k,hk,hk,m,hm,rfl⟩);rw[Xx,qCK hk hm]at this;simpa using this
 ·intro h q hq;obtain⟨i,hi,_,s,hs,rfl⟩:=(VZ (nLr _)).1 hq;rw[Xx,qCK hi hs];have:=UR (Vd h i hi) s hs;simpa using this
theorem c319{n:qD}(hz:n.sz<=1048576):Pure Gm 319 [n.enc] (.bool (zM n)):=by
 refine Pure.intro [1] [] (gk _ kJ) (by kernel_rfl) rfl (by simp[AV.trees,qD.tr]) rfl ?_;simp only[kJ,qN,go_sem];have hz':=hz;unfold qD.sz at hz;have hl:(zB n.G n.G.length).length<=1048576:=by
  have h1:=Zt n.G n.G.length (nLr _);have h2:=qDA qB.sz n.G n.G.length;omega
 refine Qb rfl ?_;simp only[go_sem,lNa,lSz];refine qL (c711 (by omega)) ?_;simp only[go_sem];apply qT<;>intro hc<;>simp only[hc,go_sem]
 ·refine qM rfl ?_;have:wL n.G=false:=by simpa using hc
  simp[zM,this]
 ·refine qL (c554 hz') ?_;simp only[go_sem];refine qL (c712 (f:=.fn 713 [.ept n.enc 0]) (λme=> !Xx n.G me) (by simp[AV.tree,AV.trees,qD.tr]) _ (λx hx=>?_) hl) ?_
  ·obtain⟨i,hi,_,s,hs,rfl⟩:=(VZ (nLr _)).1 hx;refine⟨713,_,rfl, ?_⟩;have c:=c713 hi hs;rw[Xx,qCK hi hs];exact c
  ·simp only[qAD,go_sem];refine qM rfl ?_;have:wL n.G=true:=by simpa using hc
   rw[qqQ];simp[zM,this]
theorem c860{n:qD}(hz:n.sz<=1048576):Pure Gm 860 [n.enc] (.bool (!zM n)):=by
 refine pI F860 (by simp[AV.trees,qD.tr]) rfl ?_;simp only[F860,qN,go_sem];refine qX rfl ?_;simp only[go_sem];refine qL (c319 hz) ?_;simp only[go_sem];exact qM rfl rfl
theorem c505{xs:List qD}(hl:xs.length<=1048576)(hz:∀n∈xs,n.sz<=1048576):Pure Gm 505 [.lst 1 (xs.map qD.enc) false] (.bool (jG xs)):=by
 refine pI kP (by simp[AV.trees,AV.tree,qb qD.isSh.tree]) rfl ?_;simp only[kP,qN,go_sem]
 first | (apply zH<;>intro hc<;>simp only[hc,go_sem]) | (apply qT<;>intro hc<;>simp only[hc,go_sem])
 ·refine qL (c859 (f:=.fn 860 []) (λn=> !zM n) rfl xs (λx hx=>⟨860,[],rfl,c860 (hz x hx)⟩) hl) ?_;simp only[qAD,go_sem];refine qM rfl ?_;simp only[jG,AV.bool.injEq];simp at*;omega
 ·refine qM rfl ?_;simp only[jG,AV.bool.injEq];simp at*;omega
abbrev Ags:=List qB
abbrev pt(a s:Nat):qI:=⟨(a:Int),(s:Int)⟩
theorem ZK{a s b t:Nat}:pt a s=pt b t↔a=b/\s=t:=by simp only[pt,qI.mk.injEq];omega
def atP(N:Ags)(a s:Nat):Option qI:=(N[a]?).bind λx=>x.P[s]?
theorem Ws{N:Ags}{a s:Nat}{q:qI}(h:atP N a s=some q):qR N (pt a s)=q:=by
 unfold qR Ji atP at*;simp only[pt,iTn];cases hx:N[a]? with
 | none=>simp[hx]at h
 | some x=>simp only[hx,oBs]at h;simp[h]
theorem qqM{N:Ags}{a s:Nat}:Ji N (pt a s)=atP N a s:=by
 unfold Ji atP;simp only[pt,iTn];cases N[a]?<;>rfl
def X0(k l v:Int)(d:List Int)(n:Nat):qB:=⟨k,l,v,d,List.replicate n ⟨0,0⟩⟩
def Has(N:Ags)(a s:Nat):Prop:=∃q,atP N a s=some q
theorem Qv{N:Ags}{a s:Nat}{q:qI}:atP N a s=some q↔∃x,N[a]?=some x/\x.P[s]?=some q:=by
 unfold atP;simp[Option.bind_eq_some_iff]
theorem wD{N:Ags}{a s:Nat}:Has N a s↔∃x,N[a]?=some x/\s<x.P.length:=by
 unfold Has;constructor
 ·rintro⟨q,h⟩;obtain⟨x,hx,hq⟩:=Qv.1 h;exact⟨x,hx,(gSi.1 hq).1⟩
 ·rintro⟨x,hx,hs⟩;exact⟨x.P[s],Qv.2 ⟨x,hx,gEg hs⟩⟩
def Qy(x:qB):Int×Int×Int×List Int×Nat:=(x.K,x.L,x.V,x.D,x.P.length)
def W(N:Ags)(X:Nat->Nat->Prop):Prop:=∀a s q,atP N a s=some q->¬X a s->∃b t,q=pt b t/\atP N b t=some (pt a s)/\¬X b t/\¬(b=a/\t=s)
theorem W.live{N:Ags}{X:Nat->Nat->Prop}(h:W N X){a s:Nat}(h1:Has N a s)(x1:¬X a s):∃c k,qR N (pt a s)=pt c k/\atP N a s=some (pt c k)/\Has N c k/\¬X c k/\atP N c k=some (pt a s)/\¬(c=a/\k=s):=by
 obtain⟨q,hq⟩:=h1;obtain⟨b,t,rfl,e2,e3,e4⟩:=h a s q hq x1;exact⟨b,t,Ws hq,hq,⟨_,e2⟩,e3,e2,e4⟩
theorem qj5{N:Ags}{a s:Nat}{q:qI}(h:atP N a s=some q):a<N.length:=by
 obtain⟨x,hx,_⟩:=Qv.1 h;exact(gSi.1 hx).1
theorem qkB{E:Ev}{d:Option Nat}{w:Nat}{z v:AV}{l:List qG}{ks:List Fr1}{s m:qt}{h:List qA}{e:Env}{Q:qn->VSt->Prop}(hl:v.cells.length=w)(hr:JN E d (.row w [v] true) (sQ w h.length 1) l ks ⟨s,m,h⟩ Q):Bsl E d w 1 (fil e w (List.replicate 1 z) 0 (some v) []) l ks ⟨s,m,h⟩ Q:=by
 rw[show fil e w (List.replicate 1 z) 0 (some v) []=some [v] by simp[fil,jD,hl,List.replicate],qkC];exact hr
end Go.Ab
