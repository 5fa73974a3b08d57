/- Texts Dbg0 .. Dbg26: the abstract machine, its laws and contracts of functions: lemmas for the statement. No condition. -/
import Derived.Test.YtjjcemmbemobjaaGreatP4
set_option linter.unusedSimpArgs false
set_option linter.unusedVariables false
namespace Go.Ab
open Go
structure qM where
 N:Int
 S:Int
deriving DecidableEq
def qM.enc(x:qM):AV:=.agg [iI x.N,iI x.S]
theorem qM.isSh:Sh qM.enc 2 (some 2):=⟨λx=>by simp[qM.enc,AV.tree,AV.trees],λ_=>rfl,λ_=>rfl,by decide,λx=>by simp[qM.enc]⟩
section
variable {x:qM}
@[go_sem] theorem qM.tr:x.enc.tree=true:=qM.isSh.tree x
@[go_sem] theorem qM.ln:x.enc.cells.length=2:=nr rfl
@[go_sem] theorem qM.all:x.enc.part 0 (some 2)=some x.enc:=nr rfl
@[go_sem] theorem qM.cs:x.enc.cells=[iI x.N,iI x.S]:=nr rfl
@[go_sem] theorem qM.p0:x.enc.part 0 none=some (iI x.N):=nr rfl
@[go_sem] theorem qM.p1:x.enc.part 1 none=some (iI x.S):=nr rfl
@[go_sem] theorem qM.eqf{y:qM}:ji false [1,1] (some x.enc) (some y.enc)=some (.bool (decide (x=y))):=by
 obtain⟨a0,a1⟩:=x;obtain⟨b0,b1⟩:=y;simp only[ji,qM.enc,lMc,List.map_nil,dig,and_self,if_true,wg,Jq,qM.mk.injEq]
 repeat' (split<;>simp_all)
@[go_sem] theorem qM.eqt{y:qM}:ji true [1,1] (some x.enc) (some y.enc)=some (.bool (!decide (x=y))):=by
 have h:=qM.eqf (x:=x) (y:=y);unfold ji at h|-;split<;>simp_all
end
structure qC where
 K:Int
 L:Int
 V:Int
 D:List Int
 P:List qM
def qC.enc(x:qC):AV:=.agg [iI x.K,iI x.L,iI x.V,lQ x.D,.lst 2 (x.P.map qM.enc) false]
theorem qC.isSh:Sh qC.enc 5 (some 5):=⟨λx=>by simp[qC.enc,AV.tree,AV.trees,qb qM.isSh.tree,qb shI.tree],λ_=>rfl,λ_=>rfl,by decide,λx=>by simp[qC.enc]⟩
section
variable {x:qC}
@[go_sem] theorem qC.tr:x.enc.tree=true:=qC.isSh.tree x
@[go_sem] theorem qC.ln:x.enc.cells.length=5:=nr rfl
@[go_sem] theorem qC.all:x.enc.part 0 (some 5)=some x.enc:=nr rfl
@[go_sem] theorem qC.cs:x.enc.cells=[iI x.K,iI x.L,iI x.V,lQ x.D,.lst 2 (x.P.map qM.enc) false]:=nr rfl
@[go_sem] theorem qC.p0:x.enc.part 0 none=some (iI x.K):=nr rfl
@[go_sem] theorem qC.p1:x.enc.part 1 none=some (iI x.L):=nr rfl
@[go_sem] theorem qC.p2:x.enc.part 2 none=some (iI x.V):=nr rfl
@[go_sem] theorem qC.p3:x.enc.part 3 none=some (lQ x.D):=nr rfl
@[go_sem] theorem qC.p4:x.enc.part 4 none=some (.lst 2 (x.P.map qM.enc) false):=nr rfl
end
def qC.sz(x:qC):Nat:=x.D.length+x.P.length
def qC.bd(x:qC):Prop:=x.D.length<=140737488355328/\x.P.length<=140737488355328
structure qE where
 G:List qC
def qE.enc(x:qE):AV:=.agg [.lst 5 (x.G.map qC.enc) false]
theorem qE.isSh:Sh qE.enc 1 (some 1):=⟨λx=>by simp[qE.enc,AV.tree,AV.trees,qb qC.isSh.tree],λ_=>rfl,λ_=>rfl,by decide,λx=>by simp[qE.enc]⟩
section
variable {x:qE}
@[go_sem] theorem qE.tr:x.enc.tree=true:=qE.isSh.tree x
@[go_sem] theorem qE.ln:x.enc.cells.length=1:=nr rfl
@[go_sem] theorem qE.all:x.enc.part 0 (some 1)=some x.enc:=nr rfl
@[go_sem] theorem qE.cs:x.enc.cells=[.lst 5 (x.G.map qC.enc) false]:=nr rfl
@[go_sem] theorem qE.p0:x.enc.part 0 none=some (.lst 5 (x.G.map qC.enc) false):=nr rfl
end
def qE.sz(x:qE):Nat:=(x.G.length+qx qC.sz x.G)
def qE.bd(x:qE):Prop:=x.G.length<=140737488355328/\(∀y∈x.G,qC.bd y)
structure zD where
 Step:Int
 Def:Int
 Source:Int
deriving DecidableEq
def zD.enc(x:zD):AV:=.agg [iI x.Step,iI x.Def,iI x.Source]
theorem zD.isSh:Sh zD.enc 3 (some 3):=⟨λx=>by simp[zD.enc,AV.tree,AV.trees],λ_=>rfl,λ_=>rfl,by decide,λx=>by simp[zD.enc]⟩
section
variable {x:zD}
@[go_sem] theorem zD.tr:x.enc.tree=true:=zD.isSh.tree x
@[go_sem] theorem zD.ln:x.enc.cells.length=3:=nr rfl
@[go_sem] theorem zD.all:x.enc.part 0 (some 3)=some x.enc:=nr rfl
@[go_sem] theorem zD.cs:x.enc.cells=[iI x.Step,iI x.Def,iI x.Source]:=nr rfl
@[go_sem] theorem zD.p0:x.enc.part 0 none=some (iI x.Step):=nr rfl
@[go_sem] theorem zD.p1:x.enc.part 1 none=some (iI x.Def):=nr rfl
@[go_sem] theorem zD.p2:x.enc.part 2 none=some (iI x.Source):=nr rfl
@[go_sem] theorem zD.eqf{y:zD}:ji false [1,1,1] (some x.enc) (some y.enc)=some (.bool (decide (x=y))):=by
 obtain⟨a0,a1,a2⟩:=x;obtain⟨b0,b1,b2⟩:=y;simp only[ji,zD.enc,lMc,List.map_nil,dig,and_self,if_true,wg,Jq,zD.mk.injEq]
 repeat' (split<;>simp_all)
@[go_sem] theorem zD.eqt{y:zD}:ji true [1,1,1] (some x.enc) (some y.enc)=some (.bool (!decide (x=y))):=by
 have h:=zD.eqf (x:=x) (y:=y);unfold ji at h|-;split<;>simp_all
end
structure zS where
 K:Int
 V:Int
deriving DecidableEq
def zS.enc(x:zS):AV:=.agg [iI x.K,iI x.V]
theorem zS.isSh:Sh zS.enc 2 (some 2):=⟨λx=>by simp[zS.enc,AV.tree,AV.trees],λ_=>rfl,λ_=>rfl,by decide,λx=>by simp[zS.enc]⟩
section
variable {x:zS}
@[go_sem] theorem zS.tr:x.enc.tree=true:=zS.isSh.tree x
@[go_sem] theorem zS.ln:x.enc.cells.length=2:=nr rfl
@[go_sem] theorem zS.all:x.enc.part 0 (some 2)=some x.enc:=nr rfl
@[go_sem] theorem zS.cs:x.enc.cells=[iI x.K,iI x.V]:=nr rfl
@[go_sem] theorem zS.p0:x.enc.part 0 none=some (iI x.K):=nr rfl
@[go_sem] theorem zS.p1:x.enc.part 1 none=some (iI x.V):=nr rfl
@[go_sem] theorem zS.eqf{y:zS}:ji false [1,1] (some x.enc) (some y.enc)=some (.bool (decide (x=y))):=by
 obtain⟨a0,a1⟩:=x;obtain⟨b0,b1⟩:=y;simp only[ji,zS.enc,lMc,List.map_nil,dig,and_self,if_true,wg,Jq,zS.mk.injEq]
 repeat' (split<;>simp_all)
@[go_sem] theorem zS.eqt{y:zS}:ji true [1,1] (some x.enc) (some y.enc)=some (.bool (!decide (x=y))):=by
 have h:=zS.eqf (x:=x) (y:=y);unfold ji at h|-;split<;>simp_all
end
structure zf where
 I:Int
 Net:qE
 Origins:List zD
def zf.enc(x:zf):AV:=.agg [iI x.I,.lst 5 (x.Net.G.map qC.enc) false,.lst 3 (x.Origins.map zD.enc) false]
theorem zf.isSh:Sh zf.enc 3 (some 3):=⟨λx=>by simp[zf.enc,AV.tree,AV.trees,qb qC.isSh.tree,qb zD.isSh.tree],λ_=>rfl,λ_=>rfl,by decide,λx=>by simp[zf.enc]⟩
section
variable {x:zf}
@[go_sem] theorem zf.tr:x.enc.tree=true:=zf.isSh.tree x
@[go_sem] theorem zf.ln:x.enc.cells.length=3:=nr rfl
@[go_sem] theorem zf.all:x.enc.part 0 (some 3)=some x.enc:=nr rfl
@[go_sem] theorem zf.cs:x.enc.cells=[iI x.I,.lst 5 (x.Net.G.map qC.enc) false,.lst 3 (x.Origins.map zD.enc) false]:=nr rfl
@[go_sem] theorem zf.p0:x.enc.part 0 none=some (iI x.I):=nr rfl
@[go_sem] theorem zf.p1:x.enc.part 1 none=some (.lst 5 (x.Net.G.map qC.enc) false):=nr rfl
@[go_sem] theorem zf.p2:x.enc.part 2 none=some (.lst 3 (x.Origins.map zD.enc) false):=nr rfl
end
def zf.sz(x:zf):Nat:=qE.sz x.Net+x.Origins.length
def zf.bd(x:zf):Prop:=qE.bd x.Net/\x.Origins.length<=140737488355328
structure z5 where
 Y:List qE
 Q:List Int
 Every:Int
 I:Int
 Net:qE
 Origins:List zD
 Breaks:List zS
 Points:List zf
def z5.enc(x:z5):AV:=.agg [.lst 1 (x.Y.map qE.enc) false,lQ x.Q,iI x.Every,iI x.I,.lst 5 (x.Net.G.map qC.enc) false,.lst 3 (x.Origins.map zD.enc) false,.lst 2 (x.Breaks.map zS.enc) false,.lst 3 (x.Points.map zf.enc) false]
theorem z5.isSh:Sh z5.enc 8 (some 8):=⟨λx=>by simp[z5.enc,AV.tree,AV.trees,qb qC.isSh.tree,qb zS.isSh.tree,qb zf.isSh.tree,qb qE.isSh.tree,qb zD.isSh.tree,qb shI.tree],λ_=>rfl,λ_=>rfl,by decide,λx=>by simp[z5.enc]⟩
section
variable {x:z5}
@[go_sem] theorem z5.tr:x.enc.tree=true:=z5.isSh.tree x
@[go_sem] theorem z5.ln:x.enc.cells.length=8:=nr rfl
@[go_sem] theorem z5.all:x.enc.part 0 (some 8)=some x.enc:=nr rfl
@[go_sem] theorem z5.cs:x.enc.cells=[.lst 1 (x.Y.map qE.enc) false,lQ x.Q,iI x.Every,iI x.I,.lst 5 (x.Net.G.map qC.enc) false,.lst 3 (x.Origins.map zD.enc) false,.lst 2 (x.Breaks.map zS.enc) false,.lst 3 (x.Points.map zf.enc) false]:=nr rfl
@[go_sem] theorem z5.p0:x.enc.part 0 none=some (.lst 1 (x.Y.map qE.enc) false):=nr rfl
@[go_sem] theorem z5.p1:x.enc.part 1 none=some (lQ x.Q):=nr rfl
@[go_sem] theorem z5.p2:x.enc.part 2 none=some (iI x.Every):=nr rfl
@[go_sem] theorem z5.p3:x.enc.part 3 none=some (iI x.I):=nr rfl
@[go_sem] theorem z5.p4:x.enc.part 4 none=some (.lst 5 (x.Net.G.map qC.enc) false):=nr rfl
end
def z5.sz(x:z5):Nat:=(x.Y.length+qx qE.sz x.Y)+x.Q.length+qE.sz x.Net+x.Origins.length+x.Breaks.length+(x.Points.length+qx zf.sz x.Points)
def z5.bd(x:z5):Prop:=x.Y.length<=140737488355328/\(∀y∈x.Y,qE.bd y)/\x.Q.length<=140737488355328/\qE.bd x.Net/\x.Origins.length<=140737488355328/\x.Breaks.length<=140737488355328/\x.Points.length<=140737488355328/\(∀y∈x.Points,zf.bd y)
set_option maxRecDepth 10000
def nx(e:Nat):qA->Nat
 |.mk _ (some d) _ _ _=>d
 | _=>e
def bP:Nat->Nat->List (Nat->Nat->qA)->List qA
 | _,_,[]=>[]
 | i,e,f::l=>f i e::bP (i+1) (nx e (f i e)) l
abbrev bO(e:Nat)(l:List (Nat->Nat->qA)):List qA:=bP 0 e l
@[go_sem] theorem nx_s{a b d:Nat}{g o c}:nx a (.mk b (some d) g o c)=d:=nr rfl
@[go_sem] theorem nx_n{a b:Nat}{g o c}:nx a (.mk b none g o c)=a:=nr rfl
@[go_sem] theorem bP_n{i d:Nat}:bP i d []=[]:=nr rfl
@[go_sem] theorem bP_c{i d:Nat}{f l}:bP i d (f::l)=f i d::bP (i+1) (nx d (f i d)) l:=nr rfl
abbrev sK:qG:=.skip
abbrev cD(k:Nat)(a b:qG):qG:=.cond (.t k) a b
abbrev rg(l:List qA):qG:=.reg true l
abbrev rB(e:Nat)(l:List (Nat->Nat->qA)):qG:=.reg true (bO e l)
abbrev sr(l:List qA)(c:qG):qG:=.seq (.reg true l) c
abbrev sB(e:Nat)(l:List (Nat->Nat->qA))(c:qG):qG:=.seq (.reg true (bO e l)) c
abbrev uA(x:AOp)(i e:Nat):qA:=.mk i (some (e+1)) none x []
abbrev uB(x:AOp)(i _:Nat):qA:=.mk i none none x []
abbrev uC(d:Nat)(f:Nat->Nat->qA)(i _:Nat):qA:=f i d
abbrev uD(i:Nat)(f:Nat->Nat->qA)(_ d:Nat):qA:=f i d
def sG(k:Nat)(b:Bool):qA->qA
 |.mk i d _ o c=>.mk i d (some (k,b)) o c
@[go_sem] theorem sG_q{k b i d g o c}:sG k b (.mk i d g o c)=.mk i d (some (k,b)) o c:=nr rfl
def uE(k:Nat)(f:Nat->Nat->qA)(i d:Nat):qA:=sG k true (f i d)
@[go_sem] theorem uE_q{k f i d}:uE k f i d=sG k true (f i d):=nr rfl
def uF(k:Nat)(f:Nat->Nat->qA)(i d:Nat):qA:=sG k false (f i d)
@[go_sem] theorem uF_q{k f i d}:uF k f i d=sG k false (f i d):=nr rfl
def sC(l:List qA):qA->qA
 |.mk i d g o _=>.mk i d g o l
@[go_sem] theorem sC_q{l i d g o c}:sC l (.mk i d g o c)=.mk i d g o l:=nr rfl
def uG(l:List qA)(f:Nat->Nat->qA)(i d:Nat):qA:=sC l (f i d)
@[go_sem] theorem uG_q{l f i d}:uG l f i d=sC l (f i d):=nr rfl
abbrev uH(d t i _e:Nat):qA:=.mk i (some d) none (.mov (.t t)) []
abbrev wd(x:AOp)(i e:Nat):qA:=.mk i (some (e+1)) none x []
abbrev wn(x:AOp)(i _e:Nat):qA:=.mk i none none x []
abbrev uL(x0:Nat):=wd (.nop x0)
abbrev uM(x0 x1:Nat):=wd (.lload x0 x1 none)
abbrev uI(x0:Nat):=wd (.mov (.t x0))
abbrev uV(x0 x1:Nat)(i e:Nat):=wd (.call x0 [.t x1,.t e]) i e
abbrev uO(x0:Int):=wd (.mov (.c (iI x0)))
abbrev ud(x0 x1:Nat):=wd (.lbox x0 (.t x1))
abbrev uQ(i e:Nat):=wd (.mov (.t e)) i e
abbrev ua(x0:Nat)(i e:Nat):=wd (.pick (.t x0) (.t e) (.c (.bool false))) i e
abbrev uU:=wd (.mov (.c (.bool false)))
abbrev uR(i e:Nat):=wd (.len (.t e)) i e
abbrev uT(x0 x1:Nat)(i e:Nat):=wd (.iaddr x0 (.t x1) (.t e)) i e
abbrev uK(x0:Nat)(i e:Nat):=wd (.faddr x0 (.t e)) i e
abbrev uJ(i e:Nat):=wd (.load none (.t e)) i e
abbrev uZ(x0:Nat)(x1:Int):=wd (.bin .eql (.t x0) (.c (iI x1)))
abbrev uW(x0:Int)(i e:Nat):=wd (.bin .eql (.t e) (.c (iI x0))) i e
abbrev uN(i e:Nat):=wd (.nilchk (.t e)) i e
abbrev uz:=wd (.mov (.c (.bool true)))
abbrev uP(x0:Nat)(i e:Nat):=wd (.call x0 [.t e]) i e
abbrev ur(x0:Nat)(x1:Int)(i e:Nat):=wd (.iaddr x0 (.t e) (.c (iI x1))) i e
abbrev uk(x0:Nat)(i e:Nat):=wd (.pick (.t x0) (.c (.bool true)) (.t e)) i e
abbrev ue(i e:Nat):=wd (.not (.t e)) i e
abbrev un(x0:Nat)(i e:Nat):=wd (.bin .lss (.t x0) (.t e)) i e
abbrev ub(x0:Int)(i e:Nat):=wd (.bin .add (.t e) (.c (iI x0))) i e
abbrev vI(x0 x1 x2 x3 x4 x5:Nat):=wd (.build (.agg [iI 0,iI 0]) [(x0,x1,.t x2),(x3,x4,.t x5)])
abbrev uj:=wd (.lalloc (.agg [iI 0,iI 0]))
abbrev uY(x0 x1 x2 x3:Nat):=wn (.lstore x0 x1 x2 (.t x3))
abbrev uX(x0:Nat)(i e:Nat):=wd (.load (some x0) (.t e)) i e
abbrev uS(x0 x1 x2:Nat):=wd (.lload x0 x1 (some x2))
abbrev u5(x0 x1 x2 x3:Nat):=wd (.bslice x0 (.agg [iI 0,iI 0]) x1 [(x2,.t x3)])
abbrev uo(x0 x1:Nat)(i e:Nat):=wd (.app x0 (.t x1) (.t e)) i e
abbrev vD(x0:Nat):=wd (.mov (.c (.lst x0 [] true)))
abbrev uq:=wd (.mov (.c (.nils)))
abbrev uu(x0 x1 x2:Nat)(i e:Nat):=wd (.call x0 [.t x1,.t x2,.t e]) i e
abbrev ui(x0 x1 x2:Nat)(i e:Nat):=wn (.lstore x0 x1 x2 (.t e)) i e
abbrev ut:=wd (.lalloc (.agg [iI 0,iI 0,iI 0,.nils,.nils]))
abbrev vG:=wd (.lalloc (.agg [.nils]))
abbrev uf(x0 x1 x2:Nat):=wd (.iaddr x0 (.t x1) (.t x2))
abbrev ux(x0:Nat)(i e:Nat):=wd (.bin .lss (.t e) (.t x0)) i e
abbrev uw(x0:Nat)(x1:Int):=wd (.bin .add (.t x0) (.c (iI x1)))
abbrev uv(x0 x1:Nat):=wd (.faddr x0 (.t x1))
abbrev vK(x0 x1:Nat):=wd (.call x0 [.t x1])
abbrev ug(x0 x1:Nat):=wd (.ext (.t x0) x1)
abbrev vU(x0 x1 x2 x3:Nat):=wd (.bslice x0 (.agg [iI 0,iI 0,iI 0,.nils,.nils]) x1 [(x2,.t x3)])
abbrev uc(x0 x1:Nat)(i e:Nat):=wn (.store x0 (.t e) (.t x1)) i e
abbrev vC(x0:Nat):=wd (.nilchk (.t x0))
abbrev u9(x0 x1 x2 x3 x4 x5:Nat):=wd (.build (.agg [iI 0,iI 0,iI 0,iI 0]) [(x0,x1,.t x2),(x3,x4,.t x5)])
abbrev vE(x0 x1 x2 x3:Nat):=wd (.bslice x0 (.agg [iI 0,iI 0,iI 0,iI 0]) x1 [(x2,.t x3)])
abbrev vM(x0 x1:Nat)(x2:Int):=wd (.build (.agg [iI 0,iI 0,iI 0,.nils,.nils]) [(x0,x1,.c (iI x2))])
abbrev vF(x0 x1:Nat)(x2:Int)(x3 x4 x5:Nat):=wd (.build (.agg [iI 0,iI 0]) [(x0,x1,.c (iI x2)),(x3,x4,.t x5)])
abbrev vV(x0 x1 x2 x3 x4 x5 x6 x7 x8 x9 x10 x11:Nat):=wd (.build (.agg [iI 0,iI 0,iI 0,.nils,.nils]) [(x0,x1,.t x2),(x3,x4,.t x5),(x6,x7,.t x8),(x9,x10,.t x11)])
abbrev vJ:=wd (.build (.agg [iI 0,iI 0]) [])
abbrev vH(x0:Nat)(x1:Int)(x2 x3 x4:Nat):=wd (.bslice x0 (iI x1) x2 [(x3,.t x4)])
abbrev vN(x0 x1 x2 x3 x4 x5 x6 x7 x8 x9 x10 x11 x12 x13 x14:Nat):=wd (.build (.agg [iI 0,iI 0,iI 0,.nils,.nils]) [(x0,x1,.t x2),(x3,x4,.t x5),(x6,x7,.t x8),(x9,x10,.t x11),(x12,x13,.t x14)])
abbrev vO(x0:Nat):=wd (.halloc x0 (.agg [iI 0,iI 0,iI 0,.nils,.nils]))
abbrev vQ(x0 x1 x2 x3 x4 x5:Nat):=wd (.bslice x0 (.agg [iI 0,iI 0,iI 0,iI 0]) x1 [(x2,.t x3),(x4,.t x5)])
abbrev va(x0 x1:Nat)(x2:Int)(x3 x4 x5:Nat):=wd (.build (.agg [iI 0,iI 0,iI 0,.nils,.nils]) [(x0,x1,.c (iI x2)),(x3,x4,.t x5)])
abbrev vR(x0 x1 x2 x3 x4 x5:Nat):=wd (.bslice x0 (.agg [iI 0,iI 0]) x1 [(x2,.t x3),(x4,.t x5)])
abbrev vS(x0 x1:Nat)(x2:Int)(x3 x4 x5 x6 x7 x8:Nat):=wd (.build (.agg [iI 0,iI 0,iI 0,.nils,.nils]) [(x0,x1,.c (iI x2)),(x3,x4,.t x5),(x6,x7,.t x8)])
abbrev vZ(x0 x1:Nat)(x2:Int)(x3 x4 x5 x6 x7 x8 x9 x10 x11 x12 x13 x14:Nat):=wd (.build (.agg [iI 0,iI 0,iI 0,.nils,.nils]) [(x0,x1,.c (iI x2)),(x3,x4,.t x5),(x6,x7,.t x8),(x9,x10,.t x11),(x12,x13,.t x14)])
abbrev vP:=wd (.mov (.c (.nilp)))
abbrev uy(x0:Nat):=wd (.load none (.t x0))
abbrev vT(x0 x1:Nat):=wd (.hbox x0 (.t x1))
abbrev vL:=wd (.lalloc (.agg [.nils,iI 0,iI 0,iI 0,.nils]))
abbrev vY(x0:Nat):=wd (.halloc x0 (.agg [.nils]))
abbrev vX(x0 x1:Nat)(x2:Int)(x3 x4:Nat)(x5:Int):=wd (.build (.agg [iI 0,iI 0]) [(x0,x1,.c (iI x2)),(x3,x4,.c (iI x5))])
abbrev vt(x0:Nat)(x1:Int):=wd (.bin .neq (.t x0) (.c (iI x1)))
abbrev vv(x0:Nat)(x1:Int):=wd (.bin .sub (.t x0) (.c (iI x1)))
abbrev vi(x0:Nat)(x1:Int):=wd (.bin .gtr (.t x0) (.c (iI x1)))
abbrev vu(x0 x1:Nat):=wd (.bin .neq (.t x0) (.t x1))
abbrev vp(x0:Nat)(x1:Int):=wd (.bin .lss (.t x0) (.c (iI x1)))
abbrev ve(x0 x1:Nat):=wd (.bin .add (.t x0) (.t x1))
abbrev vz(x0 x1:Nat)(x2 x3:Int):=wd (.call x0 [.t x1,.c (iI x2),.c (iI x3)])
abbrev v7(x0 x1 x2 x3 x4:Nat):=wd (.call x0 [.t x1,.t x2,.t x3,.t x4])
abbrev vg(x0:Nat)(x1:Int):=wd (.bin .geq (.t x0) (.c (iI x1)))
abbrev vf(x0 x1:Nat):=wd (.bin .eql (.t x0) (.t x1))
abbrev vj(x0 x1:Nat):=wd (.bin .gtr (.t x0) (.t x1))
abbrev vk(x0:Nat)(x1:Int):=wd (.bin .leq (.t x0) (.c (iI x1)))
abbrev vh(x0 x1:Nat):=wd (.bin .geq (.t x0) (.t x1))
abbrev v5(x0 x1:Nat)(x2:Int)(x3:Nat):=wd (.call x0 [.t x1,.c (iI x2),.t x3])
abbrev vd(x0:Int)(x1:Nat):=wd (.bin .add (.c (iI x0)) (.t x1))
abbrev vx(x0 x1:Nat):=wd (.bin .sub (.t x0) (.t x1))
abbrev UE(x0 x1 x2 x3:Nat):=wd (.seq false [x0,x1] (.t x2) (.t x3))
abbrev v8(x0 x1:Nat):=wd (.isnil x0 false (.t x1))
abbrev UD(x0 x1 x2:Nat):=wd (.mksl x0 (.agg [iI 0,iI 0]) (.t x1) (.t x2))
abbrev UC(x0:Nat)(x1:Int)(x2:Nat):=wd (.mksl x0 (.agg [iI 0,iI 0,iI 0,.nils,.nils]) (.c (iI x1)) (.t x2))
def F338:qJ:=W6
def qF6:qJ:=W6
abbrev qWL:=bO 4 [uL 2,uM 2 3,uI 1,uV 338 6,uH 1 8]
abbrev qWM:=bO 10 [uL 2,uM 2 4,uI 1,uV 1173 12,uH 1 14]
abbrev qWK:=sr qWM (.seq (sB 14 [uI 1,vp 15 0] (cD 16 (sr [uO (-1) 0 3] .ret) sK)) (sB 16 [uI 1,uH 4 17] .ret))
def kT:qJ:=⟨2,18,[.t 4],sB 1 [ud 5 0,uC 3 (uO 0)] (sr qWL (.seq (sB 8 [uI 1,vp 9 0] (cD 10 (sr [uO (-1) 0 3] .ret) sK)) qWK))⟩
def F501:qJ:=szS 5 (some 5) 852
abbrev qQ4:=bO 4 [uL 2,uM 2 0,uI 1,uV 501 6,uH 1 8]
abbrev qQ3:=sr qQ4 (.seq (sB 8 [uI 1,vp 9 0] (cD 10 (sr [uO (-1) 0 3] .ret) sK)) (sB 10 [uI 1,uH 4 11] .ret))
def Ko:qJ:=⟨2,12,[.t 4],sB 1 [ud 1 0,uC 3 (uO 0)] qQ3⟩
def F181:qJ:=szS 1 (some 1) 182
abbrev qSL:=bO 6 [uI 0,uI 1,vh 7 8,uQ,uE 10 (uI 0),uE 10 (uI 2),uE 10 (uA (.bin .leq (.t 11) (.t 12))),ua 10,uH 6 14]
def Ky:qJ:=⟨3,15,[.t 6],sr [uU 0 5] (sr qSL .ret)⟩
abbrev qTJ:=bO 4 [uL 3,uM 3 0,uI 0,uR,vv 8 1,v5 340 6 0 9,uQ,uE 11 (uL 3),uE 11 (uM 3 1),uE 11 (uI 0),uE 11 (uL 3),uE 11 (uM 3 0),uE 11 (uT 5 14),uE 11 (uK 4),uE 11 uJ,uE 11 uR,uE 11 (vv 20 1),uE 11 (v5 340 13 0 21),ua 11,uH 4 23]
def K1:qJ:=⟨2,24,[.t 4],sB 2 [ud 2 1,uU] (sr qTJ .ret)⟩
abbrev qOI:qG:=.seq (sB 6 [uI 1,vz 340 7 0 3] (cD 8 (sB 8 [uI 1,vd 1 9,uH 4 10] .ret) sK)) (sr [uO 0 0 3] .ret)
abbrev qOJ:=sB 15 [uZ 13 5,uH 14 16] (cD 14 sK (sB 16 [uZ 13 6,uH 14 17] (cD 14 sK (rB 17 [uZ 13 12,uH 14 18]))))
abbrev qOK:=sB 19 [uZ 13 8,uH 19 20] (cD 19 sK (sB 20 [uZ 13 10,uH 19 21] (cD 19 sK (rB 21 [uZ 13 11,uH 19 22]))))
abbrev qOL:=sB 24 [uZ 13 3,uH 23 25] (cD 23 sK (sB 25 [uZ 13 4,uH 23 26] (cD 23 sK (rB 26 [uZ 13 7,uH 23 27]))))
abbrev qOM:=cD 14 (sr [uO 1 0 3] .ret) (.seq qOK (cD 19 (sr [uO 2 0 3] .ret) (.seq (sB 23 [uZ 13 2,uH 23 24] (cD 23 sK qOL)) (cD 23 (sr [uO 3 0 3] .ret) sK))))
abbrev qON:qG:=.seq (sB 10 [uI 1,vt 11 0] (cD 12 (sr [uO 0 0 3] .ret) sK)) (.seq (sr [uI 0 0 12] (.blk 0 (.seq (sB 14 [uZ 13 1,uH 14 15] (cD 14 sK qOJ)) qOM))) (sr [uO 0 0 3] .ret))
def KE:qJ:=⟨2,28,[.t 4],sr [uO 0 0 3] (.seq (sB 4 [uI 0,uW 9] (cD 6 qOI sK)) qON)⟩
abbrev qOU:=bO 2 [uI 0,uN,uK 0,uJ,uW 9]
abbrev qOV:=bO 7 [uI 0,uN,uK 4,uJ,uR,vv 12 1,uH 2 13]
def KH:qJ:=⟨1,14,[.t 2],sr [uO 0 0 1] (.seq (sr qOU (cD 7 (sr qOV .ret) sK)) (sr [uO 0 0 1] .ret))⟩
abbrev qOO:=sB 10 [uZ 3 10,uH 4 11] (cD 4 sK (sB 11 [uZ 3 11,uH 4 12] (cD 4 sK (rB 12 [uZ 3 12,uH 4 13]))))
abbrev qOP:=sB 7 [uZ 3 7,uH 4 8] (cD 4 sK (sB 8 [uZ 3 8,uH 4 9] (cD 4 sK (sB 9 [uZ 3 9,uH 4 10] (cD 4 sK qOO)))))
abbrev qOQ:=sB 4 [uZ 3 2,uH 4 5] (cD 4 sK (sB 5 [uZ 3 3,uH 4 6] (cD 4 sK (sB 6 [uZ 3 4,uH 4 7] (cD 4 sK qOP)))))
def KF:qJ:=⟨1,14,[.t 2],sr [uU 0 1] (.seq (sr [uI 0 0 2] (.blk 0 (.seq qOQ (cD 4 (sr [uz 0 1] .ret) sK)))) (sr [uU 0 1] .ret))⟩
def Kf:qJ:=⟨1,5,[.t 2],sr [uU 0 1] (sB 2 [uI 0,vz 340 3 1 12,uH 2 4] .ret)⟩
abbrev qOW:=bO 8 [uI 0,uP 1489,uQ,uE 11 (uI 1),uE 11 (uW 0),ua 11,uH 4 14]
def KI:qJ:=⟨2,15,[.t 4],sr [uU 0 3] (.seq (sB 4 [uI 0,uP 1372] (cD 6 (sB 6 [uI 1,vz 340 7 0 8,uH 4 8] .ret) sK)) (sr qOW .ret))⟩
def Kg:qJ:=⟨1,5,[.t 2],sr [uU 0 1] (sB 2 [uI 0,vz 340 3 0 23,uH 2 4] .ret)⟩
abbrev qO1:=bO 3 [uI 0,uN,uK 0,uJ]
abbrev qO2:=bO 9 [uI 0,uN,uK 3,uJ,uR,uW 0,uQ,uE 16 (uI 0),uE 16 uN,uE 16 (uK 2),uE 16 uJ,uE 16 (vz 340 20 (-2147483648) 2147483647),ua 16,uH 2 22]
abbrev qO4:=bO 24 [uI 0,uN,uK 3,uJ,uR,uW 0,uQ,uE 31 (uI 0),uE 31 uN,uE 31 (uK 2),uE 31 uJ,uE 31 (vz 340 35 1 6),ua 31,uH 2 37]
abbrev qO5:=bO 39 [uI 0,uN,uK 3,uJ,uR,uW 1,uQ,uE 46 (uI 0),uE 46 uN,uE 46 (uK 2),uE 46 uJ,uE 46 (vz 340 50 1 6),ua 46,uQ,uE 53 (uI 0),uE 53 uN,uE 53 (uK 3),uE 53 uJ,uE 53 (ur 1 0),uE 53 uJ,uE 53 (vz 340 59 (-2147483648) 2147483647),ua 53,uH 2 61]
abbrev qO6:=bO 63 [uI 0,uN,uK 3,uJ,uR,uW 0,uQ,uE 70 (uI 0),uE 70 uN,uE 70 (uK 2),uE 70 uJ,uE 70 (vz 340 74 0 3),ua 70,uH 2 76]
abbrev qO7:=bO 78 [uI 0,uN,uK 3,uJ,uR,uW 0,uQ,uE 85 (uI 0),uE 85 uN,uE 85 (uK 2),uE 85 uJ,uE 85 (uP 1494),ua 85,uH 2 91]
abbrev qO8:=bO 94 [uI 0,uN,uK 2,uJ,vt 98 0,uQ,uF 100 (uI 0),uF 100 uN,uF 100 (uK 0),uF 100 uJ,uF 100 (uW 11),uF 100 uQ,uE 106 (uI 0),uE 106 uN,uE 106 (uK 3),uE 106 uJ,uE 106 uR,uE 106 (vt 111 2),uF 100 (ua 106),uk 100,uQ,uF 115 (uI 0),uF 115 uN,uF 115 (uK 0),uF 115 uJ,uF 115 (uW 10),uF 115 uQ,uE 121 (uI 0),uE 121 uN,uE 121 (uK 3),uE 121 uJ,uE 121 uR,uE 121 (vz 340 126 1 4),uE 121 ue,uF 115 (ua 121),uk 115]
abbrev qO9:=bO 130 [uI 3,uI 0,uN,uK 3,uJ,uR,un 131]
abbrev qPA:=bO 139 [uI 0,uN,uK 3,uJ,uI 3,uT 1 143,uJ,uP 1494,ue]
abbrev qO0:qG:=.loop (.seq (sr qO9 (cD 137 sK (.exit 1))) (.seq (.blk 2 (sr qPA (cD 148 (sr [uU 0 1] .ret) sK))) (rB 137 [uI 3,ub 1,uH 3 139])))
abbrev qOX:qG:=.seq (sB 92 [uZ 7 10,uH 92 93] (cD 92 sK (rB 93 [uZ 7 11,uH 92 94]))) (cD 92 (.seq (sr qO8 (cD 130 (sr [uU 0 1] .ret) sK)) (.seq (sr [uO 0 0 2] (.blk 1 qO0)) (sr [uz 0 1] .ret))) sK)
abbrev qOY:=cD 38 (sr qO5 .ret) (sB 62 [uZ 7 9,uH 62 63] (cD 62 (sr qO6 .ret) (sB 77 [uZ 7 12,uH 77 78] (cD 77 (sr qO7 .ret) qOX))))
abbrev qOZ:=sB 8 [uZ 7 6,uH 8 9] (cD 8 (sr qO2 .ret) (sB 23 [uZ 7 7,uH 23 24] (cD 23 (sr qO4 .ret) (sB 38 [uZ 7 8,uH 38 39] qOY))))
abbrev qO3:=bO 148 [uI 0,uN,uK 2,uJ,uW 0,uQ,uE 154 (uI 0),uE 154 uN,uE 154 (uK 3),uE 154 uJ,uE 154 uR,uE 154 (uW 0),ua 154,uH 2 161]
def KJ:qJ:=⟨1,162,[.t 2],sr [uU 0 1] (.seq (sr qO1 (.blk 0 qOZ)) (sr qO3 .ret))⟩
abbrev qET:=bO 3 [uI 0,uN,uK 0,uJ,uI 0,uG [uJ 3 6] (uP 1384),uV 1371 7,uH 3 10]
abbrev qEU:=bO 10 [uI 3,vi 11 0,uQ,uE 13 (uI 0),uE 13 uN,uE 13 (uK 4),uE 13 uJ,uE 13 uR,uE 13 (uI 3),uE 13 (vf 18 19),ua 13,uQ,uE 22 (uI 0),uE 22 uN,uE 22 (uK 0),uE 22 uJ,uE 22 (uI 0),uE 22 uN,uE 22 (uK 1),uE 22 uJ,uE 22 (uV 1385 26),ua 22,uQ,uE 33 (uI 0),uE 33 (uP 1386),ua 33,uH 2 36]
def UJ:qJ:=⟨1,37,[.t 2],sr [uU 0 1] (sr qET (sr qEU .ret))⟩
abbrev qVE:=bO 3 [uI 0,uR,vz 340 5 1 600,ue]
abbrev qVF:=bO 7 [uI 3,uI 0,uR,un 8]
abbrev qVG:=bO 13 [uI 0,uI 3,uT 5 14,uP 1096,ue,uQ,uF 19 (uI 0),uF 19 (uI 3),uF 19 (uT 5 20),uF 19 (uK 0),uF 19 uJ,uF 19 (uW 1),uF 19 (uI 3),uF 19 (uW 0),uF 19 (uA (.beq true (.t 25) (.t 27))),uk 19]
abbrev qVD:qG:=.loop (.seq (sr qVF (cD 11 sK (.exit 0))) (.seq (.blk 1 (sr qVG (cD 29 (sr [uU 0 1] .ret) sK))) (rB 11 [uI 3,ub 1,uH 3 13])))
def kJ:qJ:=⟨1,30,[.t 2],sr [uU 0 1] (.seq (sr qVE (cD 7 (sr [uU 0 1] .ret) sK)) (.seq (sr [uO 0 0 2] (.blk 0 qVD)) (sr [uz 0 1] .ret)))⟩
abbrev qSC:=bO 7 [uI 0,uN,uK 0,uJ,uP 710,ue]
abbrev qSD:=bO 13 [uI 3,uI 0,uN,uK 0,uJ,uR,un 14]
abbrev qSE:=bO 22 [uI 0,uN,uK 0,uJ,uI 3,uT 5 26,uH 4 28]
abbrev qSF:=bO 28 [uI 5,uI 4,uN,uK 4,uJ,uR,un 29]
abbrev qSG:=bO 37 [uI 3,uI 5,vI 0 1 38 1 1 39,uC 5 uj,uY 6 0 2 40]
abbrev qSH:=bO 40 [uI 4,uN,uK 4,uJ,uI 5,uT 2 44,uX 2,uC 6 uj,uY 7 0 2 47]
abbrev qSI:=bO 47 [uS 7 0 2,uS 6 0 2,UE 1 1 48 49,uQ,uF 51 (uI 0),uF 51 uN,uF 51 (uK 0),uF 51 uJ,uF 51 (uS 7 0 2),uF 51 (uV 488 55),uF 51 ue,uk 51,uQ,uF 60 (uI 0),uF 60 uN,uF 60 (uK 0),uF 60 uJ,uF 60 (uL 7),uF 60 (uM 7 0),uF 60 (uT 5 64),uF 60 (uK 4),uF 60 uJ,uF 60 (uL 7),uF 60 (uM 7 1),uF 60 (uT 2 69),uF 60 (uX 2),uF 60 (uS 6 0 2),uF 60 (uA (.seq true [1,1] (.t 73) (.t 74))),uk 60]
abbrev qR9:qG:=.seq (.blk 3 (sr qSG (sr qSH (sr qSI (cD 76 (sr [uU 0 1] .ret) sK))))) (rB 35 [uI 5,ub 1,uH 5 37])
abbrev qSA:qG:=.seq (.blk 1 (sr qSE (sr [uO 0 0 4] (.blk 2 (.loop (.seq (sr qSF (cD 35 sK (.exit 2))) qR9)))))) (rB 20 [uI 3,ub 1,uH 3 22])
abbrev qSB:qG:=.seq (sr qSC (cD 13 (sr [uU 0 1] .ret) sK)) (.seq (sr [uO 0 0 2] (.blk 0 (.loop (.seq (sr qSD (cD 20 sK (.exit 0))) qSA)))) (sr [uz 0 1] .ret))
def Kw:qJ:=⟨1,77,[.t 2],sr [uU 0 1] qSB⟩
abbrev qUU:=bO 6 [uI 3,uI 0,uR,un 7]
abbrev qUV:=bO 12 [uI 0,uI 3,uT 1 13,uP 318,ue]
abbrev qUS:qG:=.loop (.seq (sr qUU (cD 10 sK (.exit 0))) (.seq (.blk 1 (sr qUV (cD 17 (sr [uU 0 1] .ret) sK))) (rB 10 [uI 3,ub 1,uH 3 12])))
abbrev qUT:qG:=.seq (sB 3 [uI 0,uR,vi 5 24] (cD 6 (sr [uU 0 1] .ret) sK)) (.seq (sr [uO 0 0 2] (.blk 0 qUS)) (sr [uz 0 1] .ret))
def kG:qJ:=⟨1,18,[.t 2],sr [uU 0 1] qUT⟩
abbrev qVR:=bO 6 [uI 4,uI 0,uN,uK 0,uJ,uR,un 7]
abbrev qVS:=bO 15 [uI 0,uN,uK 0,uJ,uI 4,uT 5 19,uK 0,uJ,uW 0]
abbrev qVT:=bO 24 [uI 0,uN,uK 0,uJ,uI 4,uT 5 28,uK 4,uJ,ur 2 0,uX 2,uC 4 uj,uY 5 0 2 34]
abbrev qVU:=bO 34 [uL 5,uM 5 1,uW 0,uQ,uE 38 (uL 5),uE 38 (uM 5 0),uE 38 (uI 4),uE 38 (vj 40 41),ua 38]
abbrev qVV:=bO 43 [uI 3,uI 4,uL 5,uM 5 0,vI 0 1 45 1 1 47,u5 2 1 0 48,uo 2 44,uH 3 50]
abbrev qVP:qG:=.seq (sr qVR (cD 13 sK (.exit 0))) (.seq (.blk 1 (.seq (sr qVS (cD 24 (.exit 1) sK)) (sr qVT (sr qVU (cD 43 (rg qVV) sK))))) (rB 13 [uI 4,ub 1,uH 4 15]))
abbrev qVQ:=sB 5 [vD 2,uH 3 6] (.seq (sr [uO 1 0 3] (.blk 0 (.loop qVP))) (sB 50 [uI 3,uH 2 51] .ret))
def kN:qJ:=⟨1,52,[.t 2],sr [uq 0 1] qVQ⟩
abbrev qPI:=bO 8 [uI 0,uI 1,uV 1385 9,uQ,uE 12 (uI 2),uE 12 (uI 3),uE 12 (uV 1385 13),ua 12,uQ,uE 17 (uI 0),uE 17 (vt 18 1),ua 17,uQ,uE 21 (uI 2),uE 21 (vt 22 1),ua 21,uH 8 24]
def KP:qJ:=⟨4,25,[.t 8],sr [uU 0 7] (sr qPI .ret)⟩
abbrev qQT:=bO 6 [uI 0,vz 340 7 0 8,ue,uQ,uF 10 (uI 1),uF 10 (uI 2),uF 10 (uV 1385 11),uF 10 ue,uk 10]
abbrev qQU:=bO 15 [uI 1,uW 6,uQ,uF 18 (uI 1),uF 18 (uW 12),uk 18]
abbrev qQV:=bO 21 [uI 1,uP 1372,uQ,uE 24 (uI 2),uE 24 (uI 0),uE 24 (vj 25 26),ua 24,uH 6 28]
def Ki:qJ:=⟨3,29,[.t 6],sr [uU 0 5] (.seq (sr qQT (cD 15 (sr [uU 0 5] .ret) sK)) (.seq (sr qQU (cD 21 (sr [uz 0 5] .ret) sK)) (sr qQV .ret)))⟩
abbrev qQW:=sB 6 [uZ 3 8,uH 4 7] (cD 4 sK (sB 7 [uZ 3 10,uH 4 8] (cD 4 sK (rB 8 [uZ 3 11,uH 4 9]))))
abbrev qQX:=sr [uI 0 0 2] (.blk 0 (.seq (sB 4 [uZ 3 3,uH 4 5] (cD 4 sK (sB 5 [uZ 3 7,uH 4 6] (cD 4 sK qQW)))) (cD 4 (sr [uz 0 1] .ret) sK)))
def Kj:qJ:=⟨1,10,[.t 2],sr [uU 0 1] (.seq qQX (sr [uU 0 1] .ret))⟩
abbrev qPO:=bO 13 [uI 2,uW 4,uQ,uE 16 (uI 1),uE 16 (uI 3),uE 16 (vf 17 18),ua 16]
abbrev qPP:=bO 20 [uI 1,uI 2,uI 3,uu 1499 21 22]
abbrev qPQ:=bO 26 [uI 2,uW 3,uQ,uE 29 (uI 1),uE 29 (uI 3),uE 29 (vf 30 31),ua 29]
abbrev qPJ:qG:=.seq (sB 37 [uZ 36 7,uH 37 38] (cD 37 sK (rB 38 [uZ 36 8,uH 37 39]))) (cD 37 (sr [uO 5 0 7] .ret) (sB 40 [uZ 36 11,uH 40 41] (cD 40 (sr [uO 6 0 7] .ret) sK)))
abbrev qPK:=cD 42 (sB 43 [uI 2,uW 10] (cD 45 (sr [uO 6 0 7] .ret) sK)) (sB 46 [uZ 9 12,uH 46 47] (cD 46 (sB 47 [uI 2,uP 1500] (cD 49 (sr [uO 7 0 7] .ret) sK)) sK))
abbrev qPL:=cD 25 (sr qPQ (cD 33 (sr [uO 1 0 7] .ret) sK)) (sB 34 [uZ 9 6,uH 34 35] (cD 34 (sr [uI 2 0 35] (.blk 1 qPJ)) (sB 42 [uZ 9 9,uH 42 43] qPK)))
abbrev qPM:=cD 12 (.seq (sr qPO (cD 20 (sr [uO 2 0 7] .ret) sK)) (sr qPP (cD 24 (sr [uO 3 0 7] .ret) sK))) (sB 25 [uZ 9 2,uH 25 26] qPL)
abbrev qPN:=sr [uI 0 0 8] (.blk 0 (sB 10 [uZ 9 5,uH 10 11] (cD 10 (sr [uO 4 0 7] .ret) (sB 12 [uZ 9 4,uH 12 13] qPM))))
def KQ:qJ:=⟨4,50,[.t 8],sr [uO 0 0 7] (.seq qPN (sr [uO 0 0 7] .ret))⟩
abbrev qFJ:=bO 8 [uI 0,uI 1,uI 2,uI 3,v7 1395 9 10 11 12,ue]
abbrev qFK:=bO 14 [uI 0,uI 1,uI 2,uI 3,v7 1396 15 16 17 18,vt 19 0]
abbrev qFL:=bO 20 [uI 2,uI 3,uI 0,uI 1,v7 1396 21 22 23 24,vt 25 0]
abbrev qFI:qG:=.seq (sr qFJ (cD 14 (sr [uO 0 0 7] .ret) sK)) (.seq (sr qFK (cD 20 (sr [uO 1 0 7] .ret) sK)) (.seq (sr qFL (cD 26 (sr [uO 2 0 7] .ret) sK)) (sr [uO 0 0 7] .ret)))
def UL:qJ:=⟨4,27,[.t 8],sr [uO 0 0 7] qFI⟩
abbrev qFN:=bO 9 [uI 0,uI 1,uI 2,uI 3,v7 1395 10 11 12 13,ue]
abbrev qFO:=bO 15 [uI 0,uI 1,uI 2,uI 3,v7 1396 16 17 18 19,uH 9 20]
abbrev qFP:=bO 22 [uI 2,uI 3,uI 0,uI 1,v7 1396 23 24 25 26,uH 9 27]
abbrev qFM:qG:=.seq (sB 20 [uI 9,uW 0] (cD 22 (rg qFP) sK)) (.seq (sB 27 [uI 9,uW 0] (cD 29 (sr [uO 8 0 7] .ret) sK)) (sB 29 [uI 9,uH 8 30] .ret))
def UM:qJ:=⟨4,31,[.t 8],sr [uO 0 0 7] (.seq (sr qFN (cD 15 (sr [uO 0 0 7] .ret) sK)) (sr qFO qFM))⟩
abbrev qVW:=bO 4 [uI 0,uN,uK 0,uJ,uW 9,uQ,uE 10 (uI 1),uE 10 uN,uE 10 (uK 0),uE 10 uJ,uE 10 (uW 10),ua 10,uQ,uE 17 (uI 0),uE 17 uN,uE 17 (uK 2),uE 17 uJ,uE 17 (uI 1),uE 17 uN,uE 17 (uK 3),uE 17 uJ,uE 17 uR,uE 17 (vh 21 26),ua 17]
abbrev qVX:=bO 28 [uI 0,uN,uK 0,uJ,uW 10,uQ,uE 34 (uI 1),uE 34 uN,uE 34 (uK 0),uE 34 uJ,uE 34 (uW 9),ua 34,uQ,uE 41 (uI 1),uE 41 uN,uE 41 (uK 2),uE 41 uJ,uE 41 (uI 0),uE 41 uN,uE 41 (uK 3),uE 41 uJ,uE 41 uR,uE 41 (vh 45 50),ua 41]
abbrev qVY:=bO 52 [uI 0,uN,uK 0,uJ,uI 0,uN,uK 1,uJ,uI 1,uN,uK 0,uJ,uI 1,uN,uK 1,uJ,v7 1111 56 60 64 68,uH 4 69]
def kO:qJ:=⟨2,70,[.t 4],sr [uO 0 0 3] (.seq (sr qVW (cD 28 (sr [uO 8 0 3] .ret) sK)) (.seq (sr qVX (cD 52 (sr [uO 8 0 3] .ret) sK)) (sr qVY .ret)))⟩
def F147:qJ:=toS0
abbrev qP1:=bO 3 [uL 1,uM 1 0,uL 3,uY 3 0 1 5]
abbrev qP2:=bO 6 [uL 1,uM 1 1,uL 3,uY 3 1 1 8]
def KU:qJ:=⟨1,11,[.l 2 (some 2)],sB 0 [ud 2 0,uj] (sr [uj 0 2] (sr qP1 (sr qP2 (sB 9 [uS 3 0 2,ui 2 0 2] .ret))))⟩
def qHD:qJ:=toS 2 (some 2) (.agg [iI 0,iI 0]) 1419
abbrev qW4:=bO 3 [uL 1,uM 1 0,uL 3,uY 3 0 1 5]
abbrev qW5:=bO 6 [uL 1,uM 1 1,uL 3,uY 3 1 1 8]
abbrev qW6:=bO 9 [uL 1,uM 1 2,uL 3,uY 3 2 1 11]
abbrev qW7:=bO 12 [uL 1,uM 1 3,uP 147,uL 3,uY 3 3 1 15]
abbrev qW8:=bO 16 [uL 1,uM 1 4,uP 1178,uL 3,uY 3 4 1 19]
abbrev qW3:=sr [ut 0 2] (sr qW4 (sr qW5 (sr qW6 (sr qW7 (sr qW8 (sB 20 [uS 3 0 5,ui 2 0 5] .ret))))))
def kY:qJ:=⟨1,22,[.l 2 (some 5)],sB 0 [ud 5 0,ut] qW3⟩
def F504:qJ:=toS 5 (some 5) (.agg [iI 0,iI 0,iI 0,.nils,.nils]) 858
abbrev qQ5:=bO 3 [uL 1,uM 1 0,uP 504,uL 3,uY 3 0 1 6]
def Kp:qJ:=⟨1,9,[.l 2 (some 1)],sB 0 [ud 1 0,vG] (sr [vG 0 2] (sr qQ5 (sB 7 [uS 3 0 1,ui 2 0 1] .ret)))⟩
def F184:qJ:=toS 1 (some 1) (.agg [.nils]) 185
def F774:qJ:=Qd 1 none
def F397:qJ:=Q1 774
def qHE:qJ:=Qd 1 (some 1)
def F859:qJ:=Q1 1179
abbrev qUF:=bO 6 [uI 0,uN,uK 0,uJ,uR,uO 0]
abbrev qUG:=bO 13 [uI 12,uf 5 10 12,uX 5,uC 4 ut,uH 4 14,uY 5 0 5 16]
abbrev qUH:=bO 16 [uL 5,uM 5 4,uR,uO 0]
abbrev qUI:=bO 22 [uI 3,uI 4,uI 6,vI 0 1 24 1 1 25,u5 2 1 0 26,uo 2 23,uH 3 28]
abbrev qUD:=sr [ux 19 0 20] (.seq (cD 21 sK (.exit 2)) (.seq (.blk 3 (sB 21 [uI 20,uH 6 22] (rg qUI))) (rB 28 [uw 20 1,uH 20 29])))
abbrev qUE:=sr [ux 11 0 12] (.seq (cD 13 sK (.exit 0)) (.seq (.blk 1 (sr qUG (sr qUH (.blk 2 (.loop qUD))))) (rB 29 [uw 12 1,uH 12 30])))
def kA:qJ:=⟨1,32,[.t 2],sr [uq 0 1] (sr [uq 0 2] (.seq (sr qUF (.blk 0 (.loop qUE))) (sB 30 [uI 3,uH 2 31] .ret)))⟩
abbrev qWE:=bO 2 [uI 0,vg 3 0,uQ,uE 5 (uI 0),uE 5 (vp 6 24),ua 5,uH 2 8]
def kR:qJ:=⟨1,9,[.t 2],sr [uU 0 1] (sr qWE .ret)⟩
abbrev qDP:=bO 2 [uI 0,vg 3 1,uQ,uE 5 (uI 0),uE 5 (vk 6 6),ua 5,uH 2 8]
def qxV:qJ:=⟨1,9,[.t 2],sr [uU 0 1] (sr qDP .ret)⟩
abbrev qDQ:=bO 2 [uI 0,vg 3 (-2147483648),uQ,uE 5 (uI 0),uE 5 (vk 6 2147483647),ua 5,uH 2 8]
def UF:qJ:=⟨1,9,[.t 2],sr [uU 0 1] (sr qDQ .ret)⟩
abbrev qQR:=bO 2 [uI 0,vg 3 1,uQ,uE 5 (uI 0),uE 5 (vk 6 12),ua 5,uH 2 8]
def Ke:qJ:=⟨1,9,[.t 2],sr [uU 0 1] (sr qQR .ret)⟩
abbrev qPC:=bO 5 [uI 0,uW 9,uQ,uE 8 (uI 1),uE 8 (vg 9 0),ua 8,uQ,uE 12 (uI 1),uE 12 (vk 13 3),ua 12,uH 5 15]
abbrev qPD:=bO 18 [uI 0,uP 1487,ue,uQ,uF 22 (uI 0),uF 22 (uW 9),uk 22,uQ,uF 26 (uI 1),uF 26 (vt 27 0),uk 26,uH 18 29]
abbrev qPE:=bO 29 [uA (.build (.agg [iI 0,iI 0,iI 0,iI 0,iI 0,iI 0,iI 0,iI 0,iI 0,iI 0,iI 0,iI 0,iI 0]) [(1,1,.c (iI 1)),(2,1,.c (iI 3)),(3,1,.c (iI 3)),(4,1,.c (iI 3)),(5,1,.c (iI 1)),(6,1,.c (iI 1)),(7,1,.c (iI 3)),(8,1,.c (iI 2)),(10,1,.c (iI 2)),(11,1,.c (iI 2)),(12,1,.c (iI 1))]),uI 0,uA (.aidx 13 1 none (.t 30) (.t 31)),uH 4 32]
abbrev qPB:qG:=.seq (.blk 0 (sr qPC (cD 5 (sB 15 [uI 1,ub 1,uH 4 17] .ret) (sr qPD (cD 18 (sr [uO 0 0 3] .ret) sK))))) (sr qPE .ret)
def KL:qJ:=⟨2,33,[.t 4],sr [uO 0 0 3] qPB⟩
abbrev qPF:qG:=.seq (sB 4 [uI 0,uW 9] (cD 6 (sB 6 [uI 1,vv 7 1,uH 4 8] .ret) sK)) (sr [uO 0 0 3] .ret)
def KM:qJ:=⟨2,9,[.t 4],sr [uO 0 0 3] qPF⟩
abbrev qOT:=bO 2 [uI 0,uP 1487,uQ,uE 5 (uI 0),uE 5 (vt 6 1),ua 5,uQ,uE 9 (uI 0),uE 9 (vt 10 5),ua 9,uQ,uE 13 (uI 0),uE 13 (vt 14 6),ua 13,uH 2 16]
def KG:qJ:=⟨1,17,[.t 2],sr [uU 0 1] (sr qOT .ret)⟩
abbrev qQS:=bO 2 [uI 0,vg 3 0,uQ,uE 5 (uI 0),uE 5 (vk 6 8),ua 5,uH 2 8]
def Kh:qJ:=⟨1,9,[.t 2],sr [uU 0 1] (sr qQS .ret)⟩
abbrev qPG:=bO 4 [uI 0,uP 1487,uQ,uE 7 (uI 1),uE 7 (uW 0),uE 7 uQ,uF 10 (uI 0),uF 10 (uP 1375),uF 10 uQ,uE 13 (uI 1),uE 13 (uP 1495),uF 10 (ua 13),uE 7 (uk 10),ua 7,uH 4 18]
def KN:qJ:=⟨2,19,[.t 4],sr [uU 0 3] (sr qPG .ret)⟩
abbrev qPH:=bO 2 [uI 0,uP 796,ue,uH 2 5]
def KO:qJ:=⟨1,6,[.t 2],sr [uU 0 1] (sr qPH .ret)⟩
abbrev qEY:=bO 5 [uL 1,uM 1 4,uR,uW 0,uQ,uF 10 (uL 1),uF 10 (uM 1 0),uF 10 (uL 1),uF 10 (uM 1 0),uF 10 (uL 1),uF 10 (uM 1 4),uF 10 uR,uD 14 (uC 19 (uF 10 (uL 1))),uD 15 (uF 10 (uM 1 4)),uD 16 (uF 10 uR),uD 12 (uC 17 (uF 10 (uV 1388 14))),uD 13 (uF 10 (uV 1387 12)),uC 22 (uF 10 (vu 19 22)),uk 10,uQ,uF 25 (uL 1),uF 25 (uM 1 0),uF 25 (uL 1),uF 25 (uM 1 1),uF 25 (uV 1389 27),uF 25 ue,uk 25]
abbrev qEZ:=bO 32 [uL 1,uM 1 2,uW 0,uL 1,uM 1 3,uR,uW 0,uH 3 35,uI 39]
abbrev qE1:=bO 39 [uL 1,uM 1 3,uA (.call 397 [.t 41,.f 1390]),ue,uH 5 43]
abbrev qE2:=bO 47 [uL 1,uM 1 2,uP 1051,uH 3 50]
abbrev qE3:=bO 52 [uL 1,uM 1 2,uP 1050,uH 3 55]
abbrev qE4:=bO 57 [uL 1,uM 1 2,uP 1050,uQ,uE 61 (uL 1),uE 61 (uM 1 3),uE 61 uR,uE 61 (uW 1),ua 61,uQ,uE 67 (uL 1),uE 67 (uM 1 3),uE 67 (ur 1 0),uE 67 uJ,uE 67 (uP 1051),ua 67,uH 2 73]
abbrev qE5:=bO 75 [uL 1,uM 1 2,vg 77 0,uQ,uE 79 (uL 1),uE 79 (uM 1 2),uE 79 (vp 81 4),ua 79,uH 3 83]
abbrev qE6:=bO 85 [uL 1,uM 1 3,uR,vg 88 1,uQ,uE 90 (uL 1),uE 90 (uM 1 3),uE 90 uR,uE 90 (vk 93 4),ua 90,uQ,uE 96 (uI 5),ua 96,uH 4 98]
abbrev qE7:=bO 100 [uL 1,uM 1 3,uR,uW 2,uQ,uE 105 (uI 5),ua 105,uH 4 107]
abbrev qE8:=bO 109 [uL 1,uM 1 2,uP 796,uH 3 112]
abbrev qEV:=cD 84 (rg qE6) (sB 99 [uZ 45 11,uH 99 100] (cD 99 (rg qE7) (sB 108 [uZ 45 12,uH 108 109] (cD 108 (rg qE8) sK))))
abbrev qEW:=sB 56 [uZ 45 8,uH 56 57] (cD 56 (sr qE4 .ret) (sB 74 [uZ 45 9,uH 74 75] (cD 74 (rg qE5) (sB 84 [uZ 45 10,uH 84 85] qEV))))
abbrev qEX:=sB 43 [uL 1,uM 1 0] (.blk 0 (sB 46 [uZ 45 6,uH 46 47] (cD 46 (rg qE2) (sB 51 [uZ 45 7,uH 51 52] (cD 51 (rg qE3) qEW)))))
abbrev qE0:=bO 112 [uI 3,uQ,uE 114 (uI 4),ua 114,uH 2 116]
def UK:qJ:=⟨1,117,[.t 2],sB 0 [ud 5 0,uU] (.seq (sr qEY (cD 32 (sr [uU 0 1] .ret) sK)) (sr qEZ (sr qE1 (.seq qEX (sr qE0 .ret)))))⟩
abbrev qVJ:=bO 4 [uI 0,uR,vp 6 1,uQ,uF 8 (uI 0),uF 8 uR,uF 8 (vi 10 600),uk 8]
abbrev qVK:=bO 16 [uI 15,uf 5 13 15,uX 5,uC 3 ut,uH 3 17,uY 4 0 5 19]
abbrev qVL:=bO 19 [uS 4 0 5,uP 1097,ue,uQ,uF 23 (uL 4),uF 23 (uM 4 0),uF 23 (uW 1),uF 23 (uI 3),uF 23 (uW 0),uF 23 (uA (.beq true (.t 26) (.t 28))),uk 23]
abbrev qVH:=sr [ux 14 0 15] (.seq (cD 16 sK (.exit 0)) (.seq (.blk 1 (sr qVK (sr qVL (cD 30 (sr [uU 0 1] .ret) sK)))) (rB 30 [uw 15 1,uH 15 31])))
abbrev qVI:qG:=.seq (sr qVJ (cD 12 (sr [uU 0 1] .ret) sK)) (.seq (sB 12 [uI 0,uR,uO 0] (.blk 0 (.loop qVH))) (sr [uz 0 1] .ret))
def kK:qJ:=⟨1,32,[.t 2],sr [uU 0 1] qVI⟩
def qE9:qJ:=Qd 2 (some 2)
def F712:qJ:=Q1 1098
abbrev qUJ:=bO 4 [uI 0,uN,uK 0,uJ,uL 3,uM 3 0,uT 5 8,uK 4,uJ,uL 3,uM 3 1,uT 2 13,uX 2,ui 4 0 2]
def kC:qJ:=⟨2,18,[.l 4 (some 2)],sB 2 [ud 2 1,uj] (sr qUJ .ret)⟩
abbrev qVO:=bO 4 [uL 3,uM 3 0,vg 6 0,uQ,uE 8 (uL 3),uE 8 (uM 3 0),uE 8 (uI 0),uE 8 uR,uE 8 (un 10),ua 8,uQ,uE 15 (uL 3),uE 15 (uM 3 1),uE 15 (vg 17 0),ua 15,uQ,uE 20 (uL 3),uE 20 (uM 3 1),uE 20 (uI 0),uE 20 (uL 3),uE 20 (uM 3 0),uE 20 (uT 5 23),uE 20 (uK 4),uE 20 uJ,uE 20 uR,uE 20 (un 22),ua 20,uH 4 31]
def kM:qJ:=⟨2,32,[.t 4],sB 2 [ud 2 1,uU] (sr qVO .ret)⟩
abbrev qVM:=bO 4 [uS 2 0 2,uV 555 1,uC 3 uj,uY 4 0 2 6]
abbrev qVN:=bO 6 [uS 4 0 2,uS 2 0 2,UE 1 1 7 8,uQ,uF 10 (uv 0 1),uF 10 uJ,uF 10 (uS 4 0 2),uF 10 (uV 714 12),uF 10 ue,uk 10,uQ,uF 17 (uS 4 0 2),uD 13 (uC 19 (uF 17 (uS 2 0 2))),uD 12 (uC 18 (uF 17 (uV 555 1))),uC 20 (uF 17 (uA (.seq true [1,1] (.t 19) (.t 20)))),uk 17,uH 3 22]
def kL:qJ:=⟨2,23,[.t 3],sB 1 [ud 2 0,uU] (sr qVM (sr qVN .ret))⟩
abbrev qSJ:=bO 2 [uv 0 1,uJ,uP 711,ue]
abbrev qSK:=bO 6 [vK 554 1,uA (.mkfn 713 [.t 1]),uV 712 7,ue,uH 2 10]
def Kx:qJ:=⟨1,11,[.t 2],sB 0 [vT 1 0,uU] (.seq (sr qSJ (cD 6 (sr [uU 0 1] .ret) sK)) (sr qSK .ret))⟩
abbrev qW9:=bO 2 [uS 1 0 1,uP 319,ue,uH 2 5]
def kZ:qJ:=⟨1,6,[.t 2],sB 0 [ud 1 0,uU] (sr qW9 .ret)⟩
abbrev qTW:=bO 2 [uI 0,uR,vk 4 24,uQ,uE 6 (uI 0),uE 6 (uA (.call 859 [.t 7,.f 860])),uE 6 ue,ua 6,uH 2 10]
def K4:qJ:=⟨1,11,[.t 2],sr [uU 0 1] (sr qTW .ret)⟩
abbrev qSN:=bO 6 [uI 0,uN,uK 0,uJ,uR,uO 0]
abbrev qSO:=bO 13 [uI 12,uf 5 10 12,uX 5,uC 4 ut,uH 4 14,uY 5 0 5 16]
abbrev qSP:=bO 16 [uL 5,uM 5 4,ur 2 0,uX 2,uC 5 uj,uY 6 0 2 20]
abbrev qSQ:=bO 20 [uL 6,uM 6 1,uW 0,uQ,uE 24 (uL 6),uE 24 (uM 6 0),uE 24 (uI 4),uE 24 (vj 26 27),ua 24,uQ,uE 30 (uL 5),uE 30 (uM 5 0),uE 30 (vt 32 1),ua 30]
abbrev qSR:=bO 34 [uI 3,uI 4,uL 6,uM 6 0,vI 0 1 36 1 1 38,u5 2 1 0 39,uo 2 35,uH 3 41]
abbrev qSM:=sr [ux 11 0 12] (.seq (cD 13 sK (.exit 0)) (.seq (.blk 1 (sr qSO (sr qSP (sr qSQ (cD 34 (rg qSR) sK))))) (rB 41 [uw 12 1,uH 12 42])))
def Kz:qJ:=⟨1,44,[.t 2],sr [uq 0 1] (sr [uq 0 2] (.seq (sr qSN (.blk 0 (.loop qSM))) (sB 42 [uI 3,uH 2 43] .ret)))⟩
abbrev qQY:=bO 6 [uI 0,uP 1495,ue,uQ,uF 10 (uI 1),uF 10 (uI 2),uF 10 (uV 1389 11),uF 10 ue,uk 10]
abbrev qQZ:=bO 15 [uI 1,uW 6,uQ,uF 18 (uI 1),uF 18 (uW 12),uk 18,uQ,uF 22 (uI 1),uF 22 (uP 1375),uF 22 uQ,uE 25 (uI 2),uE 25 (uI 0),uE 25 (vj 26 27),uF 22 (ua 25),uk 22,uH 6 30]
def Kk:qJ:=⟨3,31,[.t 6],sr [uU 0 5] (.seq (sr qQY (cD 15 (sr [uU 0 5] .ret) sK)) (sr qQZ .ret))⟩
abbrev qQ0:=bO 2 [uI 0,uW 3,uQ,uF 5 (uI 0),uF 5 (uW 7),uk 5,uQ,uF 9 (uI 0),uF 9 (uW 8),uk 9,uQ,uF 13 (uI 0),uF 13 (uW 10),uk 13,uQ,uF 17 (uI 0),uF 17 (uW 11),uk 17,uH 2 20]
def Kl:qJ:=⟨1,21,[.t 2],sr [uU 0 1] (sr qQ0 .ret)⟩
abbrev qPW:=bO 14 [uI 2,uW 4,uQ,uE 17 (uI 1),uE 17 (uI 3),uE 17 (vf 18 19),ua 17,uH 14 21]
abbrev qPX:=bO 22 [uI 1,uI 2,uI 3,uu 1501 23 24,uH 22 26]
abbrev qPY:=bO 28 [uI 2,uW 3,uQ,uE 31 (uI 1),uE 31 (uI 3),uE 31 (vf 32 33),ua 31]
abbrev qPR:qG:=.seq (sB 39 [uZ 38 7,uH 39 40] (cD 39 sK (rB 40 [uZ 38 8,uH 39 41]))) (cD 39 (sr [uO 5 0 7] .ret) (sB 42 [uZ 38 11,uH 42 43] (cD 42 (sr [uO 6 0 7] .ret) sK)))
abbrev qPS:=cD 44 (sB 45 [uI 2,uW 10] (cD 47 (sr [uO 6 0 7] .ret) sK)) (sB 48 [uZ 9 12,uH 48 49] (cD 48 (sB 49 [uI 2,uP 1502] (cD 51 (sr [uO 7 0 7] .ret) sK)) sK))
abbrev qPT:=cD 27 (sr qPY (cD 35 (sr [uO 1 0 7] .ret) sK)) (sB 36 [uZ 9 6,uH 36 37] (cD 36 (sr [uI 2 0 37] (.blk 2 qPR)) (sB 44 [uZ 9 9,uH 44 45] qPS)))
abbrev qPU:=cD 12 (.blk 1 (sr qPW (cD 14 (sr [uO 2 0 7] .ret) (sr qPX (cD 22 (sr [uO 3 0 7] .ret) sK))))) (sB 27 [uZ 9 2,uH 27 28] qPT)
abbrev qPV:=sr [uI 0 0 8] (.blk 0 (sB 10 [uZ 9 5,uH 10 11] (cD 10 (sr [uO 4 0 7] .ret) (sB 12 [uZ 9 4,uH 12 13] qPU))))
def KR:qJ:=⟨4,52,[.t 8],sr [uO 0 0 7] (.seq qPV (sr [uO 0 0 7] .ret))⟩
abbrev qFS:=bO 11 [uI 0,uW 1,uQ,uF 14 (uI 2),uF 14 (uW 1),uk 14,uQ,uF 18 (uI 0),uF 18 (uI 1),uF 18 (uV 1389 19),uF 18 ue,uk 18,uQ,uF 24 (uI 2),uF 24 (uI 3),uF 24 (uV 1389 25),uF 24 ue,uk 24]
abbrev qFT:=bO 29 [uI 0,uI 1,uI 2,uI 3,v7 1398 30 31 32 33,uH 10 34]
abbrev qFU:=bO 37 [uI 2,uI 3,uI 0,uI 1,v7 1398 38 39 40 41,uH 11 42]
abbrev qFQ:qG:=.seq (sr qFU (sB 42 [uI 11,vt 43 0] (cD 44 (sB 44 [uI 11,uH 8 45,uO 2] .ret) sK))) (sB 7 [uO 8,uO 0] .ret)
abbrev qFR:qG:=.seq (sr qFS (cD 29 (sB 7 [uO 0,uO 0] .ret) sK)) (.seq (sr qFT (sB 34 [uI 10,vt 35 0] (cD 36 (sB 36 [uI 10,uH 8 37,uO 1] .ret) sK))) qFQ)
def UN:qJ:=⟨4,46,[.t 8,.t 9],sB 7 [uO 0,uO 0] qFR⟩
abbrev qV0:=bO 9 [uI 0,uN,uK 0,uJ,uL 3,uM 3 0,uT 5 13,uX 5,uI 0,uN,uK 0,uJ,uL 3,uM 3 1,uT 5 21,uX 5,uC 5 ut,ut,uY 6 0 5 17,uY 7 0 5 25]
abbrev qV1:=bO 26 [uL 6,uM 6 0,uL 6,uM 6 1,uL 7,uM 7 0,uL 7,uM 7 1,v7 1115 28 30 32 34,uH 26 35,uC 35 (ug 26 0),ug 26 1,uH 8 36,uI 37]
abbrev qV2:=bO 39 [uS 7 0 5,uS 6 0 5,uY 6 0 5 40,ui 7 0 5]
abbrev qV3:=bO 41 [uI 8,uW 6,uQ,uE 44 (uL 7),uE 44 (uM 7 0),uE 44 (uW 10),ua 44,uQ,uE 49 (uL 6),uE 49 (uM 6 2),uE 49 (uL 7),uE 49 (uM 7 3),uE 49 uR,uE 49 (vh 51 54),ua 49]
abbrev qV4:=bO 56 [uI 8,uI 9,uW 2,uH 4 57,uI 59]
abbrev qVZ:qG:=.seq (sB 37 [uI 9,uW 2] (cD 39 (rg qV2) sK)) (.seq (sr qV3 (cD 56 (sB 3 [uO 8,uU] .ret) sK)) (sr qV4 .ret))
def kP:qJ:=⟨2,60,[.t 4,.t 5],sB 2 [ud 2 1,uO 0,uU] (sr qV0 (sr qV1 qVZ))⟩
def F86:qJ:=eqS0
abbrev qQA:=bO 4 [uL 2,uM 2 0,uL 3,uM 3 0,vu 6 8]
abbrev qQB:=bO 9 [uL 2,uM 2 1,uL 3,uM 3 1,vu 11 13]
def KX:qJ:=⟨2,15,[.t 4],sB 1 [ud 2 0,ud 2 1,uU] (.seq (sr qQA (cD 9 (sr [uU 0 3] .ret) sK)) (.seq (sr qQB (cD 14 (sr [uU 0 3] .ret) sK)) (sr [uz 0 3] .ret)))⟩
def qHV:qJ:=eqS 2 (some 2) 1422
abbrev qX1:=bO 4 [uL 2,uM 2 0,uL 3,uM 3 0,vu 6 8]
abbrev qX2:=bO 9 [uL 2,uM 2 1,uL 3,uM 3 1,vu 11 13]
abbrev qX3:=bO 14 [uL 2,uM 2 2,uL 3,uM 3 2,vu 16 18]
abbrev qX4:=bO 19 [uL 2,uM 2 3,uL 3,uM 3 3,uV 86 21,ue]
abbrev qX5:=bO 25 [uL 2,uM 2 4,uL 3,uM 3 4,uV 1184 27,ue]
abbrev qX0:qG:=.seq (sr qX3 (cD 19 (sr [uU 0 3] .ret) sK)) (.seq (sr qX4 (cD 25 (sr [uU 0 3] .ret) sK)) (.seq (sr qX5 (cD 31 (sr [uU 0 3] .ret) sK)) (sr [uz 0 3] .ret)))
def F870:qJ:=⟨2,32,[.t 4],sB 1 [ud 5 0,ud 5 1,uU] (.seq (sr qX1 (cD 9 (sr [uU 0 3] .ret) sK)) (.seq (sr qX2 (cD 14 (sr [uU 0 3] .ret) sK)) qX0))⟩
def F508:qJ:=eqS 5 (some 5) 870
abbrev qQ6:=bO 4 [uL 2,uM 2 0,uL 3,uM 3 0,uV 508 6,ue]
def Kq:qJ:=⟨2,11,[.t 4],sB 1 [ud 1 0,ud 1 1,uU] (.seq (sr qQ6 (cD 10 (sr [uU 0 3] .ret) sK)) (sr [uz 0 3] .ret))⟩
def F187:qJ:=eqS 1 (some 1) 188
def qX8:List qA:=[oP 0 13 (.lload 1 0 (some 8)),oM 1 14 3,oP 2 15 (.call 104 [.t 13,.t 14]),oM 3 3 15]
def qX9:List qA:=[oP 0 19 (.lload 1 0 (some 8)),oP 1 20 (.call 106 [.t 19]),oP 2 21 (.call 105 [.t 20]),oM 3 18 21,oP 4 22 (.ext (.t 18) 0),oP 5 23 (.ext (.t 18) 1),oP 6 24 (.ext (.t 18) 2),oP 7 25 (.ext (.t 18) 3),oM 8 4 22,oM 9 5 23,oM 10 6 24,oM 11 7 25]
def qYA:List qA:=[oP 0 26 (.lload 1 0 (some 8)),oP 1 27 (.call 106 [.t 26]),oP 2 8 (.lalloc (.agg [.nils,.nils,iI 0,iI 0,.nils,.nils,.nils,.nils])),oN 3 (.lstore 8 0 8 (.t 27))]
def qYB:List qA:=[oP 0 29 (.lload 8 0 (some 8)),oP 1 30 (.call 107 [.t 29]),oM 2 28 30,oP 3 31 (.ext (.t 28) 0),oP 4 32 (.ext (.t 28) 1),oP 5 33 (.ext (.t 28) 2),oP 6 34 (.ext (.t 28) 3),oM 7 9 31,oM 8 10 32,oM 9 11 33,oM 10 12 34]
def qYC:List qA:=[oM 0 35 9,oM 1 36 4,oP 2 37 (.bin .neq (.t 35) (.t 36)),oM 3 38 37,oG 4 39 38 false (.mov (.t 10)),oG 5 40 38 false (.mov (.t 5)),oG 6 41 38 false (.bin .neq (.t 39) (.t 40)),oP 7 42 (.pick (.t 38) (.c (.bool true)) (.t 41)),oM 8 43 42,oG 9 44 43 false (.mov (.t 11)),oG 10 45 43 false (.mov (.t 6)),oG 11 46 43 false (.bin .neq (.t 44) (.t 45)),oP 12 47 (.pick (.t 43) (.c (.bool true)) (.t 46)),oM 13 48 47,oG 14 49 48 false (.mov (.t 12)),oG 15 50 48 false (.mov (.t 7)),oG 16 51 48 false (.bin .neq (.t 49) (.t 50)),oP 17 52 (.pick (.t 48) (.c (.bool true)) (.t 51))]
def qYD:List qA:=[oP 0 53 (.lload 8 0 (some 8)),oP 1 54 (.lload 1 0 (some 8)),oP 2 55 (.call 106 [.t 54]),oP 3 56 (.call 108 [.t 53,.t 55]),oP 4 57 (.not (.t 56))]
def qX6:qG:=.seq (.reg true qYB) (.seq (.seq (.reg true qYC) (.cond (.t 52) (.seq (.reg true [oP 0 2 (.mov (.c (.bool false)))]) (.ret)) (.skip))) (.seq (.seq (.reg true qYD) (.cond (.t 57) (.seq (.reg true [oP 0 2 (.mov (.c (.bool false)))]) (.ret)) (.skip))) (.seq (.reg true [oP 0 2 (.mov (.c (.bool true)))]) (.ret))))
def qX7:qG:=.seq (.reg true [oP 0 3 (.mov (.c (iI 1048576)))]) (.seq (.reg true qX8) (.seq (.seq (.reg true [oM 0 16 3,oP 1 17 (.bin .lss (.t 16) (.c (iI 0)))]) (.cond (.t 17) (.seq (.reg true [oP 0 2 (.mov (.c (.bool true)))]) (.ret)) (.skip))) (.seq (.reg true qX9) (.seq (.reg true qYA) qX6))))
def F8:qJ:=⟨1,58,[.t 2],.seq (.reg true [oP 0 1 (.lbox 8 (.t 0)),oP 1 2 (.mov (.c (.bool false)))]) qX7⟩
def qFC:List qA:=[oP 0 9 (.lload 1 0 (some 8)),oM 1 10 3,oP 2 11 (.call 104 [.t 9,.t 10]),oM 3 3 11]
def qFD:List qA:=[oP 0 15 (.lload 1 0 (some 8)),oP 1 16 (.call 106 [.t 15]),oP 2 17 (.call 116 [.t 16]),oM 3 14 17,oP 4 18 (.ext (.t 14) 0),oP 5 19 (.ext (.t 14) 1),oM 6 4 18,oM 7 5 19]
def qFE:List qA:=[oP 0 20 (.lload 1 0 (some 8)),oP 1 21 (.call 106 [.t 20]),oP 2 6 (.lalloc (.agg [.nils,.nils,iI 0,iI 0,.nils,.nils,.nils,.nils])),oN 3 (.lstore 6 0 8 (.t 21))]
def qFF:List qA:=[oP 0 23 (.lload 6 0 (some 8)),oP 1 24 (.call 117 [.t 23]),oM 2 22 24,oP 3 25 (.ext (.t 22) 0),oP 4 26 (.ext (.t 22) 1),oM 5 7 25,oM 6 8 26]
def qFG:List qA:=[oM 0 27 7,oM 1 28 4,oP 2 29 (.bin .neq (.t 27) (.t 28)),oM 3 30 29,oG 4 31 30 false (.mov (.t 8)),oG 5 32 30 false (.mov (.t 5)),oG 6 33 30 false (.bin .neq (.t 31) (.t 32)),oP 7 34 (.pick (.t 30) (.c (.bool true)) (.t 33))]
def qFH:List qA:=[oP 0 35 (.lload 6 0 (some 8)),oP 1 36 (.lload 1 0 (some 8)),oP 2 37 (.call 106 [.t 36]),oP 3 38 (.call 108 [.t 35,.t 37]),oP 4 39 (.not (.t 38))]
def qFA:qG:=.seq (.reg true qFF) (.seq (.seq (.reg true qFG) (.cond (.t 34) (.seq (.reg true [oP 0 2 (.mov (.c (.bool false)))]) (.ret)) (.skip))) (.seq (.seq (.reg true qFH) (.cond (.t 39) (.seq (.reg true [oP 0 2 (.mov (.c (.bool false)))]) (.ret)) (.skip))) (.seq (.reg true [oP 0 2 (.mov (.c (.bool true)))]) (.ret))))
def qFB:qG:=.seq (.reg true [oP 0 3 (.mov (.c (iI 1048576)))]) (.seq (.reg true qFC) (.seq (.seq (.reg true [oM 0 12 3,oP 1 13 (.bin .lss (.t 12) (.c (iI 0)))]) (.cond (.t 13) (.seq (.reg true [oP 0 2 (.mov (.c (.bool true)))]) (.ret)) (.skip))) (.seq (.reg true qFD) (.seq (.reg true qFE) qFA))))
def F10:qJ:=⟨1,40,[.t 2],.seq (.reg true [oP 0 1 (.lbox 8 (.t 0)),oP 1 2 (.mov (.c (.bool false)))]) qFB⟩
abbrev qTI:=bO 2 [vD 1,uI 0,uo 1 3,uH 2 5]
def K0:qJ:=⟨1,6,[.t 2],sr [uq 0 1] (sr qTI .ret)⟩
abbrev qTH:=bO 4 [vD 1,uI 0,uo 1 5,uH 2 7]
def F401:qJ:=⟨1,8,[.t 2],sr [uq 0 1] (.seq (sB 2 [uI 0,v8 1 3] (cD 4 (sr [uq 0 1] .ret) sK)) (sr qTH .ret))⟩
abbrev qOS:=bO 4 [vD 2,uI 0,uo 2 5,uH 2 7]
def qOR:qJ:=⟨1,8,[.t 2],sr [uq 0 1] (.seq (sB 2 [uI 0,v8 1 3] (cD 4 (sr [uq 0 1] .ret) sK)) (sr qOS .ret))⟩
abbrev qES:=bO 2 [uL 1,uM 1 3,uD 3 (uC 5 (uL 1)),uD 4 (uM 1 4),uD 2 (uC 4 (uP 401)),uD 6 (uC 8 (uL 1)),uD 5 (uC 7 (uP 1373)),uY 1 3 1 5,uC 9 (uL 1),uY 1 4 1 8]
def UI:qJ:=⟨1,12,[.l 2 (some 5)],sB 0 [ud 5 0,ut] (sr qES (sB 10 [uS 1 0 5,ui 2 0 5] .ret))⟩
abbrev qWG:=bO 5 [uL 1,uM 1 0,uR,UC 5 0 8,uA (.build (.agg [.nils]) [(0,1,.t 9)]),uC 2 vG,uY 3 0 1 10]
abbrev qWH:=bO 10 [uL 1,uM 1 0,uR,uO 0]
abbrev qWI:=bO 15 [uf 5 12 14,uX 5,uC 4 ut,uY 5 0 5 17]
abbrev qWJ:=bO 17 [uL 3,uM 3 0,uS 5 0 5,uP 1085,vU 5 1 0 21,uo 5 19,uL 3,uY 3 0 1 23]
abbrev qWF:qG:=.loop (sr [ux 13 0 14] (.seq (cD 15 sK (.exit 0)) (.seq (.blk 1 (sr qWI (rg qWJ))) (rB 24 [uw 14 1,uH 14 25]))))
def kS:qJ:=⟨1,27,[.l 2 (some 1)],sB 0 [ud 1 0,vG] (sr qWG (.seq (sr qWH (.blk 0 qWF)) (sB 25 [uS 3 0 1,ui 2 0 1] .ret)))⟩
abbrev qzX:=bO 5 [uQ,uI 0,uR,un 6]
abbrev qzY:=bO 11 [uI 0,uI 5,uI 1,uf 1 12 13,uc 1 14]
abbrev qzW:qG:=.seq (.blk 1 (sr qzY (rB 15 [uI 1,ub 1,uH 1 17]))) (rB 9 [uI 5,ub 1,uH 5 11])
def F90:qJ:=⟨2,19,[.t 4],sr [uO 0 0 3] (.seq (sr [uO 0 0 4] (.blk 0 (.loop (.seq (sr qzX (cD 9 sK (.exit 0))) qzW)))) (sB 17 [uI 1,uH 4 18] .ret))⟩
abbrev qzT:=bO 5 [uQ,uI 0,uR,un 6]
abbrev qzU:=bO 11 [uI 0,uI 5,uI 1,uf 2 12 13,uK 0,uc 1 14]
abbrev qzV:=bO 18 [uI 0,uI 5,uI 1,uf 2 19 20,uK 1,uc 1 21]
abbrev qzR:=sB 16 [uI 1,ub 1,uH 1 18] (sr qzV (rB 23 [uI 1,ub 1,uH 1 25]))
abbrev qzS:=sr [uO 0 0 4] (.blk 0 (.loop (.seq (sr qzT (cD 9 sK (.exit 0))) (.seq (.blk 1 (sr qzU qzR)) (rB 9 [uI 5,ub 1,uH 5 11])))))
def F885:qJ:=⟨2,27,[.t 4],sr [uO 0 0 3] (.seq qzS (sB 25 [uI 1,uH 4 26] .ret))⟩
abbrev qy8:=bO 5 [uQ,uI 0,uR,un 6]
abbrev qy9:=bO 11 [uI 0,uI 5,uI 1,uf 5 12 13,uK 0,uc 1 14]
abbrev qzA:=bO 18 [uI 0,uI 5,uI 1,uf 5 19 20,uK 1,uc 1 21]
abbrev qzB:=bO 25 [uI 0,uI 5,uI 1,uf 5 26 27,uK 2,uc 1 28]
abbrev qzC:=bO 32 [uI 0,uI 5,uT 5 33,uK 3,uJ,uI 1,uV 90 37,uH 1 39]
abbrev qzD:=bO 39 [uI 0,uI 5,uT 5 40,uK 4,uJ,uI 1,uV 885 44,uH 1 46]
abbrev qy6:=sB 23 [uI 1,ub 1,uH 1 25] (sr qzB (sB 30 [uI 1,ub 1,uH 1 32] (sr qzC (rg qzD))))
abbrev qy7:qG:=.seq (.blk 1 (sr qy9 (sB 16 [uI 1,ub 1,uH 1 18] (sr qzA qy6)))) (rB 9 [uI 5,ub 1,uH 5 11])
def F524:qJ:=⟨2,48,[.t 4],sr [uO 0 0 3] (.seq (sr [uO 0 0 4] (.blk 0 (.loop (.seq (sr qy8 (cD 9 sK (.exit 0))) qy7)))) (sB 46 [uI 1,uH 4 47] .ret))⟩
abbrev qx7:=bO 5 [uQ,uI 0,uR,un 6]
abbrev qx8:=bO 11 [uI 0,uI 5,uT 1 12,uK 0,uJ,uI 1,uV 524 16,uH 1 18]
abbrev qx6:=sr [uO 0 0 4] (.blk 0 (.loop (.seq (sr qx7 (cD 9 sK (.exit 0))) (.seq (.blk 1 (rg qx8)) (rB 9 [uI 5,ub 1,uH 5 11])))))
def F225:qJ:=⟨2,20,[.t 4],sr [uO 0 0 3] (.seq qx6 (sB 18 [uI 1,uH 4 19] .ret))⟩
abbrev qz0:=bO 5 [uQ,uI 0,uR,un 6]
abbrev qz1:=bO 11 [uI 0,uI 5,uT 1 12,uJ,uI 1,vu 15 16]
abbrev qzZ:qG:=.seq (.blk 1 (.seq (sr qz1 (cD 17 (sr [uO (-1) 0 3] .ret) sK)) (rB 17 [uI 1,ub 1,uH 1 19]))) (rB 9 [uI 5,ub 1,uH 5 11])
def F92:qJ:=⟨2,21,[.t 4],sr [uO 0 0 3] (.seq (sr [uO 0 0 4] (.blk 0 (.loop (.seq (sr qz0 (cD 9 sK (.exit 0))) qzZ)))) (sB 19 [uI 1,uH 4 20] .ret))⟩
def qLX:List qA:=[oP 0 16 (.lload 2 0 (some 8)),oM 1 17 5,oP 2 18 (.call 104 [.t 16,.t 17]),oM 3 5 18]
def qLY:List qA:=[oP 0 22 (.lload 2 0 (some 8)),oP 2 24 (.lload 3 0 (some 2)),oP 8 6 (.lalloc (.agg [.nils,.nils,iI 0,iI 0,.nils,.nils,.nils,.nils])),oP 1 23 (.call 106 [.t 22]),oP 3 25 (.call 134 [.t 24]),oP 4 26 (.call 133 [.t 23,.t 25]),oM 5 21 26,oP 6 27 (.ext (.t 21) 0),oP 7 28 (.ext (.t 21) 1),oN 9 (.lstore 6 0 8 (.t 27)),oM 10 7 28]
def qL2:List qA:=[oP 0 29 (.lload 2 0 (some 8)),oP 1 30 (.call 106 [.t 29]),oP 2 8 (.lalloc (.agg [.nils,.nils,iI 0,iI 0,.nils,.nils,.nils,.nils])),oN 3 (.lstore 8 0 8 (.t 30))]
def qL3:List qA:=[oP 0 32 (.lload 8 0 (some 8)),oP 1 33 (.lload 3 0 (some 2)),oP 7 9 (.lalloc (.agg [.nils,.nils,iI 0,iI 0,.nils,.nils,.nils,.nils])),oP 2 34 (.call 134 [.t 33]),oP 3 35 (.call 135 [.t 32,.t 34]),oM 4 31 35,oP 5 36 (.ext (.t 31) 0),oP 6 37 (.ext (.t 31) 1),oN 8 (.lstore 9 0 8 (.t 36)),oM 9 10 37]
def qL4:List qA:=[oP 0 38 (.lload 9 0 (some 8)),oP 1 39 (.lload 6 0 (some 8)),oP 2 40 (.call 108 [.t 38,.t 39]),oP 3 41 (.not (.t 40)),oM 4 42 41,oG 5 43 42 false (.mov (.t 10)),oG 6 44 42 false (.mov (.t 7)),oG 7 45 42 false (.bin .neq (.t 43) (.t 44)),oP 8 46 (.pick (.t 42) (.c (.bool true)) (.t 45))]
def qL5:List qA:=[oP 0 47 (.lload 8 0 (some 8)),oP 1 48 (.lload 2 0 (some 8)),oP 2 49 (.call 106 [.t 48]),oP 3 50 (.call 108 [.t 47,.t 49]),oP 4 51 (.not (.t 50))]
def qL6:List qA:=[oP 0 52 (.lload 8 0 (some 8)),oM 1 53 11,oP 2 54 (.call 136 [.t 52,.t 53]),oM 3 11 54]
def qL7:List qA:=[oM 0 55 11,oP 1 56 (.bin .lss (.t 55) (.c (iI 0))),oM 2 57 56,oG 3 58 57 false (.lload 9 0 (some 8)),oG 4 59 57 false (.lload 6 0 (some 8)),oG 5 60 57 false (.call 108 [.t 58,.t 59]),oG 6 61 57 false (.not (.t 60)),oP 7 62 (.pick (.t 57) (.c (.bool true)) (.t 61)),oM 8 63 62,oG 9 64 63 false (.mov (.t 10)),oG 10 65 63 false (.mov (.t 7)),oG 11 66 63 false (.bin .neq (.t 64) (.t 65)),oP 12 67 (.pick (.t 63) (.c (.bool true)) (.t 66))]
def qL8:List qA:=[oP 0 68 (.lload 9 0 (some 8)),oM 1 69 12,oP 2 70 (.call 136 [.t 68,.t 69]),oM 3 12 70]
def qL9:List qA:=[oP 0 71 (.lload 9 0 (some 8)),oM 1 72 13,oP 2 73 (.call 137 [.t 71,.t 72]),oM 3 13 73]
def qLZ:List qA:=[oP 0 80 (.lload 2 0 (some 8)),oP 2 82 (.lload 3 0 (some 2)),oP 8 14 (.lalloc (.agg [.nils,.nils,iI 0,iI 0,.nils,.nils,.nils,.nils])),oP 1 81 (.call 106 [.t 80]),oP 3 83 (.call 134 [.t 82]),oP 4 84 (.call 135 [.t 81,.t 83]),oM 5 79 84,oP 6 85 (.ext (.t 79) 0),oP 7 86 (.ext (.t 79) 1),oN 9 (.lstore 14 0 8 (.t 85)),oM 10 15 86]
def qL0:List qA:=[oP 0 87 (.lload 14 0 (some 8)),oP 1 88 (.lload 6 0 (some 8)),oP 2 89 (.call 108 [.t 87,.t 88]),oP 3 90 (.not (.t 89)),oM 4 91 90,oG 5 92 91 false (.mov (.t 15)),oG 6 93 91 false (.mov (.t 7)),oG 7 94 91 false (.bin .neq (.t 92) (.t 93)),oP 8 95 (.pick (.t 91) (.c (.bool true)) (.t 94))]
def qL1:List qA:=[oP 0 96 (.lload 9 0 (some 8)),oM 1 97 13,oP 2 98 (.call 137 [.t 96,.t 97]),oM 3 13 98]
def qLS:qG:=.seq (.seq (.reg true [oM 0 99 13,oP 1 100 (.bin .lss (.t 99) (.c (iI 0)))]) (.cond (.t 100) (.seq (.reg true [oP 0 4 (.mov (.c (.bool false)))]) (.ret)) (.skip))) (.seq (.seq (.reg true [oM 0 101 13,oM 1 102 12,oP 2 103 (.bin .neq (.t 101) (.t 102))]) (.cond (.t 103) (.seq (.reg true [oP 0 4 (.mov (.c (.bool false)))]) (.ret)) (.skip))) (.seq (.reg true [oP 0 4 (.mov (.c (.bool true)))]) (.ret)))
def qLT:qG:=.seq (.seq (.reg true [oM 0 76 13,oM 1 77 12,oP 2 78 (.bin .neq (.t 76) (.t 77))]) (.cond (.t 78) (.seq (.reg true [oP 0 4 (.mov (.c (.bool false)))]) (.ret)) (.skip))) (.seq (.reg true qLZ) (.seq (.seq (.reg true qL0) (.cond (.t 95) (.seq (.reg true [oP 0 4 (.mov (.c (.bool false)))]) (.ret)) (.skip))) (.seq (.reg true [oP 0 13 (.mov (.c (iI 1)))]) (.seq (.reg true qL1) qLS))))
def qLU:qG:=.seq (.reg true qL8) (.seq (.reg true [oP 0 13 (.mov (.c (iI 1)))]) (.seq (.reg true qL9) (.seq (.seq (.reg true [oM 0 74 13,oP 1 75 (.bin .lss (.t 74) (.c (iI 0)))]) (.cond (.t 75) (.seq (.reg true [oP 0 4 (.mov (.c (.bool false)))]) (.ret)) (.skip))) qLT)))
def qLV:qG:=.seq (.seq (.reg true qL5) (.cond (.t 51) (.seq (.reg true [oP 0 4 (.mov (.c (.bool false)))]) (.ret)) (.skip))) (.seq (.reg true [oP 0 11 (.mov (.c (iI 1)))]) (.seq (.reg true qL6) (.seq (.seq (.reg true qL7) (.cond (.t 67) (.seq (.reg true [oP 0 4 (.mov (.c (.bool false)))]) (.ret)) (.skip))) (.seq (.reg true [oP 0 12 (.mov (.c (iI 1)))]) qLU))))
def qLW:qG:=.seq (.seq (.reg true [oM 0 19 5,oP 1 20 (.bin .lss (.t 19) (.c (iI 0)))]) (.cond (.t 20) (.seq (.reg true [oP 0 4 (.mov (.c (.bool true)))]) (.ret)) (.skip))) (.seq (.reg true qLY) (.seq (.reg true qL2) (.seq (.reg true qL3) (.seq (.seq (.reg true qL4) (.cond (.t 46) (.seq (.reg true [oP 0 4 (.mov (.c (.bool false)))]) (.ret)) (.skip))) qLV))))
def F12:qJ:=⟨2,104,[.t 4],.seq (.reg true [oP 0 2 (.lbox 8 (.t 0)),oP 1 3 (.lbox 2 (.t 1)),oP 2 4 (.mov (.c (.bool false)))]) (.seq (.reg true [oP 0 5 (.mov (.c (iI 1048576)))]) (.seq (.reg true qLX) qLW))⟩
abbrev qW2:qG:=.seq (sB 4 [uI 0,uI 1,vj 5 6] (cD 7 (sB 7 [uI 0,uH 4 8] .ret) sK)) (sB 8 [uI 1,uH 4 9] .ret)
def kW:qJ:=⟨2,10,[.t 4],sr [uO 0 0 3] qW2⟩
abbrev qHB:=bO 4 [uQ,uI 0,uN,uK 0,uJ,uR,un 5]
abbrev qHC:=bO 13 [uI 3,uI 0,uN,uK 0,uJ,uI 4,uT 5 18,uK 1,uJ,uV 856 14,uH 3 23]
abbrev qHA:=sr [uO 0 0 3] (.blk 0 (.loop (.seq (sr qHB (cD 11 sK (.exit 0))) (.seq (.blk 1 (rg qHC)) (rB 11 [uI 4,ub 1,uH 4 13])))))
def UT:qJ:=⟨1,25,[.t 2],sr [uO 0 0 1] (sr [uO 0 0 2] (.seq qHA (sB 23 [uI 3,uH 2 24] .ret)))⟩
abbrev qF5:=bO 2 [uI 0,uA (.conv .u64 (.t 3)),uA (.conv .u32 (.t 4)),uA (.conv .i32 (.t 5)),uA (.conv .i64 (.t 6)),uH 2 7]
def UP:qJ:=⟨1,8,[.t 2],sr [uO 0 0 1] (sr qF5 .ret)⟩
def UQ:qJ:=⟨1,4,[.t 2],sr [uO 0 0 1] (.seq (sr [uI 0 0 2] (cD 3 (sr [uO 1 0 1] .ret) sK)) (sr [uO 0 0 1] .ret))⟩
abbrev qV8:=bO 15 [uI 7,uI 8,ve 16 17,uP 1125,uH 6 19]
abbrev qV9:=bO 21 [uI 7,uI 8,vx 22 23,uP 1125,uH 6 25]
abbrev qWA:=bO 27 [uI 7,uI 8,uA (.bin .mul (.t 28) (.t 29)),uP 1125,uH 6 31]
abbrev qWB:=bO 35 [uI 7,uI 8,uA (.bin .quo (.t 36) (.t 37)),uP 1125,uH 6 39]
abbrev qWC:=bO 41 [uI 7,uI 8,un 42,uP 1126,uH 6 45]
abbrev qWD:=bO 47 [uI 7,uI 8,vf 48 49,uP 1126,uH 6 51]
abbrev qV5:=cD 32 (.seq (sB 33 [uI 8,uW 0] (cD 35 (sr [uO 0 0 5] .ret) sK)) (sr qWB .ret)) (sB 40 [uZ 13 5,uH 40 41] (cD 40 (sr qWC .ret) (sB 46 [uZ 13 6,uH 46 47] (cD 46 (sr qWD .ret) sK))))
abbrev qV6:=sB 20 [uZ 13 2,uH 20 21] (cD 20 (sr qV9 .ret) (sB 26 [uZ 13 3,uH 26 27] (cD 26 (sr qWA .ret) (sB 32 [uZ 13 4,uH 32 33] qV5))))
abbrev qV7:=sB 10 [uI 2,uP 1125,uH 8 12] (.seq (sr [uI 0 0 12] (.blk 0 (sB 14 [uZ 13 1,uH 14 15] (cD 14 (sr qV8 .ret) qV6)))) (sr [uO 0 0 5] .ret))
def kQ:qJ:=⟨3,52,[.t 6],sr [uO 0 0 5] (sB 8 [uI 1,uP 1125,uH 7 10] qV7)⟩
abbrev qQF:=bO 8 [uS 2 0 1,uP 798,uC 5 vG,uY 6 0 1 10]
abbrev qQG:=bO 10 [uL 6,uM 6 0,uR,uO 0]
abbrev qQH:=bO 16 [uL 6,uM 6 0,uI 7,uT 5 18,uH 8 20]
abbrev qQI:=bO 20 [uI 8,uN,uK 0,uJ,uP 1375,ue]
abbrev qQJ:=bO 26 [uI 8,uN,uK 1,uJ,uI 1,ve 30 31,vC 27,uK 1,uc 1 32]
abbrev qQK:=bO 34 [uI 8,uN,uK 1,uJ,vi 38 8]
abbrev qQD:=sB 15 [uI 14,uH 7 16] (sr qQH (.seq (sr qQI (cD 26 (.exit 1) sK)) (sr qQJ (sr qQK (cD 39 (sB 39 [uA (.build (.agg [.nils]) []),ui 4 0 1,uC 4 uU] .ret) sK)))))
abbrev qQE:qG:=.seq (sr qQG (.blk 0 (.loop (sr [ux 13 0 14] (.seq (cD 15 sK (.exit 0)) (.seq (.blk 1 qQD) (rB 40 [uw 14 1,uH 14 41]))))))) (sB 41 [uS 6 0 1,ui 4 0 1,uC 4 uz] .ret)
def KZ:qJ:=⟨2,43,[.l 4 (some 1),.t 5],sB 1 [ud 1 0,uC 3 vG,uU] (sr qQF qQE)⟩
abbrev qMC:=bO 2 [ud 2 1,uO 0,uO 0,uO 0,uO 0]
abbrev qMD:=bO 12 [uI 0,uN,uK 0,uS 3 0 2,uV 751 15,uH 12 17,uC 17 (ug 12 0),ug 12 1,uH 4 18,uH 8 19]
abbrev qMF:=bO 19 [uL 3,uM 3 0,uL 3,uM 3 1,uH 5 21,uI 23]
abbrev qMG:=bO 24 [uI 6,uI 5,uH 5 25,uI 26]
abbrev qMH:=bO 3 [uO 0,uO 0,uO 0,uO 11]
abbrev qMI:=bO 31 [uI 0,uN,uK 0,uK 0,uJ,uI 5,uT 5 36,uX 5,uC 8 ut,uY 9 0 5 39]
abbrev qMJ:=bO 39 [uL 9,uM 9 2,uI 0,uN,uK 1,uJ,uR,vh 41 46]
abbrev qMK:=bO 3 [uO 0,uO 0,uO 0,uO 3]
abbrev qML:=bO 48 [uI 0,uN,uK 1,uJ,uL 9,uM 9 2,uT 1 52,uX 1,uL 9,uM 9 1,uD 14 (uC 9 vG),uD 10 (uC 58 (uV 1456 56)),uD 11 (uH 48 59),uD 12 (uC 59 (ug 48 0)),uD 13 (ug 48 1),uY 10 0 1 60,uH 11 61]
abbrev qMM:=bO 3 [uO 0,uO 0,uO 0,uO 9]
abbrev qMA:=sB 30 [uZ 27 7,uH 30 31] (cD 30 (sr qMI (.seq (sr qMJ (cD 47 (sr qMK .ret) sK)) (sr qML (sB 61 [uI 11,ue] (cD 63 (sr qMM .ret) sK))))) sK)
abbrev qME:=bO 63 [uI 4,uI 5,uI 6,uH 4 64,uI 65,uI 66,uO 0]
abbrev qMB:qG:=.seq (sr [uI 8 0 23] (cD 24 (rg qMG) sK)) (.seq (sr [uI 4 0 26] (.blk 0 (sB 28 [uZ 27 8,uH 28 29] (cD 28 (sr qMH .ret) qMA)))) (sr qME .ret))
def Us:qJ:=⟨2,67,[.t 4,.t 5,.t 6,.t 7],sr qMC (sr qMD (sr qMF qMB))⟩
def kE:qJ:=⟨1,4,[.t 2],sr [uO 0 0 1] (.seq (sr [uI 0 0 2] (cD 3 (sr [uO 1 0 1] .ret) sK)) (sr [uO 0 0 1] .ret))⟩
abbrev qPZ:=bO 2 [uI 0,uA (.conv .i32 (.t 3)),uA (.conv .i64 (.t 4)),uH 2 5]
def KS:qJ:=⟨1,6,[.t 2],sr [uO 0 0 1] (sr qPZ .ret)⟩
abbrev qFY:=bO 8 [uI 1,uP 1400,uI 2,uP 1400,uH 7 10,uI 12]
abbrev qFZ:=bO 15 [uI 7,uI 8,ve 16 17,uP 1400,uH 6 19]
abbrev qF0:=bO 21 [uI 7,uI 8,vx 22 23,uP 1400,uH 6 25]
abbrev qF1:=bO 27 [uI 7,uI 8,uA (.bin .mul (.t 28) (.t 29)),uP 1400,uH 6 31]
abbrev qF2:=bO 35 [uI 7,uI 8,uA (.bin .quo (.t 36) (.t 37)),uP 1400,uH 6 39]
abbrev qF3:=bO 41 [uI 7,uI 8,un 42,uP 566,uH 6 45]
abbrev qF4:=bO 47 [uI 7,uI 8,vf 48 49,uP 566,uH 6 51]
abbrev qFV:=cD 32 (.seq (sB 33 [uI 8,uW 0] (cD 35 (sr [uO 0 0 5] .ret) sK)) (sr qF2 .ret)) (sB 40 [uZ 13 5,uH 40 41] (cD 40 (sr qF3 .ret) (sB 46 [uZ 13 6,uH 46 47] (cD 46 (sr qF4 .ret) sK))))
abbrev qFW:=sB 20 [uZ 13 2,uH 20 21] (cD 20 (sr qF0 .ret) (sB 26 [uZ 13 3,uH 26 27] (cD 26 (sr qF1 .ret) (sB 32 [uZ 13 4,uH 32 33] qFV))))
abbrev qFX:=sr qFY (.seq (sr [uI 0 0 12] (.blk 0 (sB 14 [uZ 13 1,uH 14 15] (cD 14 (sr qFZ .ret) qFW)))) (sr [uO 0 0 5] .ret))
def UO:qJ:=⟨3,52,[.t 6],sr [uO 0 0 5] qFX⟩
abbrev qa4:qG:=.seq (sB 4 [uI 0,uI 1,un 5] (cD 7 (sB 7 [uI 0,uH 4 8] .ret) sK)) (sB 8 [uI 1,uH 4 9] .ret)
def F978:qJ:=⟨2,10,[.t 4],sr [uO 0 0 3] qa4⟩
def qQQ:qJ:=Qd 2 (some 2)
def qRT:List qA:=[oP 0 1 (.lbox 4 (.t 0)),oP 1 2 (.lalloc (.agg [iI 0,iI 0,iI 0,.nils])),oP 2 3 (.mov (.c (iI 0))),oP 3 4 (.mov (.c (iI 0)))]
def qRU:List qA:=[oP 0 10 (.build (.agg [iI 0,iI 0,iI 0,.nils]) []),oN 1 (.lstore 2 0 4 (.t 10)),oP 2 3 (.mov (.c (iI 0))),oP 3 4 (.mov (.c (iI 1)))]
def qRV:List qA:=[oP 0 11 (.lload 1 0 (some 4)),oP 1 12 (.call 590 [.t 11]),oP 2 5 (.halloc 4 (.agg [iI 0,iI 0,iI 0,.nils])),oN 3 (.store 4 (.t 5) (.t 12))]
def qRW:List qA:=[oP 0 16 (.build (.agg [iI 0,iI 0,iI 0,.nils]) []),oN 1 (.lstore 2 0 4 (.t 16)),oP 2 3 (.mov (.c (iI 0))),oP 3 4 (.mov (.c (iI 3)))]
def qRX:List qA:=[oP 0 17 (.load (some 4) (.t 5)),oP 1 18 (.faddr 3 (.t 5)),oP 2 19 (.load none (.t 18)),oM 3 20 6,oP 4 21 (.iaddr 10 (.t 19) (.t 20)),oP 5 22 (.faddr 0 (.t 21)),oP 6 23 (.load none (.t 22)),oN 7 (.lstore 2 0 4 (.t 17)),oM 8 3 23,oP 9 4 (.mov (.c (iI 0)))]
def qRS:qG:=.seq (.reg true qRV) (.seq (.reg true [oP 0 13 (.call 591 [.t 5]),oM 1 6 13]) (.seq (.seq (.reg true [oM 0 14 6,oP 1 15 (.bin .lss (.t 14) (.c (iI 0)))]) (.cond (.t 15) (.seq (.reg true qRW) (.ret)) (.skip))) (.seq (.reg true qRX) (.ret))))
def WD:qJ:=⟨1,24,[.l 2 (some 4),.t 3,.t 4],.seq (.reg true qRT) (.seq (.seq (.reg true [oP 0 7 (.lload 1 0 (some 4)),oP 1 8 (.call 589 [.t 7]),oP 2 9 (.not (.t 8))]) (.cond (.t 9) (.seq (.reg true qRU) (.ret)) (.skip))) qRS)⟩
def qSZ:List qA:=[oM 0 20 0,oP 1 21 (.call 61 [.t 20]),oP 2 3 (.lalloc (.agg [.nils])),oN 3 (.lstore 3 0 1 (.t 21))]
def qS0:List qA:=[oP 0 23 (.lload 3 0 (some 1)),oP 1 24 (.call 62 [.t 23]),oM 2 22 24,oP 3 25 (.ext (.t 22) 0),oP 4 26 (.ext (.t 22) 1),oM 5 4 25,oM 6 5 26]
def qS7:List qA:=[oP 0 28 (.lload 3 0 (some 1)),oP 1 29 (.call 63 [.t 28]),oM 2 27 29,oP 3 30 (.ext (.t 27) 0),oP 4 31 (.ext (.t 27) 1),oM 5 6 30,oM 6 7 31]
def qTA:List qA:=[oM 0 32 5,oP 1 33 (.bin .neq (.t 32) (.c (iI 0))),oM 2 34 33,oG 3 35 34 false (.mov (.t 7)),oG 4 36 34 false (.bin .neq (.t 35) (.c (iI 0))),oP 5 37 (.pick (.t 34) (.c (.bool true)) (.t 36)),oM 6 38 37,oG 7 39 38 false (.mov (.t 4)),oG 8 40 38 false (.len (.t 39)),oG 9 41 38 false (.bin .eql (.t 40) (.c (iI 0))),oP 10 42 (.pick (.t 38) (.c (.bool true)) (.t 41)),oM 11 43 42,oG 12 44 43 false (.mov (.t 4)),oG 13 45 43 false (.iaddr 1 (.t 44) (.c (iI 0))),oG 14 46 43 false (.load none (.t 45)),oG 15 47 43 false (.mov (.t 6)),oG 16 48 43 false (.call 64 [.t 46,.t 47]),oG 17 49 43 false (.not (.t 48)),oP 18 50 (.pick (.t 43) (.c (.bool true)) (.t 49))]
def qTB:List qA:=[oP 0 51 (.nop 3),oP 1 52 (.lload 3 0 none),oP 2 53 (.len (.t 52)),oP 3 54 (.mksl 1 (iI 0) (.t 53) (.t 53)),oM 4 8 54]
def qTC:List qA:=[oM 0 55 10,oM 1 56 4,oP 2 57 (.len (.t 56)),oP 3 58 (.bin .lss (.t 55) (.t 57))]
def qTD:List qA:=[oP 0 62 (.lload 3 0 (some 1)),oM 1 63 4,oM 2 64 10,oP 3 65 (.iaddr 1 (.t 63) (.t 64)),oP 4 66 (.load none (.t 65)),oM 5 67 4,oM 6 68 10,oP 7 69 (.iaddr 1 (.t 67) (.t 68)),oP 8 70 (.load none (.t 69)),oP 9 71 (.len (.t 70)),oP 10 72 (.bin .sub (.t 71) (.c (iI 1))),oP 11 73 (.iaddr 1 (.t 66) (.t 72)),oP 12 74 (.load none (.t 73)),oP 13 75 (.call 65 [.t 62,.t 74]),oM 14 61 75,oP 15 76 (.ext (.t 61) 0),oP 16 77 (.ext (.t 61) 1),oM 17 11 76,oM 18 12 77]
def qTE:List qA:=[oM 0 78 12,oP 1 79 (.bin .neq (.t 78) (.c (iI 0))),oM 2 80 79,oG 3 81 80 false (.mov (.t 11)),oG 4 82 80 false (.len (.t 81)),oG 5 83 80 false (.mov (.t 4)),oG 6 84 80 false (.mov (.t 10)),oG 7 85 80 false (.iaddr 1 (.t 83) (.t 84)),oG 8 86 80 false (.load none (.t 85)),oG 9 87 80 false (.len (.t 86)),oG 10 88 80 false (.bin .neq (.t 82) (.t 87)),oP 11 89 (.pick (.t 80) (.c (.bool true)) (.t 88)),oM 12 90 89,oG 13 91 90 false (.mov (.t 10)),oG 14 92 90 false (.bin .gtr (.t 91) (.c (iI 0))),oG 15 93 90 false (.mov (.t 92)),oG 16 94 93 true (.mov (.t 4)),oG 17 95 93 true (.mov (.t 10)),oG 18 96 93 true (.bin .sub (.t 95) (.c (iI 1))),oG 19 97 93 true (.iaddr 1 (.t 94) (.t 96)),oG 20 98 93 true (.load none (.t 97)),oG 21 99 93 true (.iaddr 1 (.t 98) (.c (iI 0))),oG 22 100 93 true (.load none (.t 99)),oG 23 101 93 true (.mov (.t 4)),oG 24 102 93 true (.mov (.t 10)),oG 25 103 93 true (.iaddr 1 (.t 101) (.t 102)),oG 26 104 93 true (.load none (.t 103)),oG 27 105 93 true (.iaddr 1 (.t 104) (.c (iI 0))),oG 28 106 93 true (.load none (.t 105)),oG 29 107 93 true (.bin .geq (.t 100) (.t 106)),oG 30 108 90 false (.pick (.t 93) (.t 107) (.c (.bool false))),oP 31 109 (.pick (.t 90) (.c (.bool true)) (.t 108))]
def qTF:List qA:=[oM 0 110 13,oM 1 111 4,oM 2 112 10,oP 3 113 (.iaddr 1 (.t 111) (.t 112)),oP 4 114 (.load none (.t 113)),oP 5 115 (.len (.t 114)),oP 6 116 (.bin .lss (.t 110) (.t 115))]
def qTG:List qA:=[oM 0 119 13,oP 1 120 (.bin .gtr (.t 119) (.c (iI 0))),oM 2 121 120,oG 3 122 121 true (.mov (.t 4)),oG 4 123 121 true (.mov (.t 10)),oG 5 124 121 true (.iaddr 1 (.t 122) (.t 123)),oG 6 125 121 true (.load none (.t 124)),oG 7 126 121 true (.mov (.t 13)),oG 8 127 121 true (.bin .sub (.t 126) (.c (iI 1))),oG 9 128 121 true (.iaddr 1 (.t 125) (.t 127)),oG 10 129 121 true (.load none (.t 128)),oG 11 130 121 true (.mov (.t 4)),oG 12 131 121 true (.mov (.t 10)),oG 13 132 121 true (.iaddr 1 (.t 130) (.t 131)),oG 14 133 121 true (.load none (.t 132)),oG 15 134 121 true (.mov (.t 13)),oG 16 135 121 true (.iaddr 1 (.t 133) (.t 134)),oG 17 136 121 true (.load none (.t 135)),oG 18 137 121 true (.bin .geq (.t 129) (.t 136)),oP 19 138 (.pick (.t 121) (.t 137) (.c (.bool false))),oM 20 139 138,oG 21 140 139 false (.mov (.t 11)),oG 22 141 139 false (.mov (.t 4)),oG 23 142 139 false (.mov (.t 10)),oG 24 143 139 false (.iaddr 1 (.t 141) (.t 142)),oG 25 144 139 false (.load none (.t 143)),oG 26 145 139 false (.mov (.t 13)),oG 27 146 139 false (.iaddr 1 (.t 144) (.t 145)),oG 28 147 139 false (.load none (.t 146)),oG 29 148 139 false (.call 66 [.t 140,.t 147]),oG 30 149 139 false (.not (.t 148)),oP 31 150 (.pick (.t 139) (.c (.bool true)) (.t 149))]
def qS1:List qA:=[oM 0 151 8,oM 1 152 4,oM 2 153 10,oP 3 154 (.iaddr 1 (.t 152) (.t 153)),oP 4 155 (.load none (.t 154)),oM 5 156 13,oP 6 157 (.iaddr 1 (.t 155) (.t 156)),oP 7 158 (.load none (.t 157)),oM 8 159 10,oP 9 160 (.bin .add (.t 159) (.c (iI 1))),oP 10 161 (.iaddr 1 (.t 151) (.t 158)),oN 11 (.store 1 (.t 161) (.t 160))]
def qSS:qG:=.seq (.seq (.reg true qTF) (.cond (.t 116) (.skip) (.exit 2))) (.seq (.blk 3 (.seq (.seq (.reg true qTG) (.cond (.t 150) (.seq (.reg true [oP 0 2 (.mov (.c (.bool false)))]) (.ret)) (.skip))) (.reg true qS1))) (.reg true [oM 0 117 13,oP 1 118 (.bin .add (.t 117) (.c (iI 1))),oM 2 13 118]))
def qS2:List qA:=[oM 0 162 9,oM 1 163 4,oM 2 164 10,oP 3 165 (.iaddr 1 (.t 163) (.t 164)),oP 4 166 (.load none (.t 165)),oP 5 167 (.len (.t 166)),oP 6 168 (.bin .add (.t 162) (.t 167)),oM 7 9 168]
def qST:qG:=.seq (.reg true qTD) (.seq (.seq (.reg true qTE) (.cond (.t 109) (.seq (.reg true [oP 0 2 (.mov (.c (.bool false)))]) (.ret)) (.skip))) (.seq (.seq (.reg true [oP 0 13 (.mov (.c (iI 0)))]) (.blk 2 (.loop qSS))) (.reg true qS2)))
def qSU:qG:=.seq (.reg true [oP 0 10 (.mov (.c (iI 0)))]) (.blk 0 (.loop (.seq (.seq (.reg true qTC) (.cond (.t 58) (.skip) (.exit 0))) (.seq (.blk 1 qST) (.reg true [oM 0 59 10,oP 1 60 (.bin .add (.t 59) (.c (iI 1))),oM 2 10 60])))))
def qS3:List qA:=[oM 0 169 9,oP 1 170 (.nop 3),oP 2 171 (.lload 3 0 none),oP 3 172 (.len (.t 171)),oP 4 173 (.bin .neq (.t 169) (.t 172))]
def qS4:List qA:=[oM 0 174 14,oP 1 175 (.nop 3),oP 2 176 (.lload 3 0 none),oP 3 177 (.len (.t 176)),oP 4 178 (.bin .lss (.t 174) (.t 177))]
def qS5:List qA:=[oM 0 181 15,oP 1 182 (.nop 3),oP 2 183 (.lload 3 0 none),oM 3 184 14,oP 4 185 (.iaddr 5 (.t 183) (.t 184)),oP 5 186 (.faddr 4 (.t 185)),oP 6 187 (.load none (.t 186)),oP 7 188 (.len (.t 187)),oP 8 189 (.bin .lss (.t 181) (.t 188))]
def qS6:List qA:=[oM 0 192 8,oM 1 193 14,oP 2 194 (.iaddr 1 (.t 192) (.t 193)),oP 3 195 (.load none (.t 194)),oP 4 196 (.bin .eql (.t 195) (.c (iI 0))),oM 5 197 196,oG 6 198 197 false (.mov (.t 8)),oG 7 199 197 false (.nop 3),oG 8 200 197 false (.lload 3 0 none),oG 9 201 197 false (.mov (.t 14)),oG 10 202 197 false (.iaddr 5 (.t 200) (.t 201)),oG 11 203 197 false (.faddr 4 (.t 202)),oG 12 204 197 false (.load none (.t 203)),oG 13 205 197 false (.mov (.t 15)),oG 14 206 197 false (.iaddr 2 (.t 204) (.t 205)),oG 15 207 197 false (.faddr 0 (.t 206)),oG 16 208 197 false (.load none (.t 207)),oG 17 209 197 false (.iaddr 1 (.t 198) (.t 208)),oG 18 210 197 false (.load none (.t 209)),oG 19 211 197 false (.mov (.t 8)),oG 20 212 197 false (.mov (.t 14)),oG 21 213 197 false (.iaddr 1 (.t 211) (.t 212)),oG 22 214 197 false (.load none (.t 213)),oG 23 215 197 false (.bin .neq (.t 210) (.t 214)),oP 24 216 (.pick (.t 197) (.c (.bool true)) (.t 215))]
def qSV:qG:=.loop (.seq (.seq (.reg true qS5) (.cond (.t 189) (.skip) (.exit 6))) (.seq (.blk 7 (.seq (.reg true qS6) (.cond (.t 216) (.seq (.reg true [oP 0 2 (.mov (.c (.bool false)))]) (.ret)) (.skip)))) (.reg true [oM 0 190 15,oP 1 191 (.bin .add (.t 190) (.c (iI 1))),oM 2 15 191])))
def qSW:qG:=.loop (.seq (.seq (.reg true qS4) (.cond (.t 178) (.skip) (.exit 4))) (.seq (.blk 5 (.seq (.reg true [oP 0 15 (.mov (.c (iI 0)))]) (.blk 6 qSV))) (.reg true [oM 0 179 14,oP 1 180 (.bin .add (.t 179) (.c (iI 1))),oM 2 14 180])))
def qS8:List qA:=[oP 0 218 (.lload 3 0 (some 1)),oP 1 219 (.call 67 [.t 218]),oM 2 217 219,oP 3 220 (.ext (.t 217) 0),oP 4 221 (.ext (.t 217) 1),oP 5 16 (.lalloc (.agg [.nils])),oN 6 (.lstore 16 0 1 (.t 220)),oM 7 17 221]
def qS9:List qA:=[oM 0 222 17,oP 1 223 (.bin .eql (.t 222) (.c (iI 0))),oM 2 224 223,oG 3 225 224 true (.nop 16),oG 4 226 224 true (.lload 16 0 none),oG 5 227 224 true (.len (.t 226)),oG 6 228 224 true (.mov (.t 6)),oG 7 229 224 true (.len (.t 228)),oG 8 230 224 true (.bin .eql (.t 227) (.t 229)),oP 9 231 (.pick (.t 224) (.t 230) (.c (.bool false))),oM 10 232 231,oG 11 233 232 true (.lload 16 0 (some 1)),oG 12 234 232 true (.call 68 [.t 233]),oP 13 235 (.pick (.t 232) (.t 234) (.c (.bool false))),oM 14 236 235,oG 15 237 236 true (.nop 16),oG 16 238 236 true (.lload 16 0 none),oG 17 239 236 true (.len (.t 238)),oG 18 240 236 true (.nop 3),oG 19 241 236 true (.lload 3 0 none),oG 20 242 236 true (.len (.t 241)),oG 21 243 236 true (.bin .eql (.t 239) (.t 242)),oG 22 244 236 true (.mov (.t 4)),oG 23 245 236 true (.len (.t 244)),oG 24 246 236 true (.bin .eql (.t 245) (.c (iI 1))),oG 25 247 236 true (.beq false (.t 243) (.t 246)),oP 26 248 (.pick (.t 236) (.t 247) (.c (.bool false))),oM 27 2 248]
def qSX:qG:=.seq (.reg true [oP 0 9 (.mov (.c (iI 0)))]) (.seq qSU (.seq (.seq (.reg true qS3) (.cond (.t 173) (.seq (.reg true [oP 0 2 (.mov (.c (.bool false)))]) (.ret)) (.skip))) (.seq (.seq (.reg true [oP 0 14 (.mov (.c (iI 0)))]) (.blk 4 qSW)) (.seq (.reg true qS8) (.seq (.reg true qS9) (.ret))))))
def qSY:qG:=.seq (.seq (.reg true [oM 0 18 0,oP 1 19 (.call 60 [.t 18,.c (.nils)])]) (.cond (.t 19) (.seq (.reg true [oP 0 2 (.mov (.c (.bool true)))]) (.ret)) (.skip))) (.seq (.reg true qSZ) (.seq (.reg true qS0) (.seq (.reg true qS7) (.seq (.seq (.reg true qTA) (.cond (.t 50) (.seq (.reg true [oP 0 2 (.mov (.c (.bool false)))]) (.ret)) (.skip))) (.seq (.reg true qTB) qSX)))))
def F3:qJ:=⟨1,249,[.t 2],.seq (.reg true [oP 0 2 (.mov (.c (.bool false)))]) qSY⟩
abbrev qYZ:=bO 4 [uL 2,uM 2 0,uL 3,uM 3 0,un 6,uQ,uF 10 (uL 2),uF 10 (uM 2 0),uF 10 (uL 3),uF 10 (uM 3 0),uF 10 (vf 12 14),uF 10 uQ,uE 16 (uL 2),uE 16 (uM 2 1),uE 16 (uL 3),uE 16 (uM 3 1),uE 16 (un 18),uF 10 (ua 16),uk 10,uH 4 23]
def F948:qJ:=⟨2,24,[.t 4],sB 1 [ud 2 0,ud 2 1,uU] (sr qYZ .ret)⟩
abbrev qUN:=bO 7 [uI 4,uI 0,uN,uK 0,uJ,uR,un 8]
abbrev qUO:=bO 16 [uI 5,uI 0,uN,uK 0,uJ,uI 4,uT 5 21,uK 4,uJ,uR,un 17]
abbrev qUP:=bO 29 [uI 4,uI 5,vI 0 1 30 1 1 31,uC 5 uj,uY 6 0 2 32]
abbrev qUQ:=bO 32 [uS 6 0 2,uI 0,uN,uK 0,uJ,uI 4,uT 5 37,uK 4,uJ,uI 5,uT 2 41,uX 2,uV 948 33]
abbrev qUR:=bO 45 [uI 3,uS 6 0 2,uI 0,uN,uK 0,uJ,uI 4,uT 5 51,uK 4,uJ,uI 5,uT 2 55,uX 2,u9 0 2 47 2 2 58,vE 4 1 0 59,uo 4 46,uH 3 61]
abbrev qUL:qG:=.loop (.seq (sr qUO (cD 27 sK (.exit 2))) (.seq (.blk 3 (sr qUP (sr qUQ (cD 45 (rg qUR) sK)))) (rB 27 [uI 5,ub 1,uH 5 29])))
abbrev qUM:qG:=.loop (.seq (sr qUN (cD 14 sK (.exit 0))) (.seq (.blk 1 (sr [uO 0 0 4] (.blk 2 qUL))) (rB 14 [uI 4,ub 1,uH 4 16])))
def kF:qJ:=⟨1,63,[.t 2],sr [uq 0 1] (sB 6 [vD 4,uH 3 7] (.seq (sr [uO 0 0 3] (.blk 0 qUM)) (sB 61 [uI 3,uH 2 62] .ret)))⟩
abbrev qF9:=bO 11 [uI 7,uI 6,uR,un 12]
abbrev qGA:=bO 17 [uI 6,uI 7,uT 4 18,uK 0,uX 2,uC 7 uj,uY 8 0 2 22]
abbrev qGB:=bO 22 [uI 6,uI 7,uT 4 23,uK 2,uX 2,uC 8 uj,uY 9 0 2 27]
abbrev qGC:=bO 27 [uL 9,uM 9 1,vi 29 0,uQ,uE 31 (uL 8),uE 31 (uM 8 1),uE 31 (vi 33 0),uE 31 uQ,uF 35 (uL 8),uF 35 (uM 8 0),uF 35 (uW 0),uF 35 uQ,uE 39 (uI 1),uF 35 (ua 39),uE 31 (uk 35),ua 31]
abbrev qF7:qG:=.seq (.blk 1 (sr qGA (sr qGB (sr qGC (cD 43 (rB 43 [uI 5,ub 1,uH 5 45]) sK))))) (rB 15 [uI 7,ub 1,uH 7 17])
abbrev qF8:=sB 9 [uI 0,uP 569,uH 6 11] (.seq (sr [uO 0 0 6] (.blk 0 (.loop (.seq (sr qF9 (cD 15 sK (.exit 0))) qF7)))) (sB 45 [uI 5,uH 4 46] .ret))
def UR:qJ:=⟨2,47,[.t 4],sr [uO 0 0 3] (sr [uO 0 0 4] qF8)⟩
abbrev qIB:=bO 5 [uI 0,uI 0,uN,uK 4,uJ,uI 1,uI 2,uD 8 (uH 14 1),uD 9 (uI 2),uD 7 (uC 12 (uG [uJ 4 9] (uV 978 11))),uC 15 (uG [uJ 4 9] (uV 856 14)),vI 0 1 13 1 1 16,u5 2 1 0 17,uo 2 10,vC 6,uK 4,uc 1 19]
def Uc:qJ:=⟨3,22,[],rg qIB⟩
abbrev qIP:=bO 5 [uI 0,uN,uK 1,uJ,uH 5 9]
abbrev qIQ:=bO 9 [uI 0,uI 0,uN,uK 0,uJ,uI 5,uT 5 14,uK 2,uJ,vC 10,uK 1,uc 1 18]
abbrev qIR:=bO 20 [uI 0,uN,uK 0,uJ,uI 5,uS 3 0 5,uf 5 24 25,uc 5 26]
def Ue:qJ:=⟨2,29,[.t 4],sB 2 [ud 5 1,uO 0] (sr qIP (sr qIQ (sr qIR (sB 27 [uI 5,uH 4 28] .ret))))⟩
abbrev qP0:=bO 2 [uI 0,vM 0 1 13,uV 1282 3,vF 0 1 2 1 1 5,ui 2 0 2]
def KT:qJ:=⟨1,7,[.l 2 (some 2)],sr [uj 0 1] (sr qP0 .ret)⟩
abbrev qGN:=bO 23 [uI 10,uI 1,uN,uK 0,uJ,uR,un 24]
abbrev qGO:=bO 32 [uI 1,uN,uK 0,uJ,uI 10,uT 5 36,uH 11 38]
abbrev qGY:=bO 38 [uI 11,uN,uK 0,uJ,uI 11,uN,uK 1,uJ,uI 11,uN,uK 2,uJ,uI 11,uN,uK 3,uJ,uD 18 (uC 11 ut),uD 16 (uC 54 (uG [uJ 3 41,uJ 7 45,uJ 11 49] (uP 402))),uD 17 (vV 0 1 42 1 1 46 2 1 50 3 1 55),ui 12 0 5]
abbrev qG5:=bO 59 [uL 12,uM 12 1,uI 2,ve 61 62,uL 12,uY 12 1 1 63]
abbrev qG6:=bO 64 [uI 13,uI 11,uN,uK 4,uJ,uR,un 65]
abbrev qG7:=bO 73 [uL 12,uM 12 4,vJ,u5 2 1 0 76,uo 2 75,uL 12,uY 12 4 1 78]
abbrev qGL:=sr [uO 1 0 12] (.blk 2 (.loop (.seq (sr qG6 (cD 71 sK (.exit 2))) (.seq (.blk 3 (rg qG7)) (rB 71 [uI 13,ub 1,uH 13 73])))))
abbrev qG8:=bO 79 [uI 9,uI 0,uS 12 0 5,uV 1282 81,vH 1 0 1 0 83,uo 1 80,uH 9 85]
abbrev qGM:qG:=.seq (.blk 1 (sr qGO (sr qGY (.seq (sB 56 [uL 12,uM 12 0,uP 1372] (cD 59 (rg qG5) sK)) (.seq qGL (rg qG8)))))) (rB 30 [uI 10,ub 1,uH 10 32])
abbrev qG9:=bO 88 [uI 16,uI 15,uR,un 89]
abbrev qGP:=bO 94 [uI 15,uI 16,uT 4 95,uK 0,uX 2,uC 16 uj,uY 17 0 2 99]
abbrev qGQ:=bO 99 [uI 15,uI 16,uT 4 100,uK 2,uX 2,uC 17 uj,uY 18 0 2 104]
abbrev qGR:=bO 107 [uL 17,uM 17 0,uW 0,uQ,uE 111 (uL 18),uE 111 (uM 18 1),uE 111 (uW 0),ua 111,uH 107 115]
abbrev qGS:=bO 115 [uI 9,uL 18,uM 18 0,uT 1 116,uJ,vF 0 1 1 1 1 120,ui 14 0 2]
abbrev qGT:=bO 122 [uL 17,uM 17 0,uW 0,uH 122 125]
abbrev qGU:=bO 131 [uI 0,uN,uK 0,uJ,uI 9,uL 18,uM 18 0,uT 1 136,uJ,uT 5 135,uK 4,uJ,uL 18,uM 18 1,vv 145 1,uS 14 0 2,uf 2 143 146,uc 2 147]
abbrev qGD:qG:=.seq (sB 126 [uL 7,uM 7 0,uW 0] (cD 129 (rB 129 [uI 0,uP 1418,ui 14 0 2]) sK)) (sr qGU (.exit 5))
abbrev qGV:=bO 149 [uL 17,uM 17 1,vi 151 0,uQ,uE 153 (uL 18),uE 153 (uM 18 1),uE 153 (vi 155 0),ua 153,uH 149 157]
abbrev qGW:=bO 161 [uL 17,uM 17 1,vi 163 0,uH 161 164]
abbrev qGX:=bO 164 [uI 9,uL 18,uM 18 0,uT 1 165,uJ,vF 0 1 1 1 1 169,ui 19 0 2]
abbrev qGZ:=bO 171 [uL 18,uM 18 1,vi 173 0,uH 171 174]
abbrev qG0:=bO 174 [uI 9,uL 17,uM 17 0,uT 1 175,uJ,vF 0 1 1 1 1 179,ui 20 0 2]
abbrev qGE:=cD 149 (sB 157 [uI 0,uP 1418,ui 19 0 2] (rB 159 [uS 19 0 2,ui 20 0 2])) (sr qGW (cD 161 (rg qGX) (sr qGZ (cD 171 (rg qG0) sK))))
abbrev qG1:=bO 183 [uI 0,uN,uK 0,uJ,uI 9,uL 17,uM 17 0,uT 1 188,uJ,uT 5 187,uK 4,uJ,uL 17,uM 17 1,vv 197 1,uS 19 0 2,uf 2 195 198,uc 2 199]
abbrev qG2:=bO 203 [uI 0,uN,uK 0,uJ,uI 9,uL 18,uM 18 0,uT 1 208,uJ,uT 5 207,uK 4,uJ,uL 18,uM 18 1,vv 217 1,uS 20 0 2,uf 2 215 218,uc 2 219]
abbrev qGF:qG:=.seq (sB 180 [uL 17,uM 17 1,vi 182 0] (cD 183 (rg qG1) sK)) (sB 200 [uL 18,uM 18 1,vi 202 0] (cD 203 (rg qG2) sK))
abbrev qGG:=sB 105 [vJ,uC 19 uj,uY 20 0 2 106] (.seq (.blk 6 (sr qGR (cD 107 (sr qGS (.exit 5)) (sr qGT (cD 122 (sB 125 [uS 7 0 2,ui 14 0 2] qGD) (sr qGV qGE)))))) qGF)
abbrev qGH:qG:=.seq (.blk 5 (sr qGP (sr qGQ (sB 104 [vJ,uC 18 uj,uY 19 0 2 105] qGG)))) (rB 92 [uI 16,ub 1,uH 16 94])
abbrev qG3:=bO 222 [uI 22,uI 21,uR,un 223]
abbrev qG4:=bO 228 [uI 0,uI 9,uI 21,uI 22,uT 2 231,uK 0,uJ,uT 1 230,uJ,uI 9,uI 21,uI 22,uT 2 239,uK 1,uJ,uT 1 238,uJ,uu 1280 229 237]
abbrev qGI:=sr [uO 0 0 21] (.blk 7 (.loop (.seq (sr qG3 (cD 226 sK (.exit 7))) (.seq (.blk 8 (rg qG4)) (rB 226 [uI 22,ub 1,uH 22 228])))))
abbrev qGJ:qG:=.seq (sr [uO 0 0 15] (.blk 4 (.loop (.seq (sr qG9 (cD 92 sK (.exit 4))) qGH)))) (sB 220 [uI 1,uP 742,uH 21 222] (.seq qGI (sB 246 [uS 14 0 2,ui 8 0 2] .ret)))
abbrev qGK:qG:=.seq (sr [uO 1 0 9] (.blk 0 (.loop (.seq (sr qGN (cD 30 sK (.exit 0))) qGM)))) (sB 85 [vJ,uC 13 uj,uY 14 0 2 86] (sB 86 [uI 1,uP 569,uH 15 88] qGJ))
def US:qJ:=⟨4,248,[.l 8 (some 2)],sB 6 [ud 2 3,uj] (sB 22 [uA (.bslice 1 (iI 0) 1 [(0,.c (iI (-1)))]),uH 9 23] qGK)⟩
abbrev qH6:=bO 4 [uI 0,uN,uK 0,uJ,uI 0,uN,uK 1,uJ,uI 0,uN,uK 2,uJ,uI 0,uN,uK 3,uJ,vJ,uD 19 (uC 2 ut),uD 17 (uC 21 (u5 2 1 0 21)),uD 18 (vN 0 1 8 1 1 12 2 1 16 3 1 20 4 1 22),ui 3 0 5]
abbrev qH7:=bO 23 [uI 4,uI 0,uN,uK 4,uJ,uR,un 24]
abbrev qH8:=bO 32 [uL 3,uM 3 4,vJ,u5 2 1 0 35,uo 2 34,uL 3,uY 3 4 1 37]
abbrev qH5:=sr [uO 0 0 3] (.blk 0 (.loop (.seq (sr qH7 (cD 30 sK (.exit 0))) (.seq (.blk 1 (rg qH8)) (rB 30 [uI 4,ub 1,uH 4 32])))))
def UZ:qJ:=⟨1,40,[.l 2 (some 5)],sr [ut 0 1] (sr qH6 (.seq qH5 (sB 38 [uS 3 0 5,ui 2 0 5] .ret)))⟩
abbrev qY6:=bO 6 [uI 0,uN,uK 0,uJ,uL 3,uM 3 0,uT 5 10,uP 1277,uC 4 (vO 5),uc 5 14]
abbrev qY7:=bO 14 [uI 0,uN,uK 0,uJ,uL 3,uM 3 1,uT 5 18,uP 1277,uC 5 (vO 5),uc 5 22]
def F969:qJ:=⟨2,24,[.t 4],sB 2 [ud 2 1,uO 0] (.seq (.reg false qY6) (.seq (.reg false qY7) (sB 22 [uA (.call 744 [.t 5,.t 6]),uH 4 23] .ret)))⟩
abbrev qZB:=bO 7 [uI 0,uN,uK 0,uJ,uL 3,uM 3 0,uT 5 11,uH 6 14]
abbrev qZC:=bO 14 [uI 0,uN,uK 0,uJ,uL 3,uM 3 1,uT 5 18,uH 7 21]
abbrev qZD:=bO 21 [uI 6,uN,uK 0,uJ,uI 6,uN,uK 1,uJ,uI 7,uN,uK 0,uJ,uI 7,uN,uK 1,uJ,v7 1110 25 29 33 37,uW 2]
abbrev qZE:=bO 39 [uL 3,uM 3 1,uL 3,uM 3 0,uH 4 41,uI 43]
abbrev qZF:=bO 43 [uL 3,uM 3 0,uL 3,uM 3 1,uH 4 45,uI 47]
def F971:qJ:=⟨2,48,[.t 4,.t 5],sB 2 [ud 2 1,uO 0,uO 0] (sr qZB (sr qZC (.seq (sr qZD (cD 39 (sr qZE .ret) sK)) (sr qZF .ret))))⟩
abbrev qWS:=bO 13 [uI 1,uS 5 0 2,uV 971 14,uH 13 16,uC 16 (ug 13 0),ug 13 1,uH 8 17,uI 18]
abbrev qWT:=bO 18 [uI 1,uN,uK 0,uJ,uI 8,uT 5 22,uH 10 24]
abbrev qWU:=bO 24 [uI 1,uN,uK 0,uJ,uI 9,uT 5 28,uH 11 30]
abbrev qWV:=bO 37 [uI 11,uN,uK 4,uJ,uR,uA (.bin .mul (.c (iI 3)) (.t 42)),vd 2 43,uH 6 44,uO 0]
abbrev qWW:=bO 46 [uI 11,uN,uK 4,uJ,uR,uH 6 51,uO 0]
abbrev qWX:=bO 55 [uI 10,uN,uK 4,uJ,uR,vd 1 60,uH 6 61,uO 0]
abbrev qWY:=bO 63 [uI 10,uN,uK 2,uJ,uI 0,uR,vh 67 69]
abbrev qWZ:=bO 70 [uI 0,uI 10,uN,uK 2,uJ,uT 1 71,uH 12 76]
abbrev qW0:=bO 76 [uI 12,uD 2 (uH 79 10),uD 3 uN,uD 4 (uK 1),uD 5 uJ,uD 1 (uC 77 (uG [uJ 5 81] (uP 1177))),uC 82 (ve 78 82),vi 83 8]
abbrev qW1:=bO 84 [uI 12,uN,uK 0,uJ,uR,vv 89 1,uI 12,uG [uJ 3 87] (uA (.call 1174 [.t 91,.c (.bool false)])),ve 90 92,uH 6 93,uO 0]
abbrev qWO:qG:=.seq (sr qWY (cD 70 (sB 5 [uO 0,uO 3] .ret) sK)) (sr qWZ (.seq (sr qW0 (cD 84 (sB 5 [uO 0,uO 9] .ret) sK)) (sr qW1 .ret)))
abbrev qWP:=cD 52 (sB 5 [uO 1,uO 0] .ret) (sB 54 [uZ 33 6,uH 54 55] (cD 54 (sr qWX .ret) (sB 62 [uZ 33 7,uH 62 63] (cD 62 qWO sK))))
abbrev qWQ:=sB 36 [uZ 33 3,uH 36 37] (cD 36 (sr qWV .ret) (sB 45 [uZ 33 4,uH 45 46] (cD 45 (sr qWW .ret) (sB 52 [uZ 33 5,uH 52 53] qWP))))
abbrev qWR:=sB 30 [uI 1,uS 5 0 2,uV 969 31] (.blk 0 (sB 34 [uZ 33 8,uH 34 35] (cD 34 (sB 5 [uO 0,uO 11] .ret) qWQ)))
def kV:qJ:=⟨3,94,[.t 6,.t 7],sB 4 [ud 2 2,uO 0,uO 0] (sr qWS (sr qWT (sr qWU (.seq qWR (sB 5 [uO 0,uO 0] .ret)))))⟩
def kX:qJ:=⟨1,5,[.t 2],sr [uO 0 0 1] (.seq (sB 2 [uI 0,uW 7] (cD 4 (sr [uO 1 0 1] .ret) sK)) (sr [uO 2 0 1] .ret))⟩
abbrev qY9:=bO 4 [uI 0,uN,uK 1,uJ,uH 4 8]
abbrev qZA:=bO 10 [uI 0,uN,uK 0,uJ,uI 4,uT 5 14,uK 2,uJ,uH 4 18]
abbrev qY8:qG:=.loop (.seq (sB 8 [uI 4,vg 9 0] (cD 10 sK (.exit 0))) (.seq (.blk 1 (rB 18 [uI 3,ub 1,uH 3 20])) (rg qZA)))
def F970:qJ:=⟨1,22,[.t 2],sr [uO 0 0 1] (sr [uO 0 0 2] (.seq (sr qY9 (.blk 0 qY8)) (sB 20 [uI 3,uH 2 21] .ret)))⟩
abbrev qYI:=bO 2 [uI 0,uN,uK 0,uJ,uI 0,uN,uK 1,uJ,uI 0,uN,uK 2,uJ,uI 0,uN,uK 3,uJ,uD 17 (uC 19 (vD 2)),uD 18 (uI 0),uD 19 uN,uD 20 (uK 4),uD 21 uJ,uD 16 (uC 18 (uG [uJ 3 5,uJ 7 9,uJ 11 13,uJ 21 23] (uP 402))),uC 24 (uG [uJ 3 5,uJ 7 9,uJ 11 13] (uo 2 20)),vN 0 1 6 1 1 10 2 1 14 3 1 19 4 1 25,ui 2 0 5]
def XE:qJ:=⟨1,27,[.l 2 (some 5)],sr [ut 0 1] (sr qYI .ret)⟩
abbrev qH9:=bO 3 [uI 0,uN,uK 0,uJ,uI 1,uI 0,uN,uK 1,uJ,uA (.build (.agg [iI 0,iI 0,iI 0,.nils,.nils]) [(2,1,.t 12)]),uf 5 7 8,uc 5 13]
abbrev qIA:=bO 14 [uI 0,uI 1,vC 15,uK 1,uc 1 16]
def Ua:qJ:=⟨2,19,[],sr qH9 (rg qIA)⟩
def Ub:qJ:=⟨1,5,[.l 2 (some 2)],sr [uj 0 1] (sB 2 [uI 0,vF 0 1 1 1 1 3,ui 2 0 2] .ret)⟩
abbrev qIE:=bO 13 [uI 0,uI 2,uN,uK 0,uJ,uI 2,uN,uK 1,uJ,uI 2,uN,uK 2,uJ,uI 2,uN,uK 3,uJ,uG [uJ 4 17,uJ 8 21,uJ 12 25] (uP 402),vV 0 1 18 1 1 22 2 1 26 3 1 31,uV 1282 14,uH 7 33]
abbrev qIF:=bO 33 [uI 0,uI 2,uN,uK 0,uJ,uI 2,uN,uK 1,uJ,uI 2,uN,uK 2,uJ,uI 2,uN,uK 3,uJ,uG [uJ 4 37,uJ 8 41,uJ 12 45] (uP 402),vV 0 1 38 1 1 42 2 1 46 3 1 51,uV 1282 34,uH 8 53]
abbrev qIH:=bO 53 [uI 1,uN,uK 4,uJ,ur 2 0,uX 2,uI 7,uD 9 (uH 63 1),uD 10 uN,uD 11 (uK 4),uD 12 uJ,uD 13 (ur 2 1),uD 14 (uX 2),uD 15 (uI 8),uD 7 (uC 60 (uG [uJ 3 56,uX 2 5 58,uJ 12 65,uX 2 14 67] (uP 1279))),uD 8 (u9 0 2 59 2 2 61),uC 69 (uG [uJ 3 56,uX 2 5 58,uJ 12 65,uX 2 14 67] (uP 1279)),u9 0 2 68 2 2 70,vQ 4 2 0 62 1 71,uH 9 72]
abbrev qII:=bO 72 [uI 10,uI 2,uN,uK 4,uJ,uR,un 73]
abbrev qIJ:=bO 81 [uI 0,uI 1,uN,uK 1,uJ,va 0 1 4 1 1 86,uV 1282 82,uH 11 88]
abbrev qIK:=bO 88 [uI 0,uP 1418,uC 11 uj,uY 12 0 2 90]
abbrev qIL:=bO 90 [uI 0,uP 1418,uC 12 uj,uY 13 0 2 92]
abbrev qIM:=bO 92 [uI 0,uN,uK 0,uJ,uI 11,uS 12 0 2,uS 13 0 2,vR 2 2 0 98 1 99,uf 5 96 97,uK 4,uc 1 100]
abbrev qIN:=bO 102 [uI 0,uN,uK 0,uJ,uI 7,uI 0,uN,uK 0,uJ,uI 7,uT 5 111,uK 4,uJ,uS 12 0 2,u5 2 1 0 116,uG [uJ 3 105] (uo 2 115),uf 5 106 107,uK 4,uc 1 118]
abbrev qIO:=bO 120 [uI 0,uN,uK 0,uJ,uI 8,uI 0,uN,uK 0,uJ,uI 8,uT 5 129,uK 4,uJ,uS 13 0 2,u5 2 1 0 134,uG [uJ 3 123] (uo 2 133),uf 5 124 125,uK 4,uc 1 136]
abbrev qIG:=bO 138 [uI 9,uI 2,uN,uK 4,uJ,uI 10,uT 2 143,uX 2,uI 11,uG [uJ 4 142,uX 2 7 145] (uP 1279),u9 0 2 146 2 2 148,vE 4 1 0 149,uo 4 139,uH 9 151]
abbrev qIC:qG:=.seq (.blk 1 (sr qIJ (sr qIK (sr qIL (sr qIM (sr qIN (sr qIO (rg qIG)))))))) (rB 79 [uI 10,ub 1,uH 10 81])
abbrev qID:=sr qIH (.seq (sr [uO 0 0 9] (.blk 0 (.loop (.seq (sr qII (cD 79 sK (.exit 0))) qIC)))) (sB 151 [uI 9,uH 6 152] .ret))
def Ud:qJ:=⟨3,153,[.t 6],sr [uq 0 5] (sr qIE (sr qIF qID))⟩
abbrev qIW:=bO 12 [uI 2,uN,uK 3,uJ,ur 1 0,uJ,uH 7 18]
abbrev qIX:=bO 18 [uI 2,uN,uK 0,uJ,uW 10]
abbrev qI4:=bO 23 [uI 2,uN,uK 3,uJ,uI 1,uN,uK 2,uJ,uT 1 27,uJ,uH 7 33]
abbrev qI5:=bO 33 [uI 1,uN,uK 2,uJ,uW 0]
abbrev qI6:=bO 38 [uI 2,uN,uK 3,uJ,ur 1 1,uJ,uH 7 44]
abbrev qI7:=bO 44 [uI 0,uI 2,uN,uK 1,uJ,uI 7,vS 0 1 12 1 1 49 2 1 50,uV 1282 45,uH 8 52]
abbrev qI8:=bO 53 [uI 10,uI 1,uN,uK 4,uJ,uR,un 54]
abbrev qI9:=bO 62 [uI 9,uI 0,uI 2,uN,uK 1,uJ,va 0 1 3 1 1 68,uV 1282 64,vH 1 0 1 0 70,uo 1 63,uH 9 72]
abbrev qIV:=sr [uO 0 0 9] (.blk 0 (.loop (.seq (sr qI8 (cD 60 sK (.exit 0))) (.seq (.blk 1 (rg qI9)) (rB 60 [uI 10,ub 1,uH 10 62])))))
abbrev qJA:=bO 75 [uI 2,uN,uK 4,uJ,ur 2 0,uX 2,uI 8,uG [uJ 3 78,uX 2 5 80] (uP 1279),u9 0 2 81 2 2 83,vE 4 1 0 84,uH 6 85]
abbrev qIY:=bO 85 [uI 11,uI 9,uR,un 86]
abbrev qIZ:=bO 91 [uI 2,uN,uK 4,uJ,ur 2 0,uX 2,uC 11 uj,uY 12 0 2 97]
abbrev qI0:=bO 97 [uI 11,ub 1,uI 9,uR,un 99]
abbrev qI1:=bO 102 [uI 9,uI 11,ub 1,uT 1 103,uJ,uP 1279,ui 12 0 2]
abbrev qI2:=bO 108 [uI 0,uN,uK 0,uJ,uI 9,uI 11,uT 1 113,uJ,uI 1,uN,uK 4,uJ,uI 11,uT 2 120,uX 2,uS 12 0 2,vR 2 2 0 123 1 124,uf 5 112 116,uK 4,uc 1 125]
abbrev qIS:qG:=.seq (sr qIY (cD 89 sK (.exit 2))) (.seq (.blk 3 (sr qIZ (.seq (sr qI0 (cD 102 (rg qI1) sK)) (rg qI2)))) (rB 89 [uI 11,ub 1,uH 11 91]))
abbrev qI3:=bO 127 [uI 0,uI 8,uI 9,ur 1 0,uJ,uu 1280 128 129]
abbrev qIT:qG:=.seq (sB 72 [uI 9,uR,uW 0] (cD 75 (sr qJA .ret) sK)) (.seq (sr [uO 0 0 10] (.blk 2 (.loop qIS))) (sr qI3 (sB 133 [vD 4,uH 6 134] .ret)))
abbrev qIU:=sr qIW (.seq (sr qIX (cD 23 (rg qI4) (sr qI5 (cD 38 (rg qI6) sK)))) (sr qI7 (sB 52 [vD 1,uH 9 53] (.seq qIV qIT))))
def Uf:qJ:=⟨3,135,[.t 6],sr [uq 0 5] qIU⟩
abbrev qZN:=bO 16 [uI 1,uN,uK 0,uJ,uI 3,uT 5 20,uP 924,uC 10 (vO 5),uc 5 23]
abbrev qZO:=bO 23 [uI 1,uN,uK 0,uJ,uI 4,uT 5 27,uP 924,uC 11 (vO 5),uc 5 30]
abbrev qZS:=bO 35 [uI 1,uI 0,uv 2 11,uJ,uT 1 37,uv 1 11,uJ,uI 4,uD 10 (uC 12 uj),uD 8 (uC 43 (uG [uJ 3 38,uJ 6 41] (uP 1279))),uD 9 (v7 1176 36 40 42 44),ui 13 0 2]
abbrev qZT:=bO 45 [uL 13,uM 13 1,uI 4,vu 47 48]
abbrev qZU:=bO 49 [uI 1,uI 4,uL 13,uM 13 1,uu 1280 50 51]
abbrev qZL:=sB 33 [uI 2,uW 7] (cD 35 (sr qZS (.seq (sr qZT (cD 49 (rg qZU) sK)) (sB 54 [vD 4,uH 10 55] .ret))) sK)
abbrev qZV:=bO 63 [uI 14,uv 4 11,uJ,ur 2 0,uX 2,uv 4 12,uJ,ur 2 0,uX 2,u9 0 2 68 2 2 72,uv 4 11,uJ,ur 2 1,uX 2,uv 4 12,uJ,ur 2 1,uX 2,u9 0 2 77 2 2 81,vQ 4 2 0 73 1 82,uo 4 64,uH 14 84]
abbrev qZW:=bO 90 [uI 15,uv 4 12,uJ,uR,un 91]
abbrev qZX:=bO 97 [uI 14,uv 4 12,uJ,uI 15,uT 2 100,uX 2,uI 1,vM 0 1 5,uG [uJ 2 99,uX 2 5 102] (uV 1282 104),uG [uJ 2 99,uX 2 5 102] (uP 1279),u9 0 2 103 2 2 107,vE 4 1 0 108,uo 4 98,uH 14 110]
abbrev qZM:=sr [uO 0 0 14] (.blk 1 (.loop (.seq (sr qZW (cD 95 sK (.exit 1))) (.seq (.blk 2 (rg qZX)) (rB 95 [uI 15,ub 1,uH 15 97])))))
abbrev qZP:=bO 116 [uv 2 12,uJ,uv 3 12,uJ,ur 1 0,uJ,uv 2 11,uJ,uu 762 118 122,uL 16,uY 16 2 1 125]
abbrev qZQ:=bO 126 [uv 1 12,uJ,uv 2 12,uJ,uv 2 11,uJ,uD 7 (uC 133 (uv 4 12)),uD 8 uJ,uD 9 (ur 2 1),uD 10 (uX 2),uD 6 (uC 132 (vH 1 0 1 0 132)),uC 137 (u5 2 1 0 137),vZ 0 1 8 1 1 128 2 1 130 3 1 133 4 1 138,ui 16 0 5]
abbrev qZR:=bO 139 [uI 14,uv 4 12,uJ,ur 2 0,uX 2,uI 1,uS 16 0 5,uG [uJ 2 141,uX 2 4 143] (uV 1282 145),uG [uJ 2 141,uX 2 4 143] (uP 1279),u9 0 2 144 2 2 148,vE 4 1 0 149,uo 4 140,uH 14 151]
abbrev qZG:=sB 112 [vM 0 1 6,uC 15 ut,uY 16 0 5 113] (.seq (sB 113 [uv 0 12,uJ,uW 8] (cD 116 (rg qZP) (rg qZQ))) (rg qZR))
abbrev qZH:=sB 111 [uZ 60 5,uH 111 112] (cD 111 qZG (sB 152 [uZ 60 6,uH 152 153] (cD 152 (rB 153 [uI 1,uA (.call 1283 [.t 154,.t 11,.t 12]),uH 14 155]) sK)))
abbrev qZI:=sB 85 [uZ 60 3,uH 85 86] (cD 85 (rB 86 [uI 1,uA (.call 1281 [.t 87,.t 11,.t 12]),uH 14 88]) (sB 89 [uZ 60 4,uH 89 90] (cD 89 qZM qZH)))
abbrev qZJ:=sr [uI 2 0 59] (.blk 0 (.seq (sB 61 [uZ 60 1,uH 61 62] (cD 61 sK (rB 62 [uZ 60 2,uH 61 63]))) (cD 61 (rg qZV) qZI)))
abbrev qZK:=sB 55 [uI 1,uI 4,uV 1278 56] (sB 58 [vD 4,uH 14 59] (.seq qZJ (sB 155 [uI 14,uH 10 156] .ret)))
def F972:qJ:=⟨5,157,[.t 10],sr [uq 0 9] (sr qZN (sr qZO (sB 30 [uI 1,uI 3,uV 1278 31] (.seq qZL qZK))))⟩
abbrev qJC:=bO 5 [uL 3,uM 3 0,uW 2,uQ,uE 9 (uI 0),uE 9 uN,uE 9 (uK 0),uE 9 uJ,uE 9 (uL 3),uE 9 (uM 3 1),uE 9 (uT 5 13),uE 9 (uK 4),uE 9 uJ,uE 9 uR,uE 9 (vi 19 0),ua 9]
abbrev qJD:=bO 23 [uI 0,uN,uK 0,uJ,uI 5,uT 5 27,uK 4,uJ,ur 2 0,uX 2,ui 3 0 2]
abbrev qJB:=sB 21 [uL 3,uM 3 1,uH 5 23] (sr qJD (rB 33 [uI 0,uI 5,uV 1278 34]))
def Ug:qJ:=⟨2,38,[.l 4 (some 2)],sB 2 [ud 2 1,uj] (.seq (.blk 0 (.loop (.seq (sr qJC (cD 21 sK (.exit 0))) (.blk 1 qJB)))) (sB 36 [uS 3 0 2,ui 4 0 2] .ret))⟩
abbrev qZZ:=bO 5 [uI 0,uS 4 0 2,uV 1284 6,ui 4 0 2]
abbrev qZ0:=bO 8 [uI 0,uS 5 0 2,uV 1284 9,ui 5 0 2]
abbrev qZ1:=bO 22 [uL 4,uM 4 0,uW 1,uQ,uE 26 (uL 5),uE 26 (uM 5 0),uE 26 (uW 1),ua 26,uH 22 30]
abbrev qZ2:=bO 30 [uI 0,uL 4,uM 4 1,uL 5,uM 5 1,uu 1280 31 33]
abbrev qZ3:=bO 37 [uS 4 0 2,uS 5 0 2,UE 1 1 38 39,uH 37 40]
abbrev qZ4:=bO 40 [uI 0,uL 4,uM 4 1,uV 1278 41]
abbrev qZ5:=bO 45 [uL 4,uM 4 0,uW 2,uH 45 48]
abbrev qZ6:=bO 48 [uI 0,uN,uK 0,uJ,uL 4,uM 4 1,uS 5 0 2,u5 2 1 0 55,uf 5 52 54,uK 4,uc 1 56]
abbrev qZ7:=bO 11 [uI 0,uN,uK 0,uJ,uL 5,uM 5 1,uS 4 0 2,u5 2 1 0 18,uf 5 15 17,uK 4,uc 1 19]
abbrev qZY:=sr qZZ (sr qZ0 (.blk 0 (sr qZ1 (cD 22 (rg qZ2) (sr qZ3 (cD 37 (rg qZ4) (sr qZ5 (cD 45 (rg qZ6) (rg qZ7)))))))))
def F973:qJ:=⟨3,59,[],sB 3 [ud 2 1,ud 2 2] qZY⟩
abbrev qUZ:=bO 15 [uI 1,uN,uK 4,uJ,uI 2,uT 2 19,uX 2,uC 7 uj,uY 8 0 2 22]
abbrev qU0:=bO 22 [uI 1,uS 8 0 2,uV 969 23,uH 9 25]
abbrev qU1:=bO 26 [uI 0,uI 1,uS 8 0 2,uu 855 27 28,uH 26 30,uC 30 (ug 26 0),ug 26 1,uH 10 31,uI 32]
abbrev qU2:=bO 35 [uI 10,uI 1,uP 970,uI 9,uP 857,ve 38 40,vj 36 41]
abbrev qU3:=bO 43 [uI 1,uS 8 0 2,uV 971 44,uH 43 46,uC 46 (ug 43 0),ug 43 1,uH 12 47,uI 48]
abbrev qU4:=bO 48 [uI 1,vD 2,uI 1,uN,uK 4,uJ,uI 2,uA (.slc 2 (.t 54) none (some (.t 55)) none),uD 9 (uH 58 1),uD 10 uN,uD 11 (uK 4),uD 12 uJ,uD 13 (uI 2),uD 14 (ub 1),uD 15 (uA (.slc 2 (.t 61) (some (.t 63)) none none)),uD 8 (uC 56 (uG [uJ 12 60] (uo 2 50))),uC 64 (uo 2 57),vC 49,uK 4,uc 1 65]
abbrev qU5:=bO 67 [uI 0,uI 1,uI 9,uI 12,uI 13,uA (.call 972 [.t 68,.t 69,.t 70,.t 71,.t 72]),uH 14 73]
abbrev qU6:=bO 73 [uI 15,uI 14,uR,un 74]
abbrev qU7:=bO 79 [uI 1,uI 14,uI 15,uT 4 81,uK 0,uX 2,uI 14,uI 15,uT 4 86,uK 2,uX 2,uu 973 80 85]
abbrev qUY:=sr [uO 0 0 14] (.blk 0 (.loop (.seq (sr qU6 (cD 77 sK (.exit 0))) (.seq (.blk 1 (rg qU7)) (rB 77 [uI 15,ub 1,uH 15 79])))))
abbrev qUW:qG:=.seq (sr qU2 (cD 42 (sB 5 [uO 0,uO 4] .ret) sK)) (sr qU3 (sr qU4 (sr qU5 (.seq qUY (sB 91 [uI 9,uH 6 92,uO 0] .ret)))))
abbrev qUX:=sr qU0 (sr qU1 (.seq (sB 32 [uI 11,vt 33 0] (cD 34 (sB 34 [uI 11,uC 5 (uO 0),uI 35] .ret) sK)) qUW))
def kH:qJ:=⟨3,93,[.t 6,.t 7],sB 5 [uO 0,uO 0] (sr qUZ qUX)⟩
abbrev qWN:=bO 2 [uI 0,uN,uK 0,uJ,uR,uI 0,uG [uJ 3 5] (uP 970),vx 7 9,uH 2 10]
def kU:qJ:=⟨1,11,[.t 2],sr [uO 0 0 1] (sr qWN .ret)⟩
abbrev qTM:=bO 14 [uI 1,uP 854,uI 1,uP 854,uA (.build (.agg [.nils,iI 0,iI 0]) [(1,1,.t 16),(2,1,.t 18)]),vT 3 19,uH 8 20]
abbrev qTN:=bO 20 [uI 1,uN,uK 4,uJ,uR,vi 25 0]
abbrev qTO:=bO 26 [uI 8,uN,uK 0,uJ,uR,uI 2,vh 31 32]
abbrev qTP:=bO 34 [uI 1,uN,uK 4,uJ,uR,vv 39 1,uH 9 40]
abbrev qTQ:=bO 41 [uI 0,uI 1,uI 1,uN,uK 4,uJ,uI 9,uT 2 47,uX 2,uu 855 42 43,uH 41 51,uC 51 (ug 41 0),ug 41 1,uH 10 52,uI 53]
abbrev qTR:=bO 56 [uI 0,uI 1,uI 9,uu 600 57 58,uH 56 60,uC 60 (ug 56 0),ug 56 1,uH 13 61,uI 62]
abbrev qTS:=bO 64 [uI 8,uI 14,uH 6 65,uI 66]
abbrev qTT:=bO 66 [uI 8,uI 8,uN,uK 0,uJ,uI 13,vH 1 0 1 0 72,uo 1 71,vC 67,uK 0,uc 1 74]
abbrev qTU:=bO 76 [uI 8,uI 8,uN,uK 1,uJ,uI 1,uG [uJ 4 80] (uP 854),uV 856 81,vC 77,uK 1,uc 1 84]
abbrev qTV:=bO 86 [uI 8,uI 8,uN,uK 2,uJ,uI 12,uI 10,ve 92 93,uI 13,uG [uJ 4 90] (uP 857),vx 94 96,uV 856 91,vC 87,uK 2,uc 1 98]
abbrev qTK:=sB 53 [uI 1,uP 854,uH 12 55] (sr qTR (.seq (sB 62 [uI 14,vt 63 0] (cD 64 (sr qTS .ret) sK)) (sr qTT (sr qTU (rg qTV)))))
abbrev qTL:qG:=.loop (.seq (sr qTN (cD 26 sK (.exit 0))) (.blk 1 (.seq (sr qTO (cD 33 (sB 33 [uI 8,uH 6 34,uO 12] .ret) sK)) (sr qTP (sr qTQ qTK)))))
def K3:qJ:=⟨3,102,[.t 6,.t 7],sB 5 [vP,uO 0] (sr qTM (.seq (.blk 0 qTL) (sB 100 [uI 8,uH 6 101,uO 0] .ret)))⟩
abbrev qUK:=bO 4 [uL 2,uM 2 0,uL 3,uM 3 0,un 6,uQ,uF 10 (uL 2),uF 10 (uM 2 0),uF 10 (uL 3),uF 10 (uM 3 0),uF 10 (vf 12 14),uF 10 uQ,uE 16 (uL 2),uE 16 (uM 2 1),uE 16 (uL 3),uE 16 (uM 3 1),uE 16 (un 18),uF 10 (ua 16),uk 10,uH 4 23]
def kD:qJ:=⟨2,24,[.t 4],sB 1 [ud 2 0,ud 2 1,uU] (sr qUK .ret)⟩
abbrev qXA:=bO 5 [uI 0,uN,uK 1,uJ,uH 5 9]
abbrev qXB:=bO 9 [uI 0,uI 0,uN,uK 0,uJ,uI 5,uT 5 14,uK 2,uJ,vC 10,uK 1,uc 1 18]
abbrev qXC:=bO 20 [uI 0,uN,uK 0,uJ,uI 5,uS 3 0 5,uf 5 24 25,uc 5 26]
def ke:qJ:=⟨2,29,[.t 4],sB 2 [ud 5 1,uO 0] (sr qXA (sr qXB (sr qXC (sB 27 [uI 5,uH 4 28] .ret))))⟩
abbrev qXD:=bO 2 [uL 1,uM 1 0,uL 1,uM 1 1,uL 1,uM 1 2,uL 1,uM 1 3,uD 9 (uC 11 (uL 1)),uD 10 (uM 1 4),uD 11 uR,uD 12 (vv 14 1),uD 8 (uC 10 (uP 401)),uC 15 (UD 2 15 15),vN 0 1 4 1 1 6 2 1 8 3 1 11 4 1 16,ui 2 0 5]
def kj:qJ:=⟨1,18,[.l 2 (some 5)],sB 0 [ud 5 0,ut] (.seq (.reg false qXD) .ret)⟩
abbrev qXE:=bO 10 [uI 0,uS 6 0 2,vC 11,uK 2,uc 2 12]
abbrev qXF:=bO 14 [uI 0,uN,uK 0,uJ,uI 3,uL 5,uM 5 0,uT 1 19,uJ,uT 5 18,uK 4,uJ,uL 5,uM 5 1,vv 28 1,uS 6 0 2,uf 2 26 29,uc 2 30]
def kp:qJ:=⟨4,32,[],sB 4 [ud 2 1,ud 2 2] (sB 7 [uL 5,uM 5 1,uW 0] (cD 10 (rg qXE) (rg qXF)))⟩
abbrev qH2:=bO 5 [uI 0,uN,uK 0,uJ,uR,ub 1,uO 0]
abbrev qH3:=bO 13 [uL 3,uM 3 0,uW 1,uQ,uF 17 (uI 0),uF 17 uN,uF 17 (uK 0),uF 17 uJ,uF 17 (uL 3),uF 17 (uM 3 1),uF 17 (uT 5 21),uF 17 (uK 4),uF 17 uJ,uF 17 uR,uF 17 (uW 0),uk 17]
abbrev qH4:=bO 30 [uI 0,uN,uK 0,uJ,uL 3,uM 3 1,uT 5 34,uK 4,uJ,ur 2 0,uX 2,ui 3 0 2]
abbrev qH0:qG:=.seq (.blk 1 (.seq (sr qH3 (cD 29 (sB 29 [uS 3 0 2,ui 4 0 2,uC 4 uz] .ret) sK)) (rg qH4))) (rB 41 [uw 12 1,uH 12 42])
abbrev qH1:qG:=.seq (sr qH2 (.blk 0 (.loop (sr [ux 11 0 12] (.seq (cD 13 sK (.exit 0)) qH0))))) (sB 42 [vJ,ui 4 0 2,uC 4 uU] .ret)
def UX:qJ:=⟨2,44,[.l 4 (some 2),.t 5],sB 2 [ud 2 1,uj,uU] qH1⟩
def qQN:qJ:=Qd 5 (some 5)
def qM8:qJ:=Q1 1482
abbrev qHZ:=bO 2 [uL 1,uM 1 0,vg 4 2,uQ,uE 6 (uL 1),uE 6 (uM 1 0),uE 6 (vk 8 12),ua 6,uH 2 10]
def UW:qJ:=⟨1,11,[.t 2],sB 0 [ud 5 0,uU] (sr qHZ .ret)⟩
abbrev qOH:=bO 2 [uL 1,uM 1 0,uW 13,uH 2 5]
def KD:qJ:=⟨1,6,[.t 2],sB 0 [ud 5 0,uU] (sr qOH .ret)⟩
abbrev qQC:=bO 2 [uL 1,uM 1 0,uW 0,uH 2 5]
def KY:qJ:=⟨1,6,[.t 2],sB 0 [ud 5 0,uU] (sr qQC .ret)⟩
abbrev qNB:=bO 5 [uL 1,uM 1 0,uL 1,uM 1 1,uL 1,uM 1 2,uL 1,uM 1 3,uL 1,uM 1 4,uR,ub 1,UD 2 17 17,vN 0 1 7 1 1 9 2 1 11 3 1 13 4 1 18,uP 1097,uH 2 20]
abbrev qNC:=bO 23 [uL 1,uM 1 1,uW 0,uQ,uE 27 (uL 1),uE 27 (uM 1 2),uE 27 (uW 0),ua 27,uQ,uE 32 (uL 1),uE 32 (uM 1 3),uE 32 uR,uE 32 (uW 0),ua 32,uQ,uE 38 (uL 1),uE 38 (uM 1 4),uE 38 uR,uE 38 (vk 41 1),ua 38,uH 2 43]
abbrev qNA:=sB 3 [uS 1 0 5,uP 1254,uH 3 5] (cD 3 (sr qNB .ret) (sB 21 [uS 1 0 5,uP 1368,uH 21 23] (cD 21 (sr qNC .ret) sK)))
abbrev qND:=bO 43 [uS 1 0 5,uP 1455,uQ,uE 46 (uL 1),uE 46 (uM 1 1),uE 46 (uW 0),ua 46,uQ,uE 51 (uL 1),uE 51 (uM 1 3),uE 51 uR,uE 51 (uW 0),ua 51,uQ,uE 57 (uL 1),uE 57 (uM 1 4),uE 57 uR,uE 57 (uW 0),ua 57,uH 2 62]
def Uy:qJ:=⟨1,63,[.t 2],sB 0 [ud 5 0,uU] (.seq (.blk 0 qNA) (sr qND .ret))⟩
abbrev qM9:=bO 2 [uS 1 0 5,uP 1358,ue,uH 2 5]
def Ux:qJ:=⟨1,6,[.t 2],sB 0 [ud 5 0,uU] (sr qM9 .ret)⟩
def qQO:qJ:=Qd 2 (some 2)
def qNE:qJ:=Q1 1483
abbrev qNG:=bO 5 [uI 0,uN,uK 2,uX 2,u5 2 1 0 9,uH 3 10]
abbrev qNH:=bO 10 [uI 0,uN,uK 0,uJ,uR,uO 0]
abbrev qNI:=bO 17 [uf 5 14 16,uX 5,uC 4 ut,uY 5 0 5 19]
abbrev qNJ:=bO 19 [uI 3,uL 5,uM 5 4,uo 2 20,uH 3 23]
abbrev qNF:qG:=.loop (sr [ux 15 0 16] (.seq (cD 17 sK (.exit 0)) (.seq (.blk 1 (sr qNI (rg qNJ))) (rB 23 [uw 16 1,uH 16 24]))))
def Uz:qJ:=⟨1,26,[.t 2],sr [uq 0 1] (sr qNG (.seq (sr qNH (.blk 0 qNF)) (sB 24 [uI 3,uH 2 25] .ret)))⟩
abbrev qQP:=bO 4 [uI 1,vg 5 0,uQ,uE 7 (uI 1),uE 7 (uI 0),uE 7 uN,uE 7 (uK 0),uE 7 uJ,uE 7 uR,uE 7 (un 8),ua 7,uH 4 15]
def Kd:qJ:=⟨2,16,[.t 4],sr [uU 0 3] (sr qQP .ret)⟩
abbrev qNL:=bO 5 [uI 0,uL 3,uM 3 1,uV 1484 6,ue]
abbrev qNM:=bO 10 [uI 0,uN,uK 0,uJ,uL 3,uM 3 1,uT 5 14,uX 5,uC 4 ut,uY 5 0 5 18]
abbrev qNN:=bO 18 [uL 3,uM 3 0,uW 1,uQ,uE 22 (uS 5 0 5),uE 22 (uP 1254),ua 22,uQ,uF 26 (uL 3),uF 26 (uM 3 0),uF 26 (uW 2),uF 26 uQ,uE 30 (uS 5 0 5),uE 30 (uP 1368),uF 26 (ua 30),uk 26,uH 4 34]
def U8:qJ:=⟨2,35,[.t 4],sB 2 [ud 2 1,uU] (.seq (sr qNL (cD 10 (sr [uU 0 3] .ret) sK)) (sr qNM (sr qNN .ret)))⟩
abbrev qNK:=bO 3 [uy 1,uS 2 0 2,uV 1362 4,ue,uH 3 7]
def U0:qJ:=⟨2,8,[.t 3],sB 1 [ud 2 0,uU] (sr qNK .ret)⟩
def qNO:qJ:=Q1 1485
abbrev qNQ:=bO 4 [uL 3,uM 3 0,uL 3,uM 3 1,un 6,uQ,uE 10 (uI 0),uE 10 (uL 3),uE 10 (uM 3 0),uE 10 (uV 1484 11),ua 10,uQ,uE 16 (uI 0),uE 16 (uL 3),uE 16 (uM 3 1),uE 16 (uV 1484 17),ua 16,uQ,uE 22 (uI 0),uE 22 uN,uE 22 (uK 0),uE 22 uJ,uE 22 (uL 3),uE 22 (uM 3 0),uE 22 (uT 5 26),uE 22 (uX 5),uE 22 (uP 1254),ua 22,uQ,uE 33 (uI 0),uE 33 uN,uE 33 (uK 0),uE 33 uJ,uE 33 (uL 3),uE 33 (uM 3 1),uE 33 (uT 5 37),uE 33 (uX 5),uE 33 (uP 1254),ua 33,uH 4 43]
def KA:qJ:=⟨2,44,[.t 4],sB 2 [ud 2 1,uU] (sr qNQ .ret)⟩
abbrev qNP:=bO 3 [uy 1,uS 2 0 2,uV 1365 4,ue,uH 3 7]
def U9:qJ:=⟨2,8,[.t 3],sB 1 [ud 2 0,uU] (sr qNP .ret)⟩
abbrev qNW:=bO 12 [uI 0,uN,uK 0,uJ,uR,uA (.mksl 1 (iI 0) (.t 17) (.t 17)),uH 5 18]
abbrev qNX:=bO 18 [uI 0,uP 1360,uI 1,uo 2 20,uR,uO 0]
abbrev qN2:=bO 25 [uf 2 22 24,uX 2,uC 6 uj,uY 7 0 2 27]
abbrev qN3:=bO 27 [uI 5,uL 7,uM 7 1,uT 1 28,uJ,ub 1,uf 1 28 30,uc 1 33]
abbrev qNU:qG:=.loop (sr [ux 23 0 24] (.seq (cD 25 sK (.exit 0)) (.seq (.blk 1 (sr qN2 (rg qN3))) (rB 34 [uw 24 1,uH 24 35]))))
abbrev qN4:=bO 35 [uI 0,uN,uK 4,uJ,uR,uO 0]
abbrev qN5:=bO 42 [uf 2 39 41,uX 2,uC 8 uj,uY 9 0 2 44]
abbrev qN6:=bO 44 [uI 5,uL 9,uM 9 0,uT 1 45,uJ,ub 1,uf 1 45 47,uc 1 50]
abbrev qN7:=bO 51 [uI 5,uL 9,uM 9 1,uT 1 52,uJ,ub 1,uf 1 52 54,uc 1 57]
abbrev qNV:qG:=.loop (sr [ux 40 0 41] (.seq (cD 42 sK (.exit 2)) (.seq (.blk 3 (sr qN5 (sr qN6 (rg qN7)))) (rB 58 [uw 41 1,uH 41 59]))))
abbrev qNY:=bO 59 [uI 0,uN,uK 0,uJ,uR,uO 0]
abbrev qNZ:=bO 66 [uI 65,uf 5 63 65,uX 5,uC 10 ut,uH 10 67,uY 11 0 5 69]
abbrev qN0:=bO 73 [uS 11 0 5,uP 1368,uQ,uE 76 (uL 11),uE 76 (uM 11 4),uE 76 uR,uE 76 (uW 0),ua 76,uH 73 81]
abbrev qNR:=sB 70 [uS 11 0 5,uP 1455,uH 70 72] (cD 70 (rg [uO 0 0 11]) (sr qN0 (cD 73 (rg [uO 2 0 11]) sK)))
abbrev qN1:=bO 81 [uI 5,uI 10,uT 1 82,uJ,uI 12,vu 85 86]
abbrev qNS:qG:=.seq (.blk 5 (sr qNZ (sr [uO 1 0 11] (.seq (.blk 6 qNR) (sr qN1 (cD 87 (sr [uU 0 3] .ret) sK)))))) (rB 87 [uw 65 1,uH 65 88])
abbrev qNT:qG:=.seq (sr qNX (.blk 0 qNU)) (.seq (sr qN4 (.blk 2 qNV)) (.seq (sr qNY (.blk 4 (.loop (sr [ux 64 0 65] (.seq (cD 66 sK (.exit 4)) qNS))))) (sr [uz 0 3] .ret)))
def KB:qJ:=⟨2,89,[.t 4],sr [uU 0 3] (sr qNW qNT)⟩
abbrev qOB:=bO 6 [uI 0,uN,uK 0,uJ,uR,uO 0]
abbrev qOC:=bO 13 [uf 5 10 12,uX 5,uC 4 ut,uY 5 0 5 15]
abbrev qOD:=bO 15 [uI 3,uS 5 0 5,uP 1455,uP 566,ve 16 19,uH 3 20]
abbrev qN8:qG:=.loop (sr [ux 11 0 12] (.seq (cD 13 sK (.exit 0)) (.seq (.blk 1 (sr qOC (rg qOD))) (rB 20 [uw 12 1,uH 12 21]))))
abbrev qOE:=bO 21 [uI 0,uN,uK 1,uJ,uH 6 25]
abbrev qOF:=bO 28 [uI 0,uI 6,uV 1484 29,ue,uQ,uF 33 (uI 0),uF 33 uN,uF 33 (uK 0),uF 33 uJ,uF 33 (uI 6),uF 33 (uT 5 37),uF 33 (uX 5),uF 33 (uP 1455),uF 33 ue,uk 33]
abbrev qOG:=bO 43 [uI 0,uN,uK 0,uJ,uI 6,uT 5 47,uK 2,uJ,uH 6 51]
abbrev qN9:=sr [ux 26 0 27] (.seq (cD 28 sK (.exit 2)) (.seq (.blk 3 (.seq (sr qOF (cD 43 (sr [uU 0 1] .ret) sK)) (rg qOG))) (rB 51 [uw 27 1,uH 27 52])))
abbrev qOA:qG:=.seq (sB 25 [uI 3,uO 0] (.blk 2 (.loop qN9))) (sB 52 [uI 6,uW (-1),uH 2 54] .ret)
def KC:qJ:=⟨1,55,[.t 2],sr [uU 0 1] (sr [uO 0 0 2] (.seq (sr qOB (.blk 0 qN8)) (sr qOE qOA)))⟩
abbrev qEK:=bO 8 [uy 2,uN,uK 0,uJ,uR,vp 13 1,uQ,uF 15 (uy 2),uF 15 uN,uF 15 (uK 0),uF 15 uJ,uF 15 uR,uF 15 (vi 20 1500),uk 15,uQ,uF 23 (uy 2),uF 23 uN,uF 23 (uK 4),uF 23 uJ,uF 23 uR,uF 23 (uy 2),uF 23 uN,uF 23 (uK 0),uF 23 uJ,uF 23 uR,uF 23 (vj 28 33),uk 23]
abbrev qEL:=bO 35 [uy 2,uN,uK 0,uJ,uA (.call 1356 [.t 39,.f 1357]),uQ,uF 41 (uy 2),uF 41 (uP 1360),uF 41 (uI 1),uF 41 (uo 2 43),uF 41 (uA (.mkfn 1361 [.t 2])),uF 41 (uV 1359 45),uk 41,uQ,uF 49 (uy 2),uF 49 uN,uF 49 (uK 4),uF 49 uJ,uF 49 (uA (.mkfn 1364 [.t 2])),uF 49 (uV 1363 53),uk 49]
abbrev qEM:=bO 56 [uy 2,uI 1,uV 1366 57,ue,uQ,uF 61 (uy 2),uF 61 (uP 1367),uF 61 ue,uk 61]
abbrev qEN:=bO 65 [uy 2,uN,uK 0,uJ,uR,uO 0]
abbrev qEO:=bO 72 [uI 71,uf 5 69 71,uX 5,uC 5 ut,uH 5 73,uY 6 0 5 75]
abbrev qEP:=bO 78 [uy 2,uI 5,vF 0 1 2 1 1 80,uV 1256 79,uH 78 82,uC 82 (ug 78 0),ug 78 1,uC 6 uj,uY 7 0 2 83,uI 84]
abbrev qEH:=sB 75 [uS 6 0 5,uP 1368] (cD 77 (sr qEP (sB 84 [uI 8,ue] (cD 86 (sr [uU 0 3] .ret) sK))) sK)
abbrev qEI:=sr qEN (.blk 0 (.loop (sr [ux 70 0 71] (.seq (cD 72 sK (.exit 0)) (.seq (.blk 1 (sr qEO qEH)) (rB 86 [uw 71 1,uH 71 87]))))))
abbrev qEJ:qG:=.seq (sr qEK (cD 35 (sr [uU 0 3] .ret) sK)) (.seq (sr qEL (cD 56 (sr [uU 0 3] .ret) sK)) (.seq (sr qEM (cD 65 (sr [uU 0 3] .ret) sK)) (.seq qEI (sr [uz 0 3] .ret))))
def UH:qJ:=⟨2,88,[.t 4],sB 1 [vT 1 0,uC 3 uU] qEJ⟩
def kq:qJ:=⟨1,4,[.t 2],sB 0 [vT 5 0,uU] (sB 2 [uA (.call 1068 [.t 1,.c (.nils)]),uH 2 3] .ret)⟩
abbrev qER:=bO 4 [vD 2,uI 0,uo 2 5,uH 2 7]
def qEQ:qJ:=⟨1,8,[.t 2],sr [uq 0 1] (.seq (sB 2 [uI 0,v8 1 3] (cD 4 (sr [uq 0 1] .ret) sK)) (sr qER .ret))⟩
abbrev qHG:=bO 4 [vD 2,uI 0,uo 2 5,uH 2 7]
def qHF:qJ:=⟨1,8,[.t 2],sr [uq 0 1] (.seq (sB 2 [uI 0,v8 1 3] (cD 4 (sr [uq 0 1] .ret) sK)) (sr qHG .ret))⟩
abbrev qXH:=bO 5 [uL 1,uM 1 0,uR,uD 4 (uC 9 (uL 1)),uD 5 (uM 1 1),uD 6 (uL 1),uD 7 (uS 1 2 2),uD 8 (uL 1),uD 9 (uM 1 4),uD 12 (uC 2 vL),uC 15 (uP 1070),uD 3 (uC 8 (UC 5 0 8)),uD 11 (uC 16 (uA (.build (.agg [.nils,iI 0,iI 0,iI 0,.nils]) [(0,1,.t 9),(1,1,.t 11),(2,2,.t 13),(4,1,.t 16)]))),ui 3 0 5]
abbrev qXI:=bO 17 [uL 1,uM 1 0,uR,uO 0]
abbrev qXJ:=bO 22 [uf 5 19 21,uX 5,uC 4 ut,uY 5 0 5 24]
abbrev qXK:=bO 24 [uL 5,uM 5 3,uD 3 (uC 27 (uL 5)),uD 4 (uM 5 4),uD 2 (uC 26 (uP 401)),uD 6 (uC 30 (uL 5)),uD 5 (uC 29 (uP 1181)),uY 5 3 1 27,uC 31 (uL 5),uY 5 4 1 30]
abbrev qXL:=bO 32 [uL 3,uM 3 0,uS 5 0 5,vU 5 1 0 35,uo 5 34,uL 3,uY 3 0 1 37]
abbrev qXG:qG:=.loop (sr [ux 20 0 21] (.seq (cD 22 sK (.exit 0)) (.seq (.blk 1 (sr qXJ (sr qXK (rg qXL)))) (rB 38 [uw 21 1,uH 21 39]))))
def kw:qJ:=⟨1,41,[.l 2 (some 5)],sB 0 [ud 5 0,vL] (.seq (.reg false qXH) (.seq (sr qXI (.blk 0 qXG)) (sB 39 [uS 3 0 5,ui 2 0 5] .ret)))⟩
abbrev qQ1:=bO 5 [uI 0,uN,uK 0,uJ,uI 1,uT 5 9,uX 5,uC 4 ut,uY 5 0 5 12]
abbrev qQ2:=bO 12 [uL 5,uM 5 0,uL 5,uM 5 1,uL 5,uM 5 2,uL 5,uM 5 3,uL 5,uM 5 4,uR,ub 1,UD 2 24 24,vN 0 1 14 1 1 16 2 1 18 3 1 20 4 1 25,ui 4 0 5]
def Km:qJ:=⟨2,27,[.l 4 (some 5)],sr [ut 0 3] (sr qQ1 (sr qQ2 .ret))⟩
abbrev qP3:=bO 4 [uI 0,uL 3,uM 3 0,uD 4 (uH 9 0),uD 5 (uL 3),uD 6 (uM 3 1),uD 3 (uC 7 (uV 1509 5)),uC 11 (uV 1509 9),uA (.bslice 5 (.agg [iI 0,iI 0,iI 0,.nils,.nils]) 2 [(0,.t 8),(1,.t 12)]),uA (.build (.agg [.nils]) [(0,1,.t 13)]),ui 4 0 1]
def KV:qJ:=⟨2,15,[.l 4 (some 1)],sB 2 [ud 2 1,vG] (sr qP3 .ret)⟩
abbrev qJE:=bO 2 [ud 2 1,uO 0,uO 0,uO 0]
abbrev qJF:=bO 8 [uI 0,uS 3 0 2,uV 1420 9,uC 6 (vY 1),uc 1 11]
abbrev qJG:=bO 12 [vX 0 1 0 1 1 1,uV 751 7,uH 12 14,uC 14 (ug 12 0),ug 12 1,uH 4 15,uH 8 16]
abbrev qJH:=bO 17 [uI 4,uL 3,uM 3 1,uL 3,uM 3 0,uH 4 18,uI 20,uI 22]
abbrev qJI:=bO 22 [uI 4,uL 3,uM 3 0,uL 3,uM 3 1,uH 4 23,uI 25,uI 27]
def Uh:qJ:=⟨2,28,[.t 4,.t 5,.t 6],sr qJE (sr qJF (sr qJG (.seq (sr [uI 8 0 16] (cD 17 (sr qJH .ret) sK)) (sr qJI .ret))))⟩
abbrev qP5:=bO 6 [uI 0,uP 554,uR,uO 0]
abbrev qP6:=bO 11 [uf 2 8 10,uX 2,uC 4 uj,uY 5 0 2 13]
abbrev qP7:=bO 13 [uI 0,uS 5 0 2,uV 555 14,uC 5 uj,uY 6 0 2 16]
abbrev qP8:=bO 16 [uS 5 0 2,uS 6 0 2,uV 556 17,uQ,uE 20 (uL 5),uE 20 (uM 5 1),uE 20 (vi 22 0),ua 20,uQ,uE 25 (uL 6),uE 25 (uM 6 1),uE 25 (vi 27 0),ua 25]
abbrev qP9:=bO 29 [uI 3,uS 5 0 2,uS 6 0 2,u9 0 2 31 2 2 32,vE 4 1 0 33,uo 4 30,uH 3 35]
abbrev qP4:=sr [ux 9 0 10] (.seq (cD 11 sK (.exit 0)) (.seq (.blk 1 (sr qP6 (sr qP7 (sr qP8 (cD 29 (rg qP9) sK))))) (rB 35 [uw 10 1,uH 10 36])))
def KW:qJ:=⟨1,38,[.t 2],sr [uq 0 1] (sr [uq 0 2] (.seq (sr qP5 (.blk 0 (.loop qP4))) (sB 36 [uI 3,uH 2 37] .ret)))⟩
abbrev qHN:=bO 15 [uI 0,uN,uK 0,uS 3 0 2,uD 5 (uH 21 0),uD 6 uN,uD 7 (uK 5),uD 8 uJ,uD 4 (uC 19 (uG [uJ 8 23] (uV 1420 18))),uC 24 (uA (.build (.agg [.nils,.nils,.nilm]) [(0,1,.t 20),(1,1,.t 24)])),vT 3 25,uH 6 26]
abbrev qHO:=bO 27 [uI 6,vX 0 1 0 1 1 1,uV 1305 28,uH 27 30,uC 30 (ug 27 0),ug 27 1,ug 27 2,ug 27 3,uH 7 31,uI 32,uI 33,uI 34]
abbrev qHP:=bO 38 [uI 0,uN,uK 0,uS 3 0 2,uV 1285 41,uH 38 43,uC 43 (ug 38 0),ug 38 1,ug 38 2,uH 11 44,uI 45,uI 46]
abbrev qHQ:=bO 46 [uI 0,uN,uK 0,uK 0,uJ,uI 13,uT 5 51,uK 4,uJ,uR,uH 14 56]
abbrev qHR:=bO 59 [uI 14,uA (.bin .mul (.c (iI 3)) (.t 60)),vd 2 61,uH 4 62,uO 0]
abbrev qHS:=bO 69 [uI 0,uN,uK 0,uK 0,uJ,uI 12,uT 5 74,uK 4,uJ,uR,vd 1 79,uH 4 80,uO 0]
abbrev qHT:=bO 82 [uI 0,uN,uK 5,uJ,uI 0,uN,uK 0,uK 0,uJ,uI 12,uT 5 91,uK 2,uJ,uT 1 86,uX 1,uC 14 (vY 1),uc 1 97]
abbrev qHU:=bO 97 [uv 0 15,uJ,uR,vv 100 1,uG [uJ 1 98] (vK 1421 15),uR,ve 101 103,uH 4 104,uO 0]
abbrev qHL:=sB 68 [uZ 57 6,uH 68 69] (cD 68 (sr qHS .ret) (sB 81 [uZ 57 7,uH 81 82] (cD 81 (sr qHT (sr qHU .ret)) sK)))
abbrev qHM:=cD 63 (sB 64 [uI 14,uH 4 65,uO 0] .ret) (sB 66 [uZ 57 5,uH 66 67] (cD 66 (sB 3 [uO 1,uO 0] .ret) qHL))
abbrev qHJ:=sr [uI 7 0 56] (.blk 0 (sB 58 [uZ 57 3,uH 58 59] (cD 58 (sr qHR .ret) (sB 63 [uZ 57 4,uH 63 64] qHM))))
abbrev qHK:qG:=.seq (sB 34 [uI 10,vt 35 0] (cD 36 (sB 36 [uI 10,uC 3 (uO 0),uI 37] .ret) sK)) (sr qHP (sr qHQ (.seq qHJ (sB 3 [uO 0,uO 0] .ret))))
def UV:qJ:=⟨2,105,[.t 4,.t 5],sB 2 [ud 2 1,uO 0,uO 0] (sr qHN (sr qHO qHK))⟩
abbrev qJK:=bO 6 [uI 0,uN,uK 0,uJ,uR,uO 0]
abbrev qJL:=bO 13 [uf 5 10 12,uX 5,uC 5 ut,uY 6 0 5 15]
abbrev qJM:=bO 15 [uI 2,uS 6 0 5,uP 1254,uP 566,ve 16 19,uH 2 20]
abbrev qJN:=bO 20 [uI 3,uS 6 0 5,uP 1368,uP 566,ve 21 24,uH 3 25]
abbrev qJO:=bO 25 [uI 4,uS 6 0 5,uP 1455,uP 566,ve 26 29,uH 4 30]
abbrev qJJ:=sr [ux 11 0 12] (.seq (cD 13 sK (.exit 0)) (.seq (.blk 1 (sr qJL (sr qJM (sr qJN (rg qJO))))) (rB 30 [uw 12 1,uH 12 31])))
abbrev qJP:=bO 31 [uI 2,uI 3,uI 4,uH 2 32,uI 33,uI 34]
def Ui:qJ:=⟨1,35,[.t 2,.t 3,.t 4],sB 1 [uO 0,uO 0,uO 0] (.seq (sr qJK (.blk 0 (.loop qJJ))) (sr qJP .ret))⟩
abbrev qJR:=bO 7 [uI 0,uI 1,uI 2,uI 0,uR,uA (.slcm 2 (.t 8) (.t 9) (.t 10) (.t 12))]
abbrev qJS:=bO 19 [uI 0,uI 1,uA (.slc 2 (.t 20) none (some (.t 21)) none),uI 0,uI 2,uA (.slc 2 (.t 23) (some (.t 24)) none none),uA (.appx 2 (.t 22) (.t 25)),(λ_ _=>.mk 7 (some 0) none (.mov (.t 26)) [])]
abbrev qJT:=bO 26 [uI 0,uI 0,uR,uI 7,uA (.slcx 2 (.t 27) (some (.t 29)) (some (.t 30))),uB (.clear 2 (.agg [iI 0,iI 0]) (.t 31))]
abbrev qJQ:=sB 17 [uI 0,uR,uH 7 19] (sr qJS (sr qJT (sB 31 [uI 0,uH 6 32] .ret)))
def Uj:qJ:=⟨3,33,[.t 6],sr [uq 0 5] (sr qJR (.seq (sB 13 [uI 1,uI 2,vf 14 15] (cD 16 (sB 16 [uI 0,uH 6 17] .ret) sK)) qJQ))⟩
abbrev qJU:=bO 3 [uI 0,uN,uK 0,uJ,uI 1,uI 0,uN,uK 1,uJ,uA (.build (.agg [iI 0,iI 0,iI 0,.nils,.nils]) [(2,1,.t 12)]),uf 5 7 8,uc 5 13]
abbrev qJV:=bO 14 [uI 0,uI 1,vC 15,uK 1,uc 1 16]
def XD:qJ:=⟨2,19,[],sr qJU (rg qJV)⟩
def UY:qJ:=⟨0,2,[.l 0 (some 2)],sr [.mk 0 (some 0) none (.lalloc (.agg [iI 0,iI 0])) []] (sB 0 [vX 0 1 0 1 1 0,ui 0 0 2] .ret)⟩
abbrev qLR:=bO 5 [uI 0,uI 0,uN,uK 4,uJ,uI 1,uI 2,uA (.min (.t 11) (.t 12)),uI 1,uI 2,uA (.max (.t 14) (.t 15)),vI 0 1 13 1 1 16,u5 2 1 0 17,uo 2 10,vC 6,uK 4,uc 1 19]
def Ur:qJ:=⟨3,22,[],rg qLR⟩
def Kn:qJ:=⟨1,5,[.l 2 (some 2)],sr [uj 0 1] (sB 2 [uI 0,vF 0 1 2 1 1 3,ui 2 0 2] .ret)⟩
abbrev qQL:=bO 2 [uI 0,vM 0 1 13,uV 863 3,uP 1521,ui 2 0 2]
def Ka:qJ:=⟨1,7,[.l 2 (some 2)],sr [uj 0 1] (sr qQL .ret)⟩
def Kb:qJ:=⟨1,5,[.l 2 (some 2)],sr [uj 0 1] (sB 2 [uI 0,vF 0 1 1 1 1 3,ui 2 0 2] .ret)⟩
abbrev qJ2:=bO 20 [uI 0,uN,uK 5,uJ,uL 4,uM 4 2,uT 1 24,uX 1,uL 4,uM 4 1,uV 1456 28,uH 20 31,uC 31 (ug 20 0),ug 20 1,uC 5 (vY 1),uc 1 32,uI 33]
abbrev qJ3:=bO 33 [uv 0 6,uJ,uR,uA (.mksl 1 (iI 0) (.t 36) (.t 36)),uH 8 37]
abbrev qKB:=bO 37 [uv 0 6,uJ,uA (.slc 5 (.t 39) (some (.c (iI 1))) none none),uR,uO 0]
abbrev qKE:=bO 43 [uI 42,uf 5 40 42,uX 5,uC 9 ut,uH 9 44,uY 10 0 5 46]
abbrev qKF:=bO 46 [uI 8,uI 9,ub 1,uI 0,uN,uK 0,uS 10 0 5,uP 864,uV 863 52,uf 1 47 49,uc 1 55]
abbrev qJ1:qG:=.loop (sr [ux 41 0 42] (.seq (cD 43 sK (.exit 0)) (.seq (.blk 1 (sr qKE (rg qKF))) (rB 56 [uw 42 1,uH 42 57]))))
abbrev qKG:=bO 61 [uf 4 58 60,uX 4,uC 11 (uA (.lalloc (.agg [iI 0,iI 0,iI 0,iI 0]))),uY 12 0 4 63]
abbrev qKH:=bO 63 [uI 0,uN,uK 0,uP 1457,uC 12 uj,uY 13 0 2 67]
abbrev qKI:=bO 67 [uI 0,uN,uK 0,uL 12,uS 12 0 2,uS 13 0 2,uI 8,v7 866 70 72 73 74]
abbrev qKJ:=bO 75 [uI 0,uN,uK 0,uL 12,uS 12 2 2,uS 13 0 2,uI 8,v7 866 78 80 81 82]
abbrev qJW:=sr [ux 59 0 60] (.seq (cD 61 sK (.exit 2)) (.seq (.blk 3 (sr qKG (sr qKH (sr qKI (rg qKJ))))) (rB 83 [uw 60 1,uH 60 84])))
abbrev qJ4:=bO 84 [uI 8,uI 2,uA (.iaddr 1 (.t 85) (.c (iI 0))),uc 1 86]
abbrev qJ5:=bO 91 [uf 2 88 90,uX 2,uC 14 uj,uY 15 0 2 93]
abbrev qJ6:=bO 93 [uS 15 0 2,uV 555 6,uC 15 uj,uY 16 0 2 95]
abbrev qJ7:=bO 95 [uL 15,uM 15 1,vi 97 0,uQ,uE 99 (uL 16),uE 99 (uM 16 1),uE 99 (uW 0),ua 99]
abbrev qJ8:=bO 103 [uI 0,uN,uK 0,uS 15 0 2,uI 8,uL 16,uM 16 0,uT 1 108,uJ,uD 10 (uH 114 8),uD 9 (uC 112 (uP 1458)),uC 114 (v7 866 106 107 113 114)]
abbrev qJX:=sr [ux 89 0 90] (.seq (cD 91 sK (.exit 4)) (.seq (.blk 5 (sr qJ5 (sr qJ6 (sr qJ7 (cD 103 (rg qJ8) sK))))) (rB 115 [uw 90 1,uH 90 116])))
abbrev qJ9:=bO 120 [uf 2 117 119,uX 2,uC 17 uj,uY 18 0 2 122]
abbrev qKA:=bO 122 [uI 0,uN,uK 0,uI 8,uL 18,uM 18 0,uT 1 126,uJ,uI 8,uL 18,uM 18 1,uT 1 131,uJ,uu 1295 125 130]
abbrev qJY:qG:=.loop (sr [ux 118 0 119] (.seq (cD 120 sK (.exit 6)) (.seq (.blk 7 (sr qJ9 (rg qKA))) (rB 136 [uw 119 1,uH 119 137]))))
abbrev qKC:=bO 137 [uA (.call 1257 []),uV 555 6,uC 18 uj,uY 19 0 2 139]
abbrev qKD:=bO 142 [uI 0,uN,uK 0,uI 2,uI 8,uL 19,uM 19 0,uT 1 147,uJ,uu 1295 145 146]
abbrev qJZ:qG:=.seq (sB 116 [vK 376 6,uR,uO 0] (.blk 6 qJY)) (sr qKC (sB 139 [uL 19,uM 19 1,uW 0] (cD 142 (rg qKD) sK)))
abbrev qJ0:qG:=.seq (sB 57 [vK 1421 6,uR,uO 0] (.blk 2 (.loop qJW))) (sr qJ4 (.seq (sB 87 [vK 554 6,uR,uO 0] (.blk 4 (.loop qJX))) qJZ))
def Uk:qJ:=⟨3,153,[],sr [ud 5 1 0 3] (.seq (.reg false qJ2) (sr qJ3 (.seq (sr qKB (.blk 0 qJ1)) qJ0)))⟩
abbrev qQM:=bO 3 [uy 0,uN,uK 0,uv 0 1,uJ,uv 1 1,uJ,uv 2 1,uJ,uv 3 1,uJ,uD 12 (uC 15 (uy 2)),uD 11 (uC 14 (uG [uy 0 0 3,uJ 4 7,uJ 6 9,uJ 8 11,uy 2 12 15] (uP 401))),uC 16 (UD 2 16 16),vN 0 1 8 1 1 10 2 1 12 3 1 15 4 1 17,uV 863 6,uH 3 19]
def Kc:qJ:=⟨3,20,[.t 3],sr [uO 0 0 2] (.seq (.reg false qQM) .ret)⟩
abbrev qKN:=bO 2 [vT 1 0,ud 5 1,vT 5 2,uq]
abbrev qKO:=bO 16 [uv 4 5,uJ,uR,uC 6 (uA (.halloc 1 (iI 0))),uc 1 19]
abbrev qKR:=bO 24 [uL 4,uM 4 4,ur 2 0,uX 2,uI 9,uD 7 (uC 31 (uL 4)),uD 8 (uM 4 4),uD 9 (ur 2 1),uD 10 (uX 2),uD 11 (uI 10),uD 5 (uC 29 (uG [uX 2 3 27,uX 2 10 34] (uP 1458))),uD 6 (u9 0 2 28 2 2 30),uC 36 (uG [uX 2 3 27,uX 2 10 34] (uP 1458)),u9 0 2 35 2 2 37,vQ 4 2 0 31 1 38,uH 11 39]
abbrev qKS:=bO 39 [uv 4 5,uJ,uR,uO 0]
abbrev qKT:=bO 44 [uI 43,uf 2 41 43,uX 2,uC 12 uj,uH 12 45,uY 13 0 2 47]
abbrev qKU:=bO 47 [uy 3,uN,uK 0,uL 4,uM 4 1,uA (.mksl 2 (.agg [iI 0,iI 0]) (.c (iI 2)) (.c (iI 2))),vS 0 1 4 1 1 52 4 1 53,uV 863 50,uH 14 55]
abbrev qKV:=bO 55 [uy 3,uN,uK 0,uP 1457,uC 14 uj,uY 15 0 2 59]
abbrev qKW:=bO 59 [uy 3,uN,uK 0,uP 1457,uC 15 uj,uY 16 0 2 63]
abbrev qKX:=bO 63 [uy 3,uN,uK 0,uK 0,uJ,uI 14,uS 15 0 2,uS 16 0 2,vR 2 2 0 70 1 71,uf 5 68 69,uK 4,uc 1 72]
abbrev qKY:=bO 74 [uy 3,uN,uK 0,uK 0,uJ,uI 9,uT 5 79,uK 4,uJ,uI 12,uS 15 0 2,uf 2 83 84,uc 2 85]
abbrev qKP:=bO 86 [uy 3,uN,uK 0,uK 0,uJ,uI 10,uT 5 91,uK 4,uJ,uI 12,uS 16 0 2,uf 2 95 96,uc 2 97]
abbrev qKQ:=bO 98 [uI 11,uS 13 0 2,uI 14,uP 1458,u9 0 2 100 2 2 102,vE 4 1 0 103,uo 4 99,uH 11 105]
abbrev qKK:qG:=.seq (.blk 1 (sr qKT (sr qKU (sr qKV (sr qKW (sr qKX (sr qKY (sr qKP (rg qKQ))))))))) (rB 105 [uw 43 1,uH 43 106])
abbrev qKL:=sr qKR (.seq (sr qKS (.blk 0 (.loop (sr [ux 42 0 43] (.seq (cD 44 sK (.exit 0)) qKK))))) (sB 106 [uI 11,uH 6 107] .ret))
abbrev qKM:=sB 19 [uA (.mkfn 1459 [.t 3,.t 5,.t 7]),uH 8 20] (sB 20 [uI 8,uA (.callv (.t 21) []),uH 9 22] (sB 22 [uI 8,uA (.callv (.t 23) []),uH 10 24] qKL))
def Ul:qJ:=⟨3,108,[.t 6],sr qKN (sr qKO qKM)⟩
abbrev qK0:=bO 7 [uL 3,uM 3 4,uR,uO 0]
abbrev qK1:=bO 12 [uf 2 9 11,uX 2,uC 6 uj,uY 7 0 2 14]
abbrev qK2:=bO 14 [uI 5,uS 7 0 2,uI 0,uN,uK 0,vM 0 1 5,uV 863 19,uP 1458,u9 0 2 16 2 2 22,vE 4 1 0 23,uo 4 15,uH 5 25]
abbrev qKZ:qG:=.loop (sr [ux 10 0 11] (.seq (cD 12 sK (.exit 0)) (.seq (.blk 1 (sr qK1 (rg qK2))) (rB 25 [uw 11 1,uH 11 26]))))
def Um:qJ:=⟨2,28,[.t 4],sB 2 [ud 5 1,uq] (sr [uq 0 4] (.seq (sr qK0 (.blk 0 qKZ)) (sB 26 [uI 5,uH 4 27] .ret)))⟩
abbrev qK4:=bO 11 [uL 5,uM 5 1,uL 5,uM 5 2,uL 4,uM 4 2,uD 7 (uC 18 (uL 5)),uD 8 (uM 5 4),uD 9 (ur 2 1),uD 10 (uX 2),uD 6 (uC 17 (vH 1 0 1 0 17)),uC 22 (u5 2 1 0 22),vZ 0 1 8 1 1 13 2 1 15 3 1 18 4 1 23,ui 7 0 5]
abbrev qK5:=bO 24 [uL 5,uM 5 2,uL 5,uM 5 3,ur 1 0,uJ,uL 4,uM 4 2,uu 1118 26 30,uL 7,uY 7 2 1 33]
abbrev qK6:=bO 34 [uL 5,uM 5 4,ur 2 0,uX 2,uI 0,uN,uK 0,uS 7 0 5,uG [uX 2 3 37] (uV 863 41),uG [uX 2 3 37] (uP 1458),u9 0 2 38 2 2 44,vE 4 1 0 45,uH 6 46]
abbrev qK3:=sB 7 [vM 0 1 6,uC 6 ut,uY 7 0 5 8] (.seq (sB 8 [uL 5,uM 5 0,uW 7] (cD 11 (rg qK4) (rg qK5))) (sr qK6 .ret))
def Un:qJ:=⟨3,47,[.t 6],sB 3 [ud 5 1,ud 5 2,uq] qK3⟩
abbrev qLB:=bO 12 [uL 5,uM 5 3,ur 1 0,uJ,uH 7 16]
abbrev qLC:=bO 19 [uL 5,uM 5 3,uL 4,uM 4 2,uT 1 21,uJ,uH 7 25]
abbrev qLG:=bO 28 [uL 5,uM 5 3,ur 1 1,uJ,uH 7 32]
abbrev qLA:=sB 16 [uL 5,uM 5 0,uW 10] (cD 19 (rg qLC) (sB 25 [uL 4,uM 4 2,uW 0] (cD 28 (rg qLG) sK)))
abbrev qLH:=bO 32 [uI 0,uN,uK 0,uL 5,uM 5 1,uI 7,vS 0 1 12 1 1 37 2 1 38,uV 863 35,uH 8 40]
abbrev qLI:=bO 40 [uL 4,uM 4 4,uR,uW 0]
abbrev qLJ:=bO 44 [uL 5,uM 5 4,ur 2 0,uX 2,uI 8,uG [uX 2 3 47] (uP 1458),u9 0 2 48 2 2 50,vE 4 1 0 51,uH 6 52]
abbrev qLK:=bO 52 [uL 4,uM 4 4,uR,uO 0]
abbrev qLL:=bO 57 [uf 2 54 56,uX 2,uC 10 uj,uY 11 0 2 59]
abbrev qLM:=bO 59 [uI 9,uI 0,uN,uK 0,uL 5,uM 5 1,uS 11 0 2,uL 5,uM 5 4,ur 2 0,uX 2,vR 2 2 0 66 1 70,vS 0 1 3 1 1 65 4 1 71,uV 863 63,vH 1 0 1 0 73,uo 1 60,uH 9 75]
abbrev qK7:qG:=.loop (sr [ux 55 0 56] (.seq (cD 57 sK (.exit 0)) (.seq (.blk 1 (sr qLL (rg qLM))) (rB 75 [uw 56 1,uH 56 76]))))
abbrev qLD:=bO 76 [uI 9,uR,vv 78 1,uO 0]
abbrev qLE:=bO 82 [uI 0,uN,uK 0,uK 0,uJ,uI 9,uI 12,uT 1 88,uJ,uT 5 87,uK 4,uJ,uI 9,uI 12,ub 1,uT 1 95,uJ,uG [uJ 4 86,uJ 8 90,uJ 11 93] (uP 1458),uA (.iaddr 2 (.t 94) (.c (iI 1))),uc 2 100]
abbrev qK8:=sr [ux 79 0 80] (.seq (cD 81 sK (.exit 2)) (.seq (.blk 3 (sB 81 [uI 80,uH 12 82] (rg qLE))) (rB 101 [uw 80 1,uH 80 102])))
abbrev qLF:=bO 102 [uI 0,uN,uK 0,uI 8,uI 9,ur 1 0,uJ,uu 1295 105 106]
abbrev qK9:=sr [uq 0 8] (.seq (sr qLK (.blk 0 qK7)) (.seq (sr qLD (.blk 2 (.loop qK8))) (sr qLF (sr [uq 0 5] .ret))))
def Uo:qJ:=⟨3,111,[.t 6],sB 3 [ud 5 1,ud 5 2,uq] (sr qLB (.seq qLA (sr qLH (.seq (sr qLI (cD 44 (sr qLJ .ret) sK)) qK9))))⟩
abbrev qaC:=bO 18 [uI 0,uN,uK 0,uK 4,uJ,uI 1,uT 2 23,uX 2,uC 6 uj,uY 7 0 2 26]
abbrev qaD:=bO 27 [uI 0,uS 7 0 2,uV 1183 28,uH 27 30,uC 30 (ug 27 0),ug 27 1,uH 8 31,uI 32]
abbrev qaM:=bO 34 [uI 9,uC 3 (uO 0),uq,uI 35]
abbrev qaN:=bO 36 [uI 0,uN,uK 0,uS 7 0 2,uV 1285 39,uH 36 41,uC 41 (ug 36 0),ug 36 1,ug 36 2,uH 10 42,uI 43,uI 44]
abbrev qaO:=bO 45 [uI 0,uN,uK 0,uP 1286,uH 45 49,uC 49 (ug 45 0),ug 45 1,ug 45 2,uH 13 50,uI 51,uI 52]
abbrev qaP:=bO 52 [uI 8,uI 15,ub 2,uI 10,uW 7,uP 566,vx 55 58,vj 53 59]
abbrev qaQ:=bO 60 [uI 0,uI 0,uN,uK 0,uK 4,uJ,uI 1,uI 1,ub 1,uu 1287 66 67,vC 61,uK 0,uK 4,uc 1 70]
abbrev qaR:=bO 73 [uI 0,uN,uK 0,uK 0,uJ,uI 11,uT 5 78,uX 5,uI 0,uN,uK 0,uK 0,uJ,uI 12,uT 5 86,uX 5,uC 15 ut,ut,uY 16 0 5 81,uY 17 0 5 89]
abbrev qaS:=bO 89 [uI 0,uN,uK 0,uI 11,uV 1288 92]
abbrev qaT:=bO 96 [uI 0,uS 16 0 5,uI 12,uu 1289 97 98]
abbrev qaE:=bO 100 [uI 10,uH 4 101,uq,uO 0]
abbrev qaF:=bO 101 [uI 0,uN,uK 0,uI 12,uV 1288 104]
abbrev qaG:=bO 110 [uL 16,uM 16 4,ur 2 0,uX 2,uL 17,uM 17 4,ur 2 0,uX 2,u9 0 2 114 2 2 118,uL 16,uM 16 4,ur 2 1,uX 2,uL 17,uM 17 4,ur 2 1,uX 2,u9 0 2 123 2 2 127,vQ 4 2 0 119 1 128,uH 18 129]
abbrev qaH:=bO 131 [uI 0,uS 16 0 5,uS 17 0 5,uu 1290 132 133,uH 18 135]
abbrev qaI:=bO 137 [uI 0,uS 17 0 5,uV 1291 138,uH 18 140]
abbrev qaJ:=bO 142 [uI 0,uS 16 0 5,uS 17 0 5,uu 1292 143 144,uH 18 146]
abbrev qaK:=bO 148 [uI 0,uS 16 0 5,uS 17 0 5,uu 1293 149 150,uH 18 152]
abbrev qZ8:=cD 136 (rg qaI) (sB 141 [uZ 107 5,uH 141 142] (cD 141 (rg qaJ) (sB 147 [uZ 107 6,uH 147 148] (cD 147 (rg qaK) sK))))
abbrev qZ9:qG:=.seq (sB 108 [uZ 107 1,uH 108 109] (cD 108 sK (rB 109 [uZ 107 2,uH 108 110]))) (cD 108 (rg qaG) (sB 130 [uZ 107 3,uH 130 131] (cD 130 (rg qaH) (sB 136 [uZ 107 4,uH 136 137] qZ8))))
abbrev qaL:=bO 152 [uI 10,uI 18,uH 4 153,uI 154,uO 0]
abbrev qaA:qG:=.seq (sB 94 [uI 10,uW 7] (cD 96 (sr qaT (sr qaE .ret)) sK)) (sr qaF (sr [uq 0 17] (.seq (sr [uI 10 0 106] (.blk 0 qZ9)) (sr qaL .ret))))
abbrev qaB:=sr qaO (.seq (sr qaP (cD 60 (sB 3 [uO 0,uq,uO 4] .ret) sK)) (sr qaQ (sr qaR (sr qaS qaA))))
def F975:qJ:=⟨2,155,[.t 4,.t 5,.t 6],sB 3 [uO 0,uq,uO 0] (sr qaC (sr qaD (.seq (sB 32 [uI 9,vt 33 0] (cD 34 (sr qaM .ret) sK)) (sr qaN qaB))))⟩
abbrev qLO:=bO 5 [uL 3,uM 3 0,uW 2,uQ,uE 9 (uI 0),uE 9 uN,uE 9 (uK 0),uE 9 uJ,uE 9 (uL 3),uE 9 (uM 3 1),uE 9 (uT 5 13),uE 9 (uK 4),uE 9 uJ,uE 9 uR,uE 9 (vi 19 0),ua 9]
abbrev qLP:=bO 21 [uI 0,uN,uK 0,uJ,uL 3,uM 3 1,uT 5 25,uK 4,uJ,ur 2 0,uX 2,uC 4 uj,uY 5 0 2 32]
abbrev qLQ:=bO 32 [uI 0,uL 3,uM 3 1,uV 1288 33]
abbrev qLN:qG:=.seq (.blk 0 (.loop (.seq (sr qLO (cD 21 sK (.exit 0))) (.blk 1 (sr qLP (sr qLQ (rB 36 [uS 5 0 2,ui 3 0 2]))))))) (sB 37 [uS 3 0 2,ui 4 0 2] .ret)
def Uq:qJ:=⟨2,39,[.l 4 (some 2)],sB 2 [ud 2 1,uj] qLN⟩
abbrev qaV:=bO 5 [uI 0,uS 4 0 2,uV 1294 6,ui 4 0 2]
abbrev qaW:=bO 8 [uI 0,uS 5 0 2,uV 1294 9,ui 5 0 2]
abbrev qaX:=bO 22 [uL 4,uM 4 0,uW 1,uQ,uE 26 (uL 5),uE 26 (uM 5 0),uE 26 (uW 1),ua 26,uH 22 30]
abbrev qaY:=bO 30 [uI 0,uL 4,uM 4 1,uL 5,uM 5 1,uu 1295 31 33]
abbrev qaZ:=bO 37 [uS 4 0 2,uS 5 0 2,UE 1 1 38 39,uH 37 40]
abbrev qa0:=bO 40 [uI 0,uL 4,uM 4 1,uV 1288 41]
abbrev qa1:=bO 45 [uL 4,uM 4 0,uW 2,uH 45 48]
abbrev qa2:=bO 48 [uI 0,uN,uK 0,uJ,uL 4,uM 4 1,uS 5 0 2,u5 2 1 0 55,uf 5 52 54,uK 4,uc 1 56]
abbrev qa3:=bO 11 [uI 0,uN,uK 0,uJ,uL 5,uM 5 1,uS 4 0 2,u5 2 1 0 18,uf 5 15 17,uK 4,uc 1 19]
abbrev qaU:=sr qaV (sr qaW (.blk 0 (sr qaX (cD 22 (rg qaY) (sr qaZ (cD 37 (rg qa0) (sr qa1 (cD 45 (rg qa2) (rg qa3)))))))))
def F976:qJ:=⟨3,59,[],sB 3 [ud 2 1,ud 2 2] qaU⟩
abbrev qU9:=bO 11 [uI 0,uI 1,uV 975 12,uH 11 14,uC 14 (ug 11 0),ug 11 1,ug 11 2,uH 6 15,uI 16,uI 17]
abbrev qVA:=bO 21 [uf 4 18 20,uX 4,uC 9 (uA (.lalloc (.agg [iI 0,iI 0,iI 0,iI 0]))),uY 10 0 4 23]
abbrev qVB:=bO 23 [uI 0,uN,uK 0,uL 10,uS 10 0 2,uL 10,uS 10 2 2,uu 976 26 28]
abbrev qU8:qG:=.loop (sr [ux 19 0 20] (.seq (cD 21 sK (.exit 0)) (.seq (.blk 1 (sr qVA (rg qVB))) (rB 31 [uw 20 1,uH 20 32]))))
abbrev qVC:=bO 32 [uI 6,uI 8,uH 4 33,uI 34]
def kI:qJ:=⟨2,35,[.t 4,.t 5],sB 3 [uO 0,uO 0] (sr qU9 (.seq (sB 17 [uI 7,uR,uO 0] (.blk 0 qU8)) (sr qVC .ret)))⟩
abbrev qHH:=bO 6 [uI 0,uP 1286,uH 6 8,uC 8 (ug 6 0),ug 6 1,ug 6 2,uH 3 9,uI 10,uI 11]
abbrev qHI:=bO 11 [uI 3,uI 4,ve 12 13,uH 2 14]
def UU:qJ:=⟨1,15,[.t 2],sr [uO 0 0 1] (sr qHH (sr qHI .ret))⟩
abbrev qXP:=bO 9 [uI 0,uI 0,uI 0,uN,uK 0,uJ,uN,uK 0,uD 9 (uH 19 0),uD 10 uN,uD 11 (uK 0),uD 12 uJ,uD 13 uN,uD 14 (uK 0),uD 8 (uC 17 (uG [uJ 12 21] (uP 1182))),uC 24 (uP 1182),vC 10,uK 3,uc 1 18,vC 11,uK 4,uc 1 25]
abbrev qXQ:=bO 29 [uI 0,uN,uK 0,uJ,uN,uK 0,uK 4,uJ,uR,vi 38 0]
abbrev qXS:=bO 39 [uI 0,uN,uK 2,uJ,uR,uI 1,vf 44 45]
abbrev qXT:=bO 46 [uI 0,uN,uK 0,uJ,uN,uK 0,uK 4,uJ,uR,vv 55 1,uH 5 56]
abbrev qXU:=bO 56 [uI 0,uN,uK 0,uJ,uN,uK 0,uP 1182,uH 6 63]
abbrev qXV:=bO 64 [uI 0,uN,uK 0,uJ,uI 0,uN,uK 0,uJ,uN,uK 0,uK 4,uJ,uI 5,uT 2 76,uX 2,uV 1183 68,uH 64 80,uC 80 (ug 64 0),ug 64 1,uH 7 81,uI 82]
abbrev qXW:=bO 86 [uI 0,uN,uK 0,uJ,uI 5,uV 602 90,uH 86 92,uC 92 (ug 86 0),ug 86 1,uH 9 93,uH 8 94]
abbrev qXX:=bO 97 [uI 0,uN,uK 1,uJ,uI 9,vv 102 1,uT 1 101,uJ,ub 1,uf 1 101 103,uc 1 106]
abbrev qXY:=bO 107 [uI 0,uI 0,uN,uK 2,uJ,uI 9,vH 1 0 1 0 113,uo 1 112,vC 108,uK 2,uc 1 115]
abbrev qXZ:=bO 117 [uI 0,uI 0,uN,uK 3,uJ,uI 0,uN,uK 0,uJ,uN,uK 0,uG [uJ 4 121] (uP 1182),uA (.max (.t 122) (.t 129)),vC 118,uK 3,uc 1 130]
abbrev qXR:=bO 132 [uI 0,uI 0,uN,uK 4,uJ,uI 6,vv 138 2,uI 9,uW 7,uD 11 (uH 144 7),uD 9 (uC 141 (uG [uJ 4 136] (uP 566))),uD 10 (ve 139 142),uC 144 (ve 143 144),uA (.max (.t 137) (.t 145)),vC 133,uK 4,uc 1 146]
abbrev qXM:qG:=.seq (sB 94 [uI 8,vt 95 0] (cD 96 (sB 96 [uI 8,uH 4 97] .ret) sK)) (sr qXX (sr qXY (sr qXZ (rg qXR))))
abbrev qXN:=sr qXU (sr qXV (.seq (sB 82 [uI 8,vt 83 0] (cD 84 (sB 84 [uI 8,uH 4 85] .ret) sK)) (sr qXW qXM)))
abbrev qXO:qG:=.seq (.blk 0 (.loop (.seq (sr qXQ (cD 39 sK (.exit 0))) (.blk 1 (.seq (sr qXS (cD 46 (sr [uO 12 0 3] .ret) sK)) (sr qXT qXN)))))) (sr [uO 0 0 3] .ret)
def F869:qJ:=⟨2,149,[.t 4],sr [uO 0 0 3] (sr qXP qXO)⟩
abbrev qTZ:=bO 10 [uI 0,uP 505,ue,uQ,uF 14 (uS 4 0 5),uF 14 (uP 867),uF 14 ue,uk 14,uH 10 18]
abbrev qT0:=bO 19 [uI 2,vp 20 0,uQ,uF 22 (uI 2),uF 22 (vi 23 4000),uk 22,uH 19 25]
abbrev qT1:=bO 25 [uS 4 0 5,uD 2 (uH 28 0),uD 1 (uC 26 (uP 868)),uC 28 (uA (.build (.agg [.nils,iI 0,iI 0,iI 0,.nils,.nils]) [(0,5,.t 27),(5,1,.t 28)])),vT 6 29,uA (.mksl 1 (iI 0) (.c (iI 7)) (.c (iI 7))),uA (.build (.agg [.nilp,.nils,.nils,iI 0,iI 0]) [(0,1,.t 30),(1,1,.t 31)]),vT 5 32,uH 8 33]
abbrev qT2:=bO 33 [uI 8,uI 2,uV 869 34,uH 9 36]
abbrev qTX:qG:=.seq (sr qT2 (sB 36 [uI 9,vt 37 0] (cD 38 (sB 38 [uI 9,uC 5 vP,uI 39] .ret) sK))) (sB 39 [uI 8,uH 6 40,uO 0] .ret)
abbrev qTY:qG:=.seq (.blk 0 (sr qTZ (cD 10 (sB 5 [vP,uO 1] .ret) (sr qT0 (cD 19 (sB 5 [vP,uO 2] .ret) sK))))) (.seq (.reg false qT1) qTX)
def K5:qJ:=⟨3,41,[.t 6,.t 7],sB 3 [ud 5 1,uC 5 vP,uO 0] qTY⟩
def qHW:qJ:=W6
abbrev qYF:=bO 4 [uL 2,uM 2 3,uI 1,uV 338 6,uH 1 8]
abbrev qYG:=bO 10 [uL 2,uM 2 4,uI 1,uV 1242 12,uH 1 14]
abbrev qYE:=sr qYG (.seq (sB 14 [uI 1,vp 15 0] (cD 16 (sr [uO (-1) 0 3] .ret) sK)) (sB 16 [uI 1,uH 4 17] .ret))
def F922:qJ:=⟨2,18,[.t 4],sB 1 [ud 5 0,uC 3 (uO 0)] (sr qYF (.seq (sB 8 [uI 1,vp 9 0] (cD 10 (sr [uO (-1) 0 3] .ret) sK)) qYE))⟩
def F542:qJ:=szS 5 (some 5) 922
def F543:qJ:=W6
abbrev qQ8:=bO 4 [uL 2,uM 2 0,uI 1,uV 542 6,uH 1 8]
abbrev qQ9:=bO 10 [uL 2,uM 2 4,uI 1,uV 543 12,uH 1 14]
abbrev qQ7:=sr qQ9 (.seq (sB 14 [uI 1,vp 15 0] (cD 16 (sr [uO (-1) 0 3] .ret) sK)) (sB 16 [uI 1,uH 4 17] .ret))
def Kr:qJ:=⟨2,18,[.t 4],sB 1 [ud 5 0,uC 3 (uO 0)] (sr qQ8 (.seq (sB 8 [uI 1,vp 9 0] (cD 10 (sr [uO (-1) 0 3] .ret) sK)) qQ7))⟩
abbrev qY0:=bO 2 [uI 0,uN,uK 0,uJ,vz 340 6 2 12,uH 2 7]
def F950:qJ:=⟨1,8,[.t 2],sr [uU 0 1] (sr qY0 .ret)⟩
abbrev qY3:=bO 6 [uI 0,uN,uK 0,uJ,uR,uH 6 11]
abbrev qY4:=bO 15 [uL 3,uM 3 0,vt 17 2,uQ,uF 19 (uI 0),uF 19 uN,uF 19 (uK 0),uF 19 uJ,uF 19 (uL 3),uF 19 (uM 3 1),uF 19 (uT 5 23),uF 19 (uK 4),uF 19 uJ,uF 19 uR,uF 19 (uW 0),uk 19]
abbrev qY5:=bO 32 [uI 0,uN,uK 0,uJ,uL 3,uM 3 1,uT 5 36,uK 4,uJ,ur 2 0,uX 2,ui 3 0 2]
abbrev qY1:qG:=.seq (.blk 1 (.seq (sr qY4 (cD 31 (sB 31 [uS 3 0 2,ui 4 0 2,uC 4 uz] .ret) sK)) (rg qY5))) (rB 13 [uI 6,vv 14 1,uH 6 15])
abbrev qY2:qG:=.seq (sr qY3 (.blk 0 (.loop (.seq (sB 11 [uI 6,vg 12 0] (cD 13 sK (.exit 0))) qY1)))) (sB 43 [uS 3 0 2,ui 4 0 2,uC 4 uU] .ret)
def F951:qJ:=⟨2,45,[.l 4 (some 2),.t 5],sB 2 [ud 2 1,uj,uU] qY2⟩
abbrev qMO:=bO 6 [uI 0,uN,uK 0,uJ,uW 0,uH 6 11]
abbrev qMP:=bO 11 [uI 0,uN,uK 1,uJ,uW 0,uQ,uE 17 (uI 0),uE 17 uN,uE 17 (uK 3),uE 17 uJ,uE 17 uR,uE 17 (uW 0),ua 17,uQ,uE 25 (uI 0),uE 25 uN,uE 25 (uK 4),uE 25 uJ,uE 25 uR,uE 25 (uW 0),ua 25,uQ,uE 33 (uI 0),uE 33 uN,uE 33 (uK 2),uE 33 uJ,uE 33 (uI 1),uE 33 (vv 38 1),uE 33 (v5 340 37 (-1) 39),ua 33,uH 4 41]
abbrev qMQ:=bO 42 [uI 0,uN,uK 0,uJ,uW 13,uH 42 47]
abbrev qMR:=bO 47 [uI 0,uN,uK 1,uJ,uW 0,uQ,uE 53 (uI 0),uE 53 uN,uE 53 (uK 2),uE 53 uJ,uE 53 (uW 0),ua 53,uQ,uE 60 (uI 0),uE 60 uN,uE 60 (uK 3),uE 60 uJ,uE 60 uR,uE 60 (uW 0),ua 60,uQ,uE 68 (uI 0),uE 68 uN,uE 68 (uK 4),uE 68 uJ,uE 68 uR,uE 68 (vp 73 2),ua 68,uH 4 75]
abbrev qMS:=bO 78 [uI 0,uP 1277,uC 4 (vO 5),uc 5 80]
abbrev qMN:=cD 42 (sr qMR .ret) (sB 76 [uI 0,uP 950,uH 76 78] (cD 76 (sr qMS (sB 80 [vK 1096 5,uH 4 81] .ret)) sK))
def Ut:qJ:=⟨2,82,[.t 4],sr [uU 0 3] (.seq (.blk 0 (sr qMO (cD 6 (sr qMP .ret) (sr qMQ qMN)))) (sr [uU 0 3] .ret))⟩
abbrev qMU:=bO 4 [uI 0,uN,uK 2,uX 2,u5 2 1 0 8,uH 3 9]
abbrev qMV:=bO 9 [uI 4,uI 0,uN,uK 0,uJ,uR,un 10]
abbrev qMW:=bO 18 [uI 3,uI 0,uN,uK 0,uJ,uI 4,uT 5 23,uK 4,uJ,uo 2 19,uH 3 28]
abbrev qMT:=sr [uO 0 0 3] (.blk 0 (.loop (.seq (sr qMV (cD 16 sK (.exit 0))) (.seq (.blk 1 (rg qMW)) (rB 16 [uI 4,ub 1,uH 4 18])))))
def Uu:qJ:=⟨1,30,[.t 2],sr [uq 0 1] (sr qMU (.seq qMT (sB 28 [uI 3,uH 2 29] .ret)))⟩
abbrev qMX:=bO 5 [uL 3,uM 3 1,uI 0,uN,uK 0,uJ,uR,vv 12 1,v5 340 7 0 13,ue]
abbrev qMY:=bO 15 [uI 0,uN,uK 0,uJ,uL 3,uM 3 1,uT 5 19,uH 5 22]
abbrev qMZ:=bO 22 [uL 3,uM 3 0,uW 1,uQ,uE 26 (uI 5),uE 26 (uP 950),ua 26,uQ,uF 30 (uL 3),uF 30 (uM 3 0),uF 30 (uW 2),uF 30 uQ,uE 34 (uI 5),uE 34 uN,uE 34 (uK 0),uE 34 uJ,uE 34 (uW 13),uF 30 (ua 34),uk 30,uH 4 41]
def Uv:qJ:=⟨2,42,[.t 4],sB 2 [ud 2 1,uU] (.seq (sr qMX (cD 15 (sr [uU 0 3] .ret) sK)) (sr qMY (sr qMZ .ret)))⟩
abbrev qM3:=bO 5 [uI 4,uI 0,uN,uK 0,uJ,uR,un 6]
abbrev qM4:=bO 14 [uI 0,uN,uK 0,uJ,uI 4,uT 5 18,uK 0,uJ,uW 0]
abbrev qM0:qG:=.seq (.blk 1 (sr qM4 (cD 23 (rB 23 [uI 3,ub 1,uH 3 25]) sK))) (rB 12 [uI 4,ub 1,uH 4 14])
abbrev qM5:=bO 25 [uI 0,uN,uK 1,uJ,uH 5 29]
abbrev qM6:=bO 33 [uI 5,uI 0,uN,uK 0,uJ,uR,vv 39 1,v5 340 34 0 40,ue,uQ,uF 43 (uI 0),uF 43 uN,uF 43 (uK 0),uF 43 uJ,uF 43 (uI 5),uF 43 (uT 5 47),uF 43 (uK 0),uF 43 uJ,uF 43 (vt 51 0),uk 43]
abbrev qM7:=bO 53 [uI 0,uN,uK 0,uJ,uI 5,uT 5 57,uK 2,uJ,uH 5 61]
abbrev qM1:qG:=.seq (sB 29 [uI 3,vi 30 0] (cD 31 sK (.exit 2))) (.seq (.blk 3 (.seq (sr qM6 (cD 53 (sr [uU 0 1] .ret) sK)) (rg qM7))) (rB 31 [uI 3,vv 32 1,uH 3 33]))
abbrev qM2:qG:=.seq (sr [uO 0 0 3] (.blk 0 (.loop (.seq (sr qM3 (cD 12 sK (.exit 0))) qM0)))) (sr qM5 (.seq (.blk 2 (.loop qM1)) (sB 61 [uI 5,uW (-1),uH 2 63] .ret)))
def Uw:qJ:=⟨1,64,[.t 2],sr [uU 0 1] (sr [uO 0 0 2] qM2)⟩
abbrev qDY:=bO 17 [uI 0,uN,uK 0,uJ,uR,uH 7 22]
abbrev qDZ:=bO 22 [uI 7,vz 340 23 1 1500,ue,uQ,uF 26 (uI 2),uF 26 uR,uF 26 (uI 7),uF 26 (vj 28 29),uk 26]
abbrev qD8:=bO 32 [uI 9,uI 0,uN,uK 0,uJ,uR,un 33]
abbrev qEB:=bO 41 [uI 0,uN,uK 0,uJ,uI 9,uT 5 45,uI 7,uV 1351 47,ue]
abbrev qEC:=bO 50 [uI 8,uA (.bslice 1 (iI 0) 1 [(0,.c (iI 0))]),uo 1 51,uH 8 53]
abbrev qDX:qG:=.seq (sr qD8 (cD 39 sK (.exit 0))) (.seq (.blk 1 (.seq (sr qEB (cD 50 (sr [uU 0 5] .ret) sK)) (rg qEC))) (rB 39 [uI 9,ub 1,uH 9 41]))
abbrev qED:=bO 53 [uI 0,uP 1352,uI 1,uo 2 55,uH 10 57]
abbrev qEE:=bO 57 [uI 11,uI 10,uR,un 58]
abbrev qEF:=bO 63 [uI 0,uI 10,uI 11,uT 2 65,uX 2,uV 1353 64,ue]
abbrev qEG:=bO 70 [uI 8,uI 10,uI 11,uT 2 72,uK 1,uJ,uT 1 71,uJ,ub 1,uf 1 71 76,uc 1 79]
abbrev qDR:qG:=.seq (sr qEE (cD 61 sK (.exit 2))) (.seq (.blk 3 (.seq (sr qEF (cD 70 (sr [uU 0 5] .ret) sK)) (rg qEG))) (rB 61 [uI 11,ub 1,uH 11 63]))
abbrev qD0:=bO 80 [uI 12,uI 2,uR,un 81]
abbrev qD1:=bO 86 [uI 2,uI 12,uT 2 87,uX 2,uC 12 uj,uY 13 0 2 90]
abbrev qD2:=bO 90 [uL 13,uM 13 1,uI 7,vv 93 1,v5 340 92 1 94,ue,uQ,uF 97 (uL 13),uF 97 (uM 13 0),uF 97 (uL 13),uF 97 (uM 13 1),uF 97 (vv 101 1),uF 97 (v5 340 99 0 102),uF 97 ue,uk 97,uQ,uF 106 (uI 0),uF 106 uN,uF 106 (uK 0),uF 106 uJ,uF 106 (uL 13),uF 106 (uM 13 0),uF 106 (uT 5 110),uF 106 (uP 950),uF 106 ue,uk 106,uQ,uF 117 (uI 0),uF 117 uN,uF 117 (uK 0),uF 117 uJ,uF 117 (uL 13),uF 117 (uM 13 1),uF 117 (uT 5 121),uF 117 (uP 950),uF 117 ue,uk 117]
abbrev qD3:=bO 127 [uI 8,uL 13,uM 13 0,uT 1 128,uJ,ub 1,uf 1 128 130,uc 1 133]
abbrev qD4:=bO 134 [uI 8,uL 13,uM 13 1,uT 1 135,uJ,ub 1,uf 1 135 137,uc 1 140]
abbrev qDS:qG:=.seq (.blk 5 (sr qD1 (.seq (sr qD2 (cD 127 (sr [uU 0 5] .ret) sK)) (sr qD3 (rg qD4))))) (rB 84 [uI 12,ub 1,uH 12 86])
abbrev qD5:=bO 141 [uI 14,uI 0,uN,uK 0,uJ,uR,un 142]
abbrev qD6:=bO 150 [uI 0,uN,uK 0,uJ,uI 14,uT 5 154,uH 15 156]
abbrev qD7:=bO 156 [uI 15,uP 950,uQ,uE 159 (uI 8),uE 159 (uI 14),uE 159 (uT 1 160),uE 159 uJ,uE 159 (vt 163 1),ua 159,uQ,uF 166 (uI 15),uF 166 uN,uF 166 (uK 0),uF 166 uJ,uF 166 (uW 13),uF 166 uQ,uE 172 (uI 8),uE 172 (uI 14),uE 172 (uT 1 173),uE 172 uJ,uE 172 (uI 15),uE 172 uN,uE 172 (uK 4),uE 172 uJ,uE 172 uR,uE 172 (uA (.bin .sub (.c (iI 2)) (.t 181))),uE 172 (vu 176 182),uF 166 (ua 172),uk 166]
abbrev qD9:=bO 185 [uI 15,uN,uK 0,uJ,uW 13]
abbrev qEA:=bO 191 [uI 0,uI 14,vF 0 1 2 1 1 193,uV 951 192,uH 191 195,uC 195 (ug 191 0),ug 191 1,uC 15 uj,uY 16 0 2 196,uI 197]
abbrev qDT:qG:=.seq (sr qD7 (cD 185 (sr [uU 0 5] .ret) sK)) (sr qD9 (cD 190 (sr qEA (sB 197 [uI 17,ue] (cD 199 (sr [uU 0 5] .ret) sK))) sK))
abbrev qDU:=sr [uO 0 0 13] (.blk 6 (.loop (.seq (sr qD5 (cD 148 sK (.exit 6))) (.seq (.blk 7 (sr qD6 qDT)) (rB 148 [uI 14,ub 1,uH 14 150])))))
abbrev qDV:qG:=.seq (sr [uO 0 0 11] (.blk 4 (.loop (.seq (sr qD0 (cD 84 sK (.exit 4))) qDS)))) (.seq qDU (sB 199 [uI 0,uP 1354,uH 6 201] .ret))
abbrev qDW:qG:=.seq (sr [uO 0 0 8] (.blk 0 (.loop qDX))) (sr qED (.seq (sr [uO 0 0 10] (.blk 2 (.loop qDR))) qDV))
def UG:qJ:=⟨3,202,[.t 6],sr [uU 0 5] (sr qDY (.seq (sr qDZ (cD 31 (sr [uU 0 5] .ret) sK)) (sB 31 [vD 1,uH 8 32] qDW)))⟩
abbrev qYH:=bO 2 [uI 0,uI 0,uN,uK 4,uJ,uA (.call 1058 [.t 3,.c (.nils),.t 7]),uH 2 8]
def F923:qJ:=⟨1,9,[.t 2],sr [uU 0 1] (sr qYH .ret)⟩
abbrev qT4:=bO 6 [uI 0,uP 598,ue,uQ,uF 10 (uI 1),uF 10 (uP 923),uF 10 ue,uk 10]
abbrev qT3:qG:=.seq (sr qT4 (cD 14 (sr [uO 1 0 5] .ret) sK)) (.seq (sB 14 [uI 2,vz 340 15 0 4000,ue] (cD 17 (sr [uO 2 0 5] .ret) sK)) (sr [uO 0 0 5] .ret))
def K6:qJ:=⟨3,18,[.t 6],sr [uO 0 0 5] qT3⟩
abbrev qT6:=bO 4 [uI 0,uN,uK 1,uJ,uI 0,uN,uK 2,uX 2,vD 2,uI 0,uN,uK 4,uJ,uD 15 (uC 2 vL),uD 13 (uC 17 (uG [uJ 3 7,uX 2 7 11] (uo 2 13))),uD 14 (uA (.build (.agg [.nils,iI 0,iI 0,iI 0,.nils]) [(1,1,.t 8),(2,2,.t 12),(4,1,.t 18)])),ui 3 0 5]
abbrev qT7:=bO 19 [uI 4,uI 0,uN,uK 0,uJ,uR,un 20]
abbrev qT8:=bO 28 [uL 3,uM 3 0,uI 0,uN,uK 0,uJ,uI 4,uT 5 34,uP 924,vU 5 1 0 37,uo 5 30,uL 3,uY 3 0 1 39]
abbrev qT5:=sr [uO 0 0 3] (.blk 0 (.loop (.seq (sr qT7 (cD 26 sK (.exit 0))) (.seq (.blk 1 (rg qT8)) (rB 26 [uI 4,ub 1,uH 4 28])))))
def K7:qJ:=⟨1,42,[.l 2 (some 5)],sr [vL 0 1] (sr qT6 (.seq qT5 (sB 40 [uS 3 0 5,ui 2 0 5] .ret)))⟩
abbrev qT9:=bO 3 [uL 1,uM 1 0,uL 3,uY 3 0 1 5]
abbrev qUA:=bO 6 [uL 1,uM 1 1,uL 3,uY 3 1 1 8]
def K8:qJ:=⟨1,11,[.l 2 (some 2)],sB 0 [ud 2 0,uj] (sr [uj 0 2] (sr qT9 (sr qUA (sB 9 [uS 3 0 2,ui 2 0 2] .ret))))⟩
def qHX:qJ:=toS 2 (some 2) (.agg [iI 0,iI 0]) 547
abbrev qYK:=bO 3 [uL 1,uM 1 0,uL 3,uY 3 0 1 5]
abbrev qYL:=bO 6 [uL 1,uM 1 1,uL 3,uY 3 1 1 8]
abbrev qYM:=bO 9 [uL 1,uM 1 2,uL 3,uY 3 2 1 11]
abbrev qYN:=bO 12 [uL 1,uM 1 3,uP 147,uL 3,uY 3 3 1 15]
abbrev qYO:=bO 16 [uL 1,uM 1 4,uP 1243,uL 3,uY 3 4 1 19]
abbrev qYJ:=sr [ut 0 2] (sr qYK (sr qYL (sr qYM (sr qYN (sr qYO (sB 20 [uS 3 0 5,ui 2 0 5] .ret))))))
def F925:qJ:=⟨1,22,[.l 2 (some 5)],sB 0 [ud 5 0,ut] qYJ⟩
def F546:qJ:=toS 5 (some 5) (.agg [iI 0,iI 0,iI 0,.nils,.nils]) 925
abbrev qYP:=bO 3 [uL 1,uM 1 0,uL 3,uY 3 0 1 5]
abbrev qYQ:=bO 6 [uL 1,uM 1 1,uL 3,uY 3 1 1 8]
def F926:qJ:=⟨1,11,[.l 2 (some 2)],sB 0 [ud 2 0,uj] (sr [uj 0 2] (sr qYP (sr qYQ (sB 9 [uS 3 0 2,ui 2 0 2] .ret))))⟩
def F548:qJ:=toS 2 (some 2) (.agg [iI 0,iI 0]) 926
abbrev qRG:=bO 3 [uL 1,uM 1 0,uP 546,uL 3,uY 3 0 1 6]
abbrev qRH:=bO 7 [uL 1,uM 1 1,uL 3,uY 3 1 1 9]
abbrev qRI:=bO 10 [uL 1,uS 1 2 2,uP 547,uL 3,uY 3 2 2 13]
abbrev qRJ:=bO 14 [uL 1,uM 1 4,uP 548,uL 3,uY 3 4 1 17]
abbrev qRF:=sr [vL 0 2] (sr qRG (sr qRH (sr qRI (sr qRJ (sB 18 [uS 3 0 5,ui 2 0 5] .ret)))))
def Kt:qJ:=⟨1,20,[.l 2 (some 5)],sB 0 [ud 5 0,vL] qRF⟩
abbrev qUB:=bO 4 [uL 2,uM 2 0,uL 3,uM 3 0,vu 6 8]
abbrev qUC:=bO 9 [uL 2,uM 2 1,uL 3,uM 3 1,vu 11 13]
def K9:qJ:=⟨2,15,[.t 4],sB 1 [ud 2 0,ud 2 1,uU] (.seq (sr qUB (cD 9 (sr [uU 0 3] .ret) sK)) (.seq (sr qUC (cD 14 (sr [uU 0 3] .ret) sK)) (sr [uz 0 3] .ret)))⟩
def qHY:qJ:=eqS 2 (some 2) 550
abbrev qYS:=bO 4 [uL 2,uM 2 0,uL 3,uM 3 0,vu 6 8]
abbrev qYT:=bO 9 [uL 2,uM 2 1,uL 3,uM 3 1,vu 11 13]
abbrev qYU:=bO 14 [uL 2,uM 2 2,uL 3,uM 3 2,vu 16 18]
abbrev qYV:=bO 19 [uL 2,uM 2 3,uL 3,uM 3 3,uV 86 21,ue]
abbrev qYW:=bO 25 [uL 2,uM 2 4,uL 3,uM 3 4,uV 1244 27,ue]
abbrev qYR:qG:=.seq (sr qYU (cD 19 (sr [uU 0 3] .ret) sK)) (.seq (sr qYV (cD 25 (sr [uU 0 3] .ret) sK)) (.seq (sr qYW (cD 31 (sr [uU 0 3] .ret) sK)) (sr [uz 0 3] .ret)))
def F927:qJ:=⟨2,32,[.t 4],sB 1 [ud 5 0,ud 5 1,uU] (.seq (sr qYS (cD 9 (sr [uU 0 3] .ret) sK)) (.seq (sr qYT (cD 14 (sr [uU 0 3] .ret) sK)) qYR))⟩
def F549:qJ:=eqS 5 (some 5) 927
abbrev qYX:=bO 4 [uL 2,uM 2 0,uL 3,uM 3 0,vu 6 8]
abbrev qYY:=bO 9 [uL 2,uM 2 1,uL 3,uM 3 1,vu 11 13]
def F928:qJ:=⟨2,15,[.t 4],sB 1 [ud 2 0,ud 2 1,uU] (.seq (sr qYX (cD 9 (sr [uU 0 3] .ret) sK)) (.seq (sr qYY (cD 14 (sr [uU 0 3] .ret) sK)) (sr [uz 0 3] .ret)))⟩
def F551:qJ:=eqS 2 (some 2) 928
abbrev qRO:=bO 4 [uL 2,uM 2 0,uL 3,uM 3 0,uV 549 6,ue]
abbrev qRP:=bO 10 [uL 2,uM 2 1,uL 3,uM 3 1,vu 12 14]
abbrev qRQ:=bO 15 [uL 2,uS 2 2 2,uL 3,uS 3 2 2,uV 550 17,ue]
abbrev qRR:=bO 21 [uL 2,uM 2 4,uL 3,uM 3 4,uV 551 23,ue]
abbrev qRN:qG:=.seq (sr qRP (cD 15 (sr [uU 0 3] .ret) sK)) (.seq (sr qRQ (cD 21 (sr [uU 0 3] .ret) sK)) (.seq (sr qRR (cD 27 (sr [uU 0 3] .ret) sK)) (sr [uz 0 3] .ret)))
def Kv:qJ:=⟨2,28,[.t 4],sB 1 [ud 5 0,ud 5 1,uU] (.seq (sr qRO (cD 10 (sr [uU 0 3] .ret) sK)) qRN)⟩
abbrev qyB:=bO 10 [uI 0,uI 2,uu 544 11 4,uH 8 13]
abbrev qyC:=bO 18 [uI 0,uI 2,uu 503 19 9,uH 18 21,uC 21 (ug 18 0),ug 18 1,uH 10 22,uH 8 23]
abbrev qyD:=bO 26 [uI 10,uN,uK 0,uJ,uH 6 30,uO 0]
abbrev qx9:=sr qyC (.seq (sB 23 [uI 8,vt 24 0] (cD 25 (sB 25 [uI 8,uC 5 uq,uI 26] .ret) sK)) (sr qyD .ret))
abbrev qyA:qG:=.seq (sB 13 [uI 8,vt 14 0] (cD 15 (sB 15 [uI 8,uC 5 uq,uI 16] .ret) sK)) (sB 16 [vK 545 4,uC 8 (uA (.halloc 5 (.agg [.nils,iI 0,iI 0,iI 0,.nils]))),uc 5 17] qx9)
def F238:qJ:=⟨3,31,[.t 6,.t 7],sB 3 [vT 5 1,uC 5 uq,uO 0] (sr qyB qyA)⟩
abbrev qyF:=bO 10 [uI 0,uS 4 0 5,uI 2,uu 507 11 12,uH 10 14,uC 14 (ug 10 0),ug 10 1,uH 8 15,uI 16]
abbrev qyG:=bO 19 [uI 8,uN,uK 2,uJ,uH 6 23,uO 0]
abbrev qyE:=sr qyF (.seq (sB 16 [uI 9,vt 17 0] (cD 18 (sB 18 [uI 9,uC 5 uq,uI 19] .ret) sK)) (sr qyG .ret))
def F239:qJ:=⟨3,24,[.t 6,.t 7],sB 3 [ud 5 1,uC 5 uq,uO 0] qyE⟩
abbrev qz4:=bO 5 [uQ,uI 0,uR,un 6]
abbrev qz5:=bO 11 [uI 0,uI 5,uI 1,uf 2 12 13,uK 0,uc 1 14]
abbrev qz6:=bO 18 [uI 0,uI 5,uI 1,uf 2 19 20,uK 1,uc 1 21]
abbrev qz2:=sB 16 [uI 1,ub 1,uH 1 18] (sr qz6 (rB 23 [uI 1,ub 1,uH 1 25]))
abbrev qz3:=sr [uO 0 0 4] (.blk 0 (.loop (.seq (sr qz4 (cD 9 sK (.exit 0))) (.seq (.blk 1 (sr qz5 qz2)) (rB 9 [uI 5,ub 1,uH 5 11])))))
def F968:qJ:=⟨2,27,[.t 4],sr [uO 0 0 3] (.seq qz3 (sB 25 [uI 1,uH 4 26] .ret))⟩
abbrev qzG:=bO 5 [uQ,uI 0,uR,un 6]
abbrev qzH:=bO 11 [uI 0,uI 5,uI 1,uf 5 12 13,uK 0,uc 1 14]
abbrev qzI:=bO 18 [uI 0,uI 5,uI 1,uf 5 19 20,uK 1,uc 1 21]
abbrev qzJ:=bO 25 [uI 0,uI 5,uI 1,uf 5 26 27,uK 2,uc 1 28]
abbrev qzK:=bO 32 [uI 0,uI 5,uT 5 33,uK 3,uJ,uI 1,uV 90 37,uH 1 39]
abbrev qzL:=bO 39 [uI 0,uI 5,uT 5 40,uK 4,uJ,uI 1,uV 968 44,uH 1 46]
abbrev qzE:=sB 23 [uI 1,ub 1,uH 1 25] (sr qzJ (sB 30 [uI 1,ub 1,uH 1 32] (sr qzK (rg qzL))))
abbrev qzF:qG:=.seq (.blk 1 (sr qzH (sB 16 [uI 1,ub 1,uH 1 18] (sr qzI qzE)))) (rB 9 [uI 5,ub 1,uH 5 11])
def F595:qJ:=⟨2,48,[.t 4],sr [uO 0 0 3] (.seq (sr [uO 0 0 4] (.blk 0 (.loop (.seq (sr qzG (cD 9 sK (.exit 0))) qzF)))) (sB 46 [uI 1,uH 4 47] .ret))⟩
abbrev qzO:=bO 5 [uQ,uI 0,uR,un 6]
abbrev qzP:=bO 11 [uI 0,uI 5,uI 1,uf 2 12 13,uK 0,uc 1 14]
abbrev qzQ:=bO 18 [uI 0,uI 5,uI 1,uf 2 19 20,uK 1,uc 1 21]
abbrev qzM:=sB 16 [uI 1,ub 1,uH 1 18] (sr qzQ (rB 23 [uI 1,ub 1,uH 1 25]))
abbrev qzN:=sr [uO 0 0 4] (.blk 0 (.loop (.seq (sr qzO (cD 9 sK (.exit 0))) (.seq (.blk 1 (sr qzP qzM)) (rB 9 [uI 5,ub 1,uH 5 11])))))
def F596:qJ:=⟨2,27,[.t 4],sr [uO 0 0 3] (.seq qzN (sB 25 [uI 1,uH 4 26] .ret))⟩
abbrev qyH:=bO 4 [uL 2,uM 2 0,uI 1,uV 595 6,uH 1 8]
abbrev qyI:=bO 8 [uL 2,uM 2 4,uI 1,uV 596 10,uH 1 12]
def F240:qJ:=⟨2,14,[.t 4],sB 1 [ud 5 0,uC 3 (uO 0)] (sr qyH (sr qyI (sB 12 [uI 1,uH 4 13] .ret)))⟩
abbrev qyQ:=bO 18 [uI 0,uI 7,uV 181 19,uH 7 21]
abbrev qyR:=bO 23 [uS 4 0 5,uI 7,uV 209 24,uH 7 26]
abbrev qyY:=bO 29 [uI 0,uD 2 (uC 31 (uS 4 0 5)),uD 4 (uH 34 2),uD 1 (uC 30 (uP 184)),uD 3 (uC 32 (uP 211)),uC 34 (uu 238 31 33),uH 29 35,uC 35 (ug 29 0),ug 29 1,uH 8 36,uI 37]
abbrev qyZ:=bO 39 [uS 4 0 5,uP 211,uC 10 vL,uY 11 0 5 41]
abbrev qy0:=bO 42 [uI 10,uS 11 0 5,uI 2,uu 239 43 44,uH 42 46,uC 46 (ug 42 0),ug 42 1,uH 12 47,uI 48]
abbrev qy1:=bO 48 [uI 12,uI 8,uV 86 49,ue,uQ,uF 53 (uI 13),uF 53 (uI 9),uF 53 (vu 54 55),uk 53]
abbrev qy2:=bO 57 [uI 10,uI 0,uP 184,uV 187 58,ue]
abbrev qy3:=bO 62 [uS 11 0 5,uS 4 0 5,uP 211,uV 213 63,ue]
abbrev qy4:=bO 67 [uI 10,uI 14,uV 225 68,uH 14 70]
abbrev qy5:=bO 70 [uS 11 0 5,uI 14,uV 240 71,uH 14 73]
abbrev qyS:=bO 73 [uI 14,vp 74 0,uQ,uF 76 (uI 12),uF 76 (uI 8),uF 76 (uV 86 77),uF 76 ue,uk 76,uQ,uF 82 (uI 13),uF 82 (uI 9),uF 82 (vu 83 84),uk 82]
abbrev qyT:=bO 86 [uI 12,uI 15,uV 90 87,uH 15 89]
abbrev qyU:=bO 89 [uI 12,uI 16,uV 92 90,uH 16 92]
abbrev qyV:=bO 98 [uI 0,uD 2 (uC 100 (uS 4 0 5)),uD 4 (uH 103 2),uD 1 (uC 99 (uP 184)),uD 3 (uC 101 (uP 211)),uC 103 (uu 239 100 102),uH 98 104,uC 104 (ug 98 0),ug 98 1,uH 17 105,uI 106]
abbrev qyW:=bO 106 [uI 17,uI 8,uV 86 107,ue,uQ,uF 111 (uI 18),uF 111 (uI 9),uF 111 (vu 112 113),uk 111]
abbrev qyX:=bO 115 [uI 12,uI 16,uV 92 116,uH 16 118]
abbrev qyJ:qG:=.seq (sB 118 [uI 16,vp 119 0] (cD 120 (sr [uU 0 5] .ret) sK)) (.seq (sB 120 [uI 16,uI 15,vu 121 122] (cD 123 (sr [uU 0 5] .ret) sK)) (sr [uz 0 5] .ret))
abbrev qyK:qG:=.seq (sB 94 [uI 16,uI 15,vu 95 96] (cD 97 (sr [uU 0 5] .ret) sK)) (sr qyV (.seq (sr qyW (cD 115 (sr [uU 0 5] .ret) sK)) (sr [uO 1 0 15] (sr qyX qyJ))))
abbrev qyL:=sr qyT (sr [uO 1 0 15] (sr qyU (.seq (sB 92 [uI 16,vp 93 0] (cD 94 (sr [uU 0 5] .ret) sK)) qyK)))
abbrev qyM:=sr [uO 1 0 13] (sr qy4 (sr qy5 (.seq (sr qyS (cD 86 (sr [uU 0 5] .ret) sK)) (sr [uO 1 0 14] qyL))))
abbrev qyN:qG:=.seq (sr qy1 (cD 57 (sr [uU 0 5] .ret) sK)) (.seq (sr qy2 (cD 62 (sr [uU 0 5] .ret) sK)) (.seq (sr qy3 (cD 67 (sr [uU 0 5] .ret) sK)) qyM))
abbrev qyO:qG:=.seq (sB 26 [uI 7,vp 27 0] (cD 28 (sr [uz 0 5] .ret) sK)) (sr qyY (sB 37 [uI 0,uP 184,uH 10 39] (sr qyZ (sr qy0 qyN))))
abbrev qyP:=sr [uO 1048576 0 6] (sr qyQ (.seq (sB 21 [uI 7,vp 22 0] (cD 23 (sr [uz 0 5] .ret) sK)) (sr qyR qyO)))
def F36:qJ:=⟨3,124,[.t 6],sB 3 [ud 5 1,uC 5 uU] qyP⟩
def tabm:List (Nat×qJ):=[(338,F338),(1173,qF6),(852,kT),(501,F501),(182,Ko),(181,F181),(340,Ky),(488,K1),(1371,KE),(1384,KH),(1372,KF),(1489,Kf),(1385,KI),(1494,Kg),(1386,KJ),(1096,UJ),(710,kJ),(318,Kw),(598,kG),(742,kN),(1395,KP),(1499,Ki),(1500,Kj),(1396,KQ),(1110,UL),(1111,UM),(744,kO),(147,F147),(1419,KU),(1178,qHD),(858,kY),(504,F504),(185,Kp),(184,F184),(774,F774),(397,F397),(1179,qHE),(859,F859),(554,kA),(796,kR),(1050,qxV),(1051,UF),(1487,Ke),(1387,KL),(1388,KM),(1375,KG),(1495,Kh),(1389,KN),(1390,KO),(1097,UK),(711,kK),(1098,qE9),(712,F712),(555,kC),(714,kM),(713,kL),(319,Kx),(860,kZ),(505,K4),(376,Kz),(1501,Kk),(1502,Kl),(1398,KR),(1115,UN),(751,kP),(86,F86),(1422,KX),(1184,qHV),(870,F870),(508,F508),(188,Kq),(187,F187),(402,K0),(401,F401),(1373,qOR),(1085,UI),(798,kS),(90,F90),(885,F885),(524,F524),(225,F225),(92,F92),(856,kW),(1177,UT),(1125,UP),(1126,UQ),(762,kQ),(1456,KZ),(1305,Us),(566,kE),(1400,KS),(1118,UO),(978,F978),(1485,qQQ),(948,F948),(569,kF),(1174,UR),(1280,Uc),(1282,Ue),(1418,KT),(1176,US),(1277,UZ),(969,F969),(971,F971),(855,kV),(857,kX),(970,F970),(924,XE),(1278,Ua),(1279,Ub),(1281,Ud),(1283,Uf),(972,F972),(1284,Ug),(973,F973),(600,kH),(854,kU),(503,K3),(556,kD),(863,ke),(864,kj),(866,kp),(1256,UX),(1482,qQN),(1356,qM8),(1254,UW),(1368,KD),(1455,KY),(1358,Uy),(1357,Ux),(1483,qQO),(1359,qNE),(1360,Uz),(1484,Kd),(1362,U8),(1361,U0),(1363,qNO),(1365,KA),(1364,U9),(1366,KB),(1367,KC),(1068,UH),(867,kq),(1070,qEQ),(1181,qHF),(868,kw),(1509,Km),(1420,KV),(1285,Uh),(1421,KW),(1183,UV),(1286,Ui),(1287,Uj),(1288,XD),(1257,UY),(1295,Ur),(1521,Kn),(1457,Ka),(1458,Kb),(1289,Uk),(1459,Kc),(1290,Ul),(1291,Um),(1292,Un),(1293,Uo),(975,F975),(1294,Uq),(976,F976),(602,kI),(1182,UU),(869,F869),(507,K5),(1242,qHW),(922,F922),(542,F542),(543,F543),(209,Kr),(950,F950),(951,F951),(1351,Ut),(1352,Uu),(1353,Uv),(1354,Uw),(1058,UG),(923,F923),(544,K6),(545,K7),(547,K8),(1243,qHX),(925,F925),(546,F546),(926,F926),(548,F548),(211,Kt),(550,K9),(1244,qHY),(927,F927),(549,F549),(928,F928),(551,F551),(213,Kv),(238,F238),(239,F239),(968,F968),(595,F595),(596,F596),(240,F240),(36,F36)]
def Gm(g:Nat):Option AFn:=Q9 g tabm
theorem gk(g:Nat)(F:qJ)(h:Gm g=some (.fn F):=by kernel_rfl):Gm g=some (.fn F):=h
theorem pI{Γ:Nat->Option AFn}{g:Nat}(F:qJ){as:List AV}{v:AV}(ht:AV.trees as=true)(hv:v.tree=true)(hR:R ⟨Γ,0,[],[]⟩ [.code F.body] ⟨qN 0 as,[],[]⟩ (Xf F.res v))(hg:Γ g=some (.fn F):=by kernel_rfl)(hok:F.body.ok=true:=by kernel_rfl)(hn:as.length=F.np:=by rfl):Pure Γ g as v:=Pure.intro [] [] hg hok hn ht hv hR
theorem fI{Γ:Nat->Option AFn}{g:Nat}(F:qJ){as:List AV}{t:AV}(ht:AV.trees as=true)(hp:t.pl=true)(hR:R ⟨Γ,0,[],[]⟩ [.code F.body] ⟨qN 0 as,[],[]⟩ (Y2 F.res t))(hg:Γ g=some (.fn F):=by kernel_rfl)(hok:F.body.ok=true:=by kernel_rfl)(hn:as.length=F.np:=by rfl):Fresh Γ g as t:=Fresh.intro [] [] hg hok hn ht hp hR
theorem sI{Γ:Nat->Option AFn}{g:Nat}{vs:List AV}{h:List qB}(F:qJ){K:AV->List qB->Prop}(hR:R ⟨Γ,h.length,[],[]⟩ [.code F.body] ⟨qN 0 vs,[],h⟩ (WU F.res K))(hg:Γ g=some (.fn F):=by kernel_rfl)(hok:F.body.ok=true:=by kernel_rfl)(hn:vs.length=F.np:=by rfl):SCall Γ g vs h K:=SCall.run [] [] hg hok hn hR
theorem pJ{Γ:Nat->Option AFn}{g:Nat}(F:qJ){as:List AV}{v:AV}(hR:R ⟨Γ,0,[],[]⟩ [.code F.body] ⟨qN 0 as,[],[]⟩ (Xf F.res v))(hg:Γ g=some (.fn F):=by kernel_rfl)(hok:F.body.ok=true:=by kernel_rfl)(hn:as.length=F.np:=by rfl)(ht:AV.trees as=true:=by simp[AV.trees,AV.tree,go_sem])(hv:v.tree=true:=by rfl):Pure Γ g as v:=Pure.intro [] [] hg hok hn ht hv hR
theorem c338(xs:List Int)(hx:xs.length<=140737488355328)(left:Nat)(hl:left<=1048576):Pure Gm 338 [lQ xs,iI left] (iI (jv xs.length left)):=
 Vv (gk _ F338) shI.tree xs left hl hx
theorem qjE(xs:List qM)(hx:xs.length<=140737488355328)(left:Nat)(hl:left<=1048576):Pure Gm 1173 [.lst 2 (xs.map qM.enc) false,iI left] (iI (jv xs.length left)):=
 Vv (gk _ qF6) qM.isSh.tree xs left hl hx
theorem c852(x:qC)(hb:x.bd)(left:Nat)(hl:left<=1048576):Pure Gm 852 [x.enc,iI left] (iI (jv x.sz left)):=by
 refine pI kT (by simp[AV.trees,AV.tree,qC.tr]) rfl ?_;simp only[kT,qN,go_sem];refine qW rfl ?_;simp only[go_sem];unfold qC.bd at hb;refine qI (c338 _ hb.1 _ (by omega)) ?_;simp only[go_sem];apply qS<;>intro hc<;>simp only[hc,go_sem]
 ·have hq:=odT hc;rw[wE]at hq;exact qK rfl (by rw[JY (by unfold qC.sz;omega)])
 have hq:=odF hc;rw[wE]at hq;rw[wF (by omega)];clear hc;refine qI (qjE _ hb.2 _ (by omega)) ?_;simp only[go_sem];apply qS<;>intro hc<;>simp only[hc,go_sem]
 ·have hq:=odT hc;rw[wE]at hq;exact qK rfl (by rw[JY (by unfold qC.sz;omega)])
 have hq:=odF hc;rw[wE]at hq;rw[wF (by omega)];clear hc;exact qK rfl (by rw[wF (by unfold qC.sz;omega)];unfold qC.sz;first | rfl | (congr 2;omega))
theorem c501(xs:List qC)(hx:xs.length<=140737488355328/\(∀y∈xs,qC.bd y))(left:Nat)(hl:left<=1048576):Pure Gm 501 [.lst 5 (xs.map qC.enc) false,iI left] (iI (jv (xs.length+qx qC.sz xs) left)):=
 qC8 qC.isSh (gk _ F501) qC.sz xs (λx hm lf hlf=>c852 x (hx.2 x hm) lf hlf) left hl hx.1
theorem c182(x:qE)(hb:x.bd)(left:Nat)(hl:left<=1048576):Pure Gm 182 [x.enc,iI left] (iI (jv x.sz left)):=by
 refine pI Ko (by simp[AV.trees,AV.tree,qE.tr]) rfl ?_;simp only[Ko,qN,go_sem];refine qW rfl ?_;simp only[go_sem];unfold qE.bd at hb;refine qI (c501 _ ⟨hb.1,hb.2⟩ _ (by omega)) ?_;simp only[go_sem];apply qS<;>intro hc<;>simp only[hc,go_sem]
 ·have hq:=odT hc;rw[wE]at hq;exact qK rfl (by rw[JY (by unfold qE.sz;omega)])
 have hq:=odF hc;rw[wE]at hq;rw[wF (by omega)];clear hc;exact qK rfl (by rw[wF (by unfold qE.sz;omega)];unfold qE.sz;first | rfl | (congr 2;omega))
theorem c181(xs:List qE)(hx:xs.length<=140737488355328/\(∀y∈xs,qE.bd y))(left:Nat)(hl:left<=1048576):Pure Gm 181 [.lst 1 (xs.map qE.enc) false,iI left] (iI (jv (xs.length+qx qE.sz xs) left)):=
 qC8 qE.isSh (gk _ F181) qE.sz xs (λx hm lf hlf=>c182 x (hx.2 x hm) lf hlf) left hl hx.1
theorem c147(xs:List Int)(hl:xs.length<=1048576):Pure Gm 147 [lQ xs] (lQ xs):=qq4 (gk _ F147) xs hl
theorem qkB(x:qM):Pure Gm 1419 [x.enc] x.enc:=by
 refine pI KU (by simp[AV.trees,qM.tr]) qM.tr ?_;simp only[KU,qN,go_sem];refine qW rfl ?_;simp only[go_sem];refine lsA ?_;simp only[go_sem];exact qK qM.tr rfl
theorem qjH(xs:List qM)(hl:xs.length<=1048576):Pure Gm 1178 [.lst 2 (xs.map qM.enc) false] (.lst 2 (xs.map qM.enc) false):=
 W7 qM.isSh rfl rfl (by simp) (gk _ qHD) xs (λx hm=>qkB x) (by omega)
theorem c858(x:qC)(hz:x.sz<=1048576):Pure Gm 858 [x.enc] x.enc:=by
 refine pI kY (by simp[AV.trees,qC.tr]) qC.tr ?_;simp only[kY,qN,go_sem];refine qW rfl ?_;simp only[go_sem];unfold qC.sz at hz;refine qI (c147 _ (by omega)) ?_;simp only[go_sem];refine qI (qjH _ (by omega)) ?_;simp only[go_sem];refine lsA ?_;simp only[go_sem];exact qK qC.tr rfl
theorem c504(xs:List qC)(hl:xs.length+qx qC.sz xs<=1048576):Pure Gm 504 [.lst 5 (xs.map qC.enc) false] (.lst 5 (xs.map qC.enc) false):=
 W7 qC.isSh rfl rfl (by simp) (gk _ F504) xs (λx hm=>c858 x (by have:=jg (f:=qC.sz) hm;omega)) (by omega)
theorem c185(x:qE)(hz:x.sz<=1048576):Pure Gm 185 [x.enc] x.enc:=by
 refine pI Kp (by simp[AV.trees,qE.tr]) qE.tr ?_;simp only[Kp,qN,go_sem];refine qW rfl ?_;simp only[go_sem];unfold qE.sz at hz;refine qI (c504 _ (by omega)) ?_;simp only[go_sem];exact qK qE.tr rfl
theorem c184(xs:List qE)(hl:xs.length+qx qE.sz xs<=1048576):Pure Gm 184 [.lst 1 (xs.map qE.enc) false] (.lst 1 (xs.map qE.enc) false):=
 W7 qE.isSh rfl rfl (by simp) (gk _ F184) xs (λx hm=>c185 x (by have:=jg (f:=qE.sz) hm;omega)) (by omega)
theorem c86(xs:List Int)(hl:xs.length<=1073741824):Pure Gm 86 [lQ xs,lQ xs] (.bool true):=ql2 (gk _ F86) xs hl
theorem qkC(x:qM):Pure Gm 1422 [x.enc,x.enc] (.bool true):=by
 refine pI KX (by simp[AV.trees,qM.tr]) rfl ?_;simp only[KX,qN,go_sem];refine qW rfl ?_;simp only[go_sem];refine qW rfl ?_;simp only[go_sem];exact qK rfl rfl
theorem qjI(xs:List qM)(hl:xs.length<=1073741824):Pure Gm 1184 [.lst 2 (xs.map qM.enc) false,.lst 2 (xs.map qM.enc) false] (.bool true):=
 WS qM.isSh (gk _ qHV) xs (λx hm=>qkC x) (by omega)
theorem c870(x:qC)(hz:x.sz<=1073741824):Pure Gm 870 [x.enc,x.enc] (.bool true):=by
 refine pI F870 (by simp[AV.trees,qC.tr]) rfl ?_;simp only[F870,qN,go_sem];refine qW rfl ?_;simp only[go_sem];refine qW rfl ?_;simp only[go_sem];unfold qC.sz at hz;refine qI (c86 _ (by omega)) ?_;simp only[go_sem];refine qI (qjI _ (by omega)) ?_;simp only[go_sem];exact qK rfl rfl
theorem c508(xs:List qC)(hl:xs.length+qx qC.sz xs<=1073741824):Pure Gm 508 [.lst 5 (xs.map qC.enc) false,.lst 5 (xs.map qC.enc) false] (.bool true):=
 WS qC.isSh (gk _ F508) xs (λx hm=>c870 x (by have:=jg (f:=qC.sz) hm;omega)) (by omega)
theorem c188(x:qE)(hz:x.sz<=1073741824):Pure Gm 188 [x.enc,x.enc] (.bool true):=by
 refine pI Kq (by simp[AV.trees,qE.tr]) rfl ?_;simp only[Kq,qN,go_sem];refine qW rfl ?_;simp only[go_sem];refine qW rfl ?_;simp only[go_sem];unfold qE.sz at hz;refine qI (c508 _ (by omega)) ?_;simp only[go_sem];exact qK rfl rfl
theorem c187(xs:List qE)(hl:xs.length+qx qE.sz xs<=1073741824):Pure Gm 187 [.lst 1 (xs.map qE.enc) false,.lst 1 (xs.map qE.enc) false] (.bool true):=
 WS qE.isSh (gk _ F187) xs (λx hm=>c188 x (by have:=jg (f:=qE.sz) hm;omega)) (by omega)
def inI(n lo hi:Int):Bool:=decide (lo<=n)&&decide (n<=hi)
def jy(k f:Int):Int:=
 if k=9 then(if inI f 0 3 then f+1 else 0)else if f≠0 then 0 else
 if k=1\/k=5\/k=6\/k=12 then 1 else if k=8\/k=10\/k=11 then 2 else if k=2\/k=3\/k=4\/k=7 then 3 else 0
def jQ(k:Int):Bool:=decide (k=2) || decide (k=3) || decide (k=4) || decide (k=7) || decide (k=8) || decide (k=9) || decide (k=10) || decide (k=11) || decide (k=12)
def JX(k:Int):Bool:=inI k 1 12
def zw(k l:Int):Bool:=if jQ k then inI l 0 8 else JX k&&decide (l=0)
def j5(n:Int):Bool:=inI n 0 23
def fieldsOf(x:qC):Int:=if x.K=9 then(x.P.length:Int)-1 else 0
def jB(x:qC):Bool:=
 if x.K=6 then decide ((x.D.length:Int)=0)&&inI x.V (-2147483648) 2147483647
 else if x.K=7 then decide ((x.D.length:Int)=0)&&inI x.V 1 6
 else if x.K=8 then decide ((x.D.length:Int)=1)&&inI x.V 1 6&&x.D.all λd=>inI d (-2147483648) 2147483647
 else if x.K=9 then decide ((x.D.length:Int)=0)&&inI x.V 0 3
 else if x.K=12 then decide ((x.D.length:Int)=0)&&j5 x.V
 else if x.K=10 then decide (x.V=0)&&inI x.D.length 1 4&&x.D.all j5
 else if x.K=11 then decide (x.V=0)&&decide ((x.D.length:Int)=2)&&x.D.all j5
 else decide (x.V=0)&&decide ((x.D.length:Int)=0)
def qg(x:qC):Bool:=decide (0<jy x.K (fieldsOf x))&&decide ((x.P.length:Int)=jy x.K (fieldsOf x))&&zw x.K x.L&&jB x
def jf:List qC->Nat->Bool
 |[],_=>true
 | x::xs,i=>qg x&&(decide (x.K=1)==decide (i=0))&&jf xs (i+1)
def wL(xs:List qC):Bool:=inI xs.length 1 600&&jf xs 0
def jE(xs:List qC)(a:Int):Nat:=match xs[a.toNat]? with
 | some x=>x.P.length
 | none=>0
def wV(xs:List qC)(p:qM):Bool:=inI p.N 0 ((xs.length:Int)-1)&&inI p.S 0 ((jE xs p.N:Int)-1)
theorem JT{α:Type}{xs:List α}{i:Nat}(h:i<xs.length):xs.drop i=xs[i]::xs.drop (i+1):=by simp
theorem wN{n lo hi:Int}:Pure Gm 340 [iI n,iI lo,iI hi] (.bool (inI n lo hi)):=by
 refine pJ Ky ?_;simp only[Ky,qN,go_sem]
 repeat' (first | (refine qW rfl ?_;simp only[go_sem]) | (first | (apply zA<;>intro hc<;>simp only[hc,go_sem]) | (apply qS<;>intro hc<;>simp only[hc,go_sem])) | refine qK rfl ?_)
 all_goals (simp_all[inI]<;>omega)
theorem qAJ{k:Int}:Pure Gm 1372 [iI k] (.bool (jQ k)):=by
 refine pJ KF ?_;simp only[KF,qN,go_sem]
 repeat' (first | (refine qW rfl ?_;simp only[go_sem]) | (first | (apply zA<;>intro hc<;>simp only[hc,go_sem]) | (apply qS<;>intro hc<;>simp only[hc,go_sem])) | refine qK rfl ?_)
 all_goals (simp_all[jQ])
theorem qkD{k:Int}:Pure Gm 1489 [iI k] (.bool (JX k)):=by
 refine pJ Kf ?_;simp only[Kf,qN,go_sem]
 repeat' (first | (refine qW rfl ?_;simp only[go_sem]) | (first | (apply zA<;>intro hc<;>simp only[hc,go_sem]) | (apply qS<;>intro hc<;>simp only[hc,go_sem])) | (refine qI (wN) ?_;simp only[go_sem]) | refine qK rfl ?_)
 all_goals (simp_all[JX])
theorem qAL{k l:Int}:Pure Gm 1385 [iI k,iI l] (.bool (zw k l)):=by
 refine pJ KI ?_;simp only[KI,qN,go_sem]
 repeat' (first | (refine qW rfl ?_;simp only[go_sem]) | (first | (apply zA<;>intro hc<;>simp only[hc,go_sem]) | (apply qS<;>intro hc<;>simp only[hc,go_sem])) | (refine qI (wN) ?_;simp only[go_sem]) | (refine qI (qAJ) ?_;simp only[go_sem]) | (refine qI (qkD) ?_;simp only[go_sem]) | refine qK rfl ?_)
 all_goals (simp_all[zw])
theorem qb2{k:Int}:Pure Gm 1494 [iI k] (.bool (j5 k)):=by
 refine pJ Kg ?_;simp only[Kg,qN,go_sem]
 repeat' (first | (refine qW rfl ?_;simp only[go_sem]) | (first | (apply zA<;>intro hc<;>simp only[hc,go_sem]) | (apply qS<;>intro hc<;>simp only[hc,go_sem])) | (refine qI (wN) ?_;simp only[go_sem]) | refine qK rfl ?_)
 all_goals (simp_all[j5])
theorem qj3{k f:Int}:Pure Gm 1371 [iI k,iI f] (iI (jy k f)):=by
 refine pJ KE ?_;simp only[KE,qN,go_sem]
 repeat' (first | (refine qW rfl ?_;simp only[go_sem]) | (first | (apply zA<;>intro hc<;>simp only[hc,go_sem]) | (apply qS<;>intro hc<;>simp only[hc,go_sem])) | (refine qI (wN) ?_;simp only[go_sem]) | refine qK rfl ?_)
 all_goals ((try rw[jO (by simp_all[inI];omega) (by simp_all[inI];omega)]);simp_all[jy]<;>omega)
theorem qj4{x:qC}(hx:x.P.length<=140737488355328):Pure Gm 1384 [.ept x.enc 0] (iI (fieldsOf x)):=by
 refine pJ KH ?_;simp only[KH,qN,go_sem]
 repeat' (first | (refine qW rfl ?_;simp only[go_sem]) | (first | (apply zA<;>intro hc<;>simp only[hc,go_sem]) | (apply qS<;>intro hc<;>simp only[hc,go_sem])) | refine qK rfl ?_)
 all_goals ((try rw[wsA]);simp_all[fieldsOf]<;>omega)
theorem qj5{x:qC}(hx:x.D.length<=1048576):Pure Gm 1386 [.ept x.enc 0] (.bool (jB x)):=by
 refine pJ KJ ?_;simp only[KJ,qN,go_sem];have one:(x.D.length:Int)=1->∃d,x.D=[d]:=λh=>List.length_eq_one_iff.1 (by omega);have z0:(x.D.length:Int)=1->(x.D.map qP)[0]?=some (iI (x.D.headD 0)):=λh=>by
  obtain⟨d,hd⟩:=one h;rw[hd];rfl
 have z1:(x.D.length:Int)=1->(x.D.all λd=>inI d (-2147483648) 2147483647)=inI (x.D.headD 0) (-2147483648) 2147483647:=λh=>by
  obtain⟨d,hd⟩:=one h;rw[hd];simp
 repeat' (first
  | (first | (apply zA<;>intro hc<;>simp only[hc,go_sem]) | (apply qS<;>intro hc<;>simp only[hc,go_sem]))
  | (refine qI (wN) ?_;simp only[go_sem])
  | (refine qI (qb2) ?_;simp only[go_sem])
  | refine qK rfl ?_
  | (rw[z0 (odT (by assumption))];simp only[oMs];simp only[go_sem])
  | (refine Sem.loop (λi:Nat=>i<=x.D.length/\jB x=(x.D.drop i).all j5) (λi=>(⟨[(0,.ept x.enc 0),(3,iI (i:Nat))],[],[]⟩:VSt)) (λi=>x.D.length-i) 0 (by kernel_rfl) ⟨nZl _, ?_⟩ csA ?_))
 all_goals try (simp_all[jB];done)
 all_goals
  clear z0 z1 one;rintro i ⟨hi,hI⟩;simp only[go_sem];apply qS<;>intro hc<;>simp only[hc,go_sem]
  ·have hlt:i<x.D.length:=by have:=odT hc;omega
   simp only[gMp,gEg hlt,oMs,go_sem];simp only[qP];simp only[go_sem];refine qI qb2 ?_;simp only[go_sem];apply qS<;>intro hc<;>simp only[hc,go_sem]
   ·refine qK rfl ?_;have hd:j5 x.D[i]=false:=by simpa using hc
    rw[hI,JT hlt,lAc,hd,Bool.false_and]
   ·simp only[wuA (n:=i)];refine qa (i+1) ⟨by omega, ?_⟩ (by omega) csA;have hd:j5 x.D[i]=true:=by simpa using hc
    rw[hI,JT hlt,lAc,hd,Bool.true_and]
  ·have hge:i=x.D.length:=by have:=odF hc;omega
   subst hge;refine qK rfl ?_;rw[hI];simp
theorem qbS{x:qC}(hz:x.sz<=1048576):Pure Gm 1096 [.ept x.enc 0] (.bool (qg x)):=by
 refine pJ UJ ?_;simp only[UJ,qN,go_sem]
 repeat' (first | (refine qW rfl ?_;simp only[go_sem]) | (first | (apply zA<;>intro hc<;>simp only[hc,go_sem]) | (apply qS<;>intro hc<;>simp only[hc,go_sem])) | (refine qI (qj4 (by unfold qC.sz at hz;omega)) ?_;simp only[go_sem]) | (refine qI (qj3) ?_;simp only[go_sem]) | (refine qI (qAL) ?_;simp only[go_sem]) | (refine qI (qj5 (by unfold qC.sz at hz;omega)) ?_;simp only[go_sem]) | refine qK rfl ?_)
 all_goals (simp_all[qg]<;>omega)
theorem c710{xs:List qC}(hl:xs.length+qx qC.sz xs<=1048576):Pure Gm 710 [.lst 5 (xs.map qC.enc) false] (.bool (wL xs)):=by
 refine pI kJ (by simp[AV.trees,AV.tree,qb qC.isSh.tree]) rfl ?_;simp only[kJ,qN,go_sem];refine qI wN ?_;simp only[go_sem];apply qS<;>intro hc<;>simp only[hc,go_sem]
 ·refine qK rfl ?_;simp_all[wL]
 refine Sem.loop (λi:Nat=>i<=xs.length/\wL xs=jf (xs.drop i) i) (λi=>(⟨[(0,.lst 5 (xs.map qC.enc) false),(3,iI (i:Nat))],[],[]⟩:VSt)) (λi=>xs.length-i) 0 (by kernel_rfl) ⟨nZl _,by simp_all[wL]⟩ csA ?_;rintro i ⟨hi,hI⟩;simp only[go_sem];apply qS<;>intro hc<;>simp only[hc,go_sem]
 ·have hlt:i<xs.length:=by have:=odT hc;omega
  simp only[gMp,gEg hlt,oMs,go_sem];have hs:=jg (f:=qC.sz) (gMm hlt);refine qI (qbS (by omega)) ?_;simp only[go_sem];apply zA<;>intro hc<;>simp only[hc,go_sem]
  ·simp only[gMp,gEg hlt,oMs,go_sem];apply qS<;>intro hc<;>simp only[hc,go_sem]
   ·refine qK rfl ?_;rw[hI,JT hlt];simp_all[jf]
   ·simp only[wuA (n:=i)];refine qa (i+1) ⟨by omega, ?_⟩ (by omega) csA;rw[hI,JT hlt];simp_all[jf]
  ·refine qK rfl ?_;rw[hI,JT hlt];simp_all[jf]
 ·obtain rfl:i=xs.length:=by have:=odF hc;omega
  refine qK rfl ?_;rw[hI];simp[jf]
theorem Jz{n lo hi:Int}:inI n lo hi=true↔lo<=n/\n<=hi:=by simp[inI]
def Jn(xs:List qC)(q:qM):Option qM:=match xs[q.N.toNat]? with
 | some y=>y.P[q.S.toNat]?
 | none=>none
def wZ(xs:List qC)(me q:qM):Bool:= !(decide (q=me))&&wV xs q&&decide (Jn xs q=some me)
def wc(xs:List qC)(i:Nat):List qM->Nat->Bool
 |[],_=>true
 | q::qs,k=>wZ xs ⟨i,k⟩ q&&wc xs i qs (k+1)
def JD(xs:List qC):List qC->Nat->Bool
 |[],_=>true
 | x::r,i=>wc xs i x.P 0&&JD xs r (i+1)
def zF(n:qE):Bool:=wL n.G&&JD n.G n.G 0
def jH(xs:List qE):Bool:=decide (xs.length<=24)&&xs.all zF
theorem c488{xs:List qC}{p:qM}(hl:xs.length+qx qC.sz xs<=1048576):Pure Gm 488 [.lst 5 (xs.map qC.enc) false,p.enc] (.bool (wV xs p)):=by
 refine pI K1 (by simp[AV.trees,AV.tree,qb qC.isSh.tree,qM.tr]) rfl ?_;simp only[K1,qN,go_sem];refine qW rfl ?_;simp only[go_sem];rw[wsA];refine qI wN ?_;simp only[go_sem];apply zA<;>intro hc<;>simp only[hc,go_sem]
 ·have h:=Jz.1 hc;have hlt:p.N.toNat<xs.length:=by omega
  rw[Y7 h.1];simp only[gMp,gEg hlt,oMs,go_sem];have hs:xs[p.N.toNat].D.length+xs[p.N.toNat].P.length<=qx qC.sz xs:=jg (f:=qC.sz) (gMm hlt);rw[wsA];refine qI wN ?_;simp only[go_sem];refine qK rfl ?_;simp[wV,hc,jE,gEg hlt]
 ·refine qK rfl ?_;simp_all[wV]
theorem c318{n:qE}(hz:n.sz<=1048576):Pure Gm 318 [.ept n.enc 0] (.bool (zF n)):=by
 refine pJ Kw ?_;simp only[Kw,qN,go_sem];have hz':n.G.length+qx qC.sz n.G<=1048576:=hz;refine qI (c710 hz') ?_;simp only[go_sem];apply qS<;>intro hc<;>simp only[hc,go_sem]
 ·refine qK rfl ?_;simp_all[zF]
 refine Sem.loop (λi:Nat=>i<=n.G.length/\zF n=JD n.G (n.G.drop i) i) (λi=>(⟨[(0,.ept n.enc 0),(3,iI (i:Nat))],[],[]⟩:VSt)) (λi=>n.G.length-i) 0 (by kernel_rfl) ⟨nZl _,by simp_all[zF]⟩ csA ?_;rintro i ⟨hi,hI⟩;simp only[go_sem];apply qS<;>intro hc<;>simp only[hc,go_sem]
 ·have hlt:i<n.G.length:=by have:=odT hc;omega
  simp only[gMp,gEg hlt,oMs,go_sem];have hs:n.G[i].D.length+n.G[i].P.length<=qx qC.sz n.G:=jg (f:=qC.sz) (gMm hlt);refine Sem.loop (λk:Nat=>k<=n.G[i].P.length/\zF n=(wc n.G i (n.G[i].P.drop k) k&&JD n.G (n.G.drop (i+1)) (i+1))) (λk=>(⟨[(0,.ept n.enc 0),(3,iI (i:Nat)),(4,.ept n.G[i].enc 0),(5,iI (k:Nat))],[],[]⟩:VSt)) (λk=>n.G[i].P.length-k) 0 (by kernel_rfl) ⟨nZl _,by rw[hI,JT hlt];rfl⟩ csA ?_;rintro k ⟨hk,hK⟩;simp only[go_sem];apply qS<;>intro hc<;>simp only[hc,go_sem]
  ·have hkl:k<n.G[i].P.length:=by have:=odT hc;omega
   rw[show AV.agg [AV.int IntKind.i64 (i:Nat),AV.int IntKind.i64 (k:Nat)]=qM.enc ⟨i,k⟩from rfl];refine lsA ?_;simp only[gMp,gEg hkl,oMs,go_sem];refine lsA ?_;simp only[go_sem];have stop:wZ n.G ⟨i,k⟩ n.G[i].P[k]=false->zF n=false:=λh=>by rw[hK,JT hkl];simp[wc,h]
   have go:wZ n.G ⟨i,k⟩ n.G[i].P[k]=true->zF n=(wc n.G i (n.G[i].P.drop (k+1)) (k+1)&&JD n.G (n.G.drop (i+1)) (i+1)):=λh=>by rw[hK,JT hkl];simp[wc,h]
   apply zA<;>intro hc<;>simp only[hc,go_sem]
   ·have hne:¬n.G[i].P[k]=⟨i,k⟩:=odF hc;refine qI (c488 hz') ?_;simp only[go_sem];apply zA<;>intro hc<;>simp only[hc,go_sem]
    ·have hp:wV n.G n.G[i].P[k]=true:=by simpa using hc
     have hp2:=hp;simp only[wV,bAt,Jz]at hp2;have hlt2:n.G[i].P[k].N.toNat<n.G.length:=by omega
     have hpl:jE n.G n.G[i].P[k].N=n.G[n.G[i].P[k].N.toNat].P.length:=by simp[jE,gEg hlt2]
     rw[hpl]at hp2;have hlt3:n.G[i].P[k].S.toNat<n.G[n.G[i].P[k].N.toNat].P.length:=by omega
     have hpe:Jn n.G n.G[i].P[k]=some n.G[n.G[i].P[k].N.toNat].P[n.G[i].P[k].S.toNat]:=by simp[Jn,gEg hlt2,gEg hlt3]
     rw[Y7 (by omega)];simp only[gMp,gEg hlt2,oMs,go_sem];rw[Y7 (by omega)];simp only[gMp,gEg hlt3,oMs,go_sem];apply qS<;>intro hc<;>simp only[hc,go_sem]
     ·refine qK rfl ?_;rw[stop (by simp[wZ,hpe];intro _ _;simpa using hc)]
     ·simp only[wuA (n:=k)];refine qa (k+1) ⟨by omega, ?_⟩ (by omega) csA;exact go (by simp[wZ,hpe,hp,hne];simpa using hc)
    ·refine qK rfl ?_;have hp:wV n.G n.G[i].P[k]=false:=by simpa using hc
     rw[stop (by simp[wZ,hp])]
   ·refine qK rfl ?_;have he:n.G[i].P[k]=⟨i,k⟩:=odT hc;rw[stop (by simp[wZ,he])]
  ·obtain rfl:k=n.G[i].P.length:=by have:=odF hc;omega
   simp only[wuA (n:=i)];refine qa (i+1) ⟨by omega, ?_⟩ (by omega) csA;rw[hK];simp[wc]
 ·obtain rfl:i=n.G.length:=by have:=odF hc;omega
  refine qK rfl ?_;rw[hI];simp[JD]
theorem c598{xs:List qE}(hl:xs.length+qx qE.sz xs<=1048576):Pure Gm 598 [.lst 1 (xs.map qE.enc) false] (.bool (jH xs)):=by
 refine pI kG (by simp[AV.trees,AV.tree,qb qE.isSh.tree]) rfl ?_;simp only[kG,qN,go_sem];apply qS<;>intro hc<;>simp only[hc,go_sem]
 ·refine qK rfl ?_;have:=odT hc;have h2:¬xs.length<=24:=by omega
  simp[jH,h2]
 have h0:xs.length<=24:=by have:=odF hc;omega
 refine Sem.loop (λi:Nat=>i<=xs.length/\jH xs=(xs.drop i).all zF) (λi=>(⟨[(0,.lst 1 (xs.map qE.enc) false),(3,iI (i:Nat))],[],[]⟩:VSt)) (λi=>xs.length-i) 0 (by kernel_rfl) ⟨nZl _,by simp[jH,h0]⟩ csA ?_;rintro i ⟨hi,hI⟩;simp only[go_sem];apply qS<;>intro hc<;>simp only[hc,go_sem]
 ·have hlt:i<xs.length:=by have:=odT hc;omega
  simp only[gMp,gEg hlt,oMs,go_sem];have hs:=jg (f:=qE.sz) (gMm hlt);refine qI (c318 (by omega)) ?_;simp only[go_sem];apply qS<;>intro hc<;>simp only[hc,go_sem]
  ·refine qK rfl ?_;rw[hI,JT hlt,lAc];simp_all
  ·simp only[wuA (n:=i)];refine qa (i+1) ⟨by omega, ?_⟩ (by omega) csA;rw[hI,JT hlt,lAc];simp_all
 ·obtain rfl:i=xs.length:=by have:=odF hc;omega
  refine qK rfl ?_;rw[hI];simp
def wH(ka la kb lb:Int):Bool:=zw ka la&&zw kb lb&& !decide (ka=1)&& !decide (kb=1)
def Xa(l k m:Int):Bool:=inI l 0 8&&zw k m&&(decide (k=6) || decide (k=12) || jQ k&&decide (l<m))
def WZ(k:Int):Bool:=decide (k=3) || decide (k=7) || decide (k=8) || decide (k=10) || decide (k=11)
def zN(ka la kb lb:Int):Int:=
 if ka=5 then 4 else if ka=4 then(if kb=4/\la=lb then 2 else if Xa la kb lb then 3 else 0)
 else if ka=2 then(if kb=3/\la=lb then 1 else 0)
 else if ka=6 then(if kb=7\/kb=8 then 5 else if kb=11 then 6 else 0)
 else if ka=9 then(if kb=10 then 6 else 0)
 else if ka=12 then(if WZ kb then 7 else 0)else 0
def zu(ka la kb lb:Int):Int:=if wH ka la kb lb then(if zN ka la kb lb≠0 then 1 else if zN kb lb ka la≠0 then 2 else 0)else 0
def jL(ka la kb lb:Int):Int:=if wH ka la kb lb then(if zN ka la kb lb≠0 then zN ka la kb lb else if zN kb lb ka la≠0 then zN kb lb ka la else 8)else 0
def za(x y:qC):Int:=
 if x.K=9/\y.K=10/\(y.D.length:Int)<=x.V then 8 else if x.K=10/\y.K=9/\(x.D.length:Int)<=y.V then 8
 else jL x.K x.L y.K y.L
theorem qbY{ka la kb lb:Int}:Pure Gm 1395 [iI ka,iI la,iI kb,iI lb] (.bool (wH ka la kb lb)):=by
 refine pJ KP ?_;simp only[KP,qN,go_sem]
 repeat' (first | (refine qW rfl ?_;simp only[go_sem]) | (first | (apply zA<;>intro hc<;>simp only[hc,go_sem]) | (apply qS<;>intro hc<;>simp only[hc,go_sem])) | (refine qI (qAL) ?_;simp only[go_sem]) | refine qK rfl ?_)
 all_goals (simp_all[wH])
theorem qkE{l k m:Int}:Pure Gm 1499 [iI l,iI k,iI m] (.bool (Xa l k m)):=by
 refine pJ Ki ?_;simp only[Ki,qN,go_sem]
 repeat' (first | (refine qW rfl ?_;simp only[go_sem]) | (first | (apply zA<;>intro hc<;>simp only[hc,go_sem]) | (apply qS<;>intro hc<;>simp only[hc,go_sem])) | (refine qI (wN) ?_;simp only[go_sem]) | (refine qI (qAL) ?_;simp only[go_sem]) | (refine qI (qAJ) ?_;simp only[go_sem]) | refine qK rfl ?_)
 all_goals (simp_all[Xa])
theorem qkF{k:Int}:Pure Gm 1500 [iI k] (.bool (WZ k)):=by
 refine pJ Kj ?_;simp only[Kj,qN,go_sem]
 repeat' (first | (refine qW rfl ?_;simp only[go_sem]) | (first | (apply zA<;>intro hc<;>simp only[hc,go_sem]) | (apply qS<;>intro hc<;>simp only[hc,go_sem])) | refine qK rfl ?_)
 all_goals (simp_all[WZ])
theorem qbZ{ka la kb lb:Int}:Pure Gm 1396 [iI ka,iI la,iI kb,iI lb] (iI (zN ka la kb lb)):=by
 refine pJ KQ ?_;simp only[KQ,qN,go_sem]
 repeat' (first | (refine qW rfl ?_;simp only[go_sem]) | (first | (apply zA<;>intro hc<;>simp only[hc,go_sem]) | (apply qS<;>intro hc<;>simp only[hc,go_sem])) | (refine qI (qkE) ?_;simp only[go_sem]) | (refine qI (qkF) ?_;simp only[go_sem]) | refine qK rfl ?_)
 all_goals (simp_all[zN])
theorem qjA{ka la kb lb:Int}:Pure Gm 1110 [iI ka,iI la,iI kb,iI lb] (iI (zu ka la kb lb)):=by
 refine pJ UL ?_;simp only[UL,qN,go_sem]
 repeat' (first | (refine qW rfl ?_;simp only[go_sem]) | (first | (apply zA<;>intro hc<;>simp only[hc,go_sem]) | (apply qS<;>intro hc<;>simp only[hc,go_sem])) | (refine qI (qbY) ?_;simp only[go_sem]) | (refine qI (qbZ) ?_;simp only[go_sem]) | refine qK rfl ?_)
 all_goals (simp_all[zu])
theorem qjB{ka la kb lb:Int}:Pure Gm 1111 [iI ka,iI la,iI kb,iI lb] (iI (jL ka la kb lb)):=by
 refine pJ UM ?_;simp only[UM,qN,go_sem]
 repeat' (first | (refine qW rfl ?_;simp only[go_sem]) | (first | (apply zA<;>intro hc<;>simp only[hc,go_sem]) | (apply qS<;>intro hc<;>simp only[hc,go_sem])) | (refine qI (qbY) ?_;simp only[go_sem]) | (refine qI (qbZ) ?_;simp only[go_sem]) | refine qK rfl ?_)
 all_goals (simp_all[jL])
theorem c744{x y:qC}:Pure Gm 744 [.ept x.enc 0,.ept y.enc 0] (iI (za x y)):=by
 refine pJ kO ?_;simp only[kO,qN,go_sem]
 repeat' (first | (refine qW rfl ?_;simp only[go_sem]) | (first | (apply zA<;>intro hc<;>simp only[hc,go_sem]) | (apply qS<;>intro hc<;>simp only[hc,go_sem])) | (refine qI (qjB) ?_;simp only[go_sem]) | refine qK rfl ?_)
 all_goals (simp_all[za]<;>(intro h;omega))
def fil(e:Env)(w:Nat)(el:List AV)(i:Nat)(v:Option AV)(r:List (Nat×Ao)):Option (List AV):=match v with
 | some v=>if v.cells.length=w/\i<el.length then z9 e w (el.set i v) r else none
 | none=>none
section
variable {e:Env} {w i:Nat} {el:List AV} {v:AV} {x:Ao} {r:List (Nat×Ao)}
@[go_sem] theorem qsM:z9 e w el []=some el:=nr (by unfold z9;rfl)
@[go_sem] theorem qsL:z9 e w el ((i,x)::r)=fil e w el i (ev e x) r:=nr (by unfold z9;rfl)
@[go_sem] theorem qsN{el0:AV}(h:v.cells.length=w):fil e w [el0] 0 (some v) r=z9 e w [v] r:=by
 show (if v.cells.length=w/\0<1 then _ else _)=_;rw[iP ⟨h,by omega⟩];rfl
@[go_sem] theorem rep0{v:AV}:List.replicate 0 v=[]:=nr rfl
@[go_sem] theorem rep1{v:AV}:List.replicate 1 v=[v]:=nr rfl
end
structure qL where
 A:Int
 B:Int
deriving DecidableEq
def qL.enc(x:qL):AV:=.agg [iI x.A,iI x.B]
theorem qL.isSh:Sh qL.enc 2 (some 2):=⟨λx=>by simp[qL.enc,AV.tree,AV.trees],λ_=>rfl,λ_=>rfl,by decide,λx=>by simp[qL.enc]⟩
section
variable {x:qL}
@[go_sem] theorem qL.tr:x.enc.tree=true:=qL.isSh.tree x
@[go_sem] theorem qL.ln:x.enc.cells.length=2:=nr rfl
@[go_sem] theorem qL.all:x.enc.part 0 (some 2)=some x.enc:=nr rfl
@[go_sem] theorem qL.cs:x.enc.cells=[iI x.A,iI x.B]:=nr rfl
@[go_sem] theorem qL.p0:x.enc.part 0 none=some (iI x.A):=nr rfl
@[go_sem] theorem qL.p1:x.enc.part 1 none=some (iI x.B):=nr rfl
@[go_sem] theorem qL.eqf{y:qL}:ji false [1,1] (some x.enc) (some y.enc)=some (.bool (decide (x=y))):=by
 obtain⟨a0,a1⟩:=x;obtain⟨b0,b1⟩:=y;simp only[ji,qL.enc,lMc,List.map_nil,dig,and_self,if_true,wg,Jq,qL.mk.injEq]
 repeat' (split<;>simp_all)
end
def jT(x y:qC):Bool:=decide (zu x.K x.L y.K y.L=2)
def Jf(xs:List qC)(k:Nat):List qL:=match xs[k]? with
 | some x=>if x.K=0 then []else match x.P[0]? with
  | some p=>if p.S=0/\(k:Int)<p.N then [⟨k,p.N⟩]else []
  | none=>[]
 | none=>[]
def zB(xs:List qC):Nat->List qL
 | 0=>[]
 | i+1=>zB xs i++Jf xs (i+1)
theorem qoV(xs:List qC)(k:Nat):(Jf xs k).length<=1:=by
 unfold Jf;repeat' (split<;>try simp)
theorem Wr(xs:List qC):∀i,(zB xs i).length<=i
 | 0=>nLr _
 | i+1=>by have:=Wr xs i;have:=qoV xs (i+1);simp[zB];omega
theorem c742{n:qE}(hz:n.sz<=1048576)(hp:∀x∈n.G,x.K≠0->0<x.P.length):Pure Gm 742 [.ept n.enc 0] (.lst 2 ((zB n.G (n.G.length-1)).map qL.enc) false):=by
 refine pI kN (by simp[AV.trees,AV.tree,go_sem]) (by simp[AV.tree,qb qL.isSh.tree]) ?_;simp only[kN,qN,go_sem];unfold qE.sz at hz;refine Sem.loop (λi:Nat=>i<=n.G.length-1) (λi=>(⟨[(0,.ept n.enc 0),(4,iI ((i+1:Nat):Int)),(3,.slice 2 0 0 (zB n.G i).length false)],[],[.row 2 ((zB n.G i).map qL.enc) true]⟩:VSt)) (λi=>n.G.length-1-i) 0 (by kernel_rfl) (nZl _) (Can.renum [none] rfl ⟨.ph,trivial⟩ ⟨⟨_,rfl,.tree (by simp only[AV.tree,qE.tr])⟩,⟨_,rfl,.tree rfl⟩,⟨_,rfl,.ph2 rfl⟩,trivial⟩ trivial) ?_;rintro i hi;simp only[go_sem];apply qS<;>intro hc<;>simp only[hc,go_sem]
 ·have hlt:i+1<n.G.length:=by have:=odT hc;omega
  simp only[gMp,gEg hlt,oMs,go_sem];have hx:=hp _ (gMm hlt);apply qS<;>intro hc<;>simp only[hc,go_sem]
  ·have e:zB n.G (i+1)=zB n.G i:=by simp_all[zB,Jf]
   simp only[wuA (n:=i+1)];refine qa (i+1) (by omega) (by omega) ?_;rw[e];exact csA
  ·have hp0:=hx (by simpa using hc);simp only[gMp,gEg hlt,oMs,go_sem];simp only[gEg hp0,oMs,go_sem];refine lsA ?_;simp only[go_sem];have same (hn:¬(n.G[i+1].P[0].S=0/\((i+1:Nat):Int)<n.G[i+1].P[0].N)):zB n.G (i+1)=zB n.G i:=by
    have hk:¬n.G[i+1].K=0:=by simpa using hc
    simp only[zB,Jf,gEg hlt,gEg hp0,iN hk,iN hn,lAn]
   first | (apply zA<;>intro hc<;>simp only[hc,go_sem]) | (apply qS<;>intro hc<;>simp only[hc,go_sem])
   ·first | (apply zA<;>intro hc<;>simp only[hc,go_sem]) | (apply qS<;>intro hc<;>simp only[hc,go_sem])
    ·refine Za (el:=(zB n.G i).map qL.enc) rfl rfl (by simp) (by have:=Wr n.G i;omega) ?_;simp only[go_sem];simp only[wuA (n:=i+1)];have e:zB n.G (i+1)=zB n.G i++[⟨((i+1:Nat):Int),n.G[i+1].P[0].N⟩]:=by
      have hk:¬n.G[i+1].K=0:=by simp_all
      have hn:n.G[i+1].P[0].S=0/\((i+1:Nat):Int)<n.G[i+1].P[0].N:=⟨by simp_all,by simp_all⟩;simp only[zB,Jf,gEg hlt,gEg hp0,iN hk,iP hn]
     refine qa (i+1) (by omega) (by omega) ?_;simp only[e,lAp,lCo,lNi,nZa];refine Can.renum [some 2] rfl ⟨.row rfl ?_,trivial⟩ ⟨⟨_,rfl,.tree (by simp only[AV.tree,qE.tr])⟩,⟨_,rfl,.tree rfl⟩,⟨_,rfl,.slice rfl⟩,trivial⟩ trivial;rw[lMa];have t:=qb qL.isSh.tree (zB n.G i++[⟨((i+1:Nat):Int),n.G[i+1].P[0].N⟩]);rw[lMa]at t;exact VR2s.trees t
    ·simp only[wuA (n:=i+1)];refine qa (i+1) (by omega) (by omega) ?_;rw[same (by simp_all)];exact csA
   ·simp only[wuA (n:=i+1)];refine qa (i+1) (by omega) (by omega) ?_;rw[same (by simp_all)];exact csA
 ·obtain rfl:i=n.G.length-1:=by have:=odF hc;omega
  refine QC (Cv.row rfl (by simp) (qb qL.isSh.tree _) (by omega))
theorem V6{xs:List qC}{i:Nat}:∀{qs:List qM}{j:Nat},wc xs i qs j=true->∀(m:Nat)(hm:m<qs.length),wZ xs ⟨i,(j+m:Nat)⟩ qs[m]=true
 |[],_,_,m,hm=>by simp at hm
 | q::qs,j,h,m,hm=>by
  simp only[wc,bAt]at h;cases m with
  | zero=>exact h.1
  | succ m=>
   have:=V6 h.2 m (by simpa using hm);rw[show j+(m+1)=j+1+m by omega];simpa using this
theorem VQ{xs:List qC}:∀{l:List qC}{i:Nat},JD xs l i=true->∀(k:Nat)(hk:k<l.length),wc xs (i+k) l[k].P 0=true
 |[],_,_,k,hk=>by simp at hk
 | x::l,i,h,k,hk=>by
  simp only[JD,bAt]at h;cases k with
  | zero=>exact h.1
  | succ k=>
   have:=VQ h.2 k (by simpa using hk);rw[show i+(k+1)=i+1+k by omega];simpa using this
theorem J9:∀{l:List qC}{i:Nat},jf l i=true->∀x∈l,qg x=true
 |[],_,_,x,hx=>by cases hx
 | y::l,i,h,x,hx=>by
  simp only[jf,bAt]at h;rcases mCo.1 hx with rfl | hx
  ·exact h.1.1
  ·exact J9 h.2 x hx
theorem qn5{n:qE}(h:zF n=true):∀x∈n.G,0<x.P.length:=by
 simp only[zF,wL,bAt]at h;intro x hx;have:=J9 h.1.2 x hx;simp only[qg,bAt,dTe]at this;omega
theorem qoW{n:qE}(h:zF n=true){k:Nat}{p:qL}(hp:p∈Jf n.G k):∃a b:Nat,p=⟨a,b⟩/\a<n.G.length/\b<n.G.length:=by
 simp only[zF,bAt]at h;unfold Jf at hp;split at hp
 next x hx=>
  obtain⟨hk,rfl⟩:=gSi.1 hx;split at hp
  ·cases hp
  split at hp
  next q hq=>
   obtain⟨hm,rfl⟩:=gSi.1 hq;split at hp
   next hc=>
    have:=V6 (VQ h.2 k hk) 0 hm;simp only[wZ,wV,bAt]at this;have e:=Jz.1 this.1.2.1;simp only[lMg]at hp;subst hp;refine⟨k,n.G[k].P[0].N.toNat, ?_,hk,by omega⟩;rw[Int.toNat_of_nonneg (by omega)]
   ·cases hp
  ·cases hp
 ·cases hp
theorem qf0{n:qE}(h:zF n=true):∀{i:Nat}{p:qL},p∈zB n.G i->∃a b:Nat,p=⟨a,b⟩/\a<n.G.length/\b<n.G.length
 | 0,p,hp=>by cases hp
 | i+1,p,hp=>by
  simp only[zB,jR]at hp;rcases hp with hp | hp
  ·exact qf0 h hp
  ·exact qoW h hp
def VP(n:qE):List qL:=zB n.G (n.G.length-1)
structure qF where
 T:Int
 I:Int
deriving DecidableEq
def qF.enc(x:qF):AV:=.agg [iI x.T,iI x.I]
theorem qF.isSh:Sh qF.enc 2 (some 2):=⟨λx=>by simp[qF.enc,AV.tree,AV.trees],λ_=>rfl,λ_=>rfl,by decide,λx=>by simp[qF.enc]⟩
section
variable {x:qF}
@[go_sem] theorem qF.tr:x.enc.tree=true:=qF.isSh.tree x
@[go_sem] theorem qF.ln:x.enc.cells.length=2:=nr rfl
@[go_sem] theorem qF.all:x.enc.part 0 (some 2)=some x.enc:=nr rfl
@[go_sem] theorem qF.cs:x.enc.cells=[iI x.T,iI x.I]:=nr rfl
@[go_sem] theorem qF.p0:x.enc.part 0 none=some (iI x.T):=nr rfl
@[go_sem] theorem qF.p1:x.enc.part 1 none=some (iI x.I):=nr rfl
@[go_sem] theorem qF.eqf{y:qF}:ji false [1,1] (some x.enc) (some y.enc)=some (.bool (decide (x=y))):=by
 obtain⟨a0,a1⟩:=x;obtain⟨b0,b1⟩:=y;simp only[ji,qF.enc,lMc,List.map_nil,dig,and_self,if_true,wg,Jq,qF.mk.injEq]
 repeat' (split<;>simp_all)
@[go_sem] theorem qF.eqt{y:qF}:ji true [1,1] (some x.enc) (some y.enc)=some (.bool (!decide (x=y))):=by
 have h:=qF.eqf (x:=x) (y:=y);unfold ji at h|-;split<;>simp_all
end
structure qD where
 K:Int
 L:Int
 V:Int
 D:List Int
 W:List qF
def qD.enc(x:qD):AV:=.agg [iI x.K,iI x.L,iI x.V,lQ x.D,.lst 2 (x.W.map qF.enc) false]
theorem qD.isSh:Sh qD.enc 5 (some 5):=⟨λx=>by simp[qD.enc,AV.tree,AV.trees,qb qF.isSh.tree,qb shI.tree],λ_=>rfl,λ_=>rfl,by decide,λx=>by simp[qD.enc]⟩
section
variable {x:qD}
@[go_sem] theorem qD.tr:x.enc.tree=true:=qD.isSh.tree x
@[go_sem] theorem qD.ln:x.enc.cells.length=5:=nr rfl
@[go_sem] theorem qD.all:x.enc.part 0 (some 5)=some x.enc:=nr rfl
@[go_sem] theorem qD.cs:x.enc.cells=[iI x.K,iI x.L,iI x.V,lQ x.D,.lst 2 (x.W.map qF.enc) false]:=nr rfl
@[go_sem] theorem qD.p0:x.enc.part 0 none=some (iI x.K):=nr rfl
@[go_sem] theorem qD.p1:x.enc.part 1 none=some (iI x.L):=nr rfl
@[go_sem] theorem qD.p2:x.enc.part 2 none=some (iI x.V):=nr rfl
@[go_sem] theorem qD.p3:x.enc.part 3 none=some (lQ x.D):=nr rfl
@[go_sem] theorem qD.p4:x.enc.part 4 none=some (.lst 2 (x.W.map qF.enc) false):=nr rfl
end
def qD.sz(x:qD):Nat:=x.D.length+x.W.length
def qD.bd(x:qD):Prop:=x.D.length<=140737488355328/\x.W.length<=140737488355328
structure qH where
 C:List qD
 F:Int
 O:qF
 R:List qL
def qH.enc(x:qH):AV:=.agg [.lst 5 (x.C.map qD.enc) false,iI x.F,iI x.O.T,iI x.O.I,.lst 2 (x.R.map qL.enc) false]
theorem qH.isSh:Sh qH.enc 5 (some 5):=⟨λx=>by simp[qH.enc,AV.tree,AV.trees,qb qD.isSh.tree,qb qL.isSh.tree],λ_=>rfl,λ_=>rfl,by decide,λx=>by simp[qH.enc]⟩
section
variable {x:qH}
@[go_sem] theorem qH.tr:x.enc.tree=true:=qH.isSh.tree x
@[go_sem] theorem qH.ln:x.enc.cells.length=5:=nr rfl
@[go_sem] theorem qH.all:x.enc.part 0 (some 5)=some x.enc:=nr rfl
@[go_sem] theorem qH.cs:x.enc.cells=[.lst 5 (x.C.map qD.enc) false,iI x.F,iI x.O.T,iI x.O.I,.lst 2 (x.R.map qL.enc) false]:=nr rfl
@[go_sem] theorem qH.p0:x.enc.part 0 none=some (.lst 5 (x.C.map qD.enc) false):=nr rfl
@[go_sem] theorem qH.p1:x.enc.part 1 none=some (iI x.F):=nr rfl
@[go_sem] theorem qH.p2:x.enc.part 2 none=some (iI x.O.T):=nr rfl
@[go_sem] theorem qH.p3:x.enc.part 3 none=some (iI x.O.I):=nr rfl
@[go_sem] theorem qH.p4:x.enc.part 4 none=some (.lst 2 (x.R.map qL.enc) false):=nr rfl
@[go_sem] theorem qH.q2_2:x.enc.part 2 (some 2)=some (qF.enc x.O):=nr rfl
end
def qH.sz(x:qH):Nat:=(x.C.length+qx qD.sz x.C)+x.R.length
def qH.bd(x:qH):Prop:=x.C.length<=140737488355328/\(∀y∈x.C,qD.bd y)/\x.R.length<=140737488355328
structure qj where
 A:qF
 B:qF
deriving DecidableEq
def qj.enc(x:qj):AV:=.agg [iI x.A.T,iI x.A.I,iI x.B.T,iI x.B.I]
theorem qj.isSh:Sh qj.enc 4 (some 4):=⟨λx=>by simp[qj.enc,AV.tree,AV.trees],λ_=>rfl,λ_=>rfl,by decide,λx=>by simp[qj.enc]⟩
section
variable {x:qj}
@[go_sem] theorem qj.tr:x.enc.tree=true:=qj.isSh.tree x
@[go_sem] theorem qj.ln:x.enc.cells.length=4:=nr rfl
@[go_sem] theorem qj.all:x.enc.part 0 (some 4)=some x.enc:=nr rfl
@[go_sem] theorem qj.cs:x.enc.cells=[iI x.A.T,iI x.A.I,iI x.B.T,iI x.B.I]:=nr rfl
@[go_sem] theorem qj.p0:x.enc.part 0 none=some (iI x.A.T):=nr rfl
@[go_sem] theorem qj.p1:x.enc.part 1 none=some (iI x.A.I):=nr rfl
@[go_sem] theorem qj.p2:x.enc.part 2 none=some (iI x.B.T):=nr rfl
@[go_sem] theorem qj.p3:x.enc.part 3 none=some (iI x.B.I):=nr rfl
@[go_sem] theorem qj.q0_2:x.enc.part 0 (some 2)=some (qF.enc x.A):=nr rfl
@[go_sem] theorem qj.q2_2:x.enc.part 2 (some 2)=some (qF.enc x.B):=nr rfl
@[go_sem] theorem qj.eqf{y:qj}:ji false [1,1,1,1] (some x.enc) (some y.enc)=some (.bool (decide (x=y))):=by
 obtain⟨⟨a0,a1⟩,⟨a2,a3⟩⟩:=x;obtain⟨⟨b0,b1⟩,⟨b2,b3⟩⟩:=y;simp only[ji,qj.enc,lMc,List.map_nil,dig,and_self,if_true,wg,Jq,qj.mk.injEq,qF.mk.injEq]
 repeat' (split<;>simp_all)
@[go_sem] theorem qj.eqt{y:qj}:ji true [1,1,1,1] (some x.enc) (some y.enc)=some (.bool (!decide (x=y))):=by
 have h:=qj.eqf (x:=x) (y:=y);unfold ji at h|-;split<;>simp_all
end
structure jK where
 Phase:Int
 Victim:Int
 R:List qL
 Links:List qj
 U:List Int
def jK.enc(x:jK):AV:=.agg [iI x.Phase,iI x.Victim,.lst 2 (x.R.map qL.enc) false,.lst 4 (x.Links.map qj.enc) false,lQ x.U]
theorem jK.isSh:Sh jK.enc 5 (some 5):=⟨λx=>by simp[jK.enc,AV.tree,AV.trees,qb qj.isSh.tree,qb qL.isSh.tree,qb shI.tree],λ_=>rfl,λ_=>rfl,by decide,λx=>by simp[jK.enc]⟩
section
variable {x:jK}
@[go_sem] theorem jK.tr:x.enc.tree=true:=jK.isSh.tree x
@[go_sem] theorem jK.ln:x.enc.cells.length=5:=nr rfl
@[go_sem] theorem jK.all:x.enc.part 0 (some 5)=some x.enc:=nr rfl
@[go_sem] theorem jK.cs:x.enc.cells=[iI x.Phase,iI x.Victim,.lst 2 (x.R.map qL.enc) false,.lst 4 (x.Links.map qj.enc) false,lQ x.U]:=nr rfl
@[go_sem] theorem jK.p0:x.enc.part 0 none=some (iI x.Phase):=nr rfl
@[go_sem] theorem jK.p1:x.enc.part 1 none=some (iI x.Victim):=nr rfl
@[go_sem] theorem jK.p2:x.enc.part 2 none=some (.lst 2 (x.R.map qL.enc) false):=nr rfl
@[go_sem] theorem jK.p3:x.enc.part 3 none=some (.lst 4 (x.Links.map qj.enc) false):=nr rfl
@[go_sem] theorem jK.p4:x.enc.part 4 none=some (lQ x.U):=nr rfl
end
def jK.sz(x:jK):Nat:=x.R.length+x.Links.length+x.U.length
def jK.bd(x:jK):Prop:=x.R.length<=140737488355328/\x.Links.length<=140737488355328/\x.U.length<=140737488355328
structure jk where
 Memory:qH
 Workers:List jK
 Active:Int
def jk.enc(x:jk):AV:=.agg [.lst 5 (x.Memory.C.map qD.enc) false,iI x.Memory.F,iI x.Memory.O.T,iI x.Memory.O.I,.lst 2 (x.Memory.R.map qL.enc) false,.lst 5 (x.Workers.map jK.enc) false,iI x.Active]
theorem jk.isSh:Sh jk.enc 7 (some 7):=⟨λx=>by simp[jk.enc,AV.tree,AV.trees,qb qD.isSh.tree,qb qL.isSh.tree,qb jK.isSh.tree],λ_=>rfl,λ_=>rfl,by decide,λx=>by simp[jk.enc]⟩
section
variable {x:jk}
@[go_sem] theorem jk.tr:x.enc.tree=true:=jk.isSh.tree x
@[go_sem] theorem jk.ln:x.enc.cells.length=7:=nr rfl
@[go_sem] theorem jk.all:x.enc.part 0 (some 7)=some x.enc:=nr rfl
@[go_sem] theorem jk.cs:x.enc.cells=[.lst 5 (x.Memory.C.map qD.enc) false,iI x.Memory.F,iI x.Memory.O.T,iI x.Memory.O.I,.lst 2 (x.Memory.R.map qL.enc) false,.lst 5 (x.Workers.map jK.enc) false,iI x.Active]:=nr rfl
@[go_sem] theorem jk.p0:x.enc.part 0 none=some (.lst 5 (x.Memory.C.map qD.enc) false):=nr rfl
@[go_sem] theorem jk.p1:x.enc.part 1 none=some (iI x.Memory.F):=nr rfl
@[go_sem] theorem jk.p2:x.enc.part 2 none=some (iI x.Memory.O.T):=nr rfl
@[go_sem] theorem jk.p3:x.enc.part 3 none=some (iI x.Memory.O.I):=nr rfl
@[go_sem] theorem jk.p4:x.enc.part 4 none=some (.lst 2 (x.Memory.R.map qL.enc) false):=nr rfl
@[go_sem] theorem jk.q2_2:x.enc.part 2 (some 2)=some (qF.enc x.Memory.O):=nr rfl
end
def jk.sz(x:jk):Nat:=qH.sz x.Memory+(x.Workers.length+qx jK.sz x.Workers)
def jk.bd(x:jk):Prop:=qH.bd x.Memory/\x.Workers.length<=140737488355328/\(∀y∈x.Workers,jK.bd y)
def qt(k:Int):Bool:=decide (2<=k)&&decide (k<=12)
def qX(c:qD):qC:=⟨c.K,c.L,c.V,c.D,List.replicate (c.W.length+1) ⟨0,0⟩⟩
def zr(c:qD):Prop:=(qt c.K=true/\qg (qX c)=true)\/(c.K=13/\c.L=0/\c.V=0/\c.D=[]/\c.W.length<=1)\/(c.K=0/\c.L=0/\c.D=[]/\c.W=[])
def zp(v:Int):qD:=⟨0,0,v,[],[]⟩
def qd(ws:List qF):qD:=⟨13,0,0,[],ws⟩
def aW(k:Nat):qF:=⟨1,(k:Int)⟩
def vW(k:Nat):qF:=⟨2,(k:Int)⟩
def wOk(C:List qD)(w:qF):Prop:=∃(k:Nat)(c:qD),w.I=k/\C[k]?=some c/\((w.T=1/\qt c.K=true)\/(w.T=2/\c.K=13))
def cw(k:Nat)(ws:List qF):Nat:=ws.countP λw=>decide (w.I=(k:Int))
def cr(k:Nat)(rx:List qL):Nat:=rx.countP (λp=>decide (p.A=(k:Int)))+rx.countP (λp=>decide (p.B=(k:Int)))
def wS(O:Nat->Bool)(k:Nat):Nat->List qD->Nat
 | _,[]=>0
 | i,c::r=>(if O i then 0 else cw k c.W)+wS O k (i+1) r
def zR(c:qD):Nat:=if c.K=0 then 0 else if c.K=13/\c.W=[]then 2 else 1
def chn(C:List qD):Int->List Nat->Prop
 | fr,[]=>fr= -1
 | fr,k::L=>fr=k/\∃c,C[k]?=some c/\c.K=0/\chn C c.V L
structure FrC(C:List qD)(fr:Int)(L:List Nat):Prop where
 nd:L.Nodup
 ch:chn C fr L
 all:∀(k:Nat)(c:qD),C[k]?=some c->c.K=0->k∈L
structure MI(C:List qD)(fr:Int)(root:qF)(rx:List qL)(P:List qF)(O:Nat->Bool):Prop where
 form:∀(k:Nat)(c:qD),C[k]?=some c->O k=false->zr c
 opn:∀(k:Nat)(c:qD),C[k]?=some c->O k=true->qt c.K=true
 wrd:∀(k:Nat)(c:qD),C[k]?=some c->O k=false->∀w∈c.W,wOk C w
 rt:wOk C root
 pw:∀w∈P,wOk C w
 pr:∀p∈rx,p.A<p.B/\wOk C ⟨1,p.A⟩/\wOk C ⟨1,p.B⟩
 occ:∀(k:Nat)(c:qD),C[k]?=some c->cw k (root::P)+wS O k 0 C+cr k rx=zR c
 fre:∃L,FrC C fr L
section
variable {C:List qD} {fr:Int} {root w:qF} {rx:List qL} {P Q:List qF} {O:Nat->Bool} {k j:Nat} {c c':qD}
theorem Zd{a b:List qF}:cw k (a++b)=cw k a+cw k b:=List.countP_append ..
theorem zL{a:qF}{b:List qF}:cw k (a::b)=(if a.I=(k:Int)then 1 else 0)+cw k b:=by
 unfold cw;rw[List.countP_cons];simp[Nat.add_comm]
theorem Zf:cw k []=0:=rfl
theorem qA3{ws:List qF}(h:w∈ws)(e:w.I=(k:Int)):0<cw k ws:=List.countP_pos_iff.2 ⟨w,h,by simpa using e⟩
theorem qh8(i:Nat):∀{C:List qD}{j:Nat}(h:j<C.length),wS O k i (C.set j c')+(if O (i+j)then 0 else cw k C[j].W)=wS O k i C+(if O (i+j)then 0 else cw k c'.W)
 |[],j,h=>by simp at h
 | c::r,0,h=>by simp only[lSz,wS,List.getElem_cons_zero,nAz];omega
 | c::r,j+1,h=>by
  have:=qh8 (i+1) (C:=r) (j:=j) (by simpa using h);simp only[List.set_cons_succ,wS,List.getElem_cons_succ];rw[show i+1+j=i+(j+1) by omega]at this;omega
theorem YP(h:C[j]?=some c):wS O k 0 (C.set j c')+(if O j then 0 else cw k c.W)=wS O k 0 C+(if O j then 0 else cw k c'.W):=by
 obtain⟨hl,e⟩:=gSi.1 h;have:=qh8 (O:=O) (k:=k) (c':=c') 0 hl;rw[nZa,e]at this;exact this
theorem wS_O{O':Nat->Bool}(i:Nat):∀{C:List qD}{j:Nat}(h:j<C.length),O (i+j)=false->O' (i+j)=true->(∀x,x≠i+j->O' x=O x)->wS O' k i C+cw k C[j].W=wS O k i C
 |[],j,h,_,_,_=>by simp at h
 | c::r,0,h,h1,h2,h3=>by
  have hr:∀(r:List qD)(m:Nat),i<m->wS O' k m r=wS O k m r:=by
   intro r
   induction r with
   | nil=>intro m _;rfl
   | cons a r ih=>intro m hm;rw[wS,wS,h3 m (by omega),ih (m+1) (by omega)]
  rw[nAz]at h1 h2;simp only[wS,List.getElem_cons_zero,h1,h2,if_true,bFt,if_false];rw[hr r (i+1) (by omega)];omega
 | c::r,j+1,h,h1,h2,h3=>by
  have:=wS_O (i+1) (C:=r) (j:=j) (by simpa using h) (by rw[show i+1+j=i+(j+1) by omega];exact h1) (by rw[show i+1+j=i+(j+1) by omega];exact h2) (λx hx=>h3 x (by omega));simp only[wS,List.getElem_cons_succ];rw[h3 i (by omega)];omega
theorem qh7(i:Nat):∀{C:List qD}{j:Nat}{c:qD},C[j]?=some c->O (i+j)=false->w∈c.W->w.I=(k:Int)->0<wS O k i C
 |[],j,c,h,_,_,_=>by simp at h
 | a::r,0,c,h,h1,h2,h3=>by
  simp only[List.getElem?_cons_zero,oSi]at h;subst h;rw[nAz]at h1;have:=qA3 h2 h3;simp only[wS,h1,bFt,if_false];omega
 | a::r,j+1,c,h,h1,h2,h3=>by
  have:=qh7 (i+1) (C:=r) (j:=j) (c:=c) (by simpa using h) (by rw[show i+1+j=i+(j+1) by omega];exact h1) h2 h3;simp only[wS];omega
theorem zb(h:k≠j):(C.set j c')[k]?=C[k]?:=gSn (Ne.symm h)
theorem jV(h:C[j]?=some c):(C.set j c')[j]?=some c':=gSs (gSi.1 h).1
theorem zH(h:C[j]?=some c):j<C.length:=(gSi.1 h).1
theorem wOk.set(h:wOk C w)(hj:w.I≠(j:Int)):wOk (C.set j c') w:=by
 obtain⟨k,c,h1,h2,h3⟩:=h;exact⟨k,c,h1,by rw[zb (by rintro rfl;exact hj h1)];exact h2,h3⟩
theorem wOk.kind(h:wOk C w)(hc:C[j]?=some c)(hk:c'.K=c.K):wOk (C.set j c') w:=by
 obtain⟨k,d,h1,h2,h3⟩:=h;by_cases e:k=j
 ·subst e;rw[hc]at h2;cases h2;exact⟨k,c',h1,jV hc,by rw[hk];exact h3⟩
 ·exact⟨k,d,h1,by rw[zb e];exact h2,h3⟩
theorem MI.tot(m:MI C fr root rx P O)(h:C[k]?=some c):cw k (root::P)+wS O k 0 C+cr k rx=zR c:=m.occ k c h
structure WF(C:List qD)(root:qF)(rx:List qL)(P:List qF)(O:Nat->Bool)(k:Nat):Prop where
 rt:root.I≠(k:Int)
 pw:∀w∈P,w.I≠(k:Int)
 wd:∀(i:Nat)(c:qD),C[i]?=some c->O i=false->∀w∈c.W,w.I≠(k:Int)
 pr:∀p∈rx,p.A≠(k:Int)/\p.B≠(k:Int)
theorem WF.of(h:cw k (root::P)+wS O k 0 C+cr k rx=0):WF C root rx P O k:=by
 have h1:cw k (root::P)=0:=by omega
 have h2:wS O k 0 C=0:=by omega
 have h3:cr k rx=0:=by omega
 refine⟨λe=>?_,λw hw e=>?_,λi c hc ho w hw e=>?_,λp hp=>⟨λe=>?_,λe=>?_⟩⟩
 ·have:=qA3 (ws:=root::P) (.head _) e;omega
 ·have:=qA3 (ws:=root::P) (.tail _ hw) e;omega
 ·have:=qh7 (O:=O) (k:=k) 0 hc (by rw[nZa];exact ho) hw e;omega
 ·have:0<rx.countP (λp=>decide (p.A=(k:Int))):=List.countP_pos_iff.2 ⟨p,hp,by simpa using e⟩;unfold cr at h3;omega
 ·have:0<rx.countP (λp=>decide (p.B=(k:Int))):=List.countP_pos_iff.2 ⟨p,hp,by simpa using e⟩;unfold cr at h3;omega
theorem XU{L:List Nat}:∀{fr:Int}{L:List Nat},chn C fr L->j∉L->chn (C.set j c') fr L
 | fr,[],h,_=>h
 | fr,k::L,h,hn=>by
  obtain⟨h1,c,h2,h3,h4⟩:=h;have hkj:k≠j:=λe=>hn (by rw[e];exact .head _);exact⟨h1,c,by rw[zb hkj];exact h2,h3,XU (L:=L) h4 λq=>hn (.tail _ q)⟩
theorem WL{L:List Nat}:∀{fr:Int}{L:List Nat},chn C fr L->∀k∈L,∃c,C[k]?=some c/\c.K=0
 | fr,[],h,k,hk=>by cases hk
 | fr,a::L,h,k,hk=>by
  obtain⟨h1,c,h2,h3,h4⟩:=h;rcases mCo.1 hk with rfl | hk
  ·exact⟨c,h2,h3⟩
  ·exact WL (L:=L) h4 k hk
theorem MI.rel(m:MI C fr root rx (Q++P) O)(hc:C[k]?=some c)(ho:O k=false)(hk:c.K≠0)(hq:∀w∈Q,w.I=(k:Int))(hl:Q.length=zR c):MI (C.set k (zp fr)) k root rx (c.W++P) O:=by
 have hQ:cw k Q=zR c:=by
  rw[<-hl];unfold cw;rw[List.countP_eq_length];intro w hw;simpa using hq w hw
 have ht:=m.tot hc;rw[zL,Zd,hQ]at ht;have nn:WF C root rx P O k:=WF.of (by rw[zL];omega);have set1:∀w,wOk C w->w.I≠(k:Int)->wOk (C.set k (zp fr)) w:=λw h q=>h.set q;obtain⟨L,f1,f2,f3⟩:=m.fre;have hkL:k∉L:=λq=>by
  obtain⟨d,d1,d2⟩:=WL (L:=L) f2 k q;rw[hc]at d1;cases d1;exact hk d2
 refine⟨?_, ?_, ?_,set1 _ m.rt nn.rt, ?_, ?_, ?_,k::L, ?_,⟨rfl,zp fr,jV hc,rfl,XU (L:=L) f2 hkL⟩, ?_⟩
 ·intro i d hd hoi;by_cases e:i=k
  ·subst e;rw[jV hc]at hd;cases hd;exact .inr (.inr ⟨rfl,rfl,rfl,rfl⟩)
  ·rw[zb e]at hd;exact m.form i d hd hoi
 ·intro i d hd hoi;by_cases e:i=k
  ·subst e;rw[ho]at hoi;cases hoi
  ·rw[zb e]at hd;exact m.opn i d hd hoi
 ·intro i d hd hoi w hw;by_cases e:i=k
  ·subst e;rw[jV hc]at hd;cases hd;cases hw
  ·rw[zb e]at hd;exact set1 _ (m.wrd i d hd hoi w hw) (nn.wd i d hd hoi w hw)
 ·intro w hw;rcases jR.1 hw with hw | hw
  ·exact set1 _ (m.wrd k c hc ho w hw) (nn.wd k c hc ho w hw)
  ·exact set1 _ (m.pw w (List.mem_append_right _ hw)) (nn.pw w hw)
 ·intro p hp;obtain⟨p1,p2,p3⟩:=m.pr p hp;exact⟨p1,set1 _ p2 (nn.pr p hp).1,set1 _ p3 (nn.pr p hp).2⟩
 ·intro i d hd;have hs:=YP (O:=O) (k:=i) (c':=zp fr) hc;rw[ho]at hs;simp only[bFt,if_false,zp,Zf,nAz]at hs;by_cases e:i=k
  ·subst e;rw[jV hc]at hd;cases hd;have:cw i c.W=0:=by
    unfold cw;rw[List.countP_eq_zero];intro w hw;simpa using nn.wd i c hc ho w hw
   have w0:zR (zp fr)=0:=by simp[zR,zp]
   rw[w0,zL,Zd];unfold zp;omega
  ·rw[zb e]at hd;have:=m.tot hd;have hq0:cw i Q=0:=by
    unfold cw;rw[List.countP_eq_zero];intro w hw;simp[hq w hw];omega
   rw[zL,Zd,hq0]at this;rw[zL,Zd];unfold zp;omega
 ·exact List.nodup_cons.2 ⟨hkL,f1⟩
 ·intro i d hd hdk;by_cases e:i=k
  ·rw[e];exact .head _
  ·rw[zb e]at hd;exact .tail _ (f3 i d hd hdk)
theorem MI.head(m:MI C fr root rx P O)(h:0<=fr):∃(k:Nat)(d:qD),fr=k/\C[k]?=some d/\d.K=0/\O k=false/\d.W=[]/\WF C root rx P O k/\∃L,FrC C fr (k::L):=by
 obtain⟨L,f1,f2,f3⟩:=m.fre;cases L with
 | nil=>have:fr= -1:=f2;omega
 | cons k L=>
  have f2':=f2;obtain⟨h1,d,h2,h3,h4⟩:=f2;have ho:O k=false:=by
   cases q:O k with
   | false=>rfl
   | true=>
    have:=m.opn k d h2 q;rw[h3]at this;cases this
  have hw:d.W=[]:=by
   rcases m.form k d h2 ho with⟨q,_⟩ | ⟨q,_⟩ | ⟨_,_,_,q⟩
   ·rw[h3]at q;cases q
   ·omega
   ·exact q
  refine⟨k,d,h1,h2,h3,ho,hw,WF.of ?_,L,f1,f2',f3⟩;rw[m.tot h2];simp[zR,h3]
theorem FrC.tl{L:List Nat}{d:qD}(f:FrC C fr (k::L))(hd:C[k]?=some d)(hn:c'.K≠0):FrC (C.set k c') d.V L:=by
 obtain⟨f1,f2,f3⟩:=f;obtain⟨h1,d',h2,h3,h4⟩:=f2;rw[hd]at h2;cases h2;rw[List.nodup_cons]at f1;refine⟨f1.2,XU (L:=L) h4 f1.1,λi e he hk=>?_⟩;by_cases q:i=k
 ·subst q;rw[jV hd]at he;cases he;exact absurd hk hn
 ·rw[zb q]at he;rcases mCo.1 (f3 i e he hk)with r | r
  ·exact absurd r q
  ·exact r
def opO(O:Nat->Bool)(k:Nat):Nat->Bool:=λi=>decide (i=k) || O i
def clO(O:Nat->Bool)(k:Nat):Nat->Bool:=λi=> !decide (i=k)&&O i
theorem MI.takeA{d:qD}(m:MI C fr root rx P O)(hf:fr=k)(hd:C[k]?=some d)(hc:qt c.K=true):MI (C.set k c) d.V root rx (aW k::P) (opO O k):=by
 obtain⟨k',d',e1,e2,e3,e4,e5,nn,L,fL⟩:=m.head (by omega);obtain rfl:k'=k:=by omega
 rw[hd]at e2;cases e2;have hck:c.K≠0:=by intro q;rw[q]at hc;cases hc
 have set1:∀w,wOk C w->w.I≠(k':Int)->wOk (C.set k' c) w:=λw h q=>h.set q;have o1:∀i,opO O k' i=false->i≠k'/\O i=false:=λi h=>by
  unfold opO at h;simp only[Bool.or_eq_false_iff,decide_eq_false_iff_not]at h;exact h
 refine⟨?_, ?_, ?_,set1 _ m.rt nn.rt, ?_, ?_, ?_,L,fL.tl hd hck⟩
 ·intro i e he ho;obtain⟨h1,h2⟩:=o1 i ho;rw[zb h1]at he;exact m.form i e he h2
 ·intro i e he ho;by_cases q:i=k'
  ·subst q;rw[jV hd]at he;cases he;exact hc
  ·rw[zb q]at he;refine m.opn i e he ?_;unfold opO at ho;simpa[q]using ho
 ·intro i e he ho w hw;obtain⟨h1,h2⟩:=o1 i ho;rw[zb h1]at he;exact set1 _ (m.wrd i e he h2 w hw) (nn.wd i e he h2 w hw)
 ·intro w hw;rcases mCo.1 hw with rfl | hw
  ·exact⟨k',c,rfl,jV hd,.inl ⟨rfl,hc⟩⟩
  ·exact set1 _ (m.pw w hw) (nn.pw w hw)
 ·intro p hp;obtain⟨p1,p2,p3⟩:=m.pr p hp;exact⟨p1,set1 _ p2 (nn.pr p hp).1,set1 _ p3 (nn.pr p hp).2⟩
 ·intro i e he;have hO:=wS_O (O:=O) (O':=opO O k') (k:=i) 0 (C:=C.set k' c) (j:=k') (by rw[lLs];exact zH hd) (by rw[nZa];exact e4) (by simp[opO]) (λx hx=>by simp[opO];intro q;omega);have hs:=YP (O:=O) (k:=i) (c':=c) hd;rw[e4,e5]at hs;simp only[bFt,if_false,Zf,nAz]at hs;have hg:(C.set k' c)[k']'(by rw[lLs];exact zH hd)=c:=by simp
  rw[hg]at hO;by_cases q:i=k'
  ·subst q;rw[jV hd]at he;cases he;have:=m.tot hd;have w0:zR d=0:=by simp[zR,e3]
   have w1:zR c=1:=by
    unfold zR;rw[iN hck,iN];rintro⟨q,_⟩;rw[q]at hc;cases hc
   rw[w0,zL]at this;rw[w1,zL,zL];simp only[aW,if_true];omega
  ·rw[zb q]at he;have:=m.tot he;rw[zL]at this;rw[zL,zL];have:¬(aW k').I=(i:Int):=by simp[aW];omega
   rw[iN this];omega
theorem MI.takeV{d:qD}(m:MI C fr root rx P O)(hf:fr=k)(hd:C[k]?=some d):MI (C.set k (qd [])) d.V root rx (vW k::vW k::P) O:=by
 obtain⟨k',d',e1,e2,e3,e4,e5,nn,L,fL⟩:=m.head (by omega);obtain rfl:k'=k:=by omega
 rw[hd]at e2;cases e2;have set1:∀w,wOk C w->w.I≠(k':Int)->wOk (C.set k' (qd [])) w:=λw h q=>h.set q;have vo:wOk (C.set k' (qd [])) (vW k'):=⟨k',qd [],rfl,jV hd,.inr ⟨rfl,rfl⟩⟩;refine⟨?_, ?_, ?_,set1 _ m.rt nn.rt, ?_, ?_, ?_,L,fL.tl hd (by simp[qd])⟩
 ·intro i e he ho;by_cases q:i=k'
  ·subst q;rw[jV hd]at he;cases he;exact .inr (.inl ⟨rfl,rfl,rfl,rfl,by simp[qd]⟩)
  ·rw[zb q]at he;exact m.form i e he ho
 ·intro i e he ho;by_cases q:i=k'
  ·subst q;rw[e4]at ho;cases ho
  ·rw[zb q]at he;exact m.opn i e he ho
 ·intro i e he ho w hw;by_cases q:i=k'
  ·subst q;rw[jV hd]at he;cases he;cases hw
  ·rw[zb q]at he;exact set1 _ (m.wrd i e he ho w hw) (nn.wd i e he ho w hw)
 ·intro w hw;rcases mCo.1 hw with rfl | hw
  ·exact vo
  ·rcases mCo.1 hw with rfl | hw
   ·exact vo
   ·exact set1 _ (m.pw w hw) (nn.pw w hw)
 ·intro p hp;obtain⟨p1,p2,p3⟩:=m.pr p hp;exact⟨p1,set1 _ p2 (nn.pr p hp).1,set1 _ p3 (nn.pr p hp).2⟩
 ·intro i e he;have hs:=YP (O:=O) (k:=i) (c':=qd []) hd;rw[e4,e5]at hs;simp only[bFt,if_false,Zf,nAz,qd]at hs;unfold qd at he|-;by_cases q:i=k'
  ·subst q;rw[jV hd]at he;cases he;have:=m.tot hd;have w0:zR d=0:=by simp[zR,e3]
   rw[w0,zL]at this;rw[zL,zL,zL];simp only[vW,if_true,zR];simp;omega
  ·rw[zb q]at he;have:=m.tot he;rw[zL]at this;rw[zL,zL,zL];have:¬(vW k').I=(i:Int):=by simp[vW];omega
   rw[iN this];omega
theorem MI.close(m:MI C fr root rx (c.W++P) O)(hc:C[k]?=some c)(ho:O k=true)(hf:zr c):MI C fr root rx P (clO O k):=by
 have o1:∀i,i≠k->clO O k i=O i:=λi h=>by simp[clO,h]
 have o2:clO O k k=false:=by simp[clO]
 refine⟨?_, ?_, ?_,m.rt,λw hw=>m.pw w (List.mem_append_right _ hw),m.pr, ?_,m.fre⟩
 ·intro i e he h;by_cases q:i=k
  ·subst q;rw[hc]at he;cases he;exact hf
  ·rw[o1 i q]at h;exact m.form i e he h
 ·intro i e he h;by_cases q:i=k
  ·subst q;rw[o2]at h;cases h
  ·rw[o1 i q]at h;exact m.opn i e he h
 ·intro i e he h w hw;by_cases q:i=k
  ·subst q;rw[hc]at he;cases he;exact m.pw w (List.mem_append_left _ hw)
  ·rw[o1 i q]at h;exact m.wrd i e he h w hw
 ·intro i e he;have hO:=wS_O (O:=clO O k) (O':=O) (k:=i) 0 (C:=C) (j:=k) (zH hc) (by rw[nZa];exact o2) (by rw[nZa];exact ho) (λx hx=>(o1 x (by omega)).symm);rw[(gSi.1 hc).2]at hO;have:=m.tot he;rw[zL,Zd]at this;rw[zL];omega
theorem MI.wopen(m:MI C fr root rx P O)(hc:C[k]?=some c)(ho:O k=true)(hk:c'.K=c.K):MI (C.set k c') fr root rx P O:=by
 have hcK:c.K≠0:=by
  intro q;have:=m.opn k c hc ho;rw[q]at this;cases this
 refine⟨?_, ?_, ?_,m.rt.kind hc hk,λw hw=>(m.pw w hw).kind hc hk,λp hp=>⟨(m.pr p hp).1,(m.pr p hp).2.1.kind hc hk,(m.pr p hp).2.2.kind hc hk⟩, ?_, ?_⟩
 ·intro i e he h;by_cases q:i=k
  ·subst q;rw[ho]at h;cases h
  ·rw[zb q]at he;exact m.form i e he h
 ·intro i e he h;by_cases q:i=k
  ·subst q;rw[jV hc]at he;cases he;rw[hk];exact m.opn i c hc ho
  ·rw[zb q]at he;exact m.opn i e he h
 ·intro i e he h w hw;by_cases q:i=k
  ·subst q;rw[ho]at h;cases h
  ·rw[zb q]at he;exact(m.wrd i e he h w hw).kind hc hk
 ·intro i e he;have hs:=YP (O:=O) (k:=i) (c':=c') hc;rw[ho]at hs;simp only[if_true,nAz]at hs;rw[hs];by_cases q:i=k
  ·subst q;rw[jV hc]at he;cases he;rw[m.tot hc];have hag:=m.opn i c hc ho;have:∀c:qD,qt c.K=true->zR c=1:=λc h=>by
    unfold zR;rw[iN (by intro q;rw[q]at h;cases h),iN];rintro⟨q,_⟩;rw[q]at h;cases h
   rw[this c hag,this c' (by rw[hk];exact hag)]
  ·rw[zb q]at he;exact m.tot he
 ·obtain⟨L,f1,f2,f3⟩:=m.fre;have hkL:k∉L:=λq=>by
   obtain⟨d,d1,d2⟩:=WL (L:=L) f2 k q;rw[hc]at d1;cases d1;exact hcK d2
  refine⟨L,f1,XU (L:=L) f2 hkL,λi e he h=>?_⟩;by_cases q:i=k
  ·subst q;rw[jV hc]at he;cases he;rw[hk]at h;exact absurd h hcK
  ·rw[zb q]at he;exact f3 i e he h
theorem MI.bind{b:qF}(m:MI C fr root rx (vW k::b::P) O)(hc:C[k]?=some (qd []))(hb:b.I≠(k:Int)):MI (C.set k (qd [b])) fr root rx P O:=by
 have ho:O k=false:=by
  cases q:O k with
  | false=>rfl
  | true=>have:=m.opn k _ hc q;simp[qd,qt]at this
 have hk:(qd [b]).K=(qd []).K:=rfl;have bo:wOk C b:=m.pw b (.tail _ (.head _));refine⟨?_, ?_, ?_,m.rt.kind hc hk,λw hw=>(m.pw w (.tail _ (.tail _ hw))).kind hc hk,λp hp=>⟨(m.pr p hp).1,(m.pr p hp).2.1.kind hc hk,(m.pr p hp).2.2.kind hc hk⟩, ?_, ?_⟩
 ·intro i e he h;by_cases q:i=k
  ·subst q;rw[jV hc]at he;cases he;exact .inr (.inl ⟨rfl,rfl,rfl,rfl,by simp[qd]⟩)
  ·rw[zb q]at he;exact m.form i e he h
 ·intro i e he h;by_cases q:i=k
  ·subst q;rw[ho]at h;cases h
  ·rw[zb q]at he;exact m.opn i e he h
 ·intro i e he h w hw;by_cases q:i=k
  ·subst q;rw[jV hc]at he;cases he;simp only[qd,mCo,List.not_mem_nil,or_false]at hw;subst hw;exact bo.kind hc hk
  ·rw[zb q]at he;exact(m.wrd i e he h w hw).kind hc hk
 ·intro i e he;have hs:=YP (O:=O) (k:=i) (c':=qd [b]) hc;rw[ho]at hs;simp only[bFt,if_false,qd,Zf,nAz,zL]at hs;unfold qd at he|-;by_cases q:i=k
  ·subst q;rw[jV hc]at he;cases he;have:=m.tot hc;simp only[zR,qd]at this;rw[zL,zL,zL]at this;simp only[vW,if_true,iN hb]at this;rw[iN hb]at hs;simp only[zR];rw[zL];simp at this|-;omega
  ·rw[zb q]at he;have:=m.tot he;rw[zL,zL,zL]at this;have hv:¬(vW k).I=(i:Int):=by simp[vW];omega
   rw[iN hv]at this;rw[zL];omega
 ·obtain⟨L,f1,f2,f3⟩:=m.fre;have hkL:k∉L:=λq=>by
   obtain⟨d,d1,d2⟩:=WL (L:=L) f2 k q;rw[hc]at d1;cases d1;simp[qd]at d2
  refine⟨L,f1,XU (L:=L) f2 hkL,λi e he h=>?_⟩;by_cases q:i=k
  ·subst q;rw[jV hc]at he;cases he;simp[qd]at h
  ·rw[zb q]at he;exact f3 i e he h
theorem qA1{a b:List qL}:cr k (a++b)=cr k a+cr k b:=by unfold cr;rw[List.countP_append,List.countP_append];omega
theorem qcU{p:qL}{b:List qL}:cr k (p::b)=(if p.A=(k:Int)then 1 else 0)+(if p.B=(k:Int)then 1 else 0)+cr k b:=by
 unfold cr;rw[List.countP_cons,List.countP_cons];simp;omega
theorem qlB:cr k []=0:=rfl
theorem MI.redex{a b:Nat}(m:MI C fr root rx (aW a::aW b::P) O):a≠b/\MI C fr root (rx++[⟨min (a:Int) b,max (a:Int) b⟩]) P O:=by
 have ha:wOk C (aW a):=m.pw _ (.head _);have hb:wOk C (aW b):=m.pw _ (.tail _ (.head _));have ha':=ha;obtain⟨a',c,e1,e2,e3⟩:=ha';obtain rfl:a'=a:=by simp[aW]at e1;omega
 have hag:qt c.K=true:=by
  rcases e3 with⟨_,q⟩ | ⟨q,_⟩
  ·exact q
  ·simp[aW]at q
 have hne:a'≠b:=by
  rintro rfl;have:=m.tot e2;rw[zL,zL,zL]at this;have w1:zR c=1:=by
   unfold zR;rw[iN (by intro q;rw[q]at hag;cases hag),iN];rintro⟨q,_⟩;rw[q]at hag;cases hag
  rw[w1]at this;simp only[aW,if_true]at this;omega
 refine⟨hne,m.form,m.opn,m.wrd,m.rt,λw hw=>m.pw w (.tail _ (.tail _ hw)),λp hp=>?_,λi e he=>?_,m.fre⟩
 ·rcases jR.1 hp with hp | hp
  ·exact m.pr p hp
  ·simp only[lMg]at hp;subst hp;simp only;rcases Nat.lt_or_ge a' b with q | q
   ·rw[Int.min_eq_left (by omega),Int.max_eq_right (by omega)];exact⟨by omega,ha,hb⟩
   ·rw[Int.min_eq_right (by omega),Int.max_eq_left (by omega)];exact⟨by omega,hb,ha⟩
 ·have:=m.tot he;rw[zL,zL,zL]at this;rw[zL,qA1,qcU,qlB];have ea:(aW a').I=(a':Int):=rfl;have eb:(aW b).I=(b:Int):=rfl;rw[ea,eb]at this;simp only;have key:(if min (a':Int) b=(i:Int)then 1 else 0)+(if max (a':Int) b=(i:Int)then 1 else 0)=(if (a':Int)=(i:Int)then 1 else 0)+(if (b:Int)=(i:Int)then 1 else 0):=by
   rcases Nat.lt_or_ge a' b with q | q
   ·rw[Int.min_eq_left (by omega),Int.max_eq_right (by omega)]
   ·rw[Int.min_eq_right (by omega),Int.max_eq_left (by omega),Nat.add_comm]
  rw[key];omega
theorem MI.unredex{p:qL}{r1 r2:List qL}(m:MI C fr root (r1++p::r2) P O):MI C fr root (r1++r2) (⟨1,p.A⟩::⟨1,p.B⟩::P) O:=by
 have hp:=m.pr p (List.mem_append_right _ (.head _));refine⟨m.form,m.opn,m.wrd,m.rt,λw hw=>?_,λq hq=>?_,λi e he=>?_,m.fre⟩
 ·rcases mCo.1 hw with rfl | hw
  ·exact hp.2.1
  ·rcases mCo.1 hw with rfl | hw
   ·exact hp.2.2
   ·exact m.pw w hw
 ·rcases jR.1 hq with hq | hq
  ·exact m.pr q (List.mem_append_left _ hq)
  ·exact m.pr q (List.mem_append_right _ (.tail _ hq))
 ·have:=m.tot he;rw[zL,qA1,qcU]at this;rw[zL,zL,zL,qA1];simp only;omega
theorem MI.perm{P':List qF}(m:MI C fr root rx P O)(h:P.Perm P'):MI C fr root rx P' O:=
 ⟨m.form,m.opn,m.wrd,m.rt,λw hw=>m.pw w (h.mem_iff.2 hw),m.pr,λi e he=>by
  have:=m.tot he;rw[zL]at this|-;unfold cw at this|-;rw[<-h.countP_eq];exact this,m.fre⟩
end
abbrev MM(m:qH)(P:List qF)(O:Nat->Bool):Prop:=MI m.C m.F m.O m.R P O
def nF(C:List qD):Nat:=C.countP λc=>decide (c.K=0)
def nV(C:List qD):Nat:=C.countP λc=>decide (c.K=13)
def zZ(m:qH)(a:Int):qD:=(m.C[a.toNat]?).getD (zp 0)
def qQ(m:qH)(a:Int):qH:={m with C:=m.C.set a.toNat (zp m.F),F:=a}
def qR(m:qH)(c:qD):qH:={m with C:=m.C.set m.F.toNat c,F:=(zZ m m.F).V}
def qo(m:qH)(a:Int)(ws:List qF):qH:={m with C:=m.C.set a.toNat {zZ m a with W:=ws}}
def Jo(m:qH)(a b:Int):qH:={m with R:=m.R++[⟨min a b,max a b⟩]}
def flw:Nat->qH->qF->qH×qF
 | 0,m,w=>(m,w)
 | n+1,m,w=>if w.T=2 then(match (zZ m w.I).W with
   |[]=>(m,w)
   | x::_=>flw n (qQ m w.I) x)else(m,w)
def wQ(m:qH)(a b:qF):qH:=
 let r:=flw (nV m.C) m a;let s:=flw (nV r.1.C) r.1 b
 if r.2.T=1/\s.2.T=1 then Jo s.1 r.2.I s.2.I
 else if r.2=s.2 then qQ s.1 r.2.I
 else if r.2.T=2 then qo s.1 r.2.I [s.2]else qo s.1 s.2.I [r.2]
section
variable {C:List qD} {fr:Int} {root w:qF} {rx:List qL} {P Q:List qF} {O:Nat->Bool} {k j:Nat} {c c':qD} {m m':qH}
theorem qAY{p:qD->Bool}:∀{C:List qD}{j:Nat}{c:qD},C[j]?=some c->(C.set j c').countP p+(if p c then 1 else 0)=C.countP p+(if p c' then 1 else 0)
 |[],j,c,h=>by simp at h
 | a::r,0,c,h=>by
  simp only[List.getElem?_cons_zero,oSi]at h;subst h;simp only[lSz,List.countP_cons];omega
 | a::r,j+1,c,h=>by
  have:=qAY (p:=p) (C:=r) (j:=j) (c:=c) (by simpa using h);simp only[List.set_cons_succ,List.countP_cons];omega
theorem Zn(h:C[j]?=some c):nF (C.set j c')+(if c.K=0 then 1 else 0)=nF C+(if c'.K=0 then 1 else 0):=by
 have:=qAY (c':=c') (p:=λc=>decide (c.K=0)) h;simpa[nF]using this
theorem qe7(h:C[j]?=some c):nV (C.set j c')+(if c.K=13 then 1 else 0)=nV C+(if c'.K=13 then 1 else 0):=by
 have:=qAY (c':=c') (p:=λc=>decide (c.K=13)) h;simpa[nV]using this
theorem qe6(h:C[j]?=some c)(hk:c.K=13):0<nV C:=List.countP_pos_iff.2 ⟨c,lMo h,by simpa using hk⟩
theorem FrC.len{L:List Nat}(f:FrC C fr L):L.length=nF C:=by
 have hc:nF C=((List.range C.length).filter λk=>decide ((C[k]?.getD (zp 1)).K=0)).length:=by
  have:∀(C:List qD),C.countP (λc=>decide (c.K=0))=((List.range C.length).filter λk=>decide ((C[k]?.getD (zp 1)).K=0)).length:=by
   intro C;rw[<-List.countP_eq_length_filter]
   induction C with
   | nil=>rfl
   | cons a r ih=>
    rw[lCo,List.range_succ_eq_map,List.countP_cons,List.countP_cons,ih,List.countP_map];rfl
  exact this C
 rw[hc];refine List.Perm.length_eq ((List.perm_ext_iff_of_nodup f.nd (List.nodup_range.filter _)).2 λk=>?_);rw[mFi,lMr];constructor
 ·intro hk;obtain⟨c,h1,h2⟩:=WL (L:=L) f.ch k hk;exact⟨zH h1,by rw[h1];simpa using h2⟩
 ·rintro⟨h1,h2⟩;rw[gEg h1]at h2;exact f.all k _ (gEg h1) (by simpa using h2)
theorem MI.fr0(m:MI C fr root rx P O)(h:0<nF C):0<=fr:=by
 obtain⟨L,f⟩:=m.fre;have:=f.len;cases L with
 | nil=>simp at this;omega
 | cons k L=>have:=f.ch.1;omega
theorem Jh(h:m.C[k]?=some c):zZ m (k:Int)=c:=by unfold zZ;rw[iTn,h];rfl
theorem qDC(h:qt c.K=true):zR c=1:=by
 unfold zR;rw[iN (by intro q;rw[q]at h;cases h),iN];rintro⟨q,_⟩;rw[q]at h;cases h
theorem qfT(m:MI C fr root rx P O)(hc:C[k]?=some c)(h:qt c.K=false):O k=false:=by
 cases q:O k with
 | false=>rfl
 | true=>rw[m.opn k c hc q]at h;cases h
theorem MI.var(m:MI C fr root rx P O)(hc:C[k]?=some c)(h:c.K=13):O k=false/\∃ws,c=qd ws/\ws.length<=1:=by
 have ho:=qfT m hc (by rw[h];rfl);refine⟨ho,c.W, ?_⟩;rcases m.form k c hc ho with⟨q,_⟩ | ⟨h1,h2,h3,h4,h5⟩ | ⟨q,_⟩
 ·rw[h]at q;cases q
 ·refine⟨?_,h5⟩;obtain⟨a,b,d,e,f⟩:=c;simp only at h1 h2 h3 h4;subst h1 h2 h3 h4;rfl
 ·omega
structure Flw(m m':qH)(w':qF):Prop where
 len:m'.C.length=m.C.length
 root:m'.O=m.O
 rx:m'.R=m.R
 keep:∀(k:Nat)(c:qD),m.C[k]?=some c->(c.K≠13\/c.W=[])->m'.C[k]?=some c
 nv:nV m'.C<=nV m.C
 nf:nF m.C<=nF m'.C
 stop:w'.T=1\/∃k:Nat,w'=vW k/\m'.C[k]?=some (qd [])
theorem Zg:∀(n:Nat){m:qH}{w:qF},MM m (w::P) O->nV m.C<=n->MM (flw n m w).1 ((flw n m w).2::P) O/\Flw m (flw n m w).1 (flw n m w).2
 | n,m,w,h,hn=>by
  obtain⟨k,c,e1,e2,e3⟩:=h.pw w (.head _);by_cases ht:w.T=2
  ·have hk:c.K=13:=by
    rcases e3 with⟨q,_⟩ | ⟨_,q⟩
    ·omega
    ·exact q
   obtain⟨ho,ws,hv,hl⟩:=h.var e2 hk;have hpos:=qe6 e2 hk;obtain⟨n',rfl⟩:∃n',n=n'+1:=⟨n-1,by omega⟩;have hca:zZ m w.I=c:=by rw[e1];exact Jh e2
   have hwv:w=vW k:=by
    obtain⟨t,a⟩:=w;simp only at ht e1;subst ht e1;rfl
   cases ws with
   | nil=>
    have e:flw (n'+1) m w=(m,w):=by
     rw[flw,iP ht,hca,hv];rfl
    rw[e];exact⟨h,rfl,rfl,rfl,λ_ _ q _=>q,nLr _,nLr _,.inr ⟨k,hwv,by rw[e2,hv]⟩⟩
   | cons x r=>
    have hr:r=[]:=by cases r with | nil=>rfl | cons a r=>simp at hl
    subst hr;have e:flw (n'+1) m w=flw n' (qQ m w.I) x:=by
     rw[flw,iP ht,hca,hv];rfl
    have h1:=MI.rel (Q:=[w]) h e2 ho (by omega) (λy hy=>by simp only[lMg]at hy;rw[hy];exact e1) (by rw[hv];simp[zR,qd]);have hrel:qQ m w.I={m with C:=m.C.set k (zp m.F),F:=(k:Int)}:=by
     unfold qQ;rw[e1,iTn]
    have h2:MM (qQ m w.I) (x::P) O:=by
     rw[hrel,hv]at*;exact h1
    have hnv:=qe7 (c':=zp m.F) e2;have hnf:=Zn (c':=zp m.F) e2;rw[iP hk,iN (by simp[zp])]at hnv;rw[iN (by omega),iP (by simp[zp])]at hnf;have hcells:(qQ m w.I).C=m.C.set k (zp m.F):=by rw[hrel]
    obtain⟨g1,g2⟩:=Zg n' h2 (by rw[hcells];omega);rw[e];refine⟨g1,by rw[g2.len,hcells,lLs],by rw[g2.root,hrel],by rw[g2.rx,hrel],λi d hd hq=>?_,by have:=g2.nv;rw[hcells]at this;omega,by have:=g2.nf;rw[hcells]at this;omega,g2.stop⟩;refine g2.keep i d ?_ hq;rw[hcells];by_cases q:i=k
    ·subst q;rw[e2]at hd;cases hd;rcases hq with hq | hq
     ·exact absurd hk hq
     ·rw[hv]at hq;simp[qd]at hq
    ·rw[zb q];exact hd
  ·have e:flw n m w=(m,w):=by
    cases n with
    | zero=>rfl
    | succ n=>rw[flw,iN ht]
   have h1:w.T=1:=by
    rcases e3 with⟨q,_⟩ | ⟨q,_⟩
    ·exact q
    ·exact absurd q ht
   rw[e];exact⟨h,rfl,rfl,rfl,λ_ _ q _=>q,nLr _,nLr _,.inl h1⟩
theorem qnG{a b:qF}(h:MM m (a::b::P) O):MM (wQ m a b) P O/\(wQ m a b).C.length=m.C.length/\nF m.C<=nF (wQ m a b).C/\(wQ m a b).O=m.O:=by
 obtain⟨g1,g2⟩:=Zg (nV m.C) h (nLr _);unfold wQ;generalize flw (nV m.C) m a=r at g1 g2|-;obtain⟨m1,a1⟩:=r;have g3:MM m1 (b::a1::P) O:=MI.perm g1 (List.Perm.swap _ _ _);obtain⟨k1,k2⟩:=Zg (nV m1.C) g3 (nLr _);simp only at g1 g2 k1 k2|-;generalize flw (nV m1.C) m1 b=s at k1 k2|-;obtain⟨m2,b1⟩:=s;simp only at k1 k2|-;have k3:MM m2 (a1::b1::P) O:=MI.perm k1 (List.Perm.swap _ _ _);have hlen:m2.C.length=m.C.length:=by rw[k2.len,g2.len]
 have hnf:nF m.C<=nF m2.C:=nLt g2.nf k2.nf;have hroot:m2.O=m.O:=by rw[k2.root,g2.root]
 have hstop:a1.T=1\/∃k:Nat,a1=vW k/\m2.C[k]?=some (qd []):=by
  rcases g2.stop with q | ⟨k,q1,q2⟩
  ·exact .inl q
  ·exact .inr ⟨k,q1,k2.keep k _ q2 (.inr rfl)⟩
 have agk:∀w:qF,wOk m2.C w->w.T=1->∃k:Nat,w=aW k:=λw hw ht=>by
  obtain⟨k,c,e1,_,_⟩:=hw;refine⟨k, ?_⟩;obtain⟨t,x⟩:=w;simp only at ht e1;subst ht e1;rfl
 rcases hstop with ha | ⟨ka,rfl,hca⟩
 ·obtain⟨i,rfl⟩:=agk a1 (k3.pw _ (.head _)) ha;rcases k2.stop with hb | ⟨kb,rfl,hcb⟩
  ·obtain⟨j,rfl⟩:=agk b1 (k3.pw _ (.tail _ (.head _))) hb;rw[iP ⟨rfl,rfl⟩];exact⟨(MI.redex k3).2,hlen,hnf,hroot⟩
  ·rw[iN (by simp[aW,vW]),iN (by simp[aW,vW]),iN (by simp[aW])];have hne:(aW i).I≠(kb:Int):=by
    intro q;obtain⟨k,c,e1,e2,e3⟩:=k3.pw (aW i) (.head _);have:k=kb:=by rw[q]at e1;omega
    subst this;rw[hcb]at e2;cases e2;rcases e3 with⟨_,q⟩ | ⟨q,_⟩
    ·simp[qd,qt]at q
    ·simp[aW]at q
   have:=MI.bind (MI.perm k3 (List.Perm.swap _ _ _)) hcb hne;have hp:qo m2 (vW kb).I [aW i]={m2 with C:=m2.C.set kb (qd [aW i])}:=by
    unfold qo;have:(vW kb).I=(kb:Int):=rfl;rw[this,Jh hcb,iTn];rfl
   rw[hp];have hs:=Zn (c':=qd [aW i]) hcb;simp only[qd]at hs;simp at hs;exact⟨this,by simp[hlen],by simp only[qd];omega,hroot⟩
 ·have hpv:∀x:qF,qo m2 (vW ka).I [x]={m2 with C:=m2.C.set ka (qd [x])}:=λx=>by
   unfold qo;have:(vW ka).I=(ka:Int):=rfl;rw[this,Jh hca,iTn];rfl
  rw[iN (by simp[vW])];by_cases heq:vW ka=b1
  ·subst heq;rw[iP rfl];have:=MI.rel (Q:=[vW ka,vW ka]) k3 hca (qfT k3 hca rfl) (by simp[qd]) (λw hw=>by simp at hw;rw[hw];rfl) (by simp[zR,qd]);have hrel:qQ m2 (vW ka).I={m2 with C:=m2.C.set ka (zp m2.F),F:=(ka:Int)}:=by
    unfold qQ;have:(vW ka).I=(ka:Int):=rfl;rw[this,iTn]
   rw[hrel];have hs:=Zn (c':=zp m2.F) hca;simp[qd,zp]at hs;exact⟨this,by simp[hlen],by simp only[zp];omega,hroot⟩
  ·rw[iN heq,iP (show (vW ka).T=2 from rfl),hpv];have hne:b1.I≠(ka:Int):=by
    intro q;obtain⟨k,c,e1,e2,e3⟩:=k3.pw b1 (.tail _ (.head _));have:k=ka:=by rw[q]at e1;omega
    subst this;rw[hca]at e2;cases e2;rcases e3 with⟨_,q⟩ | ⟨q,_⟩
    ·simp[qd,qt]at q
    ·apply heq;obtain⟨t,x⟩:=b1;simp only at q e1;subst q e1;rfl
   have:=MI.bind k3 hca hne;have hs:=Zn (c':=qd [b1]) hca;simp[qd]at hs;exact⟨this,by simp[hlen],by simp only[qd];omega,hroot⟩
def lws:List qj->List qF
 |[]=>[]
 | l::r=>l.A::l.B::lws r
def JZ(m:qH)(ls:List qj):qH:=ls.foldl (λm l=>wQ m l.A l.B) m
theorem qBR:∀(ls:List qj){m:qH},MM m (lws ls++P) O->MM (JZ m ls) P O/\(JZ m ls).C.length=m.C.length/\(JZ m ls).O=m.O
 |[],m,h=>⟨h,rfl,rfl⟩
 | l::r,m,h=>by
  obtain⟨g1,g2,_,g4⟩:=qnG (m:=m) (a:=l.A) (b:=l.B) (P:=lws r++P) h;obtain⟨k1,k2,k3⟩:=qBR r g1;exact⟨k1,by rw[<-g2];exact k2,by rw[<-g4];exact k3⟩
end
def awI(a:Int):qF:=⟨1,a⟩
def vwI(a:Int):qF:=⟨2,a⟩
def QZ(lev:Int)(s:qH×List qF×List qF×List qj)(w:qF):qH×List qF×List qF×List qj:=
 let m1:=qR s.1 ⟨4,lev,0,[],[]⟩;let m2:=qR m1 (qd []);let m3:=qR m2 (qd [])
 (qo m3 s.1.F [vwI m1.F,vwI m2.F],s.2.1++[vwI m1.F],s.2.2.1++[vwI m2.F],s.2.2.2++[⟨w,awI s.1.F⟩])
def zg(y:qD):qD:=⟨y.K,y.L,y.V,y.D,[]⟩
def WR(m:qH)(y:qD):qH:=qR (qR m (zg y)) (zg y)
def zM(m:qH)(x y:qD)(i:Nat):qH×List qF×List qF×List qj:=
 (y.W.take i).foldl (QZ x.L) (WR m y,[],[],[⟨x.W.getD 0 ⟨0,0⟩,awI m.F⟩,⟨x.W.getD 1 ⟨0,0⟩,awI (qR m (zg y)).F⟩])
def wh(m:qH)(x y:qD):qH×List qj:=
 let s:=zM m x y y.W.length
 (qo (qo s.1 m.F s.2.1) (qR m (zg y)).F s.2.2.1,s.2.2.2)
def QY(s:qH×List qj)(w:qF):qH×List qj:=(qR s.1 ⟨5,0,0,[],[]⟩,s.2++[⟨w,awI s.1.F⟩])
def zt(m:qH)(y:qD)(i:Nat):qH×List qj:=(y.W.take i).foldl QY (m,[])
section
variable {P Q:List qF} {O:Nat->Bool} {k j:Nat} {c c':qD} {m m':qH}
structure Tk(m m':qH)(k:Nat)(c:qD):Prop where
 fr:m.F=k
 lt:k<m.C.length
 at':m'.C=m.C.set k c
 old:∃d,m.C[k]?=some d/\d.K=0
 nf:c.K≠0->nF m'.C+1=nF m.C
 root:m'.O=m.O
 rx:m'.R=m.R
theorem Tk.len(t:Tk m m' k c):m'.C.length=m.C.length:=by rw[t.at',lLs]
theorem Tk.new(t:Tk m m' k c):m'.C[k]?=some c:=by rw[t.at'];exact gSs t.lt
theorem Tk.keep(t:Tk m m' k c){i:Nat}{e:qD}(h:m.C[i]?=some e)(hk:e.K≠0):m'.C[i]?=some e/\i≠k:=by
 obtain⟨d,d1,d2⟩:=t.old;have:i≠k:=by rintro rfl;rw[d1]at h;cases h;exact hk d2
 exact⟨by rw[t.at',zb this];exact h,this⟩
theorem wX(h:MM m P O)(hf:0<nF m.C):∃(k:Nat)(d:qD),m.F=(k:Int)/\m.C[k]?=some d/\d.K=0/\O k=false/\(∀c,qR m c={m with C:=m.C.set k c,F:=d.V}/\Tk m (qR m c) k c):=by
 obtain⟨k,d,e1,e2,e3,e4,_⟩:=MI.head h (MI.fr0 h hf);refine⟨k,d,e1,e2,e3,e4,λc=>?_⟩;have e:qR m c={m with C:=m.C.set k c,F:=d.V}:=by
  unfold qR;rw[e1,Jh e2,iTn]
 refine⟨e,e1,zH e2,by rw[e],⟨d,e2,e3⟩,λhc=>?_,by rw[e],by rw[e]⟩;have:=Zn (c':=c) e2;rw[iP e3,iN hc]at this;rw[e];exact this
theorem Qn(h:MM m P O)(hf:0<nF m.C)(hc:qt c.K=true):∃k,O k=false/\Tk m (qR m c) k c/\MM (qR m c) (aW k::P) (opO O k):=by
 obtain⟨k,d,e1,e2,e3,e4,e5⟩:=wX h hf;obtain⟨f1,f2⟩:=e5 c;refine⟨k,e4,f2, ?_⟩;have:=MI.takeA (c:=c) h e1 e2 hc;rw[f1];exact this
theorem YJ(h:MM m P O)(hf:0<nF m.C):∃k,O k=false/\Tk m (qR m (qd [])) k (qd [])/\MM (qR m (qd [])) (vW k::vW k::P) O:=by
 obtain⟨k,d,e1,e2,e3,e4,e5⟩:=wX h hf;obtain⟨f1,f2⟩:=e5 (qd []);refine⟨k,e4,f2, ?_⟩;have:=MI.takeV h e1 e2;rw[f1];exact this
theorem wB(hc:m.C[k]?=some c)(ws:List qF):qo m (k:Int) ws={m with C:=m.C.set k {c with W:=ws}}:=by
 unfold qo;rw[Jh hc,iTn]
theorem X3{ws:List qF}(h:MM m (ws++P) O)(hc:m.C[k]?=some c)(ho:O k=true)(hf:zr {c with W:=ws}):MM (qo m (k:Int) ws) P (clO O k)/\nF (qo m (k:Int) ws).C=nF m.C/\(qo m (k:Int) ws).C.length=m.C.length:=by
 rw[wB hc];have h1:=MI.wopen (c':={c with W:=ws}) h hc ho rfl;have h2:=MI.close (k:=k) (c:={c with W:=ws}) h1 (jV hc) ho hf;refine⟨h2, ?_,by simp⟩;have:=Zn (c':={c with W:=ws}) hc;simp only at this|-;omega
theorem qcN(h:O k=false):clO (opO O k) k=O:=by
 funext i;unfold clO opO;by_cases q:i=k
 ·subst q;simp[h]
 ·simp[q]
theorem YI(h:MM m (c.W++P) O)(hf:0<nF m.C)(hc:qt c.K=true)(hF:zr c):∃k,O k=false/\Tk m (qR m c) k c/\MM (qR m c) (aW k::P) O:=by
 obtain⟨k,h1,h2,h3⟩:=Qn h hf hc;refine⟨k,h1,h2, ?_⟩;have h4:MM (qR m c) (c.W++(aW k::P)) (opO O k):=MI.perm h3 (List.perm_middle.symm);have h5:=MI.close h4 h2.new (by simp[opO]) hF;rw[qcN h1]at h5;exact h5
theorem agf{c:qD}(h:qt c.K=true)(hf:zr c):qg (qX c)=true:=by
 rcases hf with⟨_,q⟩ | ⟨q,_⟩ | ⟨q,_⟩
 ·exact q
 ·rw[q]at h;cases h
 ·rw[q]at h;cases h
theorem qdM{c:qD}{ws:List qF}(h:qt c.K=true)(hf:zr c)(hl:ws.length=c.W.length):zr {c with W:=ws}:=by
 refine .inl ⟨h, ?_⟩;have:=agf h hf;unfold qX at this|-;simp only;rw[hl];exact this
theorem fanF{lev:Int}(h:inI lev 0 8=true){ws:List qF}(hl:ws.length=2):zr ⟨4,lev,0,[],ws⟩:=by
 refine .inl ⟨rfl, ?_⟩;simp[qX,qg,hl,jy,fieldsOf,zw,jQ,jB,h]
theorem eraF:zr ⟨5,0,0,[],[]⟩:=.inl ⟨rfl,by simp[qX,qg,jy,fieldsOf,zw,jQ,jB,JX,inI]⟩
theorem VI:∀{a b:List qj},lws (a++b)=lws a++lws b
 |[],b=>rfl
 | x::a,b=>by simp[lws,VI]
structure ZY(m0:qH)(y:qD)(P:List qF)(O:Nat->Bool)(ck dk:Nat)(s:qH×List qF×List qF×List qj)(i:Nat):Prop where
 mm:MM s.1 (s.2.1++s.2.2.1++lws s.2.2.2++y.W.drop i++P) (opO (opO O ck) dk)
 us:s.2.1.length=i
 vs:s.2.2.1.length=i
 c1:s.1.C[ck]?=some (zg y)
 c2:s.1.C[dk]?=some (zg y)
 nf:nF m0.C=nF s.1.C+2+3*i
 len:s.1.C.length=m0.C.length
theorem qlY{m0:qH}{y:qD}{lev:Int}{ck dk i:Nat}{s:qH×List qF×List qF×List qj}(hy:qt y.K=true)(hl:inI lev 0 8=true)(hne:ck≠dk)(h:ZY m0 y P O ck dk s i)(hi:i<y.W.length)(hf:2<nF s.1.C):ZY m0 y P O ck dk (QZ lev s y.W[i]) (i+1):=by
 obtain⟨mm,us,vs,c1,c2,nf,len⟩:=h;obtain⟨f,f1,f2,f3⟩:=Qn (c:=⟨4,lev,0,[],[]⟩) mm (by omega) rfl;have k4:(⟨4,lev,0,[],[]⟩:qD).K≠0:=by simp
 have n1:=f2.nf k4;obtain⟨u,u1,u2,u3⟩:=YJ f3 (by omega);have n2:=u2.nf (by decide);obtain⟨v,v1,v2,v3⟩:=YJ u3 (by omega);have n3:=v2.nf (by decide);have hk0:(zg y).K≠0:=by intro q;unfold zg at q;simp only at q;rw[q]at hy;cases hy
 have cf:(qR (qR (qR s.1 ⟨4,lev,0,[],[]⟩) (qd [])) (qd [])).C[f]?=some ⟨4,lev,0,[],[]⟩:=(v2.keep (u2.keep f2.new k4).1 k4).1;have k1:=(v2.keep (u2.keep (f2.keep c1 hk0).1 hk0).1 hk0).1;have k2:=(v2.keep (u2.keep (f2.keep c2 hk0).1 hk0).1 hk0).1;have g1:=(f2.keep c1 hk0).2;have g2:=(f2.keep c2 hk0).2;have hp:(vW v::vW v::vW u::vW u::aW f::(s.2.1++s.2.2.1++lws s.2.2.2++y.W.drop i++P)).Perm ([vW u,vW v]++((s.2.1++[vW u])++(s.2.2.1++[vW v])++(lws s.2.2.2++[y.W[i],aW f])++y.W.drop (i+1)++P)):=by
  rw[lDc hi];rw[List.perm_iff_count];intro a;simp only[List.count_append,List.count_cons,List.count_nil];omega
 have w1:=MI.perm v3 hp;have hof:opO (opO (opO O ck) dk) f f=true:=by simp[opO]
 obtain⟨p1,p2,p3⟩:=X3 (k:=f) (c:=⟨4,lev,0,[],[]⟩) w1 cf hof (fanF hl rfl);have hoo:clO (opO (opO (opO O ck) dk) f) f=opO (opO O ck) dk:=qcN f1;rw[hoo]at p1;have e1:s.1.F=(f:Int):=f2.fr;have e2:(qR s.1 ⟨4,lev,0,[],[]⟩).F=(u:Int):=u2.fr;have e3:(qR (qR s.1 ⟨4,lev,0,[],[]⟩) (qd [])).F=(v:Int):=v2.fr;have ef:QZ lev s y.W[i]=(qo (qR (qR (qR s.1 ⟨4,lev,0,[],[]⟩) (qd [])) (qd [])) (f:Int) [vW u,vW v],s.2.1++[vW u],s.2.2.1++[vW v],s.2.2.2++[⟨y.W[i],aW f⟩]):=by
  unfold QZ;simp only[e1,e2,e3];rfl
 rw[ef];refine⟨?_,by simp[us],by simp[vs], ?_, ?_,by simp only;rw[p2];omega,by simp only;rw[p3,v2.len,u2.len,f2.len,len]⟩
 ·simp only;rw[VI];exact p1
 ·simp only;rw[wB cf];simp only;rw[zb g1];exact k1
 ·simp only;rw[wB cf];simp only;rw[zb g2];exact k2
theorem qBA{x y:qD}(h:MM m (x.W++y.W++P) O)(hy:qt y.K=true)(hyF:zr y)(hx:x.W.length=2)(hl:inI x.L 0 8=true)(hf:2+3*y.W.length<=nF m.C):MM (wh m x y).1 (lws (wh m x y).2++P) O/\(wh m x y).1.C.length=m.C.length/\(∀i,i<=y.W.length->∃ck dk,ck≠dk/\m.F=(ck:Nat)/\(qR m (zg y)).F=(dk:Nat)/\ZY m y P O ck dk (zM m x y i) i):=by
 have hk:qt (zg y).K=true:=hy;have hk0:(zg y).K≠0:=by intro q;unfold zg at q;simp only at q;rw[q]at hy;cases hy
 obtain⟨x0,x1,ex⟩:∃a b,x.W=[a,b]:=by
  match h:x.W,hx with
  |[a,b],_=>exact⟨a,b,rfl⟩
 obtain⟨ck,a1,a2,a3⟩:=Qn (c:=zg y) h (by omega) hk;have n1:=a2.nf hk0;obtain⟨dk,b1,b2,b3⟩:=Qn (c:=zg y) a3 (by omega) hk;have n2:=b2.nf hk0;have hne:ck≠dk:=(b2.keep a2.new hk0).2;have I:∀i,i<=y.W.length->ZY m y P O ck dk (zM m x y i) i:=by
  intro i
  induction i with
  | zero=>
   intro _;have e0:zM m x y 0=(WR m y,[],[],[⟨x0,aW ck⟩,⟨x1,aW dk⟩]):=by
    unfold zM;rw[ex,a2.fr,b2.fr];rfl
   rw[e0];refine⟨?_,rfl,rfl,(b2.keep a2.new hk0).1,b2.new,by unfold WR;simp only;omega,by unfold WR;simp only;rw[b2.len,a2.len]⟩;refine MI.perm b3 ?_;rw[ex,List.perm_iff_count];intro a;simp only[List.count_append,List.count_cons,List.count_nil,lws,List.drop_zero];omega
  | succ i ih=>
   intro hi;have hI:=ih (by omega);have es:zM m x y (i+1)=QZ x.L (zM m x y i) (y.W[i]'(by omega)):=by
    unfold zM;rw[tA1,gEg (show i<y.W.length by omega),Option.toList_some,List.foldl_append];rfl
   rw[es];refine qlY hy hl hne hI (by omega) ?_;have:=hI.nf;omega
 refine⟨?_, ?_,λi hi=>⟨ck,dk,hne,a2.fr,b2.fr,I i hi⟩⟩
 all_goals
  obtain⟨mm,us,vs,c1,c2,nf,len⟩:=I y.W.length (nLr _);have ed:wh m x y=(qo (qo (zM m x y y.W.length).1 (ck:Int) (zM m x y y.W.length).2.1) (dk:Int) (zM m x y y.W.length).2.2.1,(zM m x y y.W.length).2.2.2):=by
   unfold wh;simp only[a2.fr,b2.fr]
  rw[ed];generalize zM m x y y.W.length=s at*;have hw1:MM s.1 (s.2.1++(s.2.2.1++(lws s.2.2.2++P))) (opO (opO O ck) dk):=by
   have:=mm;rw[List.drop_length,lAn,lAa,lAa]at this;exact this
  have hyW:(zg y)={y with W:=[]}:=rfl;obtain⟨p1,p2,p3⟩:=X3 (k:=ck) (c:=zg y) hw1 c1 (by simp[opO]) (qdM (c:=y) hy hyF us);have c2':(qo s.1 (ck:Int) s.2.1).C[dk]?=some (zg y):=by
   rw[wB c1];simp only;rw[zb (Ne.symm hne)];exact c2
  obtain⟨r1,r2,r3⟩:=X3 (k:=dk) (c:=zg y) p1 c2' (by simp[clO,opO];exact Ne.symm hne) (qdM (c:=y) hy hyF vs)
 ·have ho:clO (clO (opO (opO O ck) dk) ck) dk=O:=by
   have b1':opO O ck dk=false:=b1;funext i;unfold clO opO;unfold opO at b1';by_cases q:i=ck
   ·subst q;simp[a1,hne]
   ·by_cases q2:i=dk
    ·subst q2;simp at b1'|-;exact b1'.2
    ·simp[q,q2]
  rw[ho]at r1;exact r1
 ·simp only;rw[r3,p3,len]
theorem qBC{y:qD}(h:MM m (y.W++P) O)(hf:y.W.length<=nF m.C):∀i,i<=y.W.length->MM (zt m y i).1 (lws (zt m y i).2++y.W.drop i++P) O/\nF m.C=nF (zt m y i).1.C+i/\(zt m y i).1.C.length=m.C.length:=by
 intro i
 induction i with
 | zero=>intro _;exact⟨h,rfl,rfl⟩
 | succ i ih=>
  intro hi;obtain⟨g1,g2,g3⟩:=ih (by omega);have es:zt m y (i+1)=QY (zt m y i) (y.W[i]'(by omega)):=by
   unfold zt;rw[tA1,gEg (show i<y.W.length by omega),Option.toList_some,List.foldl_append];rfl
  obtain⟨k,k1,k2,k3⟩:=YI (c:=⟨5,0,0,[],[]⟩) (P:=lws (zt m y i).2++y.W.drop i++P) g1 (by omega) rfl eraF;have n1:=k2.nf (by decide);rw[es];unfold QY;simp only;refine⟨?_,by omega,by rw[k2.len,g3]⟩;refine MI.perm k3 ?_;rw[VI,lDc (show i<y.W.length by omega),List.perm_iff_count];intro a;have e:awI (zt m y i).1.F=aW k:=by rw[k2.fr];rfl
  rw[e];simp only[List.count_append,List.count_cons,List.count_nil,lws];omega
end
def fzp(n id:Nat)(o:Option qB)(st:VSt):VSt:=match o with
 | some (.row w [v] true)=>if w=0 then st else{s:=(n,.ept v 0)::st.s,l:=st.l,h:=st.h.set id .dead}
 | _=>st
def fzo(n:Nat)(v:Option AV)(st:VSt):VSt:=match v with
 | none=>st
 | some (.ept _ _)=>st
 | some (.lst _ _ _)=>st
 | some (.int _ _)=>st
 | some (.bool _)=>st
 | some .nils=>st
 | some (.agg _)=>st
 | some (.ptr id 0 0)=>fzp n id st.h[id]? st
 | _=>Qb n st
section
variable {n id:Nat} {s m:qq} {h:List qB} {v x:AV} {st:VSt}
@[go_sem] theorem qsU:Qb n ⟨s,m,h⟩=fzo n (get s n) ⟨s,m,h⟩:=by
 unfold fzo;split<;>rename_i e<;>try (simp only[Qb,e];done)
 ·simp only[Qb,e,fzp];split<;>rename_i e2<;>simp only[e2]
  ·split<;>split<;>first | rfl | omega
@[go_sem] theorem qs0:get [] n=none:=nr rfl
@[go_sem] theorem qsW:fzo n none st=st:=nr rfl
@[go_sem] theorem qsV{j:Nat}:fzo n (some (.ept v j)) st=st:=nr rfl
@[go_sem] theorem qsX:fzo n (some (.ptr id 0 0)) ⟨s,m,h⟩=fzp n id h[id]? ⟨s,m,h⟩:=nr rfl
@[go_sem] theorem qsY{w:Nat}:fzp n id (some (.row w [v] true)) ⟨s,m,h⟩=if w=0 then⟨s,m,h⟩else⟨(n,.ept v 0)::s,m,h.set id .dead⟩:=nr rfl
end
theorem c397{f:AV}(p:Int->Bool)(hft:f.tree=true)(xs:List Int)(hf:∀x∈xs,XH Gm f [qP x] (.bool (p x)))(hl:xs.length<=1048576):Pure Gm 397 [lQ xs,f] (.bool (xs.any p)):=
 WO shI (gc:=774) (gk _ F397) (gk _ F774) f p hft xs hf hl
theorem c859{f:AV}(p:qE->Bool)(hft:f.tree=true)(xs:List qE)(hf:∀x∈xs,XH Gm f [x.enc] (.bool (p x)))(hl:xs.length<=1048576):Pure Gm 859 [.lst 1 (xs.map qE.enc) false,f] (.bool (xs.any p)):=
 WO qE.isSh (gc:=1179) (gk _ F859) (gk _ qHE) f p hft xs hf hl
theorem c712{f:AV}(p:qM->Bool)(hft:f.tree=true)(xs:List qM)(hf:∀x∈xs,XH Gm f [x.enc] (.bool (p x)))(hl:xs.length<=1048576):Pure Gm 712 [.lst 2 (xs.map qM.enc) false,f] (.bool (xs.any p)):=
 WO qM.isSh (gc:=1098) (gk _ F712) (gk _ qE9) f p hft xs hf hl
theorem qAD{α:Type}(p:α->Bool)(xs:List α):(!xs.any λx=> !p x)=xs.all p:=by
 induction xs with
 | nil=>rfl
 | cons x xs ih=>simp only[List.any_cons,lAc,Bool.not_or,Bool.not_not,ih]
theorem qAN{k:Int}:Pure Gm 1487 [iI k] (.bool (JX k)):=by
 refine pJ Ke ?_;simp only[Ke,qN,go_sem]
 repeat' (first | (refine qW rfl ?_;simp only[go_sem]) | (first | (apply zA<;>intro hc<;>simp only[hc,go_sem]) | (apply qS<;>intro hc<;>simp only[hc,go_sem])) | refine qK rfl ?_)
 all_goals ((simp only[JX,inI,AV.bool.injEq];rw[Bool.eq_iff_iff];simp at*;try omega))
theorem qAK{k:Int}:Pure Gm 1375 [iI k] (.bool (jQ k)):=by
 refine pJ KG ?_;simp only[KG,qN,go_sem]
 repeat' (first | (refine qW rfl ?_;simp only[go_sem]) | (first | (apply zA<;>intro hc<;>simp only[hc,go_sem]) | (apply qS<;>intro hc<;>simp only[hc,go_sem])) | (refine qI (qAN) ?_;simp only[go_sem]) | refine qK rfl ?_)
 all_goals ((simp only[jQ,JX,inI,AV.bool.injEq]at*;rw[Bool.eq_iff_iff];simp at*;try omega))
theorem qb3{l:Int}:Pure Gm 1495 [iI l] (.bool (inI l 0 8)):=by
 refine pJ Kh ?_;simp only[Kh,qN,go_sem]
 repeat' (first | (refine qW rfl ?_;simp only[go_sem]) | (first | (apply zA<;>intro hc<;>simp only[hc,go_sem]) | (apply qS<;>intro hc<;>simp only[hc,go_sem])) | refine qK rfl ?_)
 all_goals ((simp only[inI,AV.bool.injEq];rw[Bool.eq_iff_iff];simp at*;try omega))
theorem qAM{k l:Int}:Pure Gm 1389 [iI k,iI l] (.bool (zw k l)):=by
 refine pJ KN ?_;simp only[KN,qN,go_sem]
 repeat' (first | (refine qW rfl ?_;simp only[go_sem]) | (first | (apply zA<;>intro hc<;>simp only[hc,go_sem]) | (apply qS<;>intro hc<;>simp only[hc,go_sem])) | (refine qI (qAN) ?_;simp only[go_sem]) | (refine qI (qAK) ?_;simp only[go_sem]) | (refine qI (qb3) ?_;simp only[go_sem]) | refine qK rfl ?_)
 all_goals ((unfold zw;split<;>(simp only[jQ,JX,inI,AV.bool.injEq]at* <;>(rw[Bool.eq_iff_iff];simp at* <;>try omega))))
theorem c796{n:Int}:Pure Gm 796 [iI n] (.bool (j5 n)):=by
 refine pJ kR ?_;simp only[kR,qN,go_sem]
 repeat' (first | (refine qW rfl ?_;simp only[go_sem]) | (first | (apply zA<;>intro hc<;>simp only[hc,go_sem]) | (apply qS<;>intro hc<;>simp only[hc,go_sem])) | refine qK rfl ?_)
 all_goals (simp_all[j5,inI]<;>omega)
theorem qi7{n:Int}:Pure Gm 1050 [iI n] (.bool (inI n 1 6)):=by
 refine pJ qxV ?_;simp only[qxV,qN,go_sem]
 repeat' (first | (refine qW rfl ?_;simp only[go_sem]) | (first | (apply zA<;>intro hc<;>simp only[hc,go_sem]) | (apply qS<;>intro hc<;>simp only[hc,go_sem])) | refine qK rfl ?_)
 all_goals ((simp only[inI,AV.bool.injEq];rw[Bool.eq_iff_iff];simp at*;try omega))
theorem qbR{n:Int}:Pure Gm 1051 [iI n] (.bool (inI n (-2147483648) 2147483647)):=by
 refine pJ UF ?_;simp only[UF,qN,go_sem]
 repeat' (first | (refine qW rfl ?_;simp only[go_sem]) | (first | (apply zA<;>intro hc<;>simp only[hc,go_sem]) | (apply qS<;>intro hc<;>simp only[hc,go_sem])) | refine qK rfl ?_)
 all_goals ((simp only[inI,AV.bool.injEq];rw[Bool.eq_iff_iff];simp at*;try omega))
theorem qj9{n:Int}:Pure Gm 1390 [iI n] (.bool (!j5 n)):=by
 refine pJ KO ?_;simp only[KO,qN,go_sem]
 repeat' (first | (refine qW rfl ?_;simp only[go_sem]) | (first | (apply zA<;>intro hc<;>simp only[hc,go_sem]) | (apply qS<;>intro hc<;>simp only[hc,go_sem])) | (refine qI (c796) ?_;simp only[go_sem]) | refine qK rfl ?_)
 all_goals (simp_all)
theorem qCM{E:Ev}{o:Option AV}{v:AV}{k:Nat}{l:List qA}{ks:List Fr1}{s m:qq}{h:List qB}{Q:qf->VSt->Prop}(ho:o=some v)(hr:R E (.ops l::ks) ⟨(k,v)::s,m,h⟩ Q):Put E o (some k) l ks ⟨s,m,h⟩ Q:=by
 subst ho;rw[qgJ];exact hr
theorem qj7{k:Int}{n:Nat}(hn:n<=1048576):Pure Gm 1388 [iI k,iI (n:Int)] (iI (if k=9 then(n:Int)-1 else 0)):=by
 refine pJ KM ?_;simp only[KM,qN,go_sem];apply qS<;>intro hc<;>simp only[hc,go_sem]
 ·rw[wsA];refine qK rfl ?_;simp_all
 ·refine qK rfl ?_;simp_all
theorem qj6{k f:Int}:Pure Gm 1387 [iI k,iI f] (iI (jy k f)):=by
 refine pJ KL ?_;simp only[KL,qN,go_sem]
 repeat' (first
  | (first | (refine zA ?_ ?_<;>intro hc<;>simp only[hc,go_sem]) | (refine qS ?_ ?_<;>intro hc<;>simp only[hc,go_sem]))
  | (refine qI qAN ?_;simp only[go_sem])
  | refine qK rfl ?_)
 all_goals simp only[Bool.not_eq_false',bNt,Bool.not_true,Bool.not_false,dTe,decide_eq_false_iff_not,JX,inI,bAt,Bool.and_eq_false_iff]at*
 case refine_2.refine_1.refine_1.refine_2=>
  subst hc;have:k=1\/k=2\/k=3\/k=4\/k=5\/k=6\/k=7\/k=8\/k=10\/k=11\/k=12:=by omega
  rcases this with rfl | rfl | rfl | rfl | rfl | rfl | rfl | rfl | rfl | rfl | rfl
  all_goals
   first | refine qCM (v:=iI 1) rfl ?_ | refine qCM (v:=iI 2) rfl ?_ | refine qCM (v:=iI 3) rfl ?_
   simp only[go_sem];refine qK rfl rfl
 all_goals try rw[wsA]
 all_goals (simp only[jy,inI,AV.int.injEq,true_and,bAt,dTe];repeat' split)
 all_goals try omega
set_option maxHeartbeats 2000000
theorem qj8{x:qC}(hn:x.P.length<=1048576):Pure Gm 1388 [iI x.K,iI (x.P.length:Int)] (iI (fieldsOf x)):=qj7 hn
theorem YY{x:qC}(h1:¬(x.P.length:Int)=0)(h2:jy x.K (fieldsOf x)=x.P.length)(h3:zw x.K x.L=true):qg x=jB x:=by
 have h:(0:Int)<x.P.length:=by omega
 unfold qg;rw[h2,h3];simp only[dEt h,decide_true,Bool.true_and]
theorem qbT{x:qC}(hd:x.D.length<=1048576)(hn:x.P.length<=1048576):Pure Gm 1097 [x.enc] (.bool (qg x)):=by
 refine pI UK (by simp[AV.trees,go_sem]) rfl ?_;simp only[UK,qN,go_sem]
 repeat' (first
  | (refine qW rfl ?_;simp only[go_sem])
  | (first | (refine zA ?_ ?_<;>intro hc<;>simp only[hc,go_sem]) | (refine qS ?_ ?_<;>intro hc<;>simp only[hc,go_sem]))
  | (refine qI (qj8 hn) ?_;simp only[go_sem])
  | (refine qI qj6 ?_;simp only[go_sem])
  | (refine qI qAM ?_;simp only[go_sem])
  | (refine qI (c397 (f:=.fn 1390 []) (λn=> !j5 n) rfl x.D (λ_ _=>⟨1390,[],rfl,qj9⟩) hd) ?_;simp only[qAD,go_sem])
  | (refine qI qi7 ?_;simp only[go_sem])
  | (refine qI qbR ?_;simp only[go_sem])
  | (refine qI c796 ?_;simp only[go_sem])
  | refine qK rfl ?_)
 case refine_1.refine_1.refine_2.refine_2.refine_2.refine_1.refine_1.refine_1=>
  obtain⟨d,hd1⟩:∃d,x.D=[d]:=List.length_eq_one_iff.1 (by have:=odT hc;omega);simp only[hd1,lMc,List.map_nil,qP,go_sem];simp only[oMs,go_sem];refine qI qbR ?_;simp only[go_sem];refine qK rfl ?_;simp only[Bool.not_eq_false',dTe,decide_eq_false_iff_not]at*;rw[YY (by assumption) (by assumption) (by assumption)];simp[jB, *]
 all_goals simp only[Bool.not_true,Bool.not_false,bNt,Bool.not_eq_false',dTe,decide_eq_false_iff_not]at*
 all_goals first
  | (rw[YY (by assumption) (by assumption) (by assumption)];simp only[AV.bool.injEq];rw[Bool.eq_iff_iff];simp[jB, *];done)
  | (rw[YY (by assumption) (by assumption) (by assumption)];simp only[AV.bool.injEq];rw[Bool.eq_iff_iff];simp[jB,inI, *];omega)
  | (rw[YY (by assumption) (by assumption) (by assumption)];simp only[AV.bool.injEq];rw[Bool.eq_iff_iff];simp[jB,inI, *];done)
  | (simp[qg, *];done)
  | (simp[qg, *];omega)
  | trace_state
theorem c711{xs:List qC}(hl:xs.length+qx qC.sz xs<=1048576):Pure Gm 711 [.lst 5 (xs.map qC.enc) false] (.bool (wL xs)):=by
 refine pI kK (by simp[AV.trees,AV.tree,qb qC.isSh.tree]) rfl ?_;simp only[kK,qN,go_sem];have fin (h1:1<=xs.length) (h2:xs.length<=600):wL xs=jf xs 0:=by
  unfold wL inI;rw[dEt (by omega),dEt (by omega)];rfl
 first | (apply zA<;>intro hc<;>simp only[hc,go_sem]) | (apply qS<;>intro hc<;>simp only[hc,go_sem])
 ·first | (apply zA<;>intro hc<;>simp only[hc,go_sem]) | (apply qS<;>intro hc<;>simp only[hc,go_sem])
  ·refine qK rfl ?_;simp only[AV.bool.injEq,wL,inI];simp at*;omega
  ·have h1:1<=xs.length:=by simp at*;omega
   have h2:xs.length<=600:=by simp at*;omega
   rw[fin h1 h2];refine Sem.loop (λi:Nat=>i<=xs.length/\jf xs 0=jf (xs.drop i) i) (λi=>(⟨[(13,.lst 5 (xs.map qC.enc) false),(14,iI (xs.length:Int)),(15,iI (i:Nat))],[],[]⟩:VSt)) (λi=>xs.length-i) 0 (by kernel_rfl) ⟨nZl _,by simp⟩ csA ?_;rintro i ⟨hi,hI⟩;simp only[go_sem];apply qS<;>intro hc<;>simp only[hc,go_sem]
   ·have hlt:i<xs.length:=by have:=odT hc;omega
    simp only[gMp,gEg hlt,oMs,go_sem];have hs:xs[i].D.length+xs[i].P.length<=qx qC.sz xs:=jg (f:=qC.sz) (gMm hlt);refine lsA ?_;simp only[go_sem];refine qI (qbT (by omega) (by omega)) ?_;simp only[go_sem]
    first | (apply zA<;>intro hc<;>simp only[hc,go_sem]) | (apply qS<;>intro hc<;>simp only[hc,go_sem])
    ·first | (apply zA<;>intro hc<;>simp only[hc,go_sem]) | (apply qS<;>intro hc<;>simp only[hc,go_sem])
     ·refine qK rfl ?_;rw[hI,JT hlt];simp_all[jf]
     ·simp only[wuA (n:=i)];refine qa (i+1) ⟨by omega, ?_⟩ (by omega) csA;rw[hI,JT hlt];simp_all[jf]
    ·refine qK rfl ?_;rw[hI,JT hlt];simp_all[jf]
   ·obtain rfl:i=xs.length:=by have:=odF hc;omega
    refine qK rfl ?_;rw[hI];simp[jf]
 ·refine qK rfl ?_;simp only[AV.bool.injEq,wL,inI];simp at*;omega
theorem Yg{n:qE}{a s:Nat}(ha:a<n.G.length)(hs:s<n.G[a].P.length):Pure Gm 555 [.ept n.enc 0,qM.enc ⟨(a:Int),(s:Int)⟩] (n.G[a].P[s].enc):=by
 refine pI kC (by simp[AV.trees,AV.tree,qE.tr,qM.tr]) (by exact qM.tr) ?_;simp only[kC,qN,go_sem];refine qW rfl ?_;simp only[go_sem];simp only[gMp,gEg ha,oMs,go_sem];simp only[gEg hs,oMs,go_sem];refine lsA ?_;simp only[go_sem];refine qK qM.tr ?_;rfl
theorem qf8{xs:List qC}{p:qM}(h:wV xs p=true):∃a s:Nat,p=⟨a,s⟩/\∃ha:a<xs.length,s<xs[a].P.length:=by
 simp only[wV,bAt]at h;have e1:=Jz.1 h.1;have e2:=Jz.1 h.2;have ha:p.N.toNat<xs.length:=by omega
 simp only[jE,gEg ha]at e2;refine⟨p.N.toNat,p.S.toNat, ?_,ha,by omega⟩;rw[Int.toNat_of_nonneg e1.1,Int.toNat_of_nonneg e2.1]
theorem c714{xs:List qC}{p:qM}:Pure Gm 714 [.lst 5 (xs.map qC.enc) false,p.enc] (.bool (wV xs p)):=by
 refine pI kM (by simp[AV.trees,AV.tree,qb qC.isSh.tree,qM.tr]) rfl ?_;simp only[kM,qN,go_sem];refine qW rfl ?_;simp only[go_sem];have big (h0:0<=p.N) (h1:p.N<xs.length):wV xs p=(decide (0<=p.S)&&decide (p.S<(jE xs p.N:Int))):=by
  simp only[wV,inI];rw[Bool.eq_iff_iff];simp;omega
 first | (apply zA<;>intro hc<;>simp only[hc,go_sem]) | (apply qS<;>intro hc<;>simp only[hc,go_sem])
 ·first | (apply zA<;>intro hc<;>simp only[hc,go_sem]) | (apply qS<;>intro hc<;>simp only[hc,go_sem])
  ·first | (apply zA<;>intro hc<;>simp only[hc,go_sem]) | (apply qS<;>intro hc<;>simp only[hc,go_sem])
   ·have h0:0<=p.N:=by simp at*;omega
    have h1:p.N<xs.length:=by simp at*;omega
    have hlt:p.N.toNat<xs.length:=by omega
    rw[Y7 h0];simp only[gMp,gEg hlt,oMs,go_sem];refine qK rfl ?_;rw[big h0 h1];simp_all[jE]
   ·refine qK rfl ?_;rw[big (by simp at*;omega) (by simp at*;omega)];simp_all
    try (intro h;omega)
  ·refine qK rfl ?_;simp only[wV,inI,AV.bool.injEq];simp at*;omega
 ·refine qK rfl ?_;simp only[wV,inI,AV.bool.injEq];simp at*;omega
theorem c713{n:qE}{a s:Nat}(ha:a<n.G.length)(hs:s<n.G[a].P.length):Pure Gm 713 [qM.enc ⟨(a:Int),(s:Int)⟩,.ept n.enc 0] (.bool (!wZ n.G ⟨(a:Int),(s:Int)⟩ n.G[a].P[s])):=by
 refine pI kL (by simp[AV.trees,AV.tree,qE.tr,qM.tr]) rfl ?_;simp only[kL,qN,go_sem];refine qW rfl ?_;simp only[go_sem];refine qI (Yg ha hs) ?_;simp only[go_sem];refine lsA ?_;simp only[go_sem];obtain⟨q,hq⟩:∃q,q=n.G[a].P[s]:=⟨_,rfl⟩;rw[<-hq]
 first | (apply zA<;>intro hc<;>simp only[hc,go_sem]) | (apply qS<;>intro hc<;>simp only[hc,go_sem])
 ·refine qI c714 ?_;simp only[go_sem]
  first | (apply zA<;>intro hc<;>simp only[hc,go_sem]) | (apply qS<;>intro hc<;>simp only[hc,go_sem])
  ·have hp:wV n.G q=true:=by simpa using hc
   obtain⟨a2,s2,rfl,ha2,hs2⟩:=qf8 hp;refine qI (Yg ha2 hs2) ?_;simp only[go_sem];refine qK rfl ?_;simp_all[wZ,Jn]
  ·refine qK rfl ?_;simp_all[wZ]
 ·refine qK rfl ?_;simp_all[wZ]
theorem qC5{α:Type}(f:α->Nat):∀(xs ys:List α),qx f (xs++ys)=qx f xs+qx f ys
 |[],ys=>by simp[qx]
 | x::xs,ys=>by simp only[lCa,qx,qC5 f xs ys];omega
theorem qC6{α:Type}(f:α->Nat)(xs:List α)(i:Nat):qx f (xs.take i)<=qx f xs:=by
 have:=qC5 f (xs.take i) (xs.drop i);rw[List.take_append_drop]at this;omega
def ze(i k:Nat):List qM:=(List.range k).map λs:Nat=>⟨(i:Int),(s:Int)⟩
theorem YF(i k:Nat):ze i (k+1)=ze i k++[⟨(i:Int),(k:Int)⟩]:=by simp[ze,List.range_succ]
def qv(xs:List qC):Nat->List qM
 | 0=>[]
 | i+1=>qv xs i++ze i (jE xs (i:Int))
theorem Zs(xs:List qC):∀i,i<=xs.length->(qv xs i).length<=qx qC.sz (xs.take i)
 | 0,_=>nZl _
 | i+1,h=>by
  have:=Zs xs i (by omega);have hi:i<xs.length:=by omega
  have e:xs.take (i+1)=xs.take i++[xs[i]]:=by simp[List.take_append_getElem]
  have e2:qx qC.sz (xs.take i++[xs[i]])=qx qC.sz (xs.take i)+qC.sz xs[i]:=by
   rw[qC5];rfl
  have e3:xs[i].P.length<=qC.sz xs[i]:=by unfold qC.sz;omega
  rw[e,e2];simp[qv,ze,jE,gEg hi];omega
theorem c554{n:qE}(hz:n.sz<=1048576):Pure Gm 554 [.ept n.enc 0] (.lst 2 ((qv n.G n.G.length).map qM.enc) false):=by
 refine pI kA (by simp[AV.trees,AV.tree,qE.tr]) (by simp[AV.tree,qb qM.isSh.tree]) ?_;simp only[kA,qN,go_sem];unfold qE.sz at hz;refine Sem.loop (λi:Nat=>i<=n.G.length) (λi=>(⟨[(10,.lst 5 (n.G.map qC.enc) false),(11,iI (n.G.length:Int)),(12,iI (i:Nat)),(3,.slice 2 0 0 (qv n.G i).length false)],[],[.row 2 ((qv n.G i).map qM.enc) true]⟩:VSt)) (λi=>n.G.length-i) 0 (by kernel_rfl) (nZl _) (Can.renum [none] rfl ⟨.ph,trivial⟩ ⟨⟨_,rfl,.tree (by simp[AV.tree,qb qC.isSh.tree])⟩,⟨_,rfl,.tree rfl⟩,⟨_,rfl,.tree rfl⟩,⟨_,rfl,.ph rfl⟩,trivial⟩ trivial) ?_;rintro i hi;simp only[go_sem];apply qS<;>intro hc<;>simp only[hc,go_sem]
 ·have hlt:i<n.G.length:=by have:=odT hc;omega
  simp only[gMp,gEg hlt,oMs,go_sem];refine lsA ?_;simp only[go_sem];have e0:qv n.G i++ze i 0=qv n.G i:=by simp[ze]
  have hpl:n.G[i].P.length<=qx qC.sz n.G:=by
   have h1:qC.sz n.G[i]<=qx qC.sz n.G:=jg (f:=qC.sz) (gMm hlt);have h2:n.G[i].P.length<=qC.sz n.G[i]:=by unfold qC.sz;omega
   omega
  have htl:=Zs n.G i (by omega);have htt:=qC6 qC.sz n.G i;refine Sem.loop (λk:Nat=>k<=n.G[i].P.length) (λk=>(⟨[(10,.lst 5 (n.G.map qC.enc) false),(11,iI (n.G.length:Int)),(12,iI (i:Nat)),(4,iI (i:Nat)),(19,iI (n.G[i].P.length:Int)),(20,iI (k:Nat)),(3,.slice 2 0 0 (qv n.G i++ze i k).length false)],[],[.row 2 ((qv n.G i++ze i k).map qM.enc) true]⟩:VSt)) (λk=>n.G[i].P.length-k) 0 (by kernel_rfl) (nZl _) (by simp only[e0];exact csA) ?_;rintro k hk;simp only[go_sem];apply qS<;>intro hc<;>simp only[hc,go_sem]
  ·have hkl:k<n.G[i].P.length:=by have:=odT hc;omega
   refine Za (el:=(qv n.G i++ze i k).map qM.enc) rfl rfl (by simp) (by simp[ze];omega) ?_;simp only[go_sem];simp only[wuA (n:=k)];refine qa (k+1) (by omega) (by omega) ?_;have e1:qv n.G i++ze i (k+1)=(qv n.G i++ze i k)++[⟨(i:Int),(k:Int)⟩]:=by rw[YF,lAa]
   simp only[e1,lAp,lCo,lNi,nZa];refine Can.renum [some 2] rfl ⟨.row rfl ?_,trivial⟩ ⟨⟨_,rfl,.tree (by simp[AV.tree,qb qC.isSh.tree])⟩,⟨_,rfl,.tree rfl⟩,⟨_,rfl,.tree rfl⟩,⟨_,rfl,.tree rfl⟩,⟨_,rfl,.tree rfl⟩,⟨_,rfl,.tree rfl⟩,⟨_,rfl,.slice rfl⟩,trivial⟩ trivial;have t:=qb qM.isSh.tree ((qv n.G i++ze i k)++[⟨(i:Int),(k:Int)⟩]);rw[lMa]at t;rw[show ((qv n.G i++ze i k)++[(⟨(i:Int),(k:Int)⟩:qM)]).map qM.enc=(qv n.G i++ze i k).map qM.enc++[(⟨(i:Int),(k:Int)⟩:qM)].map qM.enc from lMa];exact VR2s.trees t
  ·obtain rfl:k=n.G[i].P.length:=by have:=odF hc;omega
   simp only[wuA (n:=i)];refine qa (i+1) (by omega) (by omega) ?_;have e2:qv n.G (i+1)=qv n.G i++ze i n.G[i].P.length:=by simp[qv,jE,gEg hlt]
   rw[e2];exact csA
 ·obtain rfl:i=n.G.length:=by have:=odF hc;omega
  refine QC (Cv.row rfl (by simp) (qb qM.isSh.tree _) (by omega))
def qO(xs:List qC)(me:qM):qM:=(Jn xs me).getD ⟨0,0⟩
def Xx(xs:List qC)(me:qM):Bool:=wZ xs me (qO xs me)
theorem qnT{i k:Nat}{q:qM}:q∈ze i k↔∃s:Nat,s<k/\q=⟨i,s⟩:=by
 simp only[ze,List.mem_map,lMr];constructor
 ·rintro⟨s,h,rfl⟩;exact⟨s,h,rfl⟩
 ·rintro⟨s,h,rfl⟩;exact⟨s,h,rfl⟩
theorem VN{xs:List qC}{q:qM}:∀{m:Nat},m<=xs.length->(q∈qv xs m↔∃(i:Nat)(hi:i<xs.length),i<m/\∃s:Nat,s<xs[i].P.length/\q=⟨i,s⟩)
 | 0,_=>by simp[qv]
 | m+1,hm=>by
  have hml:m<xs.length:=by omega
  simp only[qv,jR,VN (xs:=xs) (q:=q) (m:=m) (by omega),qnT,jE,iTn,gEg hml];constructor
  ·rintro(⟨i,hi,h1,h2⟩ | h)
   ·exact⟨i,hi,by omega,h2⟩
   ·exact⟨m,hml,by omega,h⟩
  ·rintro⟨i,hi,h1,h2⟩;by_cases e:i=m
   ·subst e;exact .inr h2
   ·exact .inl ⟨i,hi,by omega,h2⟩
theorem qCF{xs:List qC}{a s:Nat}(ha:a<xs.length)(hs:s<xs[a].P.length):qO xs ⟨a,s⟩=xs[a].P[s]:=by
 simp[qO,Jn,gEg ha,gEg hs]
theorem qiB{xs:List qC}{i:Nat}:∀{qs:List qM}{j:Nat},(∀(m:Nat)(hm:m<qs.length),wZ xs ⟨i,(j+m:Nat)⟩ qs[m]=true)->wc xs i qs j=true
 |[],_,_=>rfl
 | q::qs,j,h=>by
  simp only[wc,bAt];refine⟨h 0 (by simp),qiB λm hm=>?_⟩;have:=h (m+1) (by simp;omega);rw[show j+(m+1)=j+1+m by omega]at this;simpa using this
theorem qfA{xs:List qC}:∀{l:List qC}{i:Nat},(∀(k:Nat)(hk:k<l.length),wc xs (i+k) l[k].P 0=true)->JD xs l i=true
 |[],_,_=>rfl
 | x::l,i,h=>by
  simp only[JD,bAt];refine⟨h 0 (by simp),qfA λk hk=>?_⟩;have:=h (k+1) (by simp;omega);rw[show i+(k+1)=i+1+k by omega]at this;simpa using this
theorem qo4(xs:List qC):((qv xs xs.length).all (Xx xs))=JD xs xs 0:=by
 rw[Bool.eq_iff_iff,lAt];constructor
 ·intro h;refine qfA λk hk=>qiB λm hm=>?_;have:=h ⟨k,m⟩ ((VN (nLr _)).2 ⟨k,hk,hk,m,hm,rfl⟩);rw[Xx,qCF hk hm]at this;simpa using this
 ·intro h q hq;obtain⟨i,hi,_,s,hs,rfl⟩:=(VN (nLr _)).1 hq;rw[Xx,qCF hi hs];have:=V6 (VQ h i hi) s hs;simpa using this
theorem c319{n:qE}(hz:n.sz<=1048576):Pure Gm 319 [n.enc] (.bool (zF n)):=by
 refine Pure.intro [1] [] (gk _ Kx) (by kernel_rfl) rfl (by simp[AV.trees,qE.tr]) rfl ?_;simp only[Kx,qN,go_sem];have hz':=hz;unfold qE.sz at hz;have hl:(qv n.G n.G.length).length<=1048576:=by
  have h1:=Zs n.G n.G.length (nLr _);have h2:=qC6 qC.sz n.G n.G.length;omega
 refine QD rfl ?_;simp only[go_sem,lNa,lSz];refine qI (c711 (by omega)) ?_;simp only[go_sem];apply qS<;>intro hc<;>simp only[hc,go_sem]
 ·refine qK rfl ?_;have:wL n.G=false:=by simpa using hc
  simp[zF,this]
 ·refine qI (c554 hz') ?_;simp only[go_sem];refine qI (c712 (f:=.fn 713 [.ept n.enc 0]) (λme=> !Xx n.G me) (by simp[AV.tree,AV.trees,qE.tr]) _ (λx hx=>?_) hl) ?_
  ·obtain⟨i,hi,_,s,hs,rfl⟩:=(VN (nLr _)).1 hx;refine⟨713,_,rfl, ?_⟩;have c:=c713 hi hs;rw[Xx,qCF hi hs];exact c
  ·simp only[qAD,go_sem];refine qK rfl ?_;have:wL n.G=true:=by simpa using hc
   rw[qo4];simp[zF,this]
theorem c860{n:qE}(hz:n.sz<=1048576):Pure Gm 860 [n.enc] (.bool (!zF n)):=by
 refine pI kZ (by simp[AV.trees,qE.tr]) rfl ?_;simp only[kZ,qN,go_sem];refine qW rfl ?_;simp only[go_sem];refine qI (c319 hz) ?_;simp only[go_sem];exact qK rfl rfl
theorem c505{xs:List qE}(hl:xs.length<=1048576)(hz:∀n∈xs,n.sz<=1048576):Pure Gm 505 [.lst 1 (xs.map qE.enc) false] (.bool (jH xs)):=by
 refine pI K4 (by simp[AV.trees,AV.tree,qb qE.isSh.tree]) rfl ?_;simp only[K4,qN,go_sem]
 first | (apply zA<;>intro hc<;>simp only[hc,go_sem]) | (apply qS<;>intro hc<;>simp only[hc,go_sem])
 ·refine qI (c859 (f:=.fn 860 []) (λn=> !zF n) rfl xs (λx hx=>⟨860,[],rfl,c860 (hz x hx)⟩) hl) ?_;simp only[qAD,go_sem];refine qK rfl ?_;simp only[jH,AV.bool.injEq];simp at*;omega
 ·refine qK rfl ?_;simp only[jH,AV.bool.injEq];simp at*;omega
abbrev Ags:=List qC
abbrev pt(a s:Nat):qM:=⟨(a:Int),(s:Int)⟩
theorem ZN{a s b t:Nat}:pt a s=pt b t↔a=b/\s=t:=by simp only[pt,qM.mk.injEq];omega
def atP(N:Ags)(a s:Nat):Option qM:=(N[a]?).bind λx=>x.P[s]?
theorem Ws{N:Ags}{a s:Nat}{q:qM}(h:atP N a s=some q):qO N (pt a s)=q:=by
 unfold qO Jn atP at*;simp only[pt,iTn];cases hx:N[a]? with
 | none=>simp[hx]at h
 | some x=>simp only[hx,oBs]at h;simp[h]
theorem qo0{N:Ags}{a s:Nat}:Jn N (pt a s)=atP N a s:=by
 unfold Jn atP;simp only[pt,iTn];cases N[a]?<;>rfl
def X0(k l v:Int)(d:List Int)(n:Nat):qC:=⟨k,l,v,d,List.replicate n ⟨0,0⟩⟩
def Has(N:Ags)(a s:Nat):Prop:=∃q,atP N a s=some q
theorem Qv{N:Ags}{a s:Nat}{q:qM}:atP N a s=some q↔∃x,N[a]?=some x/\x.P[s]?=some q:=by
 unfold atP;simp[Option.bind_eq_some_iff]
theorem ju{N:Ags}{a s:Nat}:Has N a s↔∃x,N[a]?=some x/\s<x.P.length:=by
 unfold Has;constructor
 ·rintro⟨q,h⟩;obtain⟨x,hx,hq⟩:=Qv.1 h;exact⟨x,hx,(gSi.1 hq).1⟩
 ·rintro⟨x,hx,hs⟩;exact⟨x.P[s],Qv.2 ⟨x,hx,gEg hs⟩⟩
def Q0(x:qC):Int×Int×Int×List Int×Nat:=(x.K,x.L,x.V,x.D,x.P.length)
def W(N:Ags)(X:Nat->Nat->Prop):Prop:=∀a s q,atP N a s=some q->¬X a s->∃b t,q=pt b t/\atP N b t=some (pt a s)/\¬X b t/\¬(b=a/\t=s)
theorem W.live{N:Ags}{X:Nat->Nat->Prop}(h:W N X){a s:Nat}(h1:Has N a s)(x1:¬X a s):∃c k,qO N (pt a s)=pt c k/\atP N a s=some (pt c k)/\Has N c k/\¬X c k/\atP N c k=some (pt a s)/\¬(c=a/\k=s):=by
 obtain⟨q,hq⟩:=h1;obtain⟨b,t,rfl,e2,e3,e4⟩:=h a s q hq x1;exact⟨b,t,Ws hq,hq,⟨_,e2⟩,e3,e2,e4⟩
theorem qiY{N:Ags}{a s:Nat}{q:qM}(h:atP N a s=some q):a<N.length:=by
 obtain⟨x,hx,_⟩:=Qv.1 h;exact(gSi.1 hx).1
theorem qi4{E:Ev}{d:Option Nat}{w:Nat}{z v:AV}{l:List qA}{ks:List Fr1}{s m:qq}{h:List qB}{e:Env}{Q:qf->VSt->Prop}(hl:v.cells.length=w)(hr:JQ E d (.row w [v] true) (sQ w h.length 1) l ks ⟨s,m,h⟩ Q):Bsl E d w 1 (fil e w (List.replicate 1 z) 0 (some v) []) l ks ⟨s,m,h⟩ Q:=by
 rw[show fil e w (List.replicate 1 z) 0 (some v) []=some [v] by simp[fil,z9,hl,List.replicate],qi5];exact hr
end Go.Ab
