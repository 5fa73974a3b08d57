/- Texts Dbg27 .. Mw3: the abstract machine, its laws and contracts of functions: lemmas for the statement. No condition. -/
import Derived.Test.YtdngnogbocljeaaGreatP7
set_option linter.unusedSimpArgs false
set_option linter.unusedVariables false
namespace Go.Ab
open Go
set_option maxRecDepth 10000
set_option maxHeartbeats 2000000
theorem qeZ{E:Ev}{d w:Nat}{z:AV}{k k':IntKind}{n m:Nat}{l:List qA}{ks:List Fr1}{s lo:qq}{h:List qB}{Q:qf->VSt->Prop}(hnm:n<=m)(hm:m<=4294967296)
  (hr:JQ E (some d) (.row w (List.replicate n z) true) (sQ w h.length n) l ks ⟨s,lo,h⟩ Q):Mks E (some d) w z (some (.int k (n:Nat))) (some (.int k' (m:Nat))) l ks ⟨s,lo,h⟩ Q:=by
 unfold Mks;refine⟨by omega,by omega,by simp only[LIM];omega, ?_⟩;simpa only [iTn]using hr
theorem flat{α:Type}{enc:α->AV}(h:∀x n,lay (enc x) n=(enc x,[])):∀(xs:List α)(n:Nat),qT (xs.map enc) n=(xs.map enc,[])
 |[],_=>rfl
 | x::xs,n=>by simp only[lMc,qT,h,lNi,nAz,flat h xs,lNa]
theorem qM.flat(xs:List qM)(n:Nat):qT (xs.map qM.enc) n=(xs.map qM.enc,[]):=Go.Ab.flat (λx n=>qM.layE x n) xs n
theorem zD.flat(xs:List zD)(n:Nat):qT (xs.map zD.enc) n=(xs.map zD.enc,[]):=Go.Ab.flat (λx n=>zD.layE x n) xs n
theorem zS.flat(xs:List zS)(n:Nat):qT (xs.map zS.enc) n=(xs.map zS.enc,[]):=Go.Ab.flat (λx n=>zS.layE x n) xs n
theorem VO(xs:List Int)(hz:xs.length<=4194304):Fresh Gm 401 [lQ xs] (lQ xs):=
 Yn (w:=1) (gk _ F401) (lI xs) (jb (λ_=>rfl) xs) (qb shI.tree xs) (by simpa using hz)
theorem qn2(xs:List qM)(hz:xs.length<=4194304):Fresh Gm 1373 [.lst 2 (xs.map qM.enc) false] (.lst 2 (xs.map qM.enc) false):=
 Yn (w:=2) (gk _ qOR) (qM.flat xs) (jb qM.plx xs) (qb qM.isSh.tree xs) (by simpa using hz)
theorem qn0(x:qC)(hz:x.sz<=1048576):Fresh Gm 1085 [x.enc] x.enc:=by
 unfold qC.sz at hz;refine fI UI (by simp[AV.trees,go_sem]) (qC.plx x) ?_;simp only[UI,qN,go_sem];refine qW rfl ?_;simp only[qC.enc];simp only[go_sem];refine Ju (VO x.Data (by omega)) ?_;simp only[go_sem,qeJ];refine Ju (qn2 x.Ports (by omega)) ?_;simp only[go_sem,qeJ];refine qU rfl rfl ⟨_,rfl⟩ (by decide) ?_;simp only[go_sem];exact Xe (pre:=[]) (post:=[]) (t:=x.enc) (qC.plx x) (by simp[ja,qC.layE,jW]) (by simp[qC.layE,jW])
theorem n798(n:qE)(hz:n.sz<=1048576):Fresh Gm 798 [n.enc] n.enc:=by
 unfold qE.sz at hz;refine fI kS (by simp[AV.trees,go_sem]) (qE.plx n) ?_;simp only[kS,qN,go_sem];refine qW rfl ?_;simp only[go_sem];refine qeZ (n:=0) (by omega) (by omega) ?_;simp only[go_sem];refine Sem.loop (λi:Nat=>i<=n.Agents.length) (λi=>(⟨[(14,iI (i:Nat)),(13,iI (n.Agents.length:Nat)),(12,.lst 5 (n.Agents.map qC.enc) false)],[(3,.agg [sQ 5 0 i]),(2,.agg [.nils])],.row 5 (qT ((n.Agents.take i).map qC.enc) 1).1 true::(qT ((n.Agents.take i).map qC.enc) 1).2⟩:VSt)) (λi=>n.Agents.length-i) 0 (by kernel_rfl) (nZl _) csA ?_;rintro i hi;simp only[go_sem];apply qS<;>intro hc<;>simp only[hc,go_sem]
 ·have hlt:i<n.Agents.length:=by have:=odT hc;omega
  have hsz:qC.sz n.Agents[i]<=qx qC.sz n.Agents:=jg (f:=qC.sz) (gMm hlt);simp only[gMp,gEg hlt,oMs,go_sem];refine qU (k:=5) (by rfl) (by rfl) (by exact⟨_,rfl⟩) (by decide) ?_;simp only[go_sem];refine Ju (qn0 n.Agents[i] (by omega)) ?_;simp only[go_sem];refine qi4 (by rw[qnB (qC.plx _)];rfl) ?_;simp only[go_sem];have hA:(qT ((n.Agents.take i).map qC.enc) 1).1.length=i:=by rw[Jk];simp;omega
  refine Za (len:=i) (el:=(qT ((n.Agents.take i).map qC.enc) 1).1) qm4 rfl hA (by omega) ?_;simp only[go_sem];simp only[wuA (n:=i)];refine qa (i+1) (by omega) (by omega) ?_;have e:(n.Agents.take (i+1)).map qC.enc=(n.Agents.take i).map qC.enc++[qC.enc n.Agents[i]]:=by
   rw[lTs hlt,lMa];rfl
  refine Can.push (w:=5) (ps:=[]) (A:=(n.Agents.take i).map qC.enc) (t:=n.Agents[i].enc) (b:=0) rfl (jb qC.plx _) (qC.plx _) rfl rfl ?_ ?_
   ⟨⟨_,rfl,.tree rfl⟩,⟨_,rfl,.tree rfl⟩,⟨_,rfl,.tree (by simp[AV.tree,qb qC.isSh.tree])⟩,trivial⟩ ⟨⟨_,rfl,.agg rfl (VR2s.cons (.slice (qpS.trans ?_)) VR2s.nil).2⟩,⟨_,rfl,.tree rfl⟩,trivial⟩
  ·simp only[qT,wk,lCa,lNa,lSz,lAa,nZa,Nat.add_comm 1]
  ·rw[e];simp only[qT,lNa,nZa]
  ·simp only[lAp,lCo,lNi,wk,jW];congr 2;omega
 ·obtain rfl:i=n.Agents.length:=by have:=odF hc;omega
  simp only[lTl];exact Xe (t:=n.enc) (pre:=[]) (post:=[]) (qE.plx n) (by simp[ja,qE.layE]) (by simp[qE.layE,lay])
theorem Xz(xs:List Int)(hz:xs.length<=4194304):Fresh Gm 402 [lQ xs] (lQ xs):=by
 refine fI K0 (by simp[AV.trees,AV.tree,qb shI.tree]) (jb (λ_=>rfl) xs) ?_;simp only[K0,qN,go_sem];refine Qu Els.lst (by simp;omega) ?_;simp only[go_sem];exact Xe (t:=lQ xs) (pre:=[]) (post:=[]) (jb (λ_=>rfl) xs) (by simp[ja,lay]) (by simp[lay,lI])
theorem qp{α:Type}{xs:List α}{i:Nat}{x:α}(h:xs[i]?=some x):i<xs.length:=(gSi.1 h).1
def pv(x:qC)(p:Nat):AV:=if x.Ports.length=0 then .lst 2 [] false else sQ 2 p x.Ports.length
section
variable {x:qC} {p:Nat}
end
section
variable {w:Nat} {post:List AV} {base:Nat->Prop} {nid aid:Nat} {ps:List Nat} {h h':List qB} {N:Ags}
end
section
variable {w:Nat} {post:List AV} {base:Nat->Prop} {nid:Nat} {h:List qB} {N:Ags} {K:AV->List qB->Prop} {a s c k:Nat}
theorem qmR{len id a:Nat}(h:a<len):idx 5 (some (sQ 5 id len)) (some (iI (a:Int)))=some (.ptr id a 0):=by rw[qY h,nZa]
end
section
variable {w:Nat} {post:List AV} {base:Nat->Prop} {nid:Nat} {h:List qB} {N:Ags} {K:AV->List qB->Prop} {a s c k:Nat}
end
section
variable {w:Nat} {post:List AV} {base:Nat->Prop} {nid aid:Nat} {ps:List Nat} {h:List qB} {N:Ags} {K:AV->List qB->Prop} {a s c k:Nat}
end
def hiI(xs:Ags):Int:=xs.foldl (λm x=>if x.Level<m then m else x.Level) 0
theorem qmP{xs:Ags}{i:Nat}(h:i<xs.length):hiI (xs.take (i+1))=if xs[i].Level<hiI (xs.take i)then hiI (xs.take i)else xs[i].Level:=by
 unfold hiI;rw[lTs h,List.foldl_append];rfl
def qdX(c p:Int):Int×Int:=
 if c=1\/c=2 then(if inI p 0 0 then(-2,0)else(0,2))else if c=3 then(if inI p 0 3 then(p,0)else(0,2))else if c=4 then(if inI p 0 3 then(p-2,0)else(0,2))
 else if c=5 then(if inI p 0 0 then(-1,0)else(0,2))else if c=6 then(if inI p 0 3 then(p-1,0)else(0,2))else if c=7 then(if inI p 2 600 then(p-2,0)else(0,2))else(0,2)
def qr(bk:List qE)(v:Int):qE:=(bk[v.toNat]?).getD ⟨[]⟩
def qdY(bk:List qE)(x y:qC)(c:Int):Int:=if c=3\/c=4 then(y.Ports.length:Int)-1 else if c=6 then fieldsOf x else if c=7 then((qr bk x.Value).Agents.length:Int)else 0
def Jj(bk:List qE)(x y:qC):Int×Int:=
 if za x y=8 then(0,11)else if za x y=7/\(bk.length:Int)<=x.Value then(0,3)else if za x y=7/\8<IntKind.i64.wrap (hiI (qr bk x.Value).Agents+x.Level)then(0,9)
 else((qdX (za x y) (qdY bk x y (za x y))).1,0)
theorem Yi{a b:Int}:Pure Gm 856 [iI a,iI b] (iI (if b<a then a else b)):=by
 refine pJ kW ?_;simp only[kW,qN,go_sem]
 repeat' (first | (refine qW rfl ?_;simp only[go_sem]) | (first | (apply zA<;>intro hc<;>simp only[hc,go_sem]) | (apply qS<;>intro hc<;>simp only[hc,go_sem])) | refine qK rfl ?_ | refine zW (by rfl) ?_)
 all_goals (simp_all<;>omega)
theorem qjG{n:qE}(hz:n.sz<=1048576):Pure Gm 1177 [.ept n.enc 0] (iI (hiI n.Agents)):=by
 refine pJ UT ?_;simp only[UT,qN,go_sem];unfold qE.sz at hz;refine Sem.loop (λi:Nat=>i<=n.Agents.length/\True) (λi=>(⟨[(0,.ept n.enc 0),(3,iI (hiI (n.Agents.take i))),(4,iI (i:Nat))],[],[]⟩:VSt)) (λi=>n.Agents.length-i) 0 (by kernel_rfl) ⟨nZl _,by trivial⟩ (Can.sub (by simp[go_sem,hiI]) (by simp[go_sem])) ?_;rintro i ⟨hi,hI⟩;simp only[go_sem];apply qS<;>intro hc<;>simp only[hc,go_sem]
 ·have hlt:i<n.Agents.length:=by have:=odT hc;omega
  simp only[gMp,gEg hlt,oMs,go_sem];refine qI Yi ?_;simp only[go_sem];rw[<-qmP hlt];simp only[wuA (n:=i)];refine qa (i+1) ⟨by omega, ?_⟩ (by omega) csA;trivial
 ·obtain rfl:i=n.Agents.length:=by have:=odF hc;omega
  exact qK rfl (by rw[lTl])
def QO(lev base:Int)(x:qC):qC:={x with Level:=if jQ x.Kind then x.Level+lev else x.Level,Ports:=x.Ports.map λp=>⟨p.Agent+base,p.Slot⟩}
section
variable {N:Ags} {a b c d:Nat} {x y:qC} {lab lev:Int} {X:Nat->Nat->Prop}
end
section
variable {N:Ags} {a b c d f s n:Nat} {x y:qC} {lab lev:Int} {X:Nat->Nat->Prop}
structure Pr(N:Ags)(a b:Nat)(x y:qC)(X:Nat->Nat->Prop):Prop where
 w:W N X
 x:N[a]?=some x
 y:N[b]?=some y
 ne:a≠b
 l:∀p q,X p q->(p=a\/p=b)->q=0
theorem Has.in(h:Has N a s)(hx:N[a]?=some x):s<x.Ports.length:=by
 obtain⟨z,hz,hs⟩:=ju.1 h;rw[hx]at hz;cases hz;exact hs
structure Act(R:Nat->Bool)(N:Ags)(a b:Nat)(x y:qC):Prop where
 w:W N λu _=>R u=true
 x:N[a]?=some x
 y:N[b]?=some y
 ne:a≠b
 pa:atP N a 0=some (pt b 0)
 pb:atP N b 0=some (pt a 0)
 ra:R a=false
 rb:R b=false
 rl:∀u,R u=true->u<N.length
variable {R:Nat->Bool}
end
section
variable {N:Ags} {a b c d f s n:Nat} {x y:qC} {lab lev v:Int} {X:Nat->Nat->Prop} {R:Nat->Bool}
end
theorem qa8:∀{l:List qC}{i:Nat},jf l i=true->∀(k:Nat)(hk:k<l.length),(l[k].Kind=1↔i+k=0)
 |[],_,_,k,hk=>by simp at hk
 | y::l,i,h,k,hk=>by
  simp only[jf,bAt]at h;cases k with
  | zero=>have:=h.1.2;simp at this|-;simp[this]
  | succ k=>
   have:=qa8 h.2 k (by simpa using hk);simp only[List.getElem_cons_succ,this];omega
theorem qiP{x:qC}(h:qg x=true):x.Kind≠0:=by
 intro e;simp only[qg,bAt]at h;have h1:=h.1.1.1;rw[e]at h1;simp[jy]at h1
theorem Qi{n:qE}(h:zF n=true):jf n.Agents 0=true:=by
 simp only[zF,wL,bAt]at h;exact h.1.2
theorem J4{x:qC}(h:qg x=true):zw x.Kind x.Level=true:=by
 simp only[qg,bAt]at h;exact h.1.2
theorem qgY{a b c d:Int}(h:zN a b c d=6):(a=6/\c=11)\/(a=9/\c=10):=by
 simp only[zN]at h;repeat' (split at h<;>try omega)
theorem qfX{a b c d:Int}:wH a b c d=wH c d a b:=by
 simp only[wH];cases zw a b<;>cases zw c d<;>cases decide (a=1)<;>cases decide (c=1)<;>rfl
theorem qgX{a b c d:Int}:zN a b c d≠8:=by
 simp only[zN];repeat' (split<;>try omega)
theorem qcM{x y:qC}(_hx:qg x=true)(_hy:qg y=true)(h:zu x.Kind x.Level y.Kind y.Level=2):
  za y x=if x.Kind=10/\y.Kind=9/\(x.Data.length:Int)<=y.Value then 8 else jL x.Kind x.Level y.Kind y.Level:=by
 have hp:wH x.Kind x.Level y.Kind y.Level=true:=by
  simp only[zu]at h;split at h
  ·assumption
  ·omega
 simp only[zu,hp,if_true]at h;have h1:zN x.Kind x.Level y.Kind y.Level=0:=by
  rcases Decidable.em (zN x.Kind x.Level y.Kind y.Level=0)with q | q
  ·exact q
  ·rw[if_pos q]at h;omega
 have h2:zN y.Kind y.Level x.Kind x.Level≠0:=by
  intro q;simp only[h1,q]at h;simp at h
 have e:jL y.Kind y.Level x.Kind x.Level=jL x.Kind x.Level y.Kind y.Level:=by
  simp only[jL,qfX (a:=y.Kind),hp,h1,if_true,if_pos h2];simp[]
 simp only[za,e];have n1:¬(y.Kind=10/\x.Kind=9):=by
  rintro⟨a,b⟩;have:zN x.Kind x.Level y.Kind y.Level=6:=by simp[zN,a,b]
  omega
 by_cases q:y.Kind=9/\x.Kind=10/\(x.Data.length:Int)<=y.Value
 ·rw[if_pos q,if_pos ⟨q.2.1,q.1,q.2.2⟩]
 ·rw[if_neg q,if_neg (by rintro⟨a,b,c⟩;exact n1 ⟨a,b⟩),if_neg (by rintro⟨a,b,c⟩;exact q ⟨b,a,c⟩)]
theorem qcL{x y:qC}(hx:qg x=true)(hy:qg y=true)(h:zu x.Kind x.Level y.Kind y.Level≠2):
  za x y=if x.Kind=9/\y.Kind=10/\(y.Data.length:Int)<=x.Value then 8 else jL x.Kind x.Level y.Kind y.Level:=by
 simp only[za];have n1:¬(x.Kind=10/\y.Kind=9):=by
  rintro⟨a,b⟩;apply h;have hp:wH x.Kind x.Level y.Kind y.Level=true:=by
   have q1:=J4 hx;have q2:=J4 hy;rw[a]at q1;rw[b]at q2;simp only[wH,a,b,q1,q2];decide
  have r1:zN x.Kind x.Level y.Kind y.Level=0:=by simp[zN,a]
  have r2:zN y.Kind y.Level x.Kind x.Level=6:=by simp[zN,a,b]
  simp[zu,hp,r1,r2]
 by_cases q:x.Kind=9/\y.Kind=10/\(y.Data.length:Int)<=x.Value
 ·rw[if_pos q,if_pos q]
 ·rw[if_neg q,if_neg q,if_neg (by rintro⟨a,b,c⟩;exact n1 ⟨a,b⟩)]
theorem qcK{x y:qC}(h:jL x.Kind x.Level y.Kind y.Level=6):zu x.Kind x.Level y.Kind y.Level=1/\zN x.Kind x.Level y.Kind y.Level=6\/zu x.Kind x.Level y.Kind y.Level=2/\zN y.Kind y.Level x.Kind x.Level=6:=by
 simp only[jL,zu]at h|-
 repeat' (split at h)
 all_goals simp_all
theorem qfD{x y:qC}(hx:qg x=true)(hy:qg y=true)(a:x.Kind=9)(b:y.Kind=10):jL x.Kind x.Level y.Kind y.Level=6/\zu x.Kind x.Level y.Kind y.Level=1:=by
 have hp:wH x.Kind x.Level y.Kind y.Level=true:=by
  have q1:=J4 hx;have q2:=J4 hy;rw[a]at q1;rw[b]at q2;simp only[wH,a,b,q1,q2];decide
 have r1:zN x.Kind x.Level y.Kind y.Level=6:=by simp[zN,a,b]
 simp[jL,zu,hp,r1]
theorem qq3{x y:qC}(hx:qg x=true)(hy:qg y=true)(a:x.Kind=10)(b:y.Kind=9):jL x.Kind x.Level y.Kind y.Level=6/\zu x.Kind x.Level y.Kind y.Level=2:=by
 have hp:wH x.Kind x.Level y.Kind y.Level=true:=by
  have q1:=J4 hx;have q2:=J4 hy;rw[a]at q1;rw[b]at q2;simp only[wH,a,b,q1,q2];decide
 have r1:zN x.Kind x.Level y.Kind y.Level=0:=by simp[zN,a]
 have r2:zN y.Kind y.Level x.Kind x.Level=6:=by simp[zN,a,b]
 simp[jL,zu,hp,r1,r2]
def wn(x y:qC):Int:=if jT x y then za y x else za x y
theorem qoP{x y:qC}(hx:qg x=true)(hy:qg y=true):
  wn x y=if jL x.Kind x.Level y.Kind y.Level=6/\(if jT x y then x.Kind=10/\(x.Data.length:Int)<=y.Value else y.Kind=10/\(y.Data.length:Int)<=x.Value)then 8 else jL x.Kind x.Level y.Kind y.Level:=by
 by_cases h:zu x.Kind x.Level y.Kind y.Level=2
 ·have hs:jT x y=true:=by simp[jT,h]
  simp only[wn,hs,if_true,qcM hx hy h];by_cases q:x.Kind=10/\y.Kind=9/\(x.Data.length:Int)<=y.Value
  ·rw[if_pos q,if_pos ⟨(qq3 hx hy q.1 q.2.1).1,q.1,q.2.2⟩]
  ·rw[if_neg q];by_cases q2:jL x.Kind x.Level y.Kind y.Level=6/\x.Kind=10/\(x.Data.length:Int)<=y.Value
   ·exfalso;rcases qcK q2.1 with⟨a,_⟩ | ⟨_,a⟩
    ·omega
    ·rcases qgY a with⟨_,a⟩ | ⟨a,_⟩
     ·omega
     ·exact q ⟨q2.2.1,a,q2.2.2⟩
   ·rw[if_neg q2]
 ·have hs:jT x y=false:=by simp[jT,h]
  simp only[wn,hs,bFt,if_false,qcL hx hy h];by_cases q:x.Kind=9/\y.Kind=10/\(y.Data.length:Int)<=x.Value
  ·rw[if_pos q,if_pos ⟨(qfD hx hy q.1 q.2.1).1,q.2.1,q.2.2⟩]
  ·rw[if_neg q];by_cases q2:jL x.Kind x.Level y.Kind y.Level=6/\y.Kind=10/\(y.Data.length:Int)<=x.Value
   ·exfalso;rcases qcK q2.1 with⟨_,a⟩ | ⟨a,_⟩
    ·rcases qgY a with⟨_,a⟩ | ⟨a,_⟩
     ·omega
     ·exact q ⟨a,q2.2.1,q2.2.2⟩
    ·omega
   ·rw[if_neg q2]
theorem qkH{k:Int}:Pure Gm 1502 [iI k] (.bool (WZ k)):=by
 refine pJ Kl ?_;simp only[Kl,qN,go_sem]
 repeat' (first | (refine qW rfl ?_;simp only[go_sem]) | (first | (apply zA<;>intro hc<;>simp only[hc,go_sem]) | (apply qS<;>intro hc<;>simp only[hc,go_sem])) | refine qK rfl ?_)
 all_goals (simp_all[WZ])
theorem qkG{l k m:Int}:Pure Gm 1501 [iI l,iI k,iI m] (.bool (Xa l k m)):=by
 refine pJ Kk ?_;simp only[Kk,qN,go_sem]
 repeat' (first | (refine qW rfl ?_;simp only[go_sem]) | (first | (apply zA<;>intro hc<;>simp only[hc,go_sem]) | (apply qS<;>intro hc<;>simp only[hc,go_sem])) | (refine qI (qb3) ?_;simp only[go_sem]) | (refine qI (qAM) ?_;simp only[go_sem]) | (refine qI (qAK) ?_;simp only[go_sem]) | refine qK rfl ?_)
 all_goals (simp_all[Xa])
theorem qkA{ka la kb lb:Int}:Pure Gm 1398 [iI ka,iI la,iI kb,iI lb] (iI (zN ka la kb lb)):=by
 refine pJ KR ?_;simp only[KR,qN,go_sem]
 repeat' (first | (refine qW rfl ?_;simp only[go_sem]) | (first | (apply zA<;>intro hc<;>simp only[hc,go_sem]) | (apply qS<;>intro hc<;>simp only[hc,go_sem])) | (refine qI (qkG) ?_;simp only[go_sem]) | (refine qI (qkH) ?_;simp only[go_sem]) | refine qK rfl ?_)
 all_goals (simp_all[zN])
theorem qjC{ka la kb lb:Int}:Pure Gm 1115 [iI ka,iI la,iI kb,iI lb] (.tup [iI (jL ka la kb lb),iI (zu ka la kb lb)]):=by
 refine pJ UN ?_;simp only[UN,qN,go_sem]
 repeat' (first | (first | (apply zA<;>intro hc<;>simp only[hc,go_sem]) | (apply qS<;>intro hc<;>simp only[hc,go_sem])) | (refine qI qAM ?_;simp only[go_sem]) | (refine qI qkA ?_;simp only[go_sem]) | refine zW rfl ?_)
 all_goals (try simp only[bNt,Bool.not_eq_false',dTe,decide_eq_false_iff_not,Bool.not_false]at*)
 all_goals (simp[jL,zu,wH, *])
theorem qB2{n:qE}(h:zF n=true)(k:Nat)(hk:k<n.Agents.length):(n.Agents[k].Kind=1↔k=0):=by
 have:=qa8 (Qi h) k hk;rw[this];omega
theorem qe9{n:qE}(h:zF n=true)(k:Nat)(hk:k<n.Agents.length):n.Agents[k].Kind≠0:=
 qiP (J9 (Qi h) _ (gMm hk))
theorem ZI{n:qE}(h:zF n=true):0<n.Agents.length:=by
 simp only[zF,wL,bAt]at h;have:=Jz.1 h.1.1;omega
theorem c376{n:qE}(hz:n.sz<=1048576)(ok:zF n=true):Pure Gm 376 [.ept n.enc 0] (.lst 2 ((VP n).map qL.enc) false):=by
 refine pI Kz (by simp[AV.trees,AV.tree,go_sem]) (by simp[AV.tree,qb qL.isSh.tree]) ?_;simp only[Kz,qN,go_sem];unfold qE.sz at hz;have hnp:=ZI ok;refine Sem.loop (λi:Nat=>i<=n.Agents.length) (λi=>(⟨[(10,.lst 5 (n.Agents.map qC.enc) false),(11,iI (n.Agents.length:Int)),(12,iI (i:Nat)),(3,.slice 2 0 0 (zB n.Agents (i-1)).length false)],[],[.row 2 ((zB n.Agents (i-1)).map qL.enc) true]⟩:VSt)) (λi=>n.Agents.length-i) 0 (by kernel_rfl) (nZl _) (Can.renum [none] rfl ⟨.ph,trivial⟩ ⟨⟨_,rfl,.tree (by simp[AV.tree,qb qC.isSh.tree])⟩,⟨_,rfl,.tree rfl⟩,⟨_,rfl,.tree rfl⟩,⟨_,rfl,.ph rfl⟩,trivial⟩ trivial) ?_;rintro i hi;simp only[go_sem];refine qS ?_ ?_<;>intro hc<;>simp only[hc,go_sem]
 ·have hlt:i<n.Agents.length:=by have:=odT hc;omega
  simp only[gMp,gEg hlt,oMs,go_sem];have hp0:=qn5 ok _ (gMm hlt);have hk1:=qB2 ok i hlt;have hk0:=qe9 ok i hlt;refine qU (k:=5) (by rfl) (by rfl) (by exact⟨_,rfl⟩) (by decide) ?_;simp only[go_sem];simp only[gMp,gEg hp0,oMs,go_sem];refine qU (k:=2) (by rfl) (by rfl) (by exact⟨_,rfl⟩) (by decide) ?_;simp only[go_sem];have same (hn:¬(n.Agents[i].Ports[0].Slot=0/\(i:Int)<n.Agents[i].Ports[0].Agent/\n.Agents[i].Kind≠1)):zB n.Agents (i+1-1)=zB n.Agents (i-1):=by
   cases i with
   | zero=>rfl
   | succ i=>
    have h1:n.Agents[i+1].Kind≠1:=by intro q;have:=hk1.1 q;omega
    have:¬(n.Agents[i+1].Ports[0].Slot=0/\((i+1:Nat):Int)<n.Agents[i+1].Ports[0].Agent):=by rintro⟨q1,q2⟩;exact hn ⟨q1,q2,h1⟩
    simp only[Nat.add_sub_cancel,zB,Jf,gEg hlt,gEg hp0,if_neg hk0,if_neg this,lAn]
  have more (hn:n.Agents[i].Ports[0].Slot=0/\(i:Int)<n.Agents[i].Ports[0].Agent/\n.Agents[i].Kind≠1):zB n.Agents (i+1-1)=zB n.Agents (i-1)++[⟨(i:Int),n.Agents[i].Ports[0].Agent⟩]:=by
   cases i with
   | zero=>exact absurd (hk1.2 rfl) hn.2.2
   | succ i=>
    simp only[Nat.add_sub_cancel,zB,Jf,gEg hlt,gEg hp0,if_neg hk0];rw[if_pos ⟨hn.1,hn.2.1⟩]
  clear hk1 hk0
  repeat' (first | (first | (refine zA ?_ ?_<;>intro hc<;>simp only[hc,go_sem]) | (refine qS ?_ ?_<;>intro hc<;>simp only[hc,go_sem])))
  case refine_1.refine_1.refine_1=>
   have e:=more ⟨by simp_all,by simp_all,by simp_all⟩;refine Za (el:=(zB n.Agents (i-1)).map qL.enc) rfl rfl (by simp) (by have:=Wr n.Agents (i-1);omega) ?_;simp only[go_sem];simp only[wuA (n:=i)];refine qa (i+1) (by omega) (by omega) ?_;simp only[e,lAp,lCo,lNi,nZa];refine Can.renum [some 2] rfl ⟨.row rfl ?_,trivial⟩ ⟨⟨_,rfl,.tree (by simp[AV.tree,qb qC.isSh.tree])⟩,⟨_,rfl,.tree rfl⟩,⟨_,rfl,.tree rfl⟩,⟨_,rfl,.slice rfl⟩,trivial⟩ trivial;rw[lMa];have t:=qb qL.isSh.tree (zB n.Agents (i-1)++[⟨(i:Int),n.Agents[i].Ports[0].Agent⟩]);rw[lMa]at t;exact VR2s.trees t
  all_goals
   simp only[wuA (n:=i)];refine qa (i+1) (by omega) (by omega) ?_;rw[same (by simp_all<;>omega)];exact csA
 ·obtain rfl:i=n.Agents.length:=by have:=odF hc;omega
  refine QC (Cv.row rfl (by simp[VP]) (qb qL.isSh.tree _) (by omega))
theorem Zo{n:qE}(h:zF n=true):W n.Agents λ_ _=>False:=by
 intro a s q hq _;obtain⟨x,hx,hs⟩:=Qv.1 hq;have hl:=(gSi.1 hx).1;have hl2:=(gSi.1 hs).1;have e1:n.Agents[a]=x:=(gSi.1 hx).2;have e2:x.Ports[s]=q:=(gSi.1 hs).2;unfold zF at h;simp only[bAt]at h;have h1:=VQ h.2 a hl;rw[e1]at h1;have h2:=V6 h1 s hl2;rw[e2]at h2;simp only[nZa]at h2;unfold wZ at h2;simp only[bAt,bNt,decide_eq_false_iff_not,dTe]at h2;obtain⟨⟨h3,h4⟩,h5⟩:=h2;obtain⟨b,t,rfl,hb,ht⟩:=qf8 h4;exact⟨b,t,rfl,by rw[<-qo0];exact h5,λq=>q,λe=>h3 (by rw[e.1,e.2])⟩
theorem Zp{n:qE}(h:zF n=true){k:Nat}{x:qC}(hx:n.Agents[k]?=some x):qg x=true:=J9 (Qi h) x (lMo hx)
theorem qiO{x y:qC}(h:Q0 y=Q0 x):qg y=qg x:=by
 simp only[Q0,Prod.mk.injEq]at h;obtain⟨h1,h2,h3,h4,h5⟩:=h;unfold qg fieldsOf jB;rw[h1,h2,h3,h4,h5]
def w32(x:Int):Int:=IntKind.i64.wrap (IntKind.i32.wrap (IntKind.u32.wrap (IntKind.u64.wrap x)))
def opI(k a b:Int):Int:=
 if k=1 then w32 (IntKind.i64.wrap (w32 a+w32 b))else if k=2 then w32 (IntKind.i64.wrap (w32 a-w32 b))else if k=3 then w32 (IntKind.i64.wrap (w32 a*w32 b))
 else if k=4 then(if w32 b=0 then 0 else w32 (IntKind.i64.wrap ((w32 a).tdiv (w32 b))))else if k=5 then(if w32 a<w32 b then 1 else 0)else if k=6 then(if w32 a=w32 b then 1 else 0)else 0
theorem qh6(x:Int):w32 x=IntKind.i64.wrap (IntKind.i32.wrap x):=by
 unfold w32;congr 1;simp only[IntKind.wrap,IntKind.bits,IntKind.signed];simp
theorem WJ{x:Int}:Pure Gm 1125 [iI x] (iI (w32 x)):=by
 refine pJ UP ?_;simp only[UP,qN,go_sem];exact qK rfl rfl
theorem qbU{b:Bool}:Pure Gm 1126 [.bool b] (iI (if b then 1 else 0)):=by
 refine pJ UQ ?_;simp only[UQ,qN,go_sem];apply qS<;>intro hc<;>simp only[hc,go_sem]
 ·exact qK rfl rfl
 ·exact qK rfl rfl
theorem c762{k a b:Int}:Pure Gm 762 [iI k,iI a,iI b] (iI (opI k a b)):=by
 refine pJ kQ ?_;simp only[kQ,qN,go_sem];refine qI WJ ?_;simp only[go_sem];refine qI WJ ?_;simp only[go_sem];unfold opI;apply qS<;>intro hc<;>simp only[hc,go_sem]
 ·rw[if_pos (odT hc)];refine qI WJ ?_;simp only[go_sem];exact qK rfl rfl
 rw[if_neg (odF hc)];apply qS<;>intro hc<;>simp only[hc,go_sem]
 ·rw[if_pos (odT hc)];refine qI WJ ?_;simp only[go_sem];exact qK rfl rfl
 rw[if_neg (odF hc)];apply qS<;>intro hc<;>simp only[hc,go_sem]
 ·rw[if_pos (odT hc)];refine qI WJ ?_;simp only[go_sem];exact qK rfl rfl
 rw[if_neg (odF hc)];apply qS<;>intro hc<;>simp only[hc,go_sem]
 ·rw[if_pos (odT hc)];apply qS<;>intro hc<;>simp only[hc,go_sem]
  ·rw[if_pos (odT hc)];exact qK rfl rfl
  rw[if_neg (odF hc)];have hq:=odF hc;simp only[if_neg hq,go_sem];refine qI WJ ?_;simp only[go_sem];exact qK rfl rfl
 rw[if_neg (odF hc)];apply qS<;>intro hc<;>simp only[hc,go_sem]
 ·rw[if_pos (odT hc)];refine qI qbU ?_;simp only[go_sem];exact qK rfl (by simp)
 rw[if_neg (odF hc)];apply qS<;>intro hc<;>simp only[hc,go_sem]
 ·rw[if_pos (odT hc)];refine qI qbU ?_;simp only[go_sem];exact qK rfl (by simp)
 rw[if_neg (odF hc)];exact qK rfl rfl
theorem Qz{b:Bool}:Pure Gm 566 [.bool b] (iI (if b then 1 else 0)):=by
 refine pJ kE ?_;simp only[kE,qN,go_sem];apply qS<;>intro hc<;>simp only[hc,go_sem]
 ·exact qK rfl rfl
 ·exact qK rfl rfl
theorem WK{x:Int}:Pure Gm 1400 [iI x] (iI (w32 x)):=by
 refine pJ KS ?_;simp only[KS,qN,go_sem];exact qK rfl (by rw[qh6])
theorem qjD{k a b:Int}:Pure Gm 1118 [iI k,iI a,iI b] (iI (opI k a b)):=by
 refine pJ UO ?_;simp only[UO,qN,go_sem];refine qI WK ?_;simp only[go_sem];refine qI WK ?_;simp only[go_sem];unfold opI;apply qS<;>intro hc<;>simp only[hc,go_sem]
 ·rw[if_pos (odT hc)];refine qI WK ?_;simp only[go_sem];exact qK rfl rfl
 rw[if_neg (odF hc)];apply qS<;>intro hc<;>simp only[hc,go_sem]
 ·rw[if_pos (odT hc)];refine qI WK ?_;simp only[go_sem];exact qK rfl rfl
 rw[if_neg (odF hc)];apply qS<;>intro hc<;>simp only[hc,go_sem]
 ·rw[if_pos (odT hc)];refine qI WK ?_;simp only[go_sem];exact qK rfl rfl
 rw[if_neg (odF hc)];apply qS<;>intro hc<;>simp only[hc,go_sem]
 ·rw[if_pos (odT hc)];apply qS<;>intro hc<;>simp only[hc,go_sem]
  ·rw[if_pos (odT hc)];exact qK rfl rfl
  rw[if_neg (odF hc)];have hq:=odF hc;simp only[if_neg hq,go_sem];refine qI WK ?_;simp only[go_sem];exact qK rfl rfl
 rw[if_neg (odF hc)];apply qS<;>intro hc<;>simp only[hc,go_sem]
 ·rw[if_pos (odT hc)];refine qI Qz ?_;simp only[go_sem];exact qK rfl (by simp)
 rw[if_neg (odF hc)];apply qS<;>intro hc<;>simp only[hc,go_sem]
 ·rw[if_pos (odT hc)];refine qI Qz ?_;simp only[go_sem];exact qK rfl (by simp)
 rw[if_neg (odF hc)];exact qK rfl rfl
theorem qoN{k a b:Int}: -2147483648<=opI k a b/\opI k a b<=2147483647:=by
 have hw:∀n:Int,-2147483648<=w32 n/\w32 n<=2147483647:=λn=>by
  have h3: -2147483648<=IntKind.i32.wrap n/\IntKind.i32.wrap n<=2147483647:=by
   simp only[IntKind.wrap,IntKind.bits,IntKind.signed,Bool.true_and,dTe,Nat.reduceSub,Int.reducePow,ge_iff_le];split<;>constructor<;>omega
  rw[qh6,wsA];exact h3
 unfold opI
 repeat' split
 all_goals first
  | exact hw _
  | omega
theorem Zy{ka la kb lb:Int}:(zN ka la kb lb=1->ka=2/\kb=3)/\(zN ka la kb lb=2->ka=4/\kb=4)/\(zN ka la kb lb=3->ka=4)/\(zN ka la kb lb=4->ka=5)/\(zN ka la kb lb=5->ka=6/\(kb=7\/kb=8))/\
  (zN ka la kb lb=6->(ka=6/\kb=11)\/(ka=9/\kb=10))/\(zN ka la kb lb=7->ka=12/\WZ kb=true)/\0<=zN ka la kb lb/\zN ka la kb lb<=7:=by
 unfold zN
 repeat' split
 all_goals (simp_all<;>omega)
theorem QK{x:qC}(h:qg x=true):(x.Ports.length:Int)=jy x.Kind (fieldsOf x)/\0<x.Ports.length:=by
 unfold qg at h;simp only[bAt,dTe]at h;omega
theorem qB5{x:qC}(h:qg x=true)(hk:x.Kind=5\/x.Kind=6\/x.Kind=12):x.Ports.length=1:=by
 have:=(QK h).1;unfold fieldsOf jy at this;rcases hk with e | e | e<;>rw[e]at this<;>simp at this<;>omega
theorem qfI{x:qC}(h:qg x=true)(hk:x.Kind=8\/x.Kind=10\/x.Kind=11):x.Ports.length=2:=by
 have:=(QK h).1;unfold fieldsOf jy at this;rcases hk with e | e | e<;>rw[e]at this<;>simp at this<;>omega
theorem Vb{x:qC}(h:qg x=true)(hk:x.Kind=2\/x.Kind=3\/x.Kind=4\/x.Kind=7):x.Ports.length=3:=by
 have:=(QK h).1;unfold fieldsOf jy at this;rcases hk with e | e | e | e<;>rw[e]at this<;>simp at this<;>omega
theorem Jd{x:qC}(h:qg x=true):x.Ports.length<=4:=by
 have h1:=(QK h).1;have:jy x.Kind (fieldsOf x)<=4:=by
  unfold jy;split
  ·split
   ·rename_i q;rw[Jz]at q;omega
   ·omega
  ·split
   ·omega
   ·repeat' split
    all_goals omega
 omega
theorem qkW{x y:qC}(hx:qg x=true)(hy:qg y=true)(k1:x.Kind≠1)(k2:y.Kind≠1)(hf:zu x.Kind x.Level y.Kind y.Level≠2)(h8:za x y≠8):
  zN x.Kind x.Level y.Kind y.Level=za x y/\za x y≠0/\¬(x.Kind=9/\y.Kind=10/\(y.Data.length:Int)<=x.Value):=by
 have e:=qcL hx hy hf;have n1:¬(x.Kind=9/\y.Kind=10/\(y.Data.length:Int)<=x.Value):=λq=>h8 (by rw[e,if_pos q]);rw[if_neg n1]at e;have hp:wH x.Kind x.Level y.Kind y.Level=true:=by unfold wH;simp[J4 hx,J4 hy,k1,k2]
 unfold jL at e;rw[if_pos hp]at e;unfold zu at hf;rw[if_pos hp]at hf;by_cases q:zN x.Kind x.Level y.Kind y.Level≠0
 ·rw[if_pos q]at e;exact⟨e.symm,by rw[e];exact q,n1⟩
 ·rw[if_neg q]at hf e;by_cases q2:zN y.Kind y.Level x.Kind x.Level≠0
  ·rw[if_pos q2]at hf;exact absurd rfl hf
  ·rw[if_neg q2]at e;exact absurd e h8
theorem qoF{k l v:Int}(hk:k=5\/k=6\/k=12)(hl:zw k l=true)(hc:jB (X0 k l v [] 1)=true):qg (X0 k l v [] 1)=true:=by
 unfold qg;rw[hc];simp only[X0,hl,Bool.and_true,fieldsOf,jy,lLr];rcases hk with e | e | e<;>subst e<;>simp
theorem Zq{x:qC}(h:qg x=true):jB x=true:=by unfold qg at h;simp only[bAt]at h;exact h.2
theorem qa9{p:Int->Bool}{xs:List Int}(h:xs.all p=true){i:Nat}(hi:i<xs.length):p (xs.getD i 0)=true:=by
 rw[lGd,gEg hi];exact lAt.1 h _ (gMm hi)
theorem qoI{l v:Int}(hl:inI l 0 8=true)(hv:j5 v=true):qg (X0 12 l v [] 1)=true:=
 qoF (.inr (.inr rfl)) (by unfold zw;rw[if_pos (by decide)];exact hl) (by unfold jB X0;simp[hv])
theorem Va{x:qC}(h:qg x=true)(hk:jQ x.Kind=true):inI x.Level 0 8=true:=by have:=J4 h;unfold zw at this;rwa[if_pos hk]at this
theorem qfJ{z:qC}{lev base:Int}(h:qg z=true)(h1:jQ z.Kind=true->inI (z.Level+lev) 0 8=true):qg (QO lev base z)=true:=by
 unfold qg at*;have e1:fieldsOf (QO lev base z)=fieldsOf z:=by unfold fieldsOf QO;simp
 have e2:jB (QO lev base z)=jB z:=by unfold jB QO;rfl
 rw[e1,e2];simp only[QO,lMp];simp only[bAt]at h|-;refine⟨⟨h.1.1, ?_⟩,h.2⟩;unfold zw at*;by_cases q:jQ z.Kind=true
 ·rw[if_pos q,if_pos q];exact h1 q
 ·rw[if_neg q,if_neg q];have:=h.1.2;rwa[if_neg q]at this
theorem qoK{y:qC}(h:qg y=true)(hk:y.Kind=11):y.Data.length=2/\y.Data.all j5=true:=by
 have:=Zq h;unfold jB at this;rw[hk]at this;simp at this;exact⟨by omega,by simpa using this.2⟩
theorem qoE{y:qC}(h:qg y=true)(hk:y.Kind=10):y.Data.all j5=true:=by
 have:=Zq h;unfold jB at this;rw[hk]at this;simp at this;simpa using this.2
theorem qoG{x:qC}(h:qg x=true)(hk:x.Kind=6):inI x.Value (-2147483648) 2147483647=true:=by
 have:=Zq h;unfold jB at this;rw[hk]at this;simp at this;exact this.2
theorem qoD{x:qC}(h:qg x=true)(hk:x.Kind=9):inI x.Value 0 3=true:=by
 have:=Zq h;unfold jB at this;rw[hk]at this;simp at this;exact this.2
theorem qoJ{x:qC}(h:qg x=true)(hk:x.Kind=12):j5 x.Value=true:=by
 have:=Zq h;unfold jB at this;rw[hk]at this;simp at this;exact this.2
def w0:qF:=⟨0,0⟩
def opC(x y:qD):qD:=if y.Kind=7 then⟨8,y.Level,y.Value,[x.Value],[y.Words.getD 1 w0]⟩else⟨6,0,opI y.Value (y.Data.getD 0 0) x.Value,[],[]⟩
def j9(m:qH)(x y:qD):qH×List qj:=(qR m (opC x y),[⟨y.Words.getD 0 w0,awI m.Free⟩])
def chD(x y:qD):Int:=if y.Kind=10 then y.Data.getD x.Value.toNat 0 else if x.Value=0 then y.Data.getD 1 0 else y.Data.getD 0 0
def JM(x y:qD):qD:=⟨12,y.Level,chD x y,[],[]⟩
def wM(y:qD):qD:=⟨3,y.Level,0,[],[]⟩
def chA(m:qH)(x y:qD):Nat->qH×List Int
 | 0=>(qR m (JM x y),[])
 | i+1=>(qR (chA m x y i).1 (wM y),(chA m x y i).2++[(chA m x y i).1.Free])
def nxW(y:qD)(apps:List Int)(i:Nat):qF:=match apps[i+1]? with
 | some a=>awI a
 | none=>y.Words.getD 0 w0
def chB(x y:qD)(apps:List Int)(m:qH):Nat->qH
 | 0=>m
 | i+1=>qo (chB x y apps m i) (apps.getD i 0) [x.Words.getD i w0,nxW y apps i]
def chM(m:qH)(x y:qD):qH×List qj:=
 if x.Words=[]then(qR m (JM x y),[⟨y.Words.getD 0 w0,awI m.Free⟩])
 else(Jo (chB x y (chA m x y x.Words.length).2 (chA m x y x.Words.length).1 x.Words.length) m.Free ((chA m x y x.Words.length).2.getD 0 0),[])
section
variable {P Q:List qF} {O:Nat->Bool} {k j:Nat} {c c' x y:qD} {m m':qH}
theorem Z7{ws:List qF}(h:ws.length=1):ws=[ws.getD 0 w0]:=by
 match ws,h with
 |[a],_=>rfl
theorem Qq{ws:List qF}(h:ws.length=2):ws=[ws.getD 0 w0,ws.getD 1 w0]:=by
 match ws,h with
 |[a,b],_=>rfl
theorem qoO(h:MM m (y.Words++P) O)(hf:0<nF m.Cells)(hyF:zr y)(hy:y.Kind=7/\y.Words.length=2\/y.Kind=8/\y.Words.length=1)(hx:inI x.Value (-2147483648) 2147483647=true):MM (j9 m x y).1 (lws (j9 m x y).2++P) O/\(j9 m x y).1.Cells.length=m.Cells.length:=by
 have hya:qt y.Kind=true:=by rcases hy with⟨q,_⟩ | ⟨q,_⟩<;>rw[q]<;>rfl
 have fy:=agf hya hyF;rcases hy with⟨hk,hl⟩ | ⟨hk,hl⟩
 ·have eo:opC x y=⟨8,y.Level,y.Value,[x.Value],[y.Words.getD 1 w0]⟩:=by unfold opC;rw[if_pos hk]
  have hF:zr (opC x y):=by
   rw[eo];refine .inl ⟨rfl, ?_⟩;simp[qX,qg,hk,hl,jy,fieldsOf,zw,jQ,jB]at fy|-;exact⟨fy.1,fy.2.2,hx⟩
  have h2:MM m ((opC x y).Words++(y.Words.getD 0 w0::P)) O:=by
   rw[eo];rw[Qq hl]at h;exact MI.perm h (List.Perm.swap _ _ _)
  obtain⟨k,k1,k2,k3⟩:=YI h2 hf (by rw[eo];rfl) hF;refine⟨?_,k2.len⟩;unfold j9;simp only[k2.fr,lws];exact MI.perm k3 (List.Perm.swap _ _ _)
 ·have eo:opC x y=⟨6,0,opI y.Value (y.Data.getD 0 0) x.Value,[],[]⟩:=by unfold opC;rw[if_neg (by omega)]
  have hF:zr (opC x y):=by
   rw[eo];refine .inl ⟨rfl, ?_⟩;have:=qoN (k:=y.Value) (a:=y.Data.getD 0 0) (b:=x.Value);simp[qX,qg,jy,fieldsOf,zw,jQ,jB,JX,inI]at this|-;exact this
  have h2:MM m ((opC x y).Words++(y.Words.getD 0 w0::P)) O:=by
   rw[eo];rw[Z7 hl]at h;exact h
  obtain⟨k,k1,k2,k3⟩:=YI h2 hf (by rw[eo];rfl) hF;refine⟨?_,k2.len⟩;unfold j9;simp only[k2.fr,lws];exact MI.perm k3 (List.Perm.swap _ _ _)
def inO(O:Nat->Bool)(ks:List Nat):Nat->Bool:=λi=>decide (i∈ks) || O i
theorem Y8:inO O []=O:=by funext i;simp[inO]
theorem qd8{ks:List Nat}:opO (inO O ks) k=inO O (ks++[k]):=by
 funext i;unfold opO inO;by_cases q:i=k<;>simp[q]
theorem qd7{ks:List Nat}(hn:k∉ks)(ho:O k=false):clO (inO O (k::ks)) k=inO O ks:=by
 funext i;unfold clO inO;by_cases q:i=k
 ·subst q;simp[hn,ho]
 ·simp[q]
structure ChI(m0:qH)(x y:qD)(P:List qF)(O:Nat->Bool)(r:Nat)(ks:List Nat)(s:qH×List Int)(i:Nat):Prop where
 mm:MM s.1 (aW r::ks.map aW++P) (inO O ks)
 ap:s.2=ks.map λk:Nat=>(k:Int)
 len:ks.length=i
 nd:ks.Nodup
 no:∀k∈ks,O k=false
 at':∀k∈ks,s.1.Cells[k]?=some (wM y)
 nf:nF m0.Cells=nF s.1.Cells+1+i
 cl:s.1.Cells.length=m0.Cells.length
theorem qAV(h:MM m P O)(hr:zr (JM x y)):∀i,1+i<=nF m.Cells->∃r ks,m.Free=(r:Nat)/\ChI m x y P O r ks (chA m x y i) i:=by
 intro i
 induction i with
 | zero=>
  intro hf;obtain⟨r,r1,r2,r3⟩:=YI (c:=JM x y) (P:=P) h (by omega) rfl hr;have n1:=r2.nf (by simp[JM]);exact⟨r,[],r2.fr,by rw[Y8];exact r3,rfl,rfl,List.nodup_nil,λk hk=>(by cases hk),λk hk=>(by cases hk),by simp only[chA];omega,r2.len⟩
 | succ i ih=>
  intro hf;obtain⟨r,ks,e0,I⟩:=ih (by omega);have:=I.nf;obtain⟨k,k1,k2,k3⟩:=Qn (c:=wM y) I.mm (by omega) rfl;have n1:=k2.nf (by simp[wM]);have hk:k∉ks/\O k=false:=by
   unfold inO at k1;simpa using k1
  refine⟨r,ks++[k],e0, ?_, ?_,by simp[I.len], ?_, ?_, ?_, ?_, ?_⟩
  ·rw[<-qd8];refine MI.perm k3 ?_;rw[List.perm_iff_count];intro a;simp only[lMa,lMc,List.map_nil,List.count_append,List.count_cons,List.count_nil,lCa];omega
  ·simp only[chA];rw[I.ap,k2.fr];simp
  ·rw[List.nodup_append];refine⟨I.nd,by simp, ?_⟩;intro a ha b hb;simp only[lMg]at hb;subst hb;rintro rfl;exact hk.1 ha
  ·intro a ha;rcases jR.1 ha with ha | ha
   ·exact I.no a ha
   ·simp only[lMg]at ha;subst ha;exact hk.2
  ·intro a ha;simp only[chA];rcases jR.1 ha with ha | ha
   ·exact(k2.keep (I.at' a ha) (by simp[wM])).1
   ·simp only[lMg]at ha;subst ha;exact k2.new
  ·simp only[chA];omega
  ·simp only[chA];rw[k2.len,I.cl]
theorem appF(hl:zw 3 y.Level=true){a b:qF}:zr {wM y with Words:=[a,b]}:=by
 refine .inl ⟨rfl, ?_⟩;simp[qX,wM,qg,jy,fieldsOf,jB];exact hl
theorem qcB{r:Nat}{ks:List Nat}{m0:qH}{s:qH×List Int}{n:Nat}(hn:x.Words.length=n)(h0:0<n)(hl:zw 3 y.Level=true)(I:ChI m0 x y (x.Words++y.Words.getD 0 w0::P) O r ks s n):∀i,i<=n->∃a,ks[0]?=some a/\MM (chB x y s.2 s.1 i) (aW r::aW a::((ks.drop (i+1)).map aW++(x.Words.drop i++((if i<n then [y.Words.getD 0 w0]else [])++P)))) (inO O (ks.drop i))/\(∀k∈ks.drop i,(chB x y s.2 s.1 i).Cells[k]?=some (wM y))/\(chB x y s.2 s.1 i).Cells.length=m0.Cells.length:=by
 obtain⟨mm,ap,len,nd,no,at',nf,cl⟩:=I;obtain⟨a,kr,rfl⟩:∃a kr,ks=a::kr:=by cases ks with | nil=>simp at len;omega | cons a kr=>exact⟨a,kr,rfl⟩
 intro i
 induction i with
 | zero=>
  intro _;refine⟨a,rfl, ?_,λk hk=>at' k (by simpa using hk),cl⟩;rw[if_pos h0];refine MI.perm mm ?_;rw[List.perm_iff_count];intro b;simp only[chB,lMc,List.count_append,List.count_cons,List.count_nil,lCa,List.drop_succ_cons,List.drop_zero];omega
 | succ i ih=>
  intro hi;obtain⟨a',e1,g1,g2,g3⟩:=ih (by omega);have hik:i<(a::kr).length:=by omega
  have hix:i<x.Words.length:=by omega
  have hda:(a::kr).drop i=(a::kr)[i]::(a::kr).drop (i+1):=lDc hik;have hdx:x.Words.drop i=x.Words[i]::x.Words.drop (i+1):=lDc hix;generalize hki:(a::kr)[i]=ki at hda;have hki':(a::kr)[i]?=some ki:=by rw[gEg hik,hki]
  have hc:=g2 ki (by rw[hda];exact .head _);have hgd:s.2.getD i 0=(ki:Int):=by
   rw[ap];simp only[List.getD,gMp,hki',oMs,Option.getD_some]
  have hxd:x.Words.getD i w0=x.Words[i]:=by simp[List.getD,gEg hix]
  have hdn:((a::kr).drop i).Nodup:=nd.sublist (List.drop_sublist ..);rw[hda,List.nodup_cons]at hdn;have hki_no:O ki=false:=no ki (lMo hki');refine⟨a',e1, ?_⟩;rw[chB,hgd,hxd];have hop:inO O ((a::kr).drop i) ki=true:=by rw[hda];simp[inO]
  --the words that it takes
  have key:∃P',(aW r::aW a'::(((a::kr).drop (i+1)).map aW++(x.Words.drop i++((if i<n then [y.Words.getD 0 w0]else [])++P)))).Perm ([x.Words[i],nxW y s.2 i]++P')/\P'=aW r::aW a'::(((a::kr).drop (i+1+1)).map aW++(x.Words.drop (i+1)++((if i+1<n then [y.Words.getD 0 w0]else [])++P))):=by
   refine⟨_, ?_,rfl⟩;rw[hdx,if_pos (by omega)];by_cases q:i+1<n
   ·have hq:i+1<(a::kr).length:=by omega
    have hd2:(a::kr).drop (i+1)=(a::kr)[i+1]::(a::kr).drop (i+1+1):=lDc hq;have hnx:nxW y s.2 i=aW (a::kr)[i+1]:=by
     unfold nxW;rw[ap,gMp,gEg hq];rfl
    rw[if_pos q,hnx,hd2,List.perm_iff_count];intro b;simp only[lMc,List.count_append,List.count_cons,List.count_nil,lCa];omega
   ·have hd2:(a::kr).drop (i+1)=[]:=List.drop_eq_nil_of_le (by omega);have hd3:(a::kr).drop (i+1+1)=[]:=List.drop_eq_nil_of_le (by omega);have hnx:nxW y s.2 i=y.Words.getD 0 w0:=by
     unfold nxW;rw[ap,gMp,gEn (by omega)];rfl
    rw[if_neg q,hnx,hd2,hd3,List.perm_iff_count];intro b;simp only[List.map_nil,List.count_append,List.count_cons,List.count_nil,lCa];omega
  obtain⟨P',p1,p2⟩:=key;obtain⟨q1,q2,q3⟩:=X3 (k:=ki) (c:=wM y) (MI.perm g1 p1) hc hop (appF hl);refine⟨?_,λk hk=>?_,by rw[q3,g3]⟩
  ·rw[hda,qd7 hdn.1 hki_no,p2]at q1;exact q1
  ·have hkk:k≠ki:=by rintro rfl;exact hdn.1 hk
   rw[wB hc];simp only;rw[zb hkk];exact g2 k (by rw[hda];exact .tail _ hk)
theorem qkS(h:MM m (x.Words++y.Words++P) O)(hf:1+x.Words.length<=nF m.Cells)(hyw:y.Words.length=1)(hr:zr (JM x y))(hl:zw 3 y.Level=true):MM (chM m x y).1 (lws (chM m x y).2++P) O/\(chM m x y).1.Cells.length=m.Cells.length:=by
 rw[Z7 hyw]at h;unfold chM;by_cases hx:x.Words=[]
 ·rw[if_pos hx];rw[hx]at h;obtain⟨r,r1,r2,r3⟩:=YI (c:=JM x y) (P:=y.Words.getD 0 w0::P) h (by omega) rfl hr;refine⟨?_,r2.len⟩;simp only[r2.fr,lws];exact MI.perm r3 (List.Perm.swap _ _ _)
 ·rw[if_neg hx];have hpos:0<x.Words.length:=List.length_pos_iff.2 hx;have h':MM m (x.Words++y.Words.getD 0 w0::P) O:=by
   refine MI.perm h ?_;simp
  obtain⟨r,ks,e0,I⟩:=qAV (x:=x) (y:=y) h' hr x.Words.length (by omega);obtain⟨a,e1,g1,g2,g3⟩:=qcB (x:=x) (P:=P) rfl hpos hl I x.Words.length (nLr _);have hgd:(chA m x y x.Words.length).2.getD 0 0=(a:Int):=by
   rw[I.ap];simp only[List.getD,gMp,e1,oMs,Option.getD_some]
  rw[hgd,e0];rw[List.drop_eq_nil_of_le (show ks.length<=x.Words.length+1 by have:=I.len;omega),List.drop_eq_nil_of_le (show ks.length<=x.Words.length by have:=I.len;omega),if_neg (by omega),List.drop_length,Y8]at g1;have:=(MI.redex (a:=r) (b:=a) g1).2;exact⟨this,g3⟩
end
section
variable {m:qH} {a b:Int} {c d:qD} {ws u v:List qF} {i j k:Nat}
theorem qAQ(h:a.toNat≠b.toNat):zZ (qo m a ws) b=zZ m b:=by
 unfold zZ qo;simp only;rw[gSn h]
theorem qkO(h:m.Free.toNat≠b.toNat):zZ (qR m c) b=zZ m b:=by
 unfold zZ qR;simp only;rw[gSn h]
theorem YK(h:m.Free.toNat≠a.toNat):qR (qo m a ws) c=qo (qR m c) a ws:=by
 have e1:zZ (qo m a ws) m.Free=zZ m m.Free:=qAQ (Ne.symm h);have e2:zZ (qR m c) a=zZ m a:=qkO h;have e3:(qo m a ws).Free=m.Free:=rfl
 conv=>lhs;rw[qR,e3,e1]
 conv=>rhs;rw[qo,e2]
 simp only[qo,qR];rw[List.set_comm _ _ (Ne.symm h)]
theorem qCJ(h:a.toNat≠b.toNat):qo (qo m a u) b v=qo (qo m b v) a u:=by
 have e1:zZ (qo m a u) b=zZ m b:=qAQ h;have e2:zZ (qo m b v) a=zZ m a:=qAQ (Ne.symm h)
 conv=>lhs;rw[qo,e1]
 conv=>rhs;rw[qo,e2]
 simp only[qo];rw[List.set_comm _ _ h]
theorem qCK:qo (qo m a u) a v=qo m a v:=by
 by_cases h:a.toNat<m.Cells.length
 ·have e:zZ (qo m a u) a={zZ m a with Words:=u}:=by
   unfold zZ qo;simp only;rw[gSs h];rfl
  conv=>lhs;rw[qo,e]
  simp only[qo,List.set_set]
 ·have e:∀(x:qD),m.Cells.set a.toNat x=m.Cells:=λx=>List.set_eq_of_length_le (by omega);simp only[qo,e]
theorem X2:(qo m a ws).Free=m.Free:=rfl
theorem qo5:(qo m a ws).Cells.length=m.Cells.length:=by simp[qo]
theorem qCL(h:m.Cells[k]?=some c):(qo m (k:Int) ws).Cells[k]?=some {c with Words:=ws}:=by
 rw[wB h];exact jV h
theorem Zt(h:j≠k):(qo m (k:Int) ws).Cells[j]?=m.Cells[j]?:=by
 unfold qo;simp only[iTn];exact zb h
def two(m:qH)(ck dk:Nat)(us vs:List qF):qH:=qo (qo m (ck:Int) us) (dk:Int) vs
theorem W8{ck dk f:Nat}{us vs:List qF}(hf:m.Free=(f:Int))(h1:f≠ck)(h2:f≠dk):qR (two m ck dk us vs) c=two (qR m c) ck dk us vs:=by
 unfold two;rw[YK (by rw[X2,hf];simpa using h2),YK (by rw[hf];simpa using h1)]
theorem qh3{ck dk f:Nat}{us vs:List qF}(h1:f≠ck)(h2:f≠dk):qo (two m ck dk us vs) (f:Int) ws=two (qo m (f:Int) ws) ck dk us vs:=by
 unfold two;rw[qCJ (a:=(dk:Int)) (b:=(f:Int)) (by simpa using Ne.symm h2),qCJ (a:=(ck:Int)) (b:=(f:Int)) (by simpa using Ne.symm h1)]
theorem qhZ{ck dk:Nat}{us vs:List qF}(h:ck≠dk):qo (two m ck dk us vs) (ck:Int) ws=two m ck dk ws vs:=by
 unfold two;rw[qCJ (a:=(dk:Int)) (b:=(ck:Int)) (by simpa using Ne.symm h),qCK]
theorem qh1{ck dk:Nat}{us vs:List qF}:qo (two m ck dk us vs) (dk:Int) ws=two m ck dk us ws:=by
 unfold two;rw[qCK]
theorem ZV{ck dk f:Nat}{us vs:List qF}(h1:f≠ck)(h2:f≠dk):(two m ck dk us vs).Cells[f]?=m.Cells[f]?:=by
 unfold two;rw[Zt h2,Zt h1]
theorem qh0{ck dk:Nat}{us vs:List qF}(h:ck≠dk)(hc:m.Cells[ck]?=some c):(two m ck dk us vs).Cells[ck]?=some {c with Words:=us}:=by
 unfold two;rw[Zt h,qCL hc]
theorem qh2{ck dk:Nat}{us vs:List qF}(h:ck≠dk)(hd:m.Cells[dk]?=some d):(two m ck dk us vs).Cells[dk]?=some {d with Words:=vs}:=by
 unfold two;exact qCL (by rw[Zt (Ne.symm h)];exact hd)
end
def ovC(g:Nat->Option (List qF))(k:Nat)(c:qD):qD:=match g k with
 | some ws=>{c with Words:=ws}
 | none=>c
def ovM(m:qH)(g:Nat->Option (List qF)):qH:={m with Cells:=m.Cells.mapIdx (ovC g)}
def ZW(g:Nat->Option (List qF))(k:Nat)(ws:List qF)(j:Nat):Option (List qF):=if j=k then some ws else g j
section
variable {m:qH} {g g':Nat->Option (List qF)} {c d:qD} {k f:Nat} {ws u:List qF}
theorem J5:(ovM m g).Cells[k]?=(m.Cells[k]?).map (ovC g k):=by simp[ovM,List.getElem?_mapIdx]
theorem qoQ:(ovC g k c).Value=c.Value:=by unfold ovC;split<;>rfl
theorem qB7(h:g k=none):ovC g k c=c:=by unfold ovC;rw[h]
theorem qB8(h:g k=some ws):ovC g k c={c with Words:=ws}:=by unfold ovC;rw[h]
theorem qCA:(ovM m g).Cells.length=m.Cells.length:=by simp[ovM]
theorem qCB:ovM m (λ_=>none)=m:=by
 have:m.Cells.mapIdx (ovC λ_=>none)=m.Cells:=List.ext_getElem? λj=>by
  rw[List.getElem?_mapIdx];cases m.Cells[j]?<;>rfl
 unfold ovM;rw[this]
theorem Yk{a b:qH}(h:∀j:Nat,a.Cells[j]?=b.Cells[j]?)(h1:a.Free=b.Free)(h2:a.Root=b.Root)(h3:a.Redexes=b.Redexes):a=b:=by
 obtain⟨a1,a2,a3,a4⟩:=a;obtain⟨b1,b2,b3,b4⟩:=b;have:a1=b1:=List.ext_getElem? h;simp only at h1 h2 h3;rw[this,h1,h2,h3]
theorem qfW(hf:m.Free=(f:Int))(hg:g f=none):qR (ovM m g) c=ovM (qR m c) g:=by
 refine Yk (λj=>?_) ?_ rfl rfl
 ·have e:(qR m c).Cells=m.Cells.set f c:=by unfold qR;rw[hf];rfl
  have e2:(qR (ovM m g) c).Cells=(ovM m g).Cells.set f c:=by unfold qR;rw[show (ovM m g).Free=(f:Int)from hf];rfl
  rw[J5,e,e2];by_cases q:j=f
  ·subst q;by_cases l:j<m.Cells.length
   ·rw[gSs (by rw[qCA];exact l),gSs l,oMs,qB7 hg]
   ·rw[gEn (by rw[lLs,qCA];omega),gEn (by rw[lLs];omega)];rfl
  ·rw[gSn (Ne.symm q),gSn (Ne.symm q),J5]
 ·show (zZ (ovM m g) m.Free).Value=(zZ m m.Free).Value;unfold zZ;rw[J5];cases m.Cells[m.Free.toNat]? with
  | none=>rfl
  | some d=>exact qoQ
theorem Wq(hc:m.Cells[k]?=some c):qo (ovM m g) (k:Int) ws=ovM m (ZW g k ws):=by
 have h1:(ovM m g).Cells[k]?=some (ovC g k c):=by rw[J5,hc];rfl
 rw[wB h1];refine Yk (λj=>?_) rfl rfl rfl;rw[J5];by_cases q:j=k
 ·subst q;have e:({ovC g j c with Words:=ws}:qD)={c with Words:=ws}:=by unfold ovC;split<;>rfl
  simp only;rw[jV h1,hc,oMs,qB8 (g:=ZW g j ws) (ws:=ws) (if_pos rfl),e]
 ·simp only;rw[zb q,J5];have:ovC (ZW g k ws) j=ovC g j:=by funext c;unfold ovC;rw[show ZW g k ws j=g j from if_neg q]
  rw[this]
end
section
variable {R:Nat->Bool} {bk:List qE} {N:Ags} {a b:Nat} {x y:qC}
theorem YL(hb:jH bk=true){v:Int}(h0:0<=v)(h:v<bk.length):zF (qr bk v)=true:=by
 unfold jH at hb;simp only[bAt]at hb;have hv:v.toNat<bk.length:=by omega
 unfold qr;rw[gEg hv];exact lAt.1 hb.2 _ (gMm hv)
theorem qmN:∀{xs:Ags}{x:qC},x∈xs->x.Level<=hiI xs:=by
 have key:∀(xs:Ags)(m:Int),m<=xs.foldl (λm x=>if x.Level<m then m else x.Level) m/\∀x∈xs,x.Level<=xs.foldl (λm x=>if x.Level<m then m else x.Level) m:=by
  intro xs
  induction xs with
  | nil=>intro m;exact⟨Int.le_refl _,by simp⟩
  | cons y ys ih=>
   intro m;simp only[List.foldl_cons];have hm:m<=(if y.Level<m then m else y.Level)/\y.Level<=(if y.Level<m then m else y.Level):=by split<;>omega
   obtain⟨h1,h2⟩:=ih (if y.Level<m then m else y.Level);refine⟨Int.le_trans hm.1 h1,λx hx=>?_⟩;rcases List.mem_cons.1 hx with rfl | q
   ·exact Int.le_trans hm.2 h1
   ·exact h2 x q
 intro xs x hx;exact(key xs 0).2 x hx
theorem qmM{xs:Ags}(h:∀x∈xs,0<=x.Level/\x.Level<=8):0<=hiI xs/\hiI xs<=8:=by
 have key:∀(xs:Ags)(m:Int),0<=m->m<=8->(∀x∈xs,0<=x.Level/\x.Level<=8)->0<=xs.foldl (λm x=>if x.Level<m then m else x.Level) m/\xs.foldl (λm x=>if x.Level<m then m else x.Level) m<=8:=by
  intro xs
  induction xs with
  | nil=>intro m h1 h2 _;exact⟨h1,h2⟩
  | cons y ys ih=>
   intro m h1 h2 h3;have:=h3 y (by simp);have hm:0<=(if y.Level<m then m else y.Level)/\(if y.Level<m then m else y.Level)<=8:=by split<;>omega
   exact ih _ hm.1 hm.2 λx hx=>h3 x (by simp[hx])
 exact key xs 0 (by omega) (by omega) h
theorem QJ{x:qC}(h:qg x=true):0<=x.Level/\x.Level<=8:=by
 have:=J4 h;unfold zw at this;split at this
 ·rwa[Jz]at this
 ·simp at this;omega
end
section
variable {R:Nat->Bool} {bk:List qE} {N:Ags} {a b:Nat} {x y:qC} {t:qE} {lev:Int}
theorem Zx(ht:zF t=true){z:qC}(hz:t.Agents[0]?=some z):z.Ports.length=1:=by
 obtain⟨q1,q2⟩:=gSi.1 hz;have k:=(qB2 ht 0 q1).2 rfl;rw[q2]at k;have:=(QK (Zp ht hz)).1;unfold fieldsOf jy at this;rw[k]at this;simp at this;omega
theorem X6(ht:zF t=true):∃c r,qO t.Agents (pt 0 0)=pt (c+1) r/\atP t.Agents 0 0=some (pt (c+1) r)/\atP t.Agents (c+1) r=some (pt 0 0)/\c+1<t.Agents.length:=by
 have h0:=ZI ht;have hz:t.Agents[0]?=some t.Agents[0]:=gEg h0;have hp:=Zx ht hz;obtain⟨c,r,e1,e2,e3,_,e5,e6⟩:=(Zo ht).live (a:=0) (s:=0) (ju.2 ⟨_,hz,by omega⟩) id;cases c with
 | zero=>
  have:=e3.in hz;obtain rfl:r=0:=by omega
  exact absurd ⟨rfl,rfl⟩ e6
 | succ c=>exact⟨c,r,e1,e2,e5,qiY e5⟩
end
structure zU where
 A:qM
 B:qM
def zU.enc(x:zU):AV:=.agg [iI x.A.Agent,iI x.A.Slot,iI x.B.Agent,iI x.B.Slot]
theorem zU.isSh:Sh zU.enc 4 (some 4):=⟨λx=>by simp[zU.enc,AV.tree,AV.trees],λ_=>rfl,λ_=>rfl,by decide,λx=>by simp[zU.enc]⟩
section
variable {x:zU}
@[go_sem] theorem zU.tr:x.enc.tree=true:=zU.isSh.tree x
@[go_sem] theorem zU.ln:x.enc.cells.length=4:=nr rfl
@[go_sem] theorem zU.all:x.enc.part 0 (some 4)=some x.enc:=nr rfl
@[go_sem] theorem zU.q0:x.enc.part 0 (some 2)=some (qM.enc x.A):=nr rfl
@[go_sem] theorem zU.q2:x.enc.part 2 (some 2)=some (qM.enc x.B):=nr rfl
end
def bef(p q:qM):Bool:=decide (p.Agent<q.Agent) || (decide (p.Agent=q.Agent)&&decide (p.Slot<q.Slot))
def wrs(xs:List qC)(ps:List qM):List zU:=(ps.filter λp=>bef p (qO xs p)).map λp=>⟨p,qO xs p⟩
def zC(xs:List qC):List zU:=wrs xs (qv xs xs.length)
theorem qiF{xs:List qC}{a b:List qM}:wrs xs (a++b)=wrs xs a++wrs xs b:=by simp[wrs]
theorem qDH{xs:List qC}{a:List qM}:(wrs xs a).length<=a.length:=by rw[wrs,lMp];exact List.length_filter_le ..
theorem qiG{xs:List qC}{p:qM}:wrs xs [p]=if bef p (qO xs p)=true then [⟨p,qO xs p⟩]else []:=by
 unfold wrs;cases h:bef p (qO xs p)<;>simp[h]
theorem qBW{xs:List qC}{a s:Nat}(h:Has xs a s):∀{i:Nat},a<i->i<=xs.length->pt a s∈qv xs i
 | 0,h0,_=>by omega
 | i+1,h1,h2=>by
  rw[qv];by_cases e:a=i
  ·subst e;obtain⟨x,hx,hs⟩:=ju.1 h;refine List.mem_append_right _ ?_;have:jE xs (a:Int)=x.Ports.length:=by simp[jE,hx]
   rw[this];exact List.mem_map.2 ⟨s,lMr.2 hs,rfl⟩
  ·exact List.mem_append_left _ (qBW h (by omega) (by omega))
theorem qrB{n:qE}(ok:zF n=true):zC n.Agents≠[]:=by
 obtain⟨c,r,e1,e2,e3,e4⟩:=X6 ok;have hm:=qBW (xs:=n.Agents) (a:=0) (s:=0) ⟨_,e2⟩ (i:=n.Agents.length) (by omega) (nLr _);have hb:bef (pt 0 0) (qO n.Agents (pt 0 0))=true:=by
  rw[e1];simp only[bef,pt,Bool.or_eq_true,dTe];exact .inl (by omega)
 have:(⟨pt 0 0,qO n.Agents (pt 0 0)⟩:zU)∈zC n.Agents:=List.mem_map.2 ⟨pt 0 0,List.mem_filter.2 ⟨hm,hb⟩,rfl⟩;intro h;rw[h]at this;cases this
def agC(lev:Int)(x:qC):qD:=⟨x.Kind,if jQ x.Kind=true then x.Level+lev else x.Level,x.Value,x.Data,List.replicate (x.Ports.length-1) w0⟩
def tkA(lev:Int)(N:List qC)(m:qH):Nat->qH×List Int
 | 0=>(m,[])
 | i+1=>match N[i+1]? with
  | some x=>(qR (tkA lev N m i).1 (agC lev x),(tkA lev N m i).2++[(tkA lev N m i).1.Free])
  | none=>tkA lev N m i
def tkV(m:qH):Nat->qH×List Int
 | 0=>(m,[])
 | i+1=>(qR (tkV m i).1 (qd []),(tkV m i).2++[(tkV m i).1.Free])
def nI2(ks:List Nat):List Int:=ks.map λk:Nat=>(k:Int)
theorem J0{k:Int}(h:qt k=true):k≠0:=by
 rintro rfl;cases h
section
variable {P:List qF} {O:Nat->Bool} {m m0:qH} {lev:Int} {N:List qC}
structure TkI(m0:qH)(N:List qC)(lev:Int)(P:List qF)(O:Nat->Bool)(ks:List Nat)(s:qH×List Int)(i:Nat):Prop where
 at':s.2=nI2 ks
 len:ks.length=i
 nd:ks.Nodup
 new:∀k∈ks,O k=false
 mm:MM s.1 (ks.map aW++P) (inO O ks)
 cell:∀(j k:Nat)(x:qC),ks[j]?=some k->N[j+1]?=some x->s.1.Cells[k]?=some (agC lev x)
 nf:nF m0.Cells=nF s.1.Cells+i
 cl:s.1.Cells.length=m0.Cells.length
 root:s.1.Root=m0.Root
 rx:s.1.Redexes=m0.Redexes
 keep:∀(k:Nat)(c:qD),m0.Cells[k]?=some c->c.Kind≠0->s.1.Cells[k]?=some c/\k∉ks
theorem Vy(h:MM m P O)(hk:∀(i:Nat)(x:qC),N[i+1]?=some x->qt x.Kind=true):∀i,i<=nF m.Cells->i+1<=N.length->∃ks,TkI m N lev P O ks (tkA lev N m i) i
 | 0,_,_=>⟨[],rfl,rfl,List.nodup_nil,λk q=>(by cases q),by rw[Y8];exact h,λj k x q=>(by cases q),rfl,rfl,rfl,rfl,λk c q _=>⟨q,by simp⟩⟩
 | i+1,hf,hi=>by
  obtain⟨ks,a1,a2,a3,a4,a5,a6,a7,a8,a9,a10,a11⟩:=Vy h hk i (by omega) (by omega);have hx:=gEg (show i+1<N.length by omega);generalize N[i+1]=x at hx;have ag:=hk i x hx;have k0:(agC lev x).Kind≠0:=J0 ag;obtain⟨k,t1,t2,t3⟩:=Qn (c:=agC lev x) a5 (by omega) ag;have e:tkA lev N m (i+1)=(qR (tkA lev N m i).1 (agC lev x),(tkA lev N m i).2++[(tkA lev N m i).1.Free]):=by
   rw[tkA,hx]
  have hkn:k∉ks:=λq=>by simp[inO,q]at t1
  have hko:O k=false:=Bool.eq_false_iff.2 λq=>by simp[inO,q]at t1
  rw[e];refine⟨ks++[k],by simp only[a1,t2.fr,nI2,lMa];rfl,by simp[a2], ?_,λj q=>?_, ?_,λj l y q1 q2=>?_, ?_, ?_, ?_, ?_,λl c q1 q2=>?_⟩
  ·rw[List.nodup_append];exact⟨a3,by simp,λa ha b hb=>by simp only[lMg]at hb;rintro rfl;rw[hb]at ha;exact hkn ha⟩
  ·rcases jR.1 q with q | q
   ·exact a4 j q
   ·rw[lMg.1 q];exact hko
  ·rw[<-qd8];refine MI.perm t3 ?_;rw[lMa,lMc,List.map_nil,lAa];exact(List.perm_middle (a:=aW k) (l₁:=ks.map aW) (l₂:=P)).symm
  ·by_cases q:j<ks.length
   ·rw[gAl q]at q1;exact(t2.keep (a6 j l y q1 q2) (J0 (hk j y q2))).1
   ·have:j=i:=by
     have:=qp q1;rw[lAp,List.length_singleton]at this;omega
    subst this;rw[gAr (by omega),a2,nSs]at q1;simp only[List.getElem?_cons_zero,oSi]at q1;subst q1;rw[hx]at q2;cases q2;exact t2.new
  ·have:=t2.nf k0;simp only;omega
  ·simp only;rw[t2.len,a8]
  ·simp only;rw[t2.root,a9]
  ·simp only;rw[t2.rx,a10]
  ·obtain⟨b1,b2⟩:=a11 l c q1 q2;obtain⟨b3,b4⟩:=t2.keep b1 q2;exact⟨b3,λq=>(jR.1 q).elim b2 λq=>b4 (lMg.1 q)⟩
structure TkV(m0:qH)(P:List qF)(O:Nat->Bool)(vs:List Nat)(s:qH×List Int)(i:Nat):Prop where
 at':s.2=nI2 vs
 len:vs.length=i
 nd:vs.Nodup
 mm:MM s.1 ((vs.flatMap λv=>[vW v,vW v])++P) O
 cell:∀v∈vs,s.1.Cells[v]?=some (qd [])
 nf:nF m0.Cells=nF s.1.Cells+i
 cl:s.1.Cells.length=m0.Cells.length
 root:s.1.Root=m0.Root
 rx:s.1.Redexes=m0.Redexes
 keep:∀(k:Nat)(c:qD),m0.Cells[k]?=some c->c.Kind≠0->s.1.Cells[k]?=some c/\k∉vs
theorem V0(h:MM m P O):∀i,i<=nF m.Cells->∃vs,TkV m P O vs (tkV m i) i
 | 0,_=>⟨[],rfl,rfl,List.nodup_nil,h,λv q=>(by cases q),rfl,rfl,rfl,rfl,λk c q _=>⟨q,by simp⟩⟩
 | i+1,hf=>by
  obtain⟨vs,a1,a2,a3,a5,a6,a7,a8,a9,a10,a11⟩:=V0 h i (by omega);obtain⟨k,t1,t2,t3⟩:=YJ a5 (by omega);have hkn:k∉vs:=λq=>(t2.keep (a6 k q) (by decide)).2 rfl;refine⟨vs++[k],by simp only[tkV,a1,t2.fr,nI2,lMa];rfl,by simp[a2], ?_, ?_,λv q=>?_, ?_, ?_, ?_, ?_,λl c q1 q2=>?_⟩
  ·rw[List.nodup_append];exact⟨a3,by simp,λa ha b hb=>by simp only[lMg]at hb;rintro rfl;rw[hb]at ha;exact hkn ha⟩
  ·refine MI.perm t3 ?_;rw[List.flatMap_append,List.perm_iff_count];intro a;simp only[List.flatMap_cons,List.flatMap_nil,lAn,List.count_append,List.count_cons,List.count_nil];omega
  ·rcases jR.1 q with q | q
   ·exact(t2.keep (a6 v q) (by decide)).1
   ·rw[lMg.1 q];exact t2.new
  ·have:=t2.nf (show (qd []).Kind≠0 by decide);simp only[tkV];omega
  ·simp only[tkV];rw[t2.len,a8]
  ·simp only[tkV];rw[t2.root,a9]
  ·simp only[tkV];rw[t2.rx,a10]
  ·obtain⟨b1,b2⟩:=a11 l c q1 q2;obtain⟨b3,b4⟩:=t2.keep b1 q2;exact⟨b3,λq=>(jR.1 q).elim b2 λq=>b4 (lMg.1 q)⟩
end
section
variable {N:Ags} {p q:qM} {a s i:Nat}
def qi(N:Ags):List qM:=qv N N.length
theorem qCH:∀{i:Nat},p∈qv N i->∃a s,p=pt a s/\a<i/\(i<=N.length->Has N a s)
 | 0,h=>by cases h
 | i+1,h=>by
  rw[qv]at h;rcases jR.1 h with h | h
  ·obtain⟨a,s,e1,e2,e3⟩:=qCH h;exact⟨a,s,e1,by omega,λhi=>e3 (by omega)⟩
  ·obtain⟨s,hs,rfl⟩:=List.mem_map.1 h;refine⟨i,s,rfl,by omega,λhi=>?_⟩;have hx:=gEg (show i<N.length by omega);generalize N[i]=x at hx;have:jE N (i:Int)=x.Ports.length:=by simp[jE,hx]
   rw[this]at hs;exact ju.2 ⟨x,hx,lMr.1 hs⟩
theorem JR:p∈qi N↔∃a s,p=pt a s/\Has N a s:=by
 constructor
 ·intro h;obtain⟨a,s,e1,e2,e3⟩:=qCH h;exact⟨a,s,e1,e3 (nLr _)⟩
 ·rintro⟨a,s,rfl,h⟩;obtain⟨x,hx,hs⟩:=ju.1 h;exact qBW h (qp hx) (nLr _)
theorem Vi:∀{i:Nat},(qv N i).Nodup
 | 0=>List.nodup_nil
 | i+1=>by
  rw[qv,List.nodup_append];refine⟨Vi, ?_,λa ha b hb=>?_⟩
  ·unfold ze;rw[List.nodup_iff_pairwise_ne,List.pairwise_map];refine List.Pairwise.imp ?_ List.nodup_range;intro a b h e;simp only[qM.mk.injEq]at e;exact h (by omega)
  ·obtain⟨a',s',e1,e2,_⟩:=qCH ha;obtain⟨s,hs,rfl⟩:=List.mem_map.1 hb;rintro rfl;have:(⟨(i:Int),(s:Int)⟩:qM)=pt i s:=rfl;rw[this]at e1;have:=(ZN.1 e1).1;omega
structure Peer(N:Ags)(p:qM):Prop where
 m:qO N p∈qi N
 pp:qO N (qO N p)=p
 ne:qO N p≠p
theorem jx(hW:W N λ_ _=>False)(h:p∈qi N):Peer N p:=by
 obtain⟨a,s,rfl,hs⟩:=JR.1 h;obtain⟨c,k,e1,e2,e3,_,e5,e6⟩:=hW.live hs id;refine⟨JR.2 ⟨c,k,e1,e3⟩,by rw[e1];exact Ws e5, ?_⟩;rw[e1];exact λe=>e6 (ZN.1 e)
theorem qo1(hW:W N λ_ _=>False):((qi N).map (qO N)).Perm (qi N):=by
 refine(List.perm_ext_iff_of_nodup ?_ Vi).2 λq=>⟨λh=>?_,λh=>?_⟩
 ·rw[List.nodup_iff_pairwise_ne,List.pairwise_map];refine List.Pairwise.imp_of_mem ?_ (Vi (N:=N) (i:=N.length));intro a b ha hb hne e;have:=congrArg (qO N) e;rw[(jx hW ha).pp,(jx hW hb).pp]at this;exact hne this
 ·obtain⟨p,hp,rfl⟩:=List.mem_map.1 h;exact(jx hW hp).m
 ·exact List.mem_map.2 ⟨qO N q,(jx hW h).m,(jx hW h).pp⟩
theorem qf6{α:Type}(hW:W N λ_ _=>False)(g:qM->List α):((qi N).flatMap λp=>g (qO N p)).Perm ((qi N).flatMap g):=by
 have h:=(qo1 hW).flatMap_right g;rw[List.flatMap_map]at h;exact h
theorem XM{p q:qM}(h:p≠q):bef q p= !bef p q:=by
 obtain⟨a,s⟩:=p;obtain⟨b,t⟩:=q;have h2:¬(a=b/\s=t):=λe=>h (by rw[e.1,e.2]);unfold bef;by_cases h1:a<b
 ·simp only[h1,decide_true,Bool.true_or,Bool.not_true,Bool.or_eq_false_iff,decide_eq_false_iff_not,Bool.and_eq_false_iff];exact⟨by omega,.inl (by omega)⟩
 ·by_cases h3:a=b
  ·subst h3;by_cases h4:s<t
   ·have:¬t<s:=by omega
    simp[h4,this]
   ·have:t<s:=by omega
    simp[h4,this]
  ·have:b<a:=by omega
   have h5:¬b=a:=λe=>h3 e.symm;simp[h1,this,h3]
theorem Xh{α β:Type}{f g:α->List β}:∀(l:List α),(l.flatMap f++l.flatMap g).Perm (l.flatMap λx=>f x++g x)
 |[]=>.refl _
 | x::l=>by
  simp only[List.flatMap_cons];refine List.Perm.trans ?_ (List.Perm.append_left (f x++g x) (Xh l));rw[lAa,lAa];refine List.Perm.append_left _ ?_;rw[<-lAa,<-lAa];exact List.Perm.append_right _ List.perm_append_comm
theorem qd1{α:Type}(hW:W N λ_ _=>False)(c:qM->Bool)(hc:∀p∈qi N,c (qO N p)=c p)(g:qM->List α):
  ((qi N).flatMap λp=>if c p=true then g p else []).Perm ((qi N).flatMap λp=>if c p=true/\bef p (qO N p)=true then g p++g (qO N p)else []):=by
 have h1:((qi N).flatMap λp=>if c p=true then g p else []).Perm (((qi N).flatMap λp=>if c p=true/\bef p (qO N p)=true then g p else [])++((qi N).flatMap λp=>if c p=true/\bef (qO N p) p=true then g p else [])):=by
  have e:∀p∈qi N,(if c p=true then g p else [])=(if c p=true/\bef p (qO N p)=true then g p else [])++(if c p=true/\bef (qO N p) p=true then g p else []):=λp hp=>by
   rw[XM (p:=p) (q:=qO N p) (jx hW hp).ne.symm];by_cases hc:c p=true
   ·cases hb:bef p (qO N p)<;>simp[hc]
   ·simp[hc]
  have e2:((qi N).flatMap λp=>if c p=true then g p else [])=(qi N).flatMap λp=>(if c p=true/\bef p (qO N p)=true then g p else [])++(if c p=true/\bef (qO N p) p=true then g p else []):=by
   rw[List.flatMap_def,List.flatMap_def,List.map_congr_left e]
  rw[e2];exact(Xh _).symm
 have h2:((qi N).flatMap λp=>if c p=true/\bef (qO N p) p=true then g p else []).Perm ((qi N).flatMap λp=>if c p=true/\bef p (qO N p)=true then g (qO N p)else []):=by
  have:=(qf6 hW λp=>if c p=true/\bef (qO N p) p=true then g p else []).symm;refine this.trans ?_;have e:((qi N).flatMap λp=>if c (qO N p)=true/\bef (qO N (qO N p)) (qO N p)=true then g (qO N p)else [])=(qi N).flatMap λp=>if c p=true/\bef p (qO N p)=true then g (qO N p)else []:=by
   rw[List.flatMap_def,List.flatMap_def];congr 1;refine List.map_congr_left λp hp=>?_;rw[hc p hp,(jx hW hp).pp]
  rw[e]
 refine h1.trans ((List.Perm.append_left _ h2).trans ?_);have e:((qi N).flatMap λp=>if c p=true/\bef p (qO N p)=true then g p++g (qO N p)else [])=(qi N).flatMap λp=>(if c p=true/\bef p (qO N p)=true then g p else [])++(if c p=true/\bef p (qO N p)=true then g (qO N p)else []):=by
  rw[List.flatMap_def,List.flatMap_def];congr 1;refine List.map_congr_left λp hp=>?_;split<;>rfl
 rw[e];exact Xh _
end
def jD(w:zU):Bool:=decide (0<w.A.Slot)&&decide (0<w.B.Slot)
def qn(N:List qC):List zU:=(zC N).filter jD
def atF(b:Nat)(ks:List Nat)(a:Nat):Nat:=(b::ks).getD a 0
structure TOk(N:List qC)(b:Nat)(ks vs:List Nat)(T:qM->qF):Prop where
 t1:∀p∈qi N,0<p.Slot->(qO N p).Slot=0->T p=aW (atF b ks (qO N p).Agent.toNat)
 t2:∀(i:Nat)(w:zU)(v:Nat),(qn N)[i]?=some w->vs[i]?=some v->T w.A=vW v/\T w.B=vW v
 vl:vs.length=(qn N).length
section
variable {N:List qC} {b:Nat} {ks vs:List Nat} {T:qM->qF}
theorem qgA(hp:∀(a:Nat)(x:qC),N[a]?=some x->0<x.Ports.length)(hl:ks.length+1=N.length):∀i,i<=N.length->((qv N i).flatMap λq=>if q.Slot=0 then [aW (atF b ks q.Agent.toNat)]else [])=((b::ks).take i).map aW
 | 0,_=>rfl
 | i+1,hi=>by
  have ih:=qgA hp hl i (by omega);have hx:=gEg (show i<N.length by omega);generalize N[i]=x at hx;have hx0:=hp i x hx;have hc:jE N (i:Int)=x.Ports.length:=by simp[jE,hx]
  rw[qv,List.flatMap_append,ih,hc];have hk:i<(b::ks).length:=by simp;omega
  rw[List.take_add_one,gEg hk,Option.toList_some,lMa];congr 1;have hs:∀n:Nat,((ze i (n+1)).flatMap λq=>if q.Slot=0 then [aW (atF b ks q.Agent.toNat)]else [])=[aW (b::ks)[i]]:=by
   intro n
   induction n with
   | zero=>
    have:atF b ks i=(b::ks)[i]:=by unfold atF;rw[lGd,gEg hk];rfl
    simp[ze,this]
   | succ n ih=>
    rw[YF,List.flatMap_append,ih];have:¬((n:Int)+1=0):=by omega
    simp[this]
  obtain⟨n,hn⟩:∃n,x.Ports.length=n+1:=⟨x.Ports.length-1,by omega⟩;rw[hn,hs];rfl
def XA(N:List qC)(b:Nat)(ks:List Nat)(T:qM->qF):List qF:=(qi N).flatMap λp=>if 0<p.Slot then [T p]else if (qO N p).Slot=0 then [aW (atF b ks (qO N p).Agent.toNat)]else []
theorem W4{p:qM}(h:p∈qi N):0<=p.Slot:=by
 obtain⟨a,s,rfl,_⟩:=JR.1 h;simp only[pt];omega
theorem qmV{α:Type}(f:qM->qM->List α):((qi N).flatMap λp=>if (decide (0<p.Slot)&&decide (0<(qO N p).Slot))=true/\bef p (qO N p)=true then f p (qO N p)else [])=(qn N).flatMap λw=>f w.A w.B:=by
 unfold qn zC wrs qi;generalize qv N N.length=l
 induction l with
 | nil=>rfl
 | cons p l ih=>
  rw[List.flatMap_cons,ih];by_cases hb:bef p (qO N p)=true
  ·by_cases hi:jD ⟨p,qO N p⟩=true
   ·have hi':(decide (0<p.Slot)&&decide (0<(qO N p).Slot))=true:=hi;rw[if_pos ⟨hi',hb⟩,List.filter_cons_of_pos (p:=λp=>bef p (qO N p)) hb,lMc,List.filter_cons_of_pos hi,List.flatMap_cons]
   ·have hi':¬(decide (0<p.Slot)&&decide (0<(qO N p).Slot))=true:=hi;rw[if_neg (λq=>hi' q.1),List.filter_cons_of_pos (p:=λp=>bef p (qO N p)) hb,lMc,List.filter_cons_of_neg hi];rfl
  ·rw[if_neg (λq=>hb q.2),List.filter_cons_of_neg (p:=λp=>bef p (qO N p)) hb];rfl
theorem qdH{α β:Type}{f:α->List β}{g:Nat->List β}:∀{l:List α}{vs:List Nat},vs.length=l.length->(∀(i:Nat)(a:α)(v:Nat),l[i]?=some a->vs[i]?=some v->f a=g v)->l.flatMap f=vs.flatMap g
 |[],[],_,_=>rfl
 |[],v::vs,h,_=>by simp at h
 | a::l,[],h,_=>by simp at h
 | a::l,v::vs,h,hf=>by
  rw[List.flatMap_cons,List.flatMap_cons,hf 0 a v rfl rfl,qdH (by simpa using h) λi a v h1 h2=>hf (i+1) a v (by simpa using h1) (by simpa using h2)]
theorem qq6(hW:W N λ_ _=>False)(hp:∀(a:Nat)(x:qC),N[a]?=some x->0<x.Ports.length)(hl:ks.length+1=N.length)(t:TOk N b ks vs T):(XA N b ks T).Perm ((b::ks).map aW++vs.flatMap λv=>[vW v,vW v]):=by
 let g:qM->List qF:=λq=>if q.Slot=0 then [aW (atF b ks q.Agent.toNat)]else if (qO N q).Slot=0 then []else [T (qO N q)];have h1:XA N b ks T=(qi N).flatMap λp=>g (qO N p):=by
  unfold XA;rw[List.flatMap_def,List.flatMap_def];congr 1;refine List.map_congr_left λp hp=>?_;have P:=jx hW hp;have s0:=W4 hp;have s1:=W4 P.m;simp only[g,P.pp];by_cases a:0<p.Slot
  ·rw[if_pos a];by_cases c:(qO N p).Slot=0
   ·rw[if_pos c,t.t1 p hp a c]
   ·rw[if_neg c,if_neg (by omega)]
  ·rw[if_neg a];by_cases c:(qO N p).Slot=0
   ·rw[if_pos c,if_pos c]
   ·rw[if_neg c,if_neg c,if_pos (by omega)]
 rw[h1];refine(qf6 hW g).trans ?_;let c:qM->Bool:=λp=>decide (0<p.Slot)&&decide (0<(qO N p).Slot);have h2:(qi N).flatMap g=(qi N).flatMap λq=>(if q.Slot=0 then [aW (atF b ks q.Agent.toNat)]else [])++(if c q=true then [T (qO N q)]else []):=by
  rw[List.flatMap_def,List.flatMap_def];congr 1;refine List.map_congr_left λp hp=>?_;have P:=jx hW hp;have s0:=W4 hp;have s1:=W4 P.m;simp only[g,c];by_cases a:p.Slot=0
  ·rw[if_pos a,if_pos a,if_neg (by simp[a])];rfl
  ·rw[if_neg a,if_neg a];by_cases d:(qO N p).Slot=0
   ·rw[if_pos d,if_neg (by simp[d])];rfl
   ·rw[if_neg d,if_pos (by simp;omega)];rfl
 rw[h2];refine(Xh _).symm.trans ?_;have h3:((qi N).flatMap λq=>if q.Slot=0 then [aW (atF b ks q.Agent.toNat)]else [])=(b::ks).map aW:=by
  have:=qgA (b:=b) hp hl N.length (nLr _);rw[List.take_of_length_le (by simp;omega)]at this;exact this
 rw[h3];refine List.Perm.append_left _ ?_;refine(qd1 hW c (λp hp=>?_) λq=>[T (qO N q)]).trans ?_
 ·have P:=jx hW hp;simp only[c,P.pp];exact Bool.and_comm _ _
 ·have h4:((qi N).flatMap λp=>if c p=true/\bef p (qO N p)=true then [T (qO N p)]++[T (qO N (qO N p))]else [])=(qi N).flatMap λp=>if (decide (0<p.Slot)&&decide (0<(qO N p).Slot))=true/\bef p (qO N p)=true then(λp q=>[T q,T p]) p (qO N p)else []:=by
   rw[List.flatMap_def,List.flatMap_def];congr 1;refine List.map_congr_left λp hp=>?_;simp only[c,(jx hW hp).pp];rfl
  refine List.Perm.of_eq (h4.trans ((qmV (N:=N) λp q=>[T q,T p]).trans ?_));exact qdH (g:=λv=>[vW v,vW v]) t.vl λi w v h1 h2=>by rw[(t.t2 i w v h1 h2).1,(t.t2 i w v h1 h2).2]
end
def gkw(ks:List Nat)(f:Nat->List qF)(k:Nat):Option (List qF):=if k∈ks then some (f (ks.idxOf k))else none
section
variable {m:qH} {ks:List Nat} {f f':Nat->List qF} {i k j n:Nat} {ws:List qF} {P:List qF} {O:Nat->Bool} {c:qD}
theorem qmS(nd:ks.Nodup)(h:ks[i]?=some k):ks.idxOf k=i:=by
 have hi:=qp h;rw[gEg hi]at h;cases h;have h1:=List.idxOf_lt_length_of_mem (gMm hi);have h2:ks[ks.idxOf ks[i]]=ks[i]:=List.getElem_idxOf h1;exact(List.getElem_inj nd).1 h2
theorem Y5(nd:ks.Nodup)(h:ks[i]?=some k):gkw ks f k=some (f i):=by
 rw[gkw,if_pos (lMo h),qmS nd h]
theorem Zh(h:k∉ks):gkw ks f k=none:=if_neg h
theorem qdS(nd:ks.Nodup)(h:ks[i]?=some k):ZW (gkw ks f) k ws=gkw ks (λj=>if j=i then ws else f j):=by
 funext q;unfold ZW;by_cases e:q=k
 ·subst e;rw[if_pos rfl,Y5 nd h,if_pos rfl]
 ·rw[if_neg e];unfold gkw;by_cases hm:q∈ks
  ·rw[if_pos hm,if_pos hm];refine congrArg some (if_neg λhi=>?_).symm;apply e;have h1:=List.idxOf_lt_length_of_mem hm;have h2:ks[ks.idxOf q]=q:=List.getElem_idxOf h1;rw[gSi]at h;obtain⟨h3,h4⟩:=h;rw[<-h2,<-h4];congr 1
  ·rw[if_neg hm,if_neg hm]
theorem qBK(hf:∀i,i<ks.length->f i=f' i):gkw ks f=gkw ks f':=by
 funext q;unfold gkw;by_cases hm:q∈ks
 ·rw[if_pos hm,if_pos hm,hf _ (List.idxOf_lt_length_of_mem hm)]
 ·rw[if_neg hm,if_neg hm]
theorem Y6(nd:ks.Nodup)(h:ks[j]?=some k):gkw (ks.take (j+1)) f=ZW (gkw (ks.take j) f) k (f j):=by
 have hj:=qp h;have e:ks.take (j+1)=ks.take j++[k]:=by rw[List.take_add_one,h];rfl
 have nd1:(ks.take (j+1)).Nodup:=nd.sublist (List.take_sublist _ _);have hk:k∉ks.take j:=by
  rw[e,List.nodup_append]at nd1;exact λq=>nd1.2.2 k q k (by simp) rfl
 funext q;unfold ZW;by_cases e2:q=k
 ·subst e2;rw[if_pos rfl];exact Y5 nd1 (by rw[gTk,if_pos (by omega)];exact h)
 ·rw[if_neg e2];unfold gkw;by_cases hm:q∈ks.take j
  ·rw[if_pos (by rw[e];exact List.mem_append_left _ hm),if_pos hm,e,List.idxOf_append,if_pos hm]
  ·rw[if_neg (by rw[e];simp[hm,e2]),if_neg hm]
theorem qcP(nd:ks.Nodup)(no:∀k∈ks,O k=false)(hc:∀(i k:Nat),ks[i]?=some k->∃c,m.Cells[k]?=some c/\zr {c with Words:=f i})(h:MM m ((List.range ks.length).flatMap f++P) (inO O ks)):
  ∀j,j<=ks.length->MM (ovM m (gkw (ks.take j) f)) ((List.range' j (ks.length-j)).flatMap f++P) (inO O (ks.drop j))/\nF (ovM m (gkw (ks.take j) f)).Cells=nF m.Cells
 | 0,_=>by
  have e:gkw (ks.take 0) f=λ_=>none:=by funext q;exact Zh (by simp)
  rw[e,qCB,List.drop_zero,Nat.sub_zero,<-List.range_eq_range'];exact⟨h,rfl⟩
 | j+1,hj=>by
  obtain⟨h1,h2⟩:=qcP nd no hc h j (by omega);have hk:=gEg (show j<ks.length by omega);generalize hkk:ks[j]=k at hk;obtain⟨c,c1,c2⟩:=hc j k hk;have hkn:k∉ks.take j:=by
   have nd1:(ks.take (j+1)).Nodup:=nd.sublist (List.take_sublist _ _);rw[List.take_add_one,hk,Option.toList_some,List.nodup_append]at nd1;exact λq=>nd1.2.2 k q k (by simp) rfl
  have hat:(ovM m (gkw (ks.take j) f)).Cells[k]?=some c:=by rw[J5,c1,oMs,qB7 (Zh hkn)]
  have ed:ks.drop j=k::ks.drop (j+1):=by rw[lDc (show j<ks.length by omega),hkk]
  rw[ed,show ks.length-j=(ks.length-(j+1))+1 by omega,List.range'_succ,List.flatMap_cons,lAa]at h1;obtain⟨p1,p2,p3⟩:=X3 (k:=k) (c:=c) h1 hat (by simp[inO]) c2;have nd2:(k::ks.drop (j+1)).Nodup:=by rw[<-ed];exact nd.sublist (List.drop_sublist _ _)
  rw[qd7 (List.nodup_cons.1 nd2).1 (no k (lMo hk)),Wq c1,<-Y6 nd hk]at p1;rw[Wq c1,<-Y6 nd hk]at p2;exact⟨p1,by rw[p2,h2]⟩
def wW(m:qH)(ps:List (Nat×Nat)):qH:=ps.foldl (λm p=>Jo m p.1 p.2) m
theorem qgO:∀(ps:List (Nat×Nat)){m:qH},MM m ((ps.flatMap λp=>[aW p.1,aW p.2])++P) O->MM (wW m ps) P O
 |[],m,h=>h
 | (a,b)::ps,m,h=>by
  rw[List.flatMap_cons]at h;exact qgO ps (m:=Jo m a b) (MI.redex h).2
end
def tW(N:List qC)(b:Nat)(ks vs:List Nat)(p:qM):qF:=
 if (qO N p).Slot=0 then aW (atF b ks (qO N p).Agent.toNat)
 else match ((qn N).zip vs).find? (λq=>decide (q.1.A=p) || decide (q.1.B=p))with
  | some q=>vW q.2
  | none=>w0
section
variable {N:List qC} {b:Nat} {ks vs:List Nat} {w:zU} {i j:Nat} {p:qM}
theorem WX:w∈qn N↔w.A∈qi N/\w.B=qO N w.A/\bef w.A w.B=true/\0<w.A.Slot/\0<w.B.Slot:=by
 unfold qn zC wrs;simp only[List.mem_filter,List.mem_map,jD,bAt,dTe];constructor
 ·rintro⟨⟨p,⟨h1,h2⟩,rfl⟩,h3⟩;exact⟨h1,rfl,h2,h3⟩
 ·rintro⟨h1,h2,h3,h4⟩;obtain⟨A,B⟩:=w;simp only at h1 h2 h3 h4|-;subst h2;exact⟨⟨A,⟨h1,h3⟩,rfl⟩,h4⟩
theorem qmW:(qn N).Nodup:=by
 unfold qn zC wrs;refine List.Nodup.sublist List.filter_sublist ?_;rw[List.nodup_iff_pairwise_ne,List.pairwise_map];refine List.Pairwise.imp ?_ (List.Nodup.sublist List.filter_sublist (Vi (N:=N) (i:=N.length)));intro a c h e;exact h (congrArg zU.A e)
theorem qmX(hW:W N λ_ _=>False){w w':zU}(h:w∈qn N)(h':w'∈qn N)(hp:p=w.A\/p=w.B)(hq:w'.A=p\/w'.B=p):w'=w:=by
 obtain⟨a1,a2,a3,a4,a5⟩:=WX.1 h;obtain⟨b1,b2,b3,b4,b5⟩:=WX.1 h';obtain⟨A,B⟩:=w;obtain⟨A',B'⟩:=w';simp only at*;have P:=jx hW a1;have P':=jx hW b1;subst a2 b2;have key:A'=A:=by
  rcases hp with rfl | rfl
  ·rcases hq with e | e
   ·exact e
   ·have e2:A'=qO N p:=by rw[<-e,P'.pp]
    rw[e2,P.pp,XM P.ne.symm,a3]at b3;cases b3
  ·rcases hq with e | e
   ·rw[e,P.pp,XM P.ne.symm,a3]at b3;cases b3
   ·have:=congrArg (qO N) e;rw[P'.pp,P.pp]at this;exact this
 rw[key]
theorem qC9(hW:W N λ_ _=>False)(hv:vs.length=(qn N).length):TOk N b ks vs (tW N b ks vs) where
 t1:=λp hp h1 h2=>by rw[tW,if_pos h2]
 t2:=λi w v h1 h2=>by
  have hm:=lMo h1;obtain⟨a1,a2,a3,a4,a5⟩:=WX.1 hm;have P:=jx hW a1;have key:∀p,(p=w.A\/p=w.B)->((qn N).zip vs).find? (λq=>decide (q.1.A=p) || decide (q.1.B=p))=some (w,v):=λp hp=>by
   have hz:((qn N).zip vs)[i]?=some (w,v):=List.getElem?_zip_eq_some.2 ⟨h1,h2⟩;have hmz:=lMo hz;cases hf:((qn N).zip vs).find? (λq=>decide (q.1.A=p) || decide (q.1.B=p))with
   | none=>
    have:=List.find?_eq_none.1 hf (w,v) hmz;rcases hp with rfl | rfl<;>simp at this
   | some q=>
    have h3:=List.find?_some hf;have h4:=List.mem_of_find?_eq_some hf;obtain⟨k,hk⟩:=List.getElem?_of_mem h4;obtain⟨k1,k2⟩:=List.getElem?_zip_eq_some.1 hk;simp only[Bool.or_eq_true,dTe]at h3;have e:=qmX hW hm (lMo k1) hp h3;have hki:k=i:=by
     have l1:=qp k1;have l2:=qp h1;rw[gEg l1]at k1;rw[gEg l2]at h1;have:(qn N)[k]=(qn N)[i]:=by
      rw[Option.some.inj k1,Option.some.inj h1];exact e
     exact(List.getElem_inj qmW).1 this
    subst hki;rw[hz]at hk;rw[Option.some.inj hk]
  refine⟨?_, ?_⟩
  ·rw[tW,<-a2,if_neg (by omega),key _ (.inl rfl)]
  ·rw[tW,a2,P.pp,if_neg (by omega),<-a2,key _ (.inr rfl)]
 vl:=hv
def fW(N:List qC)(T:qM->qF)(i:Nat):List qF:=match N[i+1]? with
 | some x=>(List.range (x.Ports.length-1)).map λs=>T (pt (i+1) (s+1))
 | none=>[]
theorem qbF{T:qM->qF}(h0:∀x,N[0]?=some x->x.Ports.length=1):∀i,i<N.length->((qv N (i+1)).flatMap λp=>if 0<p.Slot then [T p]else [])=(List.range i).flatMap (fW N T)
 | 0,hi=>by
  have hx:=gEg hi;have h1:=h0 _ hx;have hc:jE N ((0:Nat):Int)=1:=by simp only[jE,iTn,hx];exact h1
  rw[qv,qv,hc];simp[ze]
 | i+1,hi=>by
  have ih:=qbF (T:=T) h0 i (by omega);have hx:=gEg hi;generalize N[i+1]=x at hx;have hc:jE N ((i+1:Nat):Int)=x.Ports.length:=by simp only[jE,iTn,hx]
  rw[qv,List.flatMap_append,ih,hc,List.range_succ,List.flatMap_append];congr 1;simp only[List.flatMap_cons,List.flatMap_nil,lAn,fW,hx];have:∀n:Nat,((ze (i+1) n).flatMap λp=>if 0<p.Slot then [T p]else [])=(List.range (n-1)).map λs=>T (pt (i+1) (s+1)):=by
   intro n
   induction n with
   | zero=>rfl
   | succ n ih=>
    rw[YF,List.flatMap_append,ih];cases n with
    | zero=>simp
    | succ n=>
     have:(0:Int)<(n:Int)+1:=by omega
     simp[this,List.range_succ,pt]
  exact this _
end
def ppC(N:List qC)(p:qM):Bool:=decide (p.Slot=0)&&decide ((qO N p).Slot=0)
def jc(N:List qC)(b:Nat)(ks:List Nat):List (Nat×Nat):=(zB N (N.length-1)).map λp=>(atF b ks p.A.toNat,atF b ks p.B.toNat)
def wA(N:List qC)(b:Nat)(ks:List Nat):List (Nat×Nat):=if (qO N (pt 0 0)).Slot=0 then [(b,atF b ks (qO N (pt 0 0)).Agent.toNat)]else []
section
variable {N:List qC} {b:Nat} {ks vs:List Nat} {T:qM->qF} {P:List qF} {O:Nat->Bool} {m:qH} {lev:Int}
theorem qCI{a:Nat}:∀n:Nat,(ze a (n+1)).filter (λp=>ppC N p&&bef p (qO N p))=if (ppC N (pt a 0)&&bef (pt a 0) (qO N (pt a 0)))=true then [pt a 0]else []
 | 0=>by
  have:ze a (0+1)=[pt a 0]:=rfl;rw[this,List.filter_cons];rfl
 | n+1=>by
  rw[YF,List.filter_append,qCI n];have:ppC N ⟨(a:Int),((n+1:Nat):Int)⟩=false:=by
   unfold ppC;simp only[Bool.and_eq_false_iff,decide_eq_false_iff_not];left;omega
  rw[List.filter_cons_of_neg (by rw[this];simp)];simp
theorem qf9(hr:∀(a:Nat)(x:qC),N[a]?=some x->0<x.Ports.length/\x.Kind≠0)(h00:0<(qO N (pt 0 0)).Agent):∀i,i<N.length->
  ((qv N (i+1)).filter λp=>ppC N p&&bef p (qO N p)).map (λp=>(atF b ks p.Agent.toNat,atF b ks (qO N p).Agent.toNat))=wA N b ks++(zB N i).map λp=>(atF b ks p.A.toNat,atF b ks p.B.toNat)
 | 0,hi=>by
  have hx:=gEg hi;generalize N[0]=x at hx;obtain⟨n,hn⟩:∃n,x.Ports.length=n+1:=⟨x.Ports.length-1,by have:=(hr 0 x hx).1;omega⟩;have hc:jE N ((0:Nat):Int)=n+1:=by simp only[jE,iTn,hx];exact hn
  rw[qv,qv,hc,lNa,qCI,zB];unfold wA;have hb:bef (pt 0 0) (qO N (pt 0 0))=true:=by
   unfold bef;rw[Bool.or_eq_true];exact .inl (decide_eq_true h00)
  rw[hb,Bool.and_true];by_cases h:(qO N (pt 0 0)).Slot=0
  ·rw[if_pos h,if_pos (by simp only[ppC,h,decide_true,Bool.and_true];rfl)];simp[pt,atF]
  ·rw[if_neg h,if_neg (by simp[ppC,h])];rfl
 | i+1,hi=>by
  have ih:=qf9 hr h00 i (by omega);have hx:=gEg hi;generalize N[i+1]=x at hx;obtain⟨h1,h2⟩:=hr (i+1) x hx;obtain⟨n,hn⟩:∃n,x.Ports.length=n+1:=⟨x.Ports.length-1,by omega⟩;have hc:jE N ((i+1:Nat):Int)=n+1:=by simp only[jE,iTn,hx];exact hn
  rw[qv,List.filter_append,lMa,ih,hc,qCI,zB,lMa,lAa];congr 1;congr 1;have hq:=gEg (show 0<x.Ports.length by omega);generalize x.Ports[0]=q at hq;have hpe:qO N (pt (i+1) 0)=q:=Ws (Qv.2 ⟨x,hx,hq⟩);simp only[Jf,hx,h2,if_false,hq,hpe,ppC,bef];by_cases hs:q.Slot=0
  ·by_cases hl:((i+1:Nat):Int)<q.Agent
   ·rw[if_pos,if_pos ⟨hs,hl⟩]
    ·rw[lMc,List.map_nil,hpe];rfl
    ·simp[hs,pt];omega
   ·rw[if_neg,if_neg (λa=>hl a.2)]
    ·rfl
    ·simp[hs,pt];omega
  ·rw[if_neg (by simp[hs]),if_neg (λa=>hs a.1)];rfl
theorem qq7(hW:W N λ_ _=>False)(hr:∀(a:Nat)(x:qC),N[a]?=some x->0<x.Ports.length/\x.Kind≠0)(h00:0<(qO N (pt 0 0)).Agent)(h1:∀x,N[0]?=some x->x.Ports.length=1)(hn:0<N.length):
  (XA N b ks T).Perm ((List.range (N.length-1)).flatMap (fW N T)++((jc N b ks++wA N b ks).flatMap λp=>[aW p.1,aW p.2])):=by
 have e1:XA N b ks T=(qi N).flatMap λp=>(if 0<p.Slot then [T p]else [])++(if ppC N p=true then [aW (atF b ks (qO N p).Agent.toNat)]else []):=by
  unfold XA;rw[List.flatMap_def,List.flatMap_def];congr 1;refine List.map_congr_left λp hp=>?_;have s0:=W4 hp;by_cases a:0<p.Slot
  ·rw[if_pos a,if_pos a,if_neg]
   ·rfl
   ·unfold ppC;simp;omega
  ·rw[if_neg a,if_neg a,lNa];have:p.Slot=0:=by omega
   by_cases c:(qO N p).Slot=0
   ·rw[if_pos c,if_pos (by simp[ppC,this,c])]
   ·rw[if_neg c,if_neg (by simp[ppC,c])]
 rw[e1];refine(Xh _).symm.trans ?_;obtain⟨n,e⟩:∃n,N.length=n+1:=⟨N.length-1,by omega⟩;have e2:((qi N).flatMap λp=>if 0<p.Slot then [T p]else [])=(List.range (N.length-1)).flatMap (fW N T):=by
  unfold qi;rw[e];exact qbF h1 n (by omega)
 rw[e2];refine List.Perm.append_left _ ?_;refine(qd1 hW (ppC N) (λp hp=>?_) _).trans ?_
 ·unfold ppC;rw[(jx hW hp).pp,Bool.and_comm]
 ·have e3:((qi N).flatMap λp=>if ppC N p=true/\bef p (qO N p)=true then [aW (atF b ks (qO N p).Agent.toNat)]++[aW (atF b ks (qO N (qO N p)).Agent.toNat)]else [])=(((qi N).filter λp=>ppC N p&&bef p (qO N p)).map λp=>(atF b ks p.Agent.toNat,atF b ks (qO N p).Agent.toNat)).flatMap λp=>[aW p.2,aW p.1]:=by
   have:∀l:List qM,(∀p∈l,p∈qi N)->(l.flatMap λp=>if ppC N p=true/\bef p (qO N p)=true then [aW (atF b ks (qO N p).Agent.toNat)]++[aW (atF b ks (qO N (qO N p)).Agent.toNat)]else [])=((l.filter λp=>ppC N p&&bef p (qO N p)).map λp=>(atF b ks p.Agent.toNat,atF b ks (qO N p).Agent.toNat)).flatMap λp=>[aW p.2,aW p.1]:=by
    intro l hl
    induction l with
    | nil=>rfl
    | cons p l ih=>
     rw[List.flatMap_cons,ih λq hq=>hl q (.tail _ hq),(jx hW (hl p (.head _))).pp];by_cases q:ppC N p=true/\bef p (qO N p)=true
     ·rw[if_pos q,List.filter_cons_of_pos (by simp[q.1,q.2]),lMc,List.flatMap_cons];rfl
     ·rw[if_neg q,List.filter_cons_of_neg (by simpa using q)];rfl
   exact this _ λp hp=>hp
  rw[e3];have e4:=qf9 (b:=b) (ks:=ks) hr h00 n (by omega);unfold qi;rw[e,e4,show n=N.length-1 by omega];change ((wA N b ks++jc N b ks).flatMap _).Perm _;refine((List.perm_append_comm (l₁:=wA N b ks) (l₂:=jc N b ks)).flatMap_right _).trans ?_;generalize jc N b ks++wA N b ks=l
  induction l with
  | nil=>exact .refl _
  | cons p l ih=>
   rw[List.flatMap_cons,List.flatMap_cons];exact List.Perm.append (List.Perm.swap _ _ _) ih
end
section
variable {b:Nat} {P:List qF} {O:Nat->Bool} {m:qH} {lev:Int} {t:qE}
structure WC(t:qE)(lev:Int)(m:qH)(b:Nat)(P:List qF)(O:Nat->Bool)(ks vs:List Nat):Prop where
 i:TkI m t.Agents lev (aW b::P) O ks (tkA lev t.Agents m (t.Agents.length-1)) (t.Agents.length-1)
 j:TkV (tkA lev t.Agents m (t.Agents.length-1)).1 (ks.map aW++aW b::P) (inO O ks) vs (tkV (tkA lev t.Agents m (t.Agents.length-1)).1 (qn t.Agents).length) (qn t.Agents).length
 mm:MM (wW (ovM (tkV (tkA lev t.Agents m (t.Agents.length-1)).1 (qn t.Agents).length).1 (gkw ks (fW t.Agents (tW t.Agents b ks vs)))) (jc t.Agents b ks++wA t.Agents b ks)) P O
theorem qgN:∀(ps:List (Nat×Nat)){m:qH},(wW m ps).Cells=m.Cells/\(wW m ps).Root=m.Root
 |[],m=>⟨rfl,rfl⟩
 | p::ps,m=>qgN ps (m:=Jo m p.1 p.2)
theorem ql6(ok:zF t=true)(h:MM m (aW b::P) O)(hf:t.Agents.length-1+(qn t.Agents).length<=nF m.Cells)
  (hC:∀(i:Nat)(x:qC),t.Agents[i+1]?=some x->qt x.Kind=true/\∀ws:List qF,ws.length=x.Ports.length-1->zr {agC lev x with Words:=ws}):∃ks vs,WC t lev m b P O ks vs:=by
 have hn:=ZI ok;have hW:=Zo ok;obtain⟨ks,I⟩:=Vy (lev:=lev) h (λi x hx=>(hC i x hx).1) (t.Agents.length-1) (by omega) (by omega);obtain⟨vs,J⟩:=V0 I.mm (qn t.Agents).length (by have:=I.nf;omega);refine⟨ks,vs,I,J, ?_⟩;have hkl:=I.len;have hp:∀(a:Nat)(x:qC),t.Agents[a]?=some x->0<x.Ports.length/\x.Kind≠0:=λa x hx=>by
  have oa:=Zp ok hx;refine⟨(QK oa).2,λe=>?_⟩;have hl:=qp hx;rw[gEg hl]at hx;exact qe9 ok a hl (by rw[Option.some.inj hx];exact e)
 have h1:∀x,t.Agents[0]?=some x->x.Ports.length=1:=λx hx=>Zx ok hx;have h00:0<(qO t.Agents (pt 0 0)).Agent:=by
  obtain⟨c,r,e1,_⟩:=X6 ok;rw[e1];simp only[pt];omega
 have T:=qC9 (b:=b) (ks:=ks) hW J.len;have u1:=qq6 hW (λa x hx=>(hp a x hx).1) (by omega) T;have u2:=qq7 (b:=b) (ks:=ks) (T:=tW t.Agents b ks vs) hW hp h00 h1 hn;have u3:=u2.symm.trans u1;have hmm:MM (tkV (tkA lev t.Agents m (t.Agents.length-1)).1 (qn t.Agents).length).1 ((List.range ks.length).flatMap (fW t.Agents (tW t.Agents b ks vs))++(((jc t.Agents b ks++wA t.Agents b ks).flatMap λp=>[aW p.1,aW p.2])++P)) (inO O ks):=by
  refine MI.perm J.mm ?_;rw[hkl];refine List.Perm.trans ?_ (List.Perm.of_eq (lAa _ _ _));refine List.Perm.trans ?_ (List.Perm.append_right P u3.symm);rw[List.perm_iff_count];intro a;simp only[lMc,List.count_append,List.count_cons];omega
 have hcc:∀(i k:Nat),ks[i]?=some k->∃c,(tkV (tkA lev t.Agents m (t.Agents.length-1)).1 (qn t.Agents).length).1.Cells[k]?=some c/\zr {c with Words:=fW t.Agents (tW t.Agents b ks vs) i}:=λi k hk=>by
  have hi:=qp hk;have hx:=gEg (show i+1<t.Agents.length by omega);generalize t.Agents[i+1]=x at hx;obtain⟨q1,q2⟩:=hC i x hx;have e:=I.cell i k x hk hx;refine⟨agC lev x,(J.keep k _ e (J0 q1)).1,q2 _ ?_⟩;unfold fW;rw[hx];simp
 obtain⟨c1,c2⟩:=qcP I.nd I.new hcc hmm ks.length (nLr _);rw[nSs,lTl,List.drop_length,Y8]at c1;exact qgO _ c1
end
section
variable {w:Nat} {post:List AV} {base:Nat->Prop} {nid:Nat} {h:List qB} {N:Ags} {K:AV->List qB->Prop} {a b s c k:Nat} {x y:qC} {X:Nat->Nat->Prop}
end
section
variable {w:Nat} {post:List AV} {base:Nat->Prop} {nid:Nat} {h:List qB} {N:Ags} {K:AV->List qB->Prop} {a b s c k:Nat} {x y:qC} {X:Nat->Nat->Prop}
end
section
variable {w:Nat} {post:List AV} {base:Nat->Prop} {nid:Nat} {h:List qB} {N:Ags} {K:AV->List qB->Prop} {a b s c k:Nat} {x y:qC} {X:Nat->Nat->Prop} {t:qE}
theorem layP{ps:List qM}{c:Bool}{n:Nat}:(lay (.lst 2 (ps.map qM.enc) c) n).2=[.row 2 (ps.map qM.enc) true]:=by simp[lay,qM.flat]
theorem layD{ps:List Int}{c:Bool}{n:Nat}:(lay (.lst 1 (ps.map qP) c) n).2=[.row 1 (ps.map qP) true]:=by simp[lay,lI]
end
theorem WP{x:qC}(h:qg x=true):x.Data.length<=4:=by
 have:=Zq h;unfold jB at this;simp only[bAt,dTe,inI]at this
 repeat' split at this
 all_goals (simp only[bAt,dTe]at this;omega)
theorem qfK{x:qC}(h:qg x=true):x.sz<=8:=by
 have:=WP h;have:=Jd h;unfold qC.sz;omega
theorem qC7{α:Type}{f:α->Nat}{k:Nat}:∀{xs:List α},(∀x∈xs,f x<=k)->qx f xs<=k*xs.length
 |[],_=>nZl _
 | x::xs,h=>by
  have h1:=h x (by simp);have h2:=qC7 (xs:=xs) λy hy=>h y (by simp[hy]);simp only[qx,lCo,Nat.mul_add];omega
theorem ZJ{n:qE}(h:zF n=true):n.sz<=5400/\n.Agents.length<=600:=by
 have h1:n.Agents.length<=600:=by
  have:=h;unfold zF wL at this;simp only[bAt,Jz]at this;omega
 have h2:=qC7 (f:=qC.sz) (k:=8) λx hx=>qfK (J9 (Qi h) x hx);unfold qE.sz;omega
section
variable {w:Nat} {post:List AV} {base:Nat->Prop} {nid:Nat} {h:List qB} {N:Ags} {K:AV->List qB->Prop} {a b s c k:Nat} {x y:qC} {X:Nat->Nat->Prop} {bk:List qE} {R:Nat->Bool}
end
section
variable {w:Nat} {post:List AV} {base:Nat->Prop} {nid aid:Nat} {h:List qB} {N M:Ags} {K:AV->List qB->Prop} {a b s c k:Nat} {x y:qC} {R:Nat->Bool}
end
section
variable {w:Nat} {post:List AV} {base:Nat->Prop} {nid:Nat} {h:List qB} {N:Ags} {K:AV->List qB->Prop} {a s c k:Nat}
end
def lvA(by':Int)(x:qC):qC:=if jQ x.Kind then{x with Level:=x.Level+by'}else x
def wT(by':Int)(x:qC):Bool:= !jQ x.Kind || decide (x.Level+by'<=8)
def JN(n:qE)(by':Int):qE×Bool:=if n.Agents.all (wT by')then(⟨n.Agents.map (lvA by')⟩,true)else(⟨[]⟩,false)
def QL(r:qE×Bool):AV:=.tup [r.1.enc,.bool r.2]
def Jb(by':Int)(xs:Ags)(i:Nat):Ags:=(xs.take i).map (lvA by')++xs.drop i
theorem Wg:∀{N:Ags}{m k:Nat}{x:qC},N[k]?=some x->(qT (N.map qC.enc) m).1[k]?=some (.agg [.int .i64 x.Kind,.int .i64 x.Level,.int .i64 x.Value,sQ 1 (m+2*k) x.Data.length,sQ 2 (m+2*k+1) x.Ports.length])
 | y::ys,m,0,x,h=>by
  cases h;simp only[lMc,qT,qC.layE,AV.rows,qpZ,nZa,List.getElem?_cons_zero,Nat.mul_zero,nAz]
 | y::ys,m,k+1,x,h=>by
  have:=Wg (N:=ys) (m:=m+2) (k:=k) (x:=x) h;simp only[lMc,qT,qC.layE,layP,layD,lCa,lNa,lCo,lNi,List.getElem?_cons_succ];rw[show m+2*(k+1)=m+2+2*k by omega];exact this
theorem qeM:∀{A B:Ags}{m:Nat},A.map (λx=>(x.Data,x.Ports))=B.map (λx=>(x.Data,x.Ports))->(qT (A.map qC.enc) m).2=(qT (B.map qC.enc) m).2
 |[],[],_,_=>rfl
 |[],_::_,_,h=>by simp at h
 | _::_,[],_,h=>by simp at h
 | x::A,y::B,m,h=>by
  simp only[lMc,List.cons.injEq,Prod.mk.injEq]at h;simp only[lMc,qT,qC.layE,layP,layD,h.1.1,h.1.2,lCa,lNa,lCo,lNi,qeM (A:=A) (B:=B) h.2]
theorem qnJ{by':Int}{x:qC}:((lvA by' x).Data,(lvA by' x).Ports)=(x.Data,x.Ports):=by unfold lvA;split<;>rfl
theorem qnU{by':Int}{xs:Ags}{i:Nat}(h:i<xs.length):(Jb by' xs i)[i]?=some xs[i]:=by
 unfold Jb;rw[gAr (by simp;omega)];simp only[lMp,lLt,Nat.min_eq_left (Nat.le_of_lt h),nSs,gDr,nAz];exact gEg h
theorem qnV{by':Int}{xs:Ags}{i:Nat}(h:i<xs.length):(Jb by' xs i).set i (lvA by' xs[i])=Jb by' xs (i+1):=by
 unfold Jb;rw[lSr _ _ (by simp;omega)];simp only[lMp,lLt,Nat.min_eq_left (Nat.le_of_lt h),nSs];rw[lDc h,lSz,lTs h,lMa];simp only[lMc,List.map_nil,lAa,lCa,lNa]
theorem qnC{N:Ags}{m k:Nat}{x y:qC}(hx:N[k]?=some x)(e1:y.Data=x.Data)(e2:y.Ports=x.Ports):
  (qT (N.map qC.enc) m).1.set k (.agg [.int .i64 y.Kind,.int .i64 y.Level,.int .i64 y.Value,sQ 1 (m+2*k) x.Data.length,sQ 2 (m+2*k+1) x.Ports.length])=(qT ((N.set k y).map qC.enc) m).1:=by
 have hk:=qp hx;refine List.ext_getElem? λi=>?_;rcases Nat.lt_or_ge i N.length with q | q
 ·by_cases e:i=k
  ·subst e;rw[gSs (by rw[Jk];simpa using hk),Wg (x:=y) (gSs hk),e1,e2]
  ·rw[gSn (Ne.symm e),Wg (gEg q),Wg (x:=N[i]) (by rw[gSn (Ne.symm e)];exact gEg q)]
 ·rw[gEn (by rw[lLs,Jk];simpa using q),gEn (by rw[Jk];simpa using q)]
theorem qfU(r:qE×Bool):(QL r).pl=true:=by unfold QL;simp[AV.pl,AV.pls,qE.plx]
theorem qqO{h:List qB}:XF (some [.agg [.nils],.bool false]) h (QL (⟨[]⟩,false)):=by
 refine⟨[none],rfl,⟨.ph,trivial⟩, ?_⟩;have a:VR2 [none] (.agg [.nils]) (.agg [sQ 5 0 0]):=.agg rfl (VR2s.cons (.ph rfl) VR2s.nil).2;exact .tup rfl (VR2s.cons a (VR2s.cons (.tree rfl) VR2s.nil)).2
theorem qe4(n:qE)(b:Int)(hz:n.sz<=1048576)(hb:0<=b/\b<=8)(hl:∀x∈n.Agents,0<=x.Level/\x.Level<=8):Fresh Gm 1456 [n.enc,.int .i64 b] (QL (JN n b)):=by
 refine fI KZ (by simp[AV.trees,AV.tree,qE.tr]) (qfU _) ?_;simp only[KZ,qN,go_sem];refine qW rfl ?_;simp only[go_sem];refine Ju (n798 n hz) ?_;simp only[lNa,lNi];have eL:(lay n.enc 0)=(.agg [sQ 5 0 n.Agents.length],.row 5 (qT (n.Agents.map qC.enc) 1).1 true::(qT (n.Agents.map qC.enc) 1).2):=by rw[qE.layE,lAn];rfl
 rw[eL];simp only[go_sem];unfold qE.sz at hz;refine Sem.loop (λi:Nat=>i<=n.Agents.length/\(n.Agents.take i).all (wT b)=true) (λi=>(⟨[(1,.int .i64 b),(13,.int .i64 (n.Agents.length:Nat)),(14,.int .i64 (i:Nat))],[(6,.agg [sQ 5 0 n.Agents.length]),(4,.agg [.nils])],.row 5 (qT ((Jb b n.Agents i).map qC.enc) 1).1 true::(qT (n.Agents.map qC.enc) 1).2⟩:VSt)) (λi=>n.Agents.length-i) 0 (by kernel_rfl) ⟨nZl _,by simp⟩ (by rw[show Jb b n.Agents 0=n.Agents by simp[Jb]];exact csA) ?_;rintro i ⟨hi,hI⟩;simp only[go_sem];apply qS<;>intro hc<;>simp only[hc,go_sem]
 ·have hlt:i<n.Agents.length:=by have:=odT hc;omega
  clear hc;have hx:=qnU (by':=b) hlt;have hg:=Wg (m:=1) hx;have hlx:=hl _ (gMm hlt);have ms:=qnV (by':=b) hlt;have al:(n.Agents.take (i+1)).all (wT b)=((n.Agents.take i).all (wT b)&&wT b n.Agents[i]):=by rw[lTs hlt,List.all_append];simp only[lAc,List.all_nil,Bool.and_true]
  rw[hI,Bool.true_and]at al;have alf:wT b n.Agents[i]=false->n.Agents.all (wT b)=false:=λe=>by
   rw[<-Bool.not_eq_true,lAt];intro q;have:=q _ (gMm hlt);rw[e]at this;cases this
  generalize n.Agents[i]=x at hx hg hlx ms al alf;simp only[qmR hlt,hg,go_sem];refine qI qAK ?_;simp only[go_sem];apply qS<;>intro hc<;>simp only[hc,go_sem]
  ·have hv:jQ x.Kind=false:=by simpa using hc
   have e1:lvA b x=x:=by unfold lvA;simp[hv]
   rw[e1]at ms;have e2:(Jb b n.Agents i).set i x=Jb b n.Agents i:=by
    refine List.ext_getElem? λj=>?_;by_cases e:j=i
    ·subst e;rw[gSs (qp hx),hx]
    ·rw[gSn (Ne.symm e)]
   rw[e2]at ms;rw[ms];simp only[wuA (n:=i)];refine qa (i+1) ⟨by omega, ?_⟩ (by omega) csA;rw[al];unfold wT;simp[hv]
  ·have hv:jQ x.Kind=true:=by simpa using hc
   clear hc;have e1:lvA b x={x with Level:=x.Level+b}:=by unfold lvA;simp[hv]
   have ew:IntKind.i64.wrap (x.Level+b)=x.Level+b:=wsA;simp only[hg,ew,go_sem];refine jF (e':=.agg [.int .i64 x.Kind,.int .i64 (x.Level+b),.int .i64 x.Value,sQ 1 (1+2*i) x.Data.length,sQ 2 (1+2*i+1) x.Ports.length]) rfl (by rfl) hg rfl ?_;simp only[lSz];have es:=qnC (m:=1) (y:={x with Level:=x.Level+b}) hx rfl rfl;simp only at es;rw[es,<-e1,ms];have hx2:(Jb b n.Agents (i+1))[i]?=some (lvA b x):=by rw[<-ms,gSs (qp hx)]
   have hg2:=Wg (m:=1) hx2;rw[e1]at hg2;simp only at hg2;simp only[hg2,go_sem];apply qS<;>intro hc<;>simp only[hc,go_sem]
   ·have eo:wT b x=false:=by unfold wT;have:=odT hc;simp[hv];omega
    have er:JN n b=(⟨[]⟩,false):=by unfold JN;rw[alf eo];rfl
    rw[er];exact qqO
   ·have eo:wT b x=true:=by unfold wT;have:=odF hc;simp[hv];omega
    simp only[wuA (n:=i)];refine qa (i+1) ⟨by omega, ?_⟩ (by omega) csA;rw[al,eo]
 ·have hlt:i=n.Agents.length:=by have:=odF hc;omega
  subst hlt;rw[lTl]at hI;have er:JN n b=(⟨n.Agents.map (lvA b)⟩,true):=by unfold JN;rw[hI];rfl
  have em:Jb b n.Agents n.Agents.length=n.Agents.map (lvA b):=by simp[Jb]
  rw[er,em];have e2:(qT (n.Agents.map qC.enc) 1).2=(qT ((n.Agents.map (lvA b)).map qC.enc) 1).2:=(qeM (by rw[List.map_map];exact List.map_congr_left λx _=>qnJ)).symm;rw[e2];refine Xe (pre:=[]) (post:=[]) (qfU _) ?_ ?_
  ·simp[ja,QL,lay,qT,qE.layE]
  ·simp[QL,lay,qT,qE.layE]
theorem qmO{m:Int}(h0:0<=m){xs:Ags}(h:∀x∈xs,x.Level<=m):hiI xs<=m:=by
 have key:∀(xs:Ags)(k:Int),k<=m->(∀x∈xs,x.Level<=m)->xs.foldl (λm x=>if x.Level<m then m else x.Level) k<=m:=by
  intro xs
  induction xs with
  | nil=>intro k h1 _;exact h1
  | cons y ys ih=>
   intro k h1 h2;have:=h2 y (by simp);exact ih _ (by simp only;split<;>omega) λx hx=>h2 x (by simp[hx])
 exact key xs 0 h0 h
theorem Vt{t:qE}{lev:Int}(ht:zF t=true)(hl:0<=lev/\lev<=8):t.Agents.all (wT lev)=true↔¬8<IntKind.i64.wrap (hiI t.Agents+lev):=by
 have hb:=qmM (xs:=t.Agents) λx hx=>QJ (J9 (Qi ht) x hx);rw[wsA,lAt];constructor
 ·intro h;have:=qmO (m:=8-lev) (by omega) (xs:=t.Agents) λx hx=>by
   have h1:=h x hx;unfold wT at h1;have h2:=J4 (J9 (Qi ht) x hx);unfold zw at h2;by_cases q:jQ x.Kind=true
   ·simp[q]at h1;omega
   ·rw[if_neg q]at h2;simp at h2;omega
  omega
 ·intro h x hx;have:=qmN hx;unfold wT;simp;right;omega
section
variable {w:Nat} {post:List AV} {bk:List qE} {bid:Nat} {es:List (AV×AV)} {base:Nat->Prop} {mid nid:Nat} {h:List qB} {N:Ags} {K:AV->List qB->Prop} {a b s c k:Nat} {x y:qC}
theorem Xj{v:Int}(h0:0<=v)(h1:v<bk.length):idx 1 (some (.lst 1 (bk.map qE.enc) false)) (some (.int .i64 v))=some (.ept (qr bk v).enc 0):=by
 have lv:v.toNat<bk.length:=by omega
 have e:v=((v.toNat:Nat):Int):=by omega
 unfold qr;generalize v.toNat=n at e lv;subst e;rw[qd5,gMp,gEg lv];rfl
def wU(bk:List qE)(x y:qC)(a b:Nat):AV:=if (Jj bk x y).2=0 then .tup [.int .i64 (za x y),.int .i64 (a:Nat),.int .i64 (b:Nat),.int .i64 0]else .tup [.int .i64 0,.int .i64 0,.int .i64 0,.int .i64 (Jj bk x y).2]
theorem qmG(h:za x y=8):(Jj bk x y).2=11:=by unfold Jj;rw[if_pos h]
theorem qmF(h:za x y=7)(q:(bk.length:Int)<=x.Value):(Jj bk x y).2=3:=by unfold Jj;rw[if_neg (by omega),if_pos ⟨h,q⟩]
theorem qmH(h:za x y=7)(q:¬(bk.length:Int)<=x.Value)(r:8<IntKind.i64.wrap (hiI (qr bk x.Value).Agents+x.Level)):(Jj bk x y).2=9:=by unfold Jj;rw[if_neg (by omega),if_neg (by omega),if_pos ⟨h,r⟩]
theorem qdZ(h8:za x y≠8)(q:za x y=7->¬(bk.length:Int)<=x.Value/\¬8<IntKind.i64.wrap (hiI (qr bk x.Value).Agents+x.Level)):(Jj bk x y).2=0:=by
 unfold Jj;rw[if_neg h8,if_neg (λe=>(q e.1).1 e.2),if_neg (λe=>(q e.1).2 e.2)]
end
section
variable {m:qH} {lev b:Int} {t:qE} {x:qC}
theorem qoH{k l v:Int}{d:List Int}{p q:List qM}(h:p.length=q.length):qg ⟨k,l,v,d,p⟩=qg ⟨k,l,v,d,q⟩:=by
 simp only[qg,fieldsOf,jB,h]
theorem qiM(oa:qg x=true)(k1:x.Kind≠1)(hl:jQ x.Kind=true->inI (x.Level+lev) 0 8=true):qt x.Kind=true/\∀ws:List qF,ws.length=x.Ports.length-1->zr {agC lev x with Words:=ws}:=by
 have hk:qt x.Kind=true:=by
  have h1:zw x.Kind x.Level=true:=by
   unfold qg at oa;simp only[bAt]at oa;exact oa.1.2
  have h2:JX x.Kind=true:=by
   unfold zw at h1;split at h1
   ·next q=>unfold jQ at q;unfold JX inI;simp at q|-;omega
   ·simp only[bAt]at h1;exact h1.1
  unfold JX inI at h2;simp only[qt,bAt,dTe]at h2|-;omega
 refine⟨hk,λws hw=>.inl ⟨hk, ?_⟩⟩;have s:=qfJ (base:=0) oa hl;have hp:=(QK oa).2;have e:qg (qX {agC lev x with Words:=ws})=qg (QO lev 0 x):=by
  unfold qX agC QO;exact qoH (by simp;omega)
 rw[e];exact s
theorem qDA(ok:zF t=true)(hl:0<=lev/\lev<=8)(h8:¬8<IntKind.i64.wrap (hiI t.Agents+lev))(i:Nat)(x:qC)(hx:t.Agents[i+1]?=some x):qt x.Kind=true/\∀ws:List qF,ws.length=x.Ports.length-1->zr {agC lev x with Words:=ws}:=by
 have oa:=Zp ok hx;have hi:=qp hx;refine qiM oa (λe=>?_) λq=>?_
 ·have:=(qB2 ok (i+1) hi).1 (by
   rw[gEg hi]at hx;rw[Option.some.inj hx];exact e)
  omega
 ·have h1:=(Vt ok hl).2 h8;have h2:=lAt.1 h1 x (lMo hx);have h3:=Va oa q;unfold wT at h2;simp only[inI,bAt,dTe]at h3|-;simp[q]at h2;omega
end
def dW(N:List qC)(T:qM->qF)(D:qM->Bool)(i:Nat):List qF:=match N[i+1]? with
 | some x=>(List.range (x.Ports.length-1)).map λs=>if D (pt (i+1) (s+1))=true then T (pt (i+1) (s+1))else w0
 | none=>[]
def je(D:qM->Bool)(p:qM):qM->Bool:=λq=>decide (q=p) || D q
section
variable {N:List qC} {T:qM->qF} {D D':qM->Bool} {i j k s n:Nat} {x:qC} {m m0:qH} {ks vs:List Nat} {c:qD} {lev:Int} {P:List qF} {O:Nat->Bool} {f:Nat->List qF}
theorem Ys(hx:N[i+1]?=some x):dW N T D i=(List.range (x.Ports.length-1)).map λs=>if D (pt (i+1) (s+1))=true then T (pt (i+1) (s+1))else w0:=by unfold dW;rw[hx]
theorem qcX(hx:N[i+1]?=some x):(dW N T D i).length=x.Ports.length-1:=by rw[Ys hx];simp
theorem qlJ(hx:N[i+1]?=some x)(hs:s+1<x.Ports.length):(dW N T D i).set s (T (pt (i+1) (s+1)))=dW N T (je D (pt (i+1) (s+1))) i:=by
 rw[Ys hx,Ys hx];refine List.ext_getElem (by simp) λq h1 h2=>?_;rw[List.getElem_set];simp only[List.getElem_map,List.getElem_range,je,Bool.or_eq_true,dTe];by_cases e:s=q
 ·subst e;simp
 ·have:pt (i+1) (q+1)≠pt (i+1) (s+1):=λz=>e (by have:=(ZN.1 z).2;omega);simp[e,this]
theorem qlI(h:j≠i):dW N T (je D (pt (i+1) (s+1))) j=dW N T D j:=by
 unfold dW;cases N[j+1]? with
 | none=>rfl
 | some y=>
  refine List.map_congr_left λq _=>?_;have:pt (j+1) (q+1)≠pt (i+1) (s+1):=λz=>h (by have:=(ZN.1 z).1;omega);simp[je,this]
theorem qA4(h:∀a s,Has N a s->0<a->0<s->D (pt a s)=D' (pt a s)):dW N T D=dW N T D':=by
 funext i;unfold dW;cases hx:N[i+1]? with
 | none=>rfl
 | some y=>
  refine List.map_congr_left λq hq=>?_;rw[lMr]at hq;rw[h (i+1) (q+1) (ju.2 ⟨y,hx,by omega⟩) (by omega) (by omega)]
theorem XX{a:Nat}(h:a=0\/s=0):dW N T (je D (pt a s))=dW N T D:=qA4 λa' s' _ h1 h2=>by
 have:pt a' s'≠pt a s:=λz=>by have:=ZN.1 z;omega
 simp[je,this]
theorem qcY{a:Nat}{p:qM}(h:a=0\/s=0):dW N T (je (je D (pt a s)) p)=dW N T (je D p):=qA4 λa' s' _ h1 h2=>by
 have:pt a' s'≠pt a s:=λz=>by have:=ZN.1 z;omega
 simp[je,this]
theorem QA{b:Nat}{a ka:Nat}(h:ks[a]?=some ka):atF b ks (a+1)=ka:=by simp[atF,lGd,h]
theorem qgC(nd:ks.Nodup)(hk:ks[i]?=some k)(hc:m.Cells[k]?=some c)(hx:N[i+1]?=some x)(hs:s+1<x.Ports.length):
  qo (ovM m (gkw ks (dW N T D))) (k:Int) ((dW N T D i).set s (T (pt (i+1) (s+1))))=ovM m (gkw ks (dW N T (je D (pt (i+1) (s+1))))):=by
 rw[Wq hc,qdS nd hk,qlJ hx hs];congr 1;refine qBK λj _=>?_;split
 ·next e=>rw[e]
 ·next e=>rw[qlI e]
theorem qcW(h:∀a s,Has N a s->0<a->0<s->D (pt a s)=true):dW N T D=fW N T:=by
 rw[qA4 (D':=λ_=>true) h];funext i;unfold dW fW;cases N[i+1]? with
 | none=>rfl
 | some y=>simp
theorem qB9(nd:ks.Nodup)(hk:ks[i]?=some k)(hc:m.Cells[k]?=some c):(ovM m (gkw ks f)).Cells[k]?=some {c with Words:=f i}:=by
 rw[J5,hc,oMs,qB8 (Y5 nd hk)]
theorem qfV(nd:ks.Nodup)(hl:ks.length+1<=N.length)(hc:∀(j k:Nat)(x:qC),ks[j]?=some k->N[j+1]?=some x->m.Cells[k]?=some (agC lev x)):ovM m (gkw ks (dW N T λ_=>false))=m:=by
 refine Yk (λq=>?_) rfl rfl rfl;rw[J5];by_cases hm:q∈ks
 ·obtain⟨j,hj⟩:=List.getElem?_of_mem hm;have hx:=gEg (show j+1<N.length by have:=qp hj;omega);have e:=hc j q _ hj hx;rw[e,oMs,qB8 (Y5 nd hj),Ys hx];simp[agC,List.map_const']
 ·cases m.Cells[q]? with
  | none=>rfl
  | some d=>rw[oMs,qB7 (Zh hm)]
theorem Vz:∀n,(tkV m n).2.length=n
 | 0=>rfl
 | n+1=>by rw[tkV,lAp,Vz n];rfl
theorem qhT:∀n,i<n->((tkV m n).2)[i]?=some (tkV m i).1.Free
 | n+1,h=>by
  rw[tkV];by_cases e:i=n
  ·subst e;rw[gAr (by rw[Vz];omega),Vz,nSs];rfl
  ·rw[gAl (by rw[Vz];omega)];exact qhT n (by omega)
theorem qhV(h:MM m P (inO O ks))(J:TkV m P (inO O ks) vs (tkV m n) n)(hn:n<=nF m.Cells)(hi:i<n):∃v,vs[i]?=some v/\(tkV m i).1.Free=(v:Int)/\(∃d,(ovM (tkV m i).1 (gkw ks f)).Cells[v]?=some d)/\qR (ovM (tkV m i).1 (gkw ks f)) (qd [])=ovM (tkV m (i+1)).1 (gkw ks f):=by
 obtain⟨us,K⟩:=V0 h i (by omega);obtain⟨v,d,a1,a2,a3,a4,a5⟩:=wX K.mm (by have:=K.nf;omega);have hv:=qhT (m:=m) n hi;rw[J.at',nI2,gMp,oMi]at hv;obtain⟨v',b1,b2⟩:=hv;rw[a1]at b2;have:v'=v:=by omega
 subst this;have hn:v'∉ks:=λq=>by simp[inO,q]at a4
 exact⟨v',b1,a1,⟨_,by rw[J5,a2];rfl⟩,qfW a1 (Zh hn)⟩
theorem qhU(h:MM m P (inO O ks))(hi:i<=nF m.Cells)(hc:m.Cells[k]?=some c)(h0:c.Kind≠0):(tkV m i).1.Cells[k]?=some c:=by
 obtain⟨us,K⟩:=V0 h i hi;exact(K.keep k c hc h0).1
def onW(ws:List zU):qM->Bool:=λq=>ws.any λw=>decide (q=w.A) || decide (q=w.B)
theorem qfM:onW []=λ_=>false:=rfl
theorem qfN{ws:List zU}{w:zU}:onW (ws++[w])=je (je (onW ws) w.A) w.B:=by
 funext q;simp only[onW,je,List.any_append,List.any_cons,List.any_nil,Bool.or_false];cases decide (q=w.A)<;>cases decide (q=w.B)<;>simp
theorem qDD{w:zU}:w∈zC N↔w.A∈qi N/\w.B=qO N w.A/\bef w.A w.B=true:=by
 unfold zC wrs;rw[List.mem_map];constructor
 ·rintro⟨p,h,rfl⟩;rw[List.mem_filter]at h;exact⟨h.1,rfl,h.2⟩
 ·rintro⟨h1,h2,h3⟩;refine⟨w.A,List.mem_filter.2 ⟨h1,by rw[<-h2];exact h3⟩, ?_⟩;rw[<-h2]
theorem qdI{α:Type}{p:α->Bool}:∀{l:List α}{j:Nat}{x:α},l[j]?=some x->p x=true->(l.filter p)[(l.take j).countP p]?=some x
 |[],j,x,h,_=>by simp at h
 | a::l,0,x,h,hp=>by
  simp only[List.getElem?_cons_zero,oSi]at h;subst h;rw[List.filter_cons_of_pos hp];rfl
 | a::l,j+1,x,h,hp=>by
  have ih:=qdI (l:=l) (j:=j) (by simpa using h) hp;rw[List.take_succ_cons,List.countP_cons];cases ha:p a
  ·rw[List.filter_cons_of_neg (by rw[ha];decide)];simpa using ih
  ·rw[List.filter_cons_of_pos ha];simpa using ih
theorem qfZ{p:qL}:∀{i:Nat},p∈zB N i->1<=p.A/\p.A<p.B
 | 0,h=>by cases h
 | i+1,h=>by
  rcases jR.1 h with h | h
  ·exact qfZ h
  ·unfold Jf at h;split at h
   ·split at h
    ·cases h
    ·split at h
     ·split at h
      ·next q=>simp only[lMg]at h;subst h;simp only;omega
      ·cases h
     ·cases h
   ·cases h
theorem qfY{n:qE}{p:qL}{i:Nat}(ok:zF n=true)(h:p∈zB n.Agents i):∃a c:Nat,p=⟨(a+1:Nat),(c+1:Nat)⟩/\a+1<n.Agents.length/\c+1<n.Agents.length:=by
 obtain⟨a,c,rfl,h1,h2⟩:=qf0 ok h;have:=qfZ h;simp only at this;exact⟨a-1,c-1,by rw[show a-1+1=a by omega,show c-1+1=c by omega],by omega,by omega⟩
theorem Vk{ps:List (Nat×Nat)}{a b:Nat}:wW m (ps++[(a,b)])=Jo (wW m ps) a b:=by simp[wW]
theorem X5:∀{ps:List (Nat×Nat)}{m:qH},(wW m ps).Redexes.length=m.Redexes.length+ps.length
 |[],m=>rfl
 | p::ps,m=>by
  show (wW (Jo m p.1 p.2) ps).Redexes.length=_;rw[X5];simp[Jo];omega
theorem qfL(hW:W N λ_ _=>False){p:qM}(h:p∈qi N):onW (zC N) p=true:=by
 have Q:=jx hW h;unfold onW;rw[List.any_eq_true];cases hb:bef p (qO N p)
 ·refine⟨⟨qO N p,p⟩,qDD.2 ⟨Q.m,Q.pp.symm, ?_⟩,by simp⟩;have:=XM Q.ne.symm;rw[hb]at this;simpa using this
 ·exact⟨⟨p,qO N p⟩,qDD.2 ⟨h,rfl,hb⟩,by simp⟩
end
section
variable {w:Nat} {post:List AV} {base:Nat->Prop} {nid:Nat} {h:List qB} {N:Ags} {K:AV->List qB->Prop} {a b s c k:Nat} {x y:qC} {X:Nat->Nat->Prop}
end
section
variable {N M A:Ags} {a b c d s k t u:Nat} {x y:qC} {lev v:Int} {X:Nat->Nat->Prop}
end
section
variable {w:Nat} {post:List AV} {base:Nat->Prop} {nid:Nat} {h:List qB} {N:Ags} {K:AV->List qB->Prop} {a b s c k:Nat} {x y:qC} {X:Nat->Nat->Prop}
end
section
variable {w:Nat} {post:List AV} {base:Nat->Prop} {nid:Nat} {h:List qB} {N:Ags} {K:AV->List qB->Prop} {a b s c k:Nat} {x y:qC} {X:Nat->Nat->Prop}
end
section
variable {w:Nat} {post:List AV} {base:Nat->Prop} {nid aid:Nat} {h:List qB} {N:Ags}
end
section
variable {w:Nat} {post:List AV} {base:Nat->Prop} {nid:Nat} {h:List qB} {N:Ags} {K:AV->List qB->Prop} {a b s c k:Nat} {x y:qC} {X:Nat->Nat->Prop} {t:qE}
theorem qqN{lev d:Int}{z:qC}:Q0 (QO lev d z)=Q0 (lvA lev z):=by unfold QO lvA;split<;>simp[Q0]
end
section
variable {w:Nat} {post:List AV} {bk:List qE} {bid:Nat} {es:List (AV×AV)} {base:Nat->Prop} {mid nid lid:Nat} {h:List qB} {N:Ags} {K:AV->List qB->Prop} {a b s c k:Nat} {x y:qC} {ks rem:List Nat}
end
section
variable {e:Env} {w i:Nat} {el:List AV} {v:AV} {x:Ao} {r:List (Nat×Ao)}
@[go_sem] theorem qsJ{a b:AV}(h:v.cells.length=w):fil e w [a,b] 0 (some v) r=z9 e w [v,b] r:=by
 show (if v.cells.length=w/\0<2 then _ else _)=_;rw[if_pos ⟨h,by omega⟩];rfl
@[go_sem] theorem qsK{a b:AV}(h:v.cells.length=w):fil e w [a,b] 1 (some v) r=z9 e w [a,v] r:=by
 show (if v.cells.length=w/\1<2 then _ else _)=_;rw[if_pos ⟨h,by omega⟩];rfl
@[go_sem] theorem rep2{v:AV}:List.replicate 2 v=[v,v]:=nr rfl
end
section
variable {w:Nat} {post:List AV} {bk:List qE} {bid:Nat} {es:List (AV×AV)} {base:Nat->Prop} {mid nid lid A B:Nat} {h:List qB} {N:Ags} {K:AV->List qB->Prop} {a b s c k:Nat} {x y u v:qC} {ks rem:List Nat} {R:Nat->Bool}
end
section
variable {w:Nat} {post:List AV} {base:Nat->Prop} {nid lid:Nat} {h:List qB} {N:Ags} {K:AV->List qB->Prop} {R:Nat->Bool}
end
@[go_sem] theorem qrZ{w:Nat}:(AV.map w).cells=[.map w]:=rfl
section
variable {w:Nat} {post:List AV} {bk:List qE} {bid:Nat} {base:Nat->Prop} {nid mid:Nat} {h:List qB} {N:Ags} {K:AV->List qB->Prop} {R:Nat->Bool} {ks:List Nat}
end
section
variable {r:Nat->Nat} {R:Nat->Bool} {N M:Ags} {a b c d s t k f n:Nat} {x y:qC} {lab lev v:Int} {X:Nat->Nat->Prop}
end
section
variable {r:Nat->Nat} {R:Nat->Bool} {N M:Ags} {a b c d s t k f n:Nat} {x y:qC} {lab lev v:Int} {X:Nat->Nat->Prop}
end
section
variable {r:Nat->Nat} {R:Nat->Bool} {bk:List qE} {N M:Ags} {a b c d s k f n:Nat} {x y:qC} {t:qE} {lev v:Int} {X:Nat->Nat->Prop}
end
section
variable {R D D':Nat->Bool} {bk:List qE} {N M:Ags} {a b c d s k f n:Nat} {x y:qC}
end
section
variable {R:Nat->Bool} {bk:List qE} {N A:Ags} {a b c d s k u:Nat} {x y:qC}
end
section
variable {R:Nat->Bool} {N:Ags} {bk:List qE} {sch:List Int} {k:Nat}
end
section
variable {R:Nat->Bool} {N:Ags} {bk:List qE} {sch:List Int} {k a b:Nat} {x y:qC}
end
section
variable {R:Nat->Bool} {bk:List qE} {N:Ags} {a b:Nat} {x y:qC}
end
section
variable {w:Nat} {post:List AV} {bk:List qE} {bid:Nat} {base:Nat->Prop} {nid mid bx rid oid n:Nat} {h:List qB} {N:Ags} {K:AV->List qB->Prop} {R:Nat->Bool} {ks:List Nat} {rest:List AV}
end
section
variable {α:Type} {p:α->Bool}
end
section
variable {oid n f:Nat} {h:List qB} {K:AV->List qB->Prop} {caps:List AV} {p:qL->Bool} {xs:List qL}
end
section
variable {Γ:Nat->Option AFn} {g:Nat} {vs:List AV} {h:List qB} {K:AV->List qB->Prop}
end
abbrev ZL:=List (Nat×List Int)
abbrev ids(rid:Nat)(Z:ZL):List Nat:=rid::Z.map (·.1)
section
variable {bk:List qE} {bid b rid nid mid:Nat} {ks:List Nat} {R:Nat->Bool} {N:Ags} {Z:ZL} {h h' h0:List qB} {K:AV->List qB->Prop}
end
section
variable {bk:List qE} {bid b rid nid mid:Nat} {ks:List Nat} {R:Nat->Bool} {N:Ags} {Z:ZL} {h h' h0:List qB} {K:AV->List qB->Prop}
def Qe(c:List Int)(x:Int):List Int:=c.set (x-1).toNat (c.getD (x-1).toNat 0+1)
def jm(T:List Int):List Int:=T.foldl Qe (List.replicate 7 0)
theorem qkZ{T:List Int}{x:Int}:jm (T++[x])=Qe (jm T) x:=by unfold jm;rw[List.foldl_append];rfl
theorem qkY{T:List Int}:(jm T).length=7:=by
 have:∀(T:List Int)(c:List Int),(T.foldl Qe c).length=c.length:=by
  intro T
  induction T with
  | nil=>intro c;rfl
  | cons x T ih=>intro c;rw[List.foldl_cons,ih];simp[Qe]
 unfold jm;rw[this];rfl
theorem qmT{c:List Int}{x:Int}{m:Int}(h0:0<=m)(h:∀y∈c,0<=y/\y<=m):∀y∈Qe c x,0<=y/\y<=m+1:=by
 intro y hy;unfold Qe at hy;rcases List.mem_or_eq_of_mem_set hy with q | q
 ·have:=h y q;omega
 ·subst q;rw[lGd];cases e:c[(x-1).toNat]? with
  | none=>simp;omega
  | some z=>have:=h z (lMo e);simp;omega
theorem qkX{T:List Int}:∀y∈jm T,0<=y/\y<=(T.length:Int):=by
 have:∀(T:List Int)(c:List Int)(m:Int),0<=m->(∀y∈c,0<=y/\y<=m)->∀y∈T.foldl Qe c,0<=y/\y<=m+T.length:=by
  intro T
  induction T with
  | nil=>intro c m _ h y hy;have:=h y hy;simp;omega
  | cons x T ih=>
   intro c m h0 h y hy;have:=ih (Qe c x) (m+1) (by omega) (qmT h0 h) y hy;simp;omega
 intro y hy;have:=this T _ 0 (by omega) (λy hy=>by simp at hy;omega) y hy;omega
end
section
variable {bk:List qE} {bid b rid nid mid:Nat} {ks:List Nat} {R:Nat->Bool} {N:Ags} {Z:ZL} {h h':List qB} {K:AV->List qB->Prop} {i id:Nat} {xs ys:List Int} {v:Int}
end
section
variable {bk:List qE} {bid b rid nid mid cid tid uid eid A B a c:Nat} {ks:List Nat} {R:Nat->Bool} {N:Ags} {Z:ZL} {h h':List qB} {K:AV->List qB->Prop} {T U E:List Int} {x y u v:qC}
end
structure zT where
 Id:Int
 Weight:Int
 State:Int
 Code:Int
 Left:Int
 Slices:Int
 Counts:List Int
 Schedule:List Int
 Book:List qE
 Net:qE
def zT.enc(x:zT):AV:=.agg [iI x.Id,iI x.Weight,iI x.State,iI x.Code,iI x.Left,iI x.Slices,lQ x.Counts,lQ x.Schedule,.lst 1 (x.Book.map qE.enc) false,.lst 5 (x.Net.Agents.map qC.enc) false]
theorem zT.isSh:Sh zT.enc 10 (some 10):=⟨λx=>by simp[zT.enc,AV.tree,AV.trees,qb qC.isSh.tree,qb qE.isSh.tree,qb shI.tree],λ_=>rfl,λ_=>rfl,by decide,λx=>by simp[zT.enc]⟩
section
variable {x:zT}
@[go_sem] theorem zT.tr:x.enc.tree=true:=zT.isSh.tree x
@[go_sem] theorem zT.ln:x.enc.cells.length=10:=nr rfl
@[go_sem] theorem zT.all:x.enc.part 0 (some 10)=some x.enc:=nr rfl
@[go_sem] theorem zT.cs:x.enc.cells=[iI x.Id,iI x.Weight,iI x.State,iI x.Code,iI x.Left,iI x.Slices,lQ x.Counts,lQ x.Schedule,.lst 1 (x.Book.map qE.enc) false,.lst 5 (x.Net.Agents.map qC.enc) false]:=nr rfl
@[go_sem] theorem zT.p0:x.enc.part 0 none=some (iI x.Id):=nr rfl
@[go_sem] theorem zT.p1:x.enc.part 1 none=some (iI x.Weight):=nr rfl
@[go_sem] theorem zT.p2:x.enc.part 2 none=some (iI x.State):=nr rfl
@[go_sem] theorem zT.p3:x.enc.part 3 none=some (iI x.Code):=nr rfl
@[go_sem] theorem zT.p4:x.enc.part 4 none=some (iI x.Left):=nr rfl
end
def zT.sz(x:zT):Nat:=x.Counts.length+x.Schedule.length+(x.Book.length+qx qE.sz x.Book)+qE.sz x.Net
def zT.bd(x:zT):Prop:=x.Counts.length<=140737488355328/\x.Schedule.length<=140737488355328/\x.Book.length<=140737488355328/\(∀y∈x.Book,qE.bd y)/\qE.bd x.Net
structure zq where
 Quantum:Int
 NextId:Int
 Turn:Int
 Jobs:List zT
def zq.enc(x:zq):AV:=.agg [iI x.Quantum,iI x.NextId,iI x.Turn,.lst 10 (x.Jobs.map zT.enc) false]
theorem zq.isSh:Sh zq.enc 4 (some 4):=⟨λx=>by simp[zq.enc,AV.tree,AV.trees,qb zT.isSh.tree],λ_=>rfl,λ_=>rfl,by decide,λx=>by simp[zq.enc]⟩
section
variable {x:zq}
@[go_sem] theorem zq.tr:x.enc.tree=true:=zq.isSh.tree x
@[go_sem] theorem zq.ln:x.enc.cells.length=4:=nr rfl
@[go_sem] theorem zq.all:x.enc.part 0 (some 4)=some x.enc:=nr rfl
@[go_sem] theorem zq.cs:x.enc.cells=[iI x.Quantum,iI x.NextId,iI x.Turn,.lst 10 (x.Jobs.map zT.enc) false]:=nr rfl
@[go_sem] theorem zq.p0:x.enc.part 0 none=some (iI x.Quantum):=nr rfl
@[go_sem] theorem zq.p1:x.enc.part 1 none=some (iI x.NextId):=nr rfl
@[go_sem] theorem zq.p2:x.enc.part 2 none=some (iI x.Turn):=nr rfl
@[go_sem] theorem zq.p3:x.enc.part 3 none=some (.lst 10 (x.Jobs.map zT.enc) false):=nr rfl
end
def zq.sz(x:zq):Nat:=(x.Jobs.length+qx zT.sz x.Jobs)
def zq.bd(x:zq):Prop:=x.Jobs.length<=140737488355328/\(∀y∈x.Jobs,zT.bd y)
theorem zT.plx(x:zT):x.enc.pl=true:=by simp[zT.enc,AV.pl,AV.pls,jb (enc:=qP) (λ_=>rfl),jb qC.plx,jb qE.plx]
theorem zT.cnx(x:zT):x.enc.cn=true:=by simp[zT.enc,AV.cn,AV.cns,wP (enc:=qP) (λ_=>rfl),wP qC.cnx,wP qE.cnx]
theorem zT.layE(x:zT)(n:Nat):lay x.enc n=(.agg [iI x.Id,iI x.Weight,iI x.State,iI x.Code,iI x.Left,iI x.Slices,sQ 1 (n) x.Counts.length,.slice 1 (n+AV.rows (lQ x.Counts)) 0 x.Schedule.length false,.slice 1 (n+AV.rows (lQ x.Counts)+AV.rows (lQ x.Schedule)) 0 x.Book.length false,.slice 5 (n+AV.rows (lQ x.Counts)+AV.rows (lQ x.Schedule)+AV.rows (.lst 1 (x.Book.map qE.enc) false)) 0 x.Net.Agents.length false],(lay (lQ x.Counts) (n)).2++((lay (lQ x.Schedule) (n+AV.rows (lQ x.Counts))).2++((lay (.lst 1 (x.Book.map qE.enc) false) (n+AV.rows (lQ x.Counts)+AV.rows (lQ x.Schedule))).2++((lay (.lst 5 (x.Net.Agents.map qC.enc) false) (n+AV.rows (lQ x.Counts)+AV.rows (lQ x.Schedule)+AV.rows (.lst 1 (x.Book.map qE.enc) false))).2++[])))):=by
 simp[zT.enc,lay,qT,wk,AV.rows,Nat.add_assoc,Nat.add_comm,Nat.add_left_comm]
theorem zq.plx(x:zq):x.enc.pl=true:=by simp[zq.enc,AV.pl,AV.pls,jb zT.plx]
theorem zq.cnx(x:zq):x.enc.cn=true:=by simp[zq.enc,AV.cn,AV.cns,wP zT.cnx]
theorem zq.layE(x:zq)(n:Nat):lay x.enc n=(.agg [iI x.Quantum,iI x.NextId,iI x.Turn,sQ 10 (n) x.Jobs.length],(lay (.lst 10 (x.Jobs.map zT.enc) false) (n)).2++[]):=by
 simp[zq.enc,lay,qT,wk,AV.rows,Nat.add_assoc,Nat.add_comm,Nat.add_left_comm]
section
variable {S Sb Sn Sc Ss:List (Option Nat)} {h h':List qB} {v vc vs vb vn:AV} {j:zT} {cj sj bj aj:Nat}
end
section
variable {h:List qB} {K:AV->List qB->Prop} {jid k:Nat} {vs:List AV} {i0 i1 i2 i3 i4 i5 st cd:Int} {vc vq vb vn u:AV}
end
section
variable {h:List qB} {K:AV->List qB->Prop} {jid k most:Nat} {vs:List AV} {v:AV} {j:zT} {S:List (Option Nat)}
end
section
variable {S:List (Option Nat)} {h h':List qB} {v t:AV} {vs ts:List AV}
end
section
variable {Z:List (Option Nat)->Prop} {qid jid:Nat} {vs:List AV} {SS:List (List (Option Nat))} {q:zq} {h:List qB} {K:AV->List qB->Prop}
end
section
variable {Z:List (Option Nat)->Prop} {qid jid:Nat} {vs:List AV} {SS:List (List (Option Nat))} {q:zq} {h:List qB} {K:AV->List qB->Prop}
end
section
variable {Z:List (Option Nat)->Prop} {qid jid:Nat} {vs:List AV} {SS:List (List (Option Nat))} {q:zq} {h:List qB}
end
section
variable {h:List qB} {K:AV->List qB->Prop} {jid k:Nat} {vs:List AV} {i0 i1 i2 i3 i4 i5 st cd:Int} {vc vq vb vn u:AV}
theorem c978{a b:Int}:Pure Gm 978 [iI a,iI b] (iI (if a<b then a else b)):=by
 refine pJ F978 ?_;simp only[F978,qN,go_sem]
 repeat' (first | (refine qW rfl ?_;simp only[go_sem]) | (first | (apply zA<;>intro hc<;>simp only[hc,go_sem]) | (apply qS<;>intro hc<;>simp only[hc,go_sem])) | refine qK rfl ?_ | refine zW (by rfl) ?_)
 all_goals (simp_all<;>omega)
end
section
variable {h:List qB} {K:AV->List qB->Prop} {jid k:Nat} {vs:List AV} {i0 i1 i2 i3 i4 i5:Int} {vc vq vb:AV} {J:zT}
end
theorem qkT{u v:qC}(hu:qg u=true)(hv:qg v=true)(h:zu u.Kind u.Level v.Kind v.Level=2):za u v=za v u:=by
 rw[qcM hu hv h];unfold za;rw[if_neg (by rintro⟨a,b,_⟩;have:=(qfD hu hv a b).2;omega)]
section
variable {w:Nat} {post post':List AV} {P P':Nat->Prop} {nid aid rid:Nat} {ps:List Nat} {h h':List qB} {N:Ags} {T:List Int} {R:Nat->Bool} {bk:List qE} {a b A B:Nat} {x y u v:qC} {K:AV->List qB->Prop}
end
section
variable {P:Nat->Prop} {rid sid most:Nat} {h:List qB} {N:Ags} {T sch:List Int} {R:Nat->Bool} {bk:List qE} {K:AV->List qB->Prop} {RES:Ags×List Int×Bool×Int}
end
section
variable {S:List Nat} {h h':List qB} {v:AV} {j:zT}
theorem Cv.ints{x:Int}:Cv h (iI x) (iI x):=.refl rfl
end
section
variable {qid jid:Nat} {vs:List AV} {SS:List (List Nat)} {q:zq} {h:List qB}
end
set_option maxHeartbeats 4000000
section
variable {S T:Nat->Prop} {h h' h1 h2 h3:List qB} {i j id:Nat} {o:qB}
theorem ends{h:List qB}{o:qB}:(h++[o])[h.length]?=some o:=by simp
def Up(S:Nat->Prop)(h h':List qB):Prop:=h.length<=h'.length/\∀(j:Nat)(o:qB),h[j]?=some o->¬S j->h'[j]?=some o
theorem z7{o:List qB}{o':qB}(q:h[j]?=some o'):(h++o)[j]?=some o':=by rw[gAl (qp q)];exact q
theorem Up.refl:Up S h h:=⟨nLr _,λ_ _ q _=>q⟩
theorem Up.trans(x:Up S h h1)(y:Up T h1 h2)(hs:∀j,j<h.length->T j->S j):Up S h h2:=⟨nLt x.1 y.1,λj o q n=>y.2 j o (x.2 j o q n) λt=>n (hs j (qp q) t)⟩
theorem Up.app(o:List qB):Up S h (h++o):=⟨by simp,λj o' q _=>z7 q⟩
theorem Up.set:Up (λj=>j=id) h (h.set id o):=⟨by simp,λj o' q n=>by rw[gSn (Ne.symm n)];exact q⟩
theorem Up.at(x:Up S h h1)(q:h[j]?=some o)(n:¬S j):h1[j]?=some o:=x.2 j o q n
theorem Up.w(x:Up S h h1)(q:∀j,j<h.length->S j->T j):Up T h h1:=⟨x.1,λj o e n=>x.2 j o e λs=>n (q j (qp e) s)⟩
theorem qe8{a b:qB}(x:h[id]?=some a)(y:h[j]?=some b)(n:a≠b):id≠j:=λe=>by subst e;rw[x]at y;cases y;exact n rfl
end
def LsW(P:Nat->Prop)(w:Nat)(h:List qB)(v:AV)(el:List AV):Prop:=(v=.nils/\el=[])\/∃id,P id/\v=sQ w id el.length/\h[id]?=some (.row w el true)
section
variable {P Q':Nat->Prop} {w:Nat} {h h1:List qB} {v:AV} {el:List AV}
theorem LsW.len(x:LsW P w h v el):Qf (some v)=some (iI (el.length:Nat)):=by
 rcases x with⟨rfl,rfl⟩ | ⟨id,_,rfl,_⟩<;>rfl
theorem LsW.keep(x:LsW P w h v el)(k:∀j,P j->h[j]?=some (.row w el true)->h1[j]?=some (.row w el true)):LsW P w h1 v el:=by
 rcases x with x | ⟨id,q1,q2,q3⟩
 ·exact .inl x
 ·exact .inr ⟨id,q1,q2,k _ q1 q3⟩
theorem LsW.app(x:LsW P w h v el)(o:List qB):LsW P w (h++o) v el:=x.keep λj _ q=>z7 q
theorem LsW.cv(x:LsW P w h v el)(ht:AV.trees el=true)(hw:0<w):Cv h v (.lst w el false):=by
 rcases x with⟨rfl,rfl⟩ | ⟨id,q1,rfl,q3⟩
 ·exact .nils
 ·exact Cv.row (c:=false) q3 rfl ht hw
theorem JH{E:Ev}{l:List qA}{ks:List Fr1}{s m:qq}{Q:qf->VSt->Prop}{k id2:Nat}{c2:Bool}{x:AV}(ho:LsW P w h v el)(h2:h[id2]?=some (.row w [x] true))(hl:el.length<4000000000)
  (hr:∀h3,Up (λj=>P j/\v=sQ w j el.length) h h3->h3[h.length]?=some (.row w (el++[x]) true)->h3.length=h.length+1->R E (.ops l::ks) ⟨(k,sQ w h.length (el.length+1))::s,m,h3⟩ Q):JP E w (some k) (some v) (some (.slice w id2 0 1 c2)) l ks ⟨s,m,h⟩ Q:=by
 rcases ho with⟨rfl,rfl⟩ | ⟨id,q1,rfl,q3⟩
 ·exact qbD (ys:=[x]) (Els.row h2 rfl) (by simp) (hr _ (Up.app _) (by simp) (by simp))
 ·exact Za h2 q3 rfl (by omega) (hr _ ((Up.set (id:=id)).trans (Up.app _ (S:=λj=>j=id)) (λ_ _ q=>q) |>.w λj _ e=>⟨by rw[e];exact q1,by rw[e]⟩) (by rw[gAr (by simp)];simp) (by simp))
end
theorem qjJ(xs:List qF)(hx:xs.length<=140737488355328)(left:Nat)(hl:left<=1048576):Pure Gm 1242 [.lst 2 (xs.map qF.enc) false,iI left] (iI (jv xs.length left)):=
 Vv (gk _ qHW) qF.isSh.tree xs left hl hx
theorem c922(x:qD)(hb:x.bd)(left:Nat)(hl:left<=1048576):Pure Gm 922 [x.enc,iI left] (iI (jv x.sz left)):=by
 refine pI F922 (by simp[AV.trees,AV.tree,qD.tr]) rfl ?_;simp only[F922,qN,go_sem];refine qW rfl ?_;simp only[go_sem];unfold qD.bd at hb;refine qI (c338 _ hb.1 _ (by omega)) ?_;simp only[go_sem];apply qS<;>intro hc<;>simp only[hc,go_sem]
 ·have hq:=odT hc;rw[wE]at hq;exact qK rfl (by rw[JY (by unfold qD.sz;omega)])
 have hq:=odF hc;rw[wE]at hq;rw[wF (by omega)];clear hc;refine qI (qjJ _ hb.2 _ (by omega)) ?_;simp only[go_sem];apply qS<;>intro hc<;>simp only[hc,go_sem]
 ·have hq:=odT hc;rw[wE]at hq;exact qK rfl (by rw[JY (by unfold qD.sz;omega)])
 have hq:=odF hc;rw[wE]at hq;rw[wF (by omega)];clear hc;exact qK rfl (by rw[wF (by unfold qD.sz;omega)];unfold qD.sz;first | rfl | (congr 2;omega))
theorem c542(xs:List qD)(hx:xs.length<=140737488355328/\(∀y∈xs,qD.bd y))(left:Nat)(hl:left<=1048576):Pure Gm 542 [.lst 5 (xs.map qD.enc) false,iI left] (iI (jv (xs.length+qx qD.sz xs) left)):=
 qC8 qD.isSh (gk _ F542) qD.sz xs (λx hm lf hlf=>c922 x (hx.2 x hm) lf hlf) left hl hx.1
theorem c543(xs:List qL)(hx:xs.length<=140737488355328)(left:Nat)(hl:left<=1048576):Pure Gm 543 [.lst 2 (xs.map qL.enc) false,iI left] (iI (jv xs.length left)):=
 Vv (gk _ F543) qL.isSh.tree xs left hl hx
theorem c209(x:qH)(hb:x.bd)(left:Nat)(hl:left<=1048576):Pure Gm 209 [x.enc,iI left] (iI (jv x.sz left)):=by
 refine pI Kr (by simp[AV.trees,AV.tree,qH.tr]) rfl ?_;simp only[Kr,qN,go_sem];refine qW rfl ?_;simp only[go_sem];unfold qH.bd at hb;refine qI (c542 _ ⟨hb.1,hb.2.1⟩ _ (by omega)) ?_;simp only[go_sem];apply qS<;>intro hc<;>simp only[hc,go_sem]
 ·have hq:=odT hc;rw[wE]at hq;exact qK rfl (by rw[JY (by unfold qH.sz;omega)])
 have hq:=odF hc;rw[wE]at hq;rw[wF (by omega)];clear hc;refine qI (c543 _ hb.2.2 _ (by omega)) ?_;simp only[go_sem];apply qS<;>intro hc<;>simp only[hc,go_sem]
 ·have hq:=odT hc;rw[wE]at hq;exact qK rfl (by rw[JY (by unfold qH.sz;omega)])
 have hq:=odF hc;rw[wE]at hq;rw[wF (by omega)];clear hc;exact qK rfl (by rw[wF (by unfold qH.sz;omega)];unfold qH.sz;first | rfl | (congr 2;omega))
theorem c547(x:qF):Pure Gm 547 [x.enc] x.enc:=by
 refine pI K8 (by simp[AV.trees,AV.tree,qF.tr]) qF.tr ?_;simp only[K8,qN,go_sem];refine qW rfl ?_;simp only[go_sem];refine qU rfl rfl ⟨_,rfl⟩ (by decide) ?_;simp only[go_sem];exact qK qF.tr rfl
theorem qjK(xs:List qF)(hl:xs.length<=1048576):Pure Gm 1243 [.lst 2 (xs.map qF.enc) false] (.lst 2 (xs.map qF.enc) false):=
 W7 qF.isSh rfl rfl (by simp) (gk _ qHX) xs (λx hm=>c547 x) (by omega)
theorem c925(x:qD)(hz:x.sz<=1048576):Pure Gm 925 [x.enc] x.enc:=by
 refine pI F925 (by simp[AV.trees,AV.tree,qD.tr]) qD.tr ?_;simp only[F925,qN,go_sem];refine qW rfl ?_;simp only[go_sem];unfold qD.sz at hz;refine qI (c147 _ (by omega)) ?_;simp only[go_sem];refine qI (qjK _ (by omega)) ?_;simp only[go_sem];refine qU rfl rfl ⟨_,rfl⟩ (by decide) ?_;simp only[go_sem];exact qK qD.tr rfl
theorem c546(xs:List qD)(hl:xs.length+qx qD.sz xs<=1048576):Pure Gm 546 [.lst 5 (xs.map qD.enc) false] (.lst 5 (xs.map qD.enc) false):=
 W7 qD.isSh rfl rfl (by simp) (gk _ F546) xs (λx hm=>c925 x (by have:=jg (f:=qD.sz) hm;omega)) (by omega)
theorem c926(x:qL):Pure Gm 926 [x.enc] x.enc:=by
 refine pI F926 (by simp[AV.trees,AV.tree,qL.tr]) qL.tr ?_;simp only[F926,qN,go_sem];refine qW rfl ?_;simp only[go_sem];refine qU rfl rfl ⟨_,rfl⟩ (by decide) ?_;simp only[go_sem];exact qK qL.tr rfl
theorem c548(xs:List qL)(hl:xs.length<=1048576):Pure Gm 548 [.lst 2 (xs.map qL.enc) false] (.lst 2 (xs.map qL.enc) false):=
 W7 qL.isSh rfl rfl (by simp) (gk _ F548) xs (λx hm=>c926 x) (by omega)
theorem c211(x:qH)(hz:x.sz<=1048576):Pure Gm 211 [x.enc] x.enc:=by
 refine pI Kt (by simp[AV.trees,AV.tree,qH.tr]) qH.tr ?_;simp only[Kt,qN,go_sem];refine qW rfl ?_;simp only[go_sem];unfold qH.sz at hz;refine qI (c546 x.Cells (by omega)) ?_;simp only[go_sem];refine qI (c547 x.Root) ?_;simp only[go_sem];refine Xt (c':=.agg [.lst 5 (x.Cells.map qD.enc) false,iI x.Free,iI x.Root.Tag,iI x.Root.At,.nils]) rfl rfl ?_;simp only[go_sem];refine qI (c548 x.Redexes (by omega)) ?_;simp only[go_sem];refine qU rfl rfl ⟨_,rfl⟩ (by decide) ?_;simp only[go_sem];exact qK qH.tr rfl
theorem c550(x:qF):Pure Gm 550 [x.enc,x.enc] (.bool true):=by
 refine pI K9 (by simp[AV.trees,AV.tree,qF.tr]) rfl ?_;simp only[K9,qN,go_sem];refine qW rfl ?_;simp only[go_sem];refine qW rfl ?_;simp only[go_sem];exact qK rfl rfl
theorem qjL(xs:List qF)(hl:xs.length<=2097152):Pure Gm 1244 [.lst 2 (xs.map qF.enc) false,.lst 2 (xs.map qF.enc) false] (.bool true):=
 WS qF.isSh (gk _ qHY) xs (λx hm=>c550 x) (by omega)
theorem c927(x:qD)(hz:x.sz<=2097152):Pure Gm 927 [x.enc,x.enc] (.bool true):=by
 refine pI F927 (by simp[AV.trees,AV.tree,qD.tr]) rfl ?_;simp only[F927,qN,go_sem];refine qW rfl ?_;simp only[go_sem];refine qW rfl ?_;simp only[go_sem];unfold qD.sz at hz;refine qI (c86 _ (by omega)) ?_;simp only[go_sem];refine qI (qjL _ (by omega)) ?_;simp only[go_sem];exact qK rfl rfl
theorem c549(xs:List qD)(hl:xs.length+qx qD.sz xs<=2097152):Pure Gm 549 [.lst 5 (xs.map qD.enc) false,.lst 5 (xs.map qD.enc) false] (.bool true):=
 WS qD.isSh (gk _ F549) xs (λx hm=>c927 x (by have:=jg (f:=qD.sz) hm;omega)) (by omega)
theorem c928(x:qL):Pure Gm 928 [x.enc,x.enc] (.bool true):=by
 refine pI F928 (by simp[AV.trees,AV.tree,qL.tr]) rfl ?_;simp only[F928,qN,go_sem];refine qW rfl ?_;simp only[go_sem];refine qW rfl ?_;simp only[go_sem];exact qK rfl rfl
theorem c551(xs:List qL)(hl:xs.length<=2097152):Pure Gm 551 [.lst 2 (xs.map qL.enc) false,.lst 2 (xs.map qL.enc) false] (.bool true):=
 WS qL.isSh (gk _ F551) xs (λx hm=>c928 x) (by omega)
theorem c213(x:qH)(hz:x.sz<=2097152):Pure Gm 213 [x.enc,x.enc] (.bool true):=by
 refine pI Kv (by simp[AV.trees,AV.tree,qH.tr]) rfl ?_;simp only[Kv,qN,go_sem];refine qW rfl ?_;simp only[go_sem];refine qW rfl ?_;simp only[go_sem];unfold qH.sz at hz;refine qI (c549 _ (by omega)) ?_;simp only[go_sem];refine qI (c550 _) ?_;simp only[go_sem];refine qI (c551 _ (by omega)) ?_;simp only[go_sem];exact qK rfl rfl
theorem XQ{c:qD}:Pure Gm 950 [.ept c.enc 0] (.bool (qt c.Kind)):=by
 refine pJ F950 ?_;simp only[F950,qN,go_sem];refine qI wN ?_;simp only[go_sem];exact qK rfl rfl
theorem qpP{α:Type}{a:α}{n:Nat}:List.replicate n a++[a]=List.replicate (n+1) a:=by
 rw[List.replicate_succ',]
theorem qAI{c:qD}(hl:c.Words.length<=1048576):Pure Gm 1277 [.ept c.enc 0] (qX c).enc:=by
 refine pI UZ (by simp[AV.trees,AV.tree,go_sem]) qC.tr ?_;simp only[UZ,qN,go_sem];refine qU rfl rfl ⟨_,rfl⟩ (by decide) ?_;simp only[go_sem];refine Sem.loop (λa:Nat×AV×List qB=>a.1<=c.Words.length/\LsW (λ_=>True) 2 a.2.2 a.2.1 ((List.replicate (a.1+1) (⟨0,0⟩:qM)).map qM.enc))
  (λa=>(⟨[(0,.ept c.enc 0),(4,iI (a.1:Nat))],[(3,.agg [iI c.Kind,iI c.Level,iI c.Value,lQ c.Data,a.2.1]),(2,.agg [iI 0,iI 0,iI 0,.nils,.nils])],a.2.2⟩:VSt)) (λa=>c.Words.length-a.1)
  (0,sQ 2 0 1,_) (by kernel_rfl) ⟨nZl _,.inr ⟨0,trivial,rfl,rfl⟩⟩ csA ?_
 rintro⟨i,v,hh⟩ ⟨hi,I⟩;simp only at hi I;simp only[go_sem];by_cases hlt:i<c.Words.length
 ·have e:decide ((i:Int)<(c.Words.length:Nat))=true:=decide_eq_true (by omega);simp only[e,go_sem];refine JH (I.app _) ends (by simp;omega) λh3 u3 v3 l3=>?_;simp only[go_sem,wuA (n:=i)];have ex:(List.replicate (i+1) (⟨0,0⟩:qM)).map qM.enc++[AV.agg [iI 0,iI 0]]=(List.replicate (i+1+1) (⟨0,0⟩:qM)).map qM.enc:=by
   rw[<-qpP (n:=i+1),lMa];rfl
  refine qa (i+1,.slice 2 (hh++[qB.row 2 [AV.agg [AV.int IntKind.i64 0,AV.int IntKind.i64 0]] true]).length 0 ((List.replicate (i+1) (⟨0,0⟩:qM)).map qM.enc).length.succ false,h3) ⟨hlt,.inr ⟨(hh++[qB.row 2 [AV.agg [AV.int IntKind.i64 0,AV.int IntKind.i64 0]] true]).length,trivial,by simp,by rw[<-ex];exact v3⟩⟩ (by simp only;omega) csA
 ·have e:decide ((i:Int)<(c.Words.length:Nat))=false:=decide_eq_false (by omega);simp only[e,go_sem];refine qU (k:=5) rfl rfl ⟨_,rfl⟩ (by decide) ?_;simp only[go_sem];obtain rfl:i=c.Words.length:=by omega
  have hc:=I.cv (qb qM.isSh.tree _) (by decide);have:=Cvs.cons (Cv.ints (h:=hh) (x:=c.Kind)) (Cvs.cons (Cv.ints (x:=c.Level)) (Cvs.cons (Cv.ints (x:=c.Value)) (Cvs.cons (.refl (v:=lQ c.Data) (qb shI.tree _)) (Cvs.cons hc Cvs.nil))));exact QC (.agg this.1 this.2)
def kB(w:qF)(c:qD):Bool:=(decide (w.Tag=1)&&qt c.Kind) || (decide (w.Tag=2)&&decide (c.Kind=13))
def wt(C:List qD)(w:qF):Bool:=inI w.At 0 ((C.length:Int)-1)&&((C[w.At.toNat]?).map (kB w)).getD false
theorem V8{C:List qD}{w:qF}:wt C w=true↔wOk C w:=by
 unfold wt wOk;constructor
 ·intro h;simp only[bAt,inI,dTe]at h;obtain⟨⟨h1,h2⟩,h3⟩:=h;obtain⟨k,hk⟩:=Int.eq_ofNat_of_zero_le h1;rw[hk,iTn]at h3;cases hc:C[k]? with
  | none=>rw[hc]at h3;cases h3
  | some c=>
   rw[hc]at h3;refine⟨k,c,hk,hc, ?_⟩;simpa[kB]using h3
 ·rintro⟨k,c,h1,h2,h3⟩;have:=(gSi.1 h2).1;rw[h1,iTn,h2];simp only[oMs,Option.getD_some,bAt,inI,dTe];refine⟨by omega, ?_⟩;simpa[kB]using h3
theorem qiE{C:List qD}{w:qF}(h:inI w.At 0 ((C.length:Int)-1)=false):wt C w=false:=by rw[wt,h];rfl
theorem qiD{C:List qD}{t:Int}{k:Nat}{c:qD}(hc:C[k]?=some c):wt C ⟨t,k⟩=kB ⟨t,k⟩ c:=by
 have:=zH hc;have e:inI (k:Int) 0 ((C.length:Int)-1)=true:=by simp only[inI,bAt,dTe];omega
 rw[wt];simp only[e,Bool.true_and,iTn,hc,oMs,Option.getD_some]
theorem qjQ{m:qH}{w:qF}(hs:m.Cells.length<=140737488355328):Pure Gm 1353 [.ept m.enc 0,w.enc] (.bool (wt m.Cells w)):=by
 refine pJ Uv ?_;simp only[Uv,qN,go_sem];refine qW rfl ?_;simp only[go_sem];refine qI wN ?_;simp only[go_sem,jO (show-9223372036854775808<=((m.Cells.length:Int)-1) by omega) (by omega)];cases hi:inI w.At 0 ((m.Cells.length:Int)-1)
 ·simp only[go_sem];exact qK rfl (by rw[qiE hi])
 ·simp only[go_sem];obtain⟨t,a⟩:=w;have hj:=hi;simp only[inI,bAt,dTe]at hj;obtain⟨k,rfl⟩:=Int.eq_ofNat_of_zero_le hj.1;have hk:k<m.Cells.length:=by omega
  have hc:=gEg hk;generalize m.Cells[k]=c at hc;rw[qiD hc];simp only[gMp,hc,oMs,go_sem]
  repeat' (first | (first | (apply zA<;>intro h1<;>simp only[h1,go_sem]) | (apply qS<;>intro h1<;>simp only[h1,go_sem])) | (refine qI XQ ?_;simp only[go_sem]) | refine qK rfl ?_)
  all_goals (simp_all[kB])
def JI(c:qD)(size:Int):Bool:=
 if c.Kind=0 then decide (c.Level=0)&&decide ((c.Data.length:Int)=0)&&decide ((c.Words.length:Int)=0)&&inI c.Value (-1) (size-1)
 else if c.Kind=13 then decide (c.Level=0)&&decide (c.Value=0)&&decide ((c.Data.length:Int)=0)&&decide ((c.Words.length:Int)<2)
 else if qt c.Kind=true then qg (qX c)else false
theorem qjP{c:qD}{size:Int}(hz:c.sz<=1048575)(h0:0<=size)(h1:size<=140737488355328):Pure Gm 1351 [.ept c.enc 0,iI size] (.bool (JI c size)):=by
 refine pJ Ut ?_;simp only[Ut,qN,go_sem];unfold qD.sz at hz
 repeat' (first | (first | (refine zA ?_ ?_<;>intro hc<;>simp only[hc,go_sem]) | (refine qS ?_ ?_<;>intro hc<;>simp only[hc,go_sem])) | (refine qI XQ ?_;simp only[go_sem]) | (refine qI wN ?_;simp only[go_sem]) | (refine qI (qAI (by omega)) ?_;simp only[go_sem]) | refine qK rfl ?_)
 case refine_2.refine_2.refine_1=>
  refine jF (e':=(qX c).enc) rfl rfl rfl rfl ?_;simp only[go_sem];refine Jv (Cvs.cons (.ptr rfl (by decide) rfl (.refl qC.tr)) .nil) (qbS (x:=qX c) (by simp[qC.sz,qX];omega)) rfl ?_;simp only[go_sem];exact qK rfl (by simp_all[JI])
 all_goals (try rw[wsA])
 all_goals (simp_all[JI])
def V5(C:List qD)(w:qF):List qF:=((C[w.At.toNat]?).map (·.Words)).getD []
def res(C:List qD):Nat->qF->qF×Bool
 | 0,w=>(w,false)
 | n+1,w=>if w.Tag≠2 then(w,true)else match V5 C w with
  |[]=>(w,true)
  | x::_=>res C n x
def allW(C:List qD):Prop:=∀(k:Nat)(c:qD),C[k]?=some c->∀w∈c.Words,wOk C w
theorem YQ{C:List qD}{t:Int}{k:Nat}{c:qD}(hc:C[k]?=some c):V5 C ⟨t,k⟩=c.Words:=by
 simp[V5,hc]
theorem c951{m:qH}{w:qF}(hs:m.Cells.length<=140737488355328)(hw:wOk m.Cells w)(ha:allW m.Cells):Pure Gm 951 [.ept m.enc 0,w.enc] (.tup [(res m.Cells (m.Cells.length+1) w).1.enc,.bool (res m.Cells (m.Cells.length+1) w).2]):=by
 refine pI F951 (by simp[AV.trees,AV.tree,go_sem]) (by simp[AV.trees,AV.tree,go_sem]) ?_;simp only[F951,qN,go_sem];refine qW rfl ?_;simp only[go_sem];generalize hR:res m.Cells (m.Cells.length+1) w=R;refine Sem.loop (λa:Nat×qF=>a.1<=m.Cells.length+1/\wOk m.Cells a.2/\res m.Cells a.1 a.2=R) (λa=>(⟨[(6,iI ((a.1:Int)-1)),(5,.bool false),(0,.ept m.enc 0)],[(4,.agg [iI 0,iI 0]),(3,a.2.enc)],[]⟩:VSt)) (λa=>a.1) (m.Cells.length+1,w) (by kernel_rfl) ⟨nLr _,hw,hR⟩ csA ?_;rintro⟨n,t,a⟩ ⟨hi,hk,he⟩;simp only at hi hk he;simp only[go_sem];obtain⟨k,c,rfl,hc,hkc⟩:=hk;cases n with
 | zero=>
  simp only[show decide ((0:Int)<=((0:Nat):Int)-1)=false from rfl,go_sem];refine qU (k:=2) rfl rfl ⟨_,rfl⟩ (by decide) ?_;simp only[go_sem];exact zW (by rfl) (by rw[<-he];rfl)
 | succ n=>
  have e:decide ((0:Int)<=((n+1:Nat):Int)-1)=true:=decide_eq_true (by omega);simp only[e,go_sem];by_cases ht:t=2
  ·simp only[ht,gMp,hc,oMs,go_sem];cases hw:c.Words with
   | nil=>
    simp only[hw,List.map_nil,Int.natCast_zero,go_sem];refine qU (k:=2) rfl rfl ⟨_,rfl⟩ (by decide) ?_;simp only[go_sem];refine zW (by rfl) ?_;rw[<-he,ht,res,YQ hc,hw];rfl
   | cons x ws=>
    have e2:decide (((ws.length+1:Nat):Int)=0)=false:=decide_eq_false (by omega);simp only[hw,lMc,e2,go_sem];simp only[gMp,hc,oMs,go_sem,hw,lMc];refine qU (k:=2) rfl rfl ⟨_,rfl⟩ (by decide) ?_;simp only[go_sem];rw[wsA];rw[show ((n+1:Nat):Int)-1-1=(n:Int)-1 by omega];refine qa (n,x) ⟨by simp only;omega,ha k c hc x (by rw[hw];exact .head _), ?_⟩ (by simp only;omega) csA;rw[<-he,res,if_neg (by simp[ht]),YQ hc,hw]
  ·simp only[ht,decide_false,go_sem];refine qU (k:=2) rfl rfl ⟨_,rfl⟩ (by decide) ?_;simp only[go_sem];refine zW (by rfl) ?_;rw[<-he,res,if_pos ht]
theorem qbC{P:Nat->Prop}{w:Nat}{h:List qB}{v:AV}{el ys:List AV}{b:AV}{E:Ev}{l:List qA}{ks:List Fr1}{s m:qq}{Q:qf->VSt->Prop}{k:Nat}(ho:LsW P w h v el)(hy:Els h w b ys)(hl:el.length+ys.length<=4294967296)
  (hr:∀h3,Up (λj=>P j/\v=sQ w j el.length) h h3->h3[h.length]?=some (.row w (el++ys) true)->h3.length=h.length+1->R E (.ops l::ks) ⟨(k,sQ w h.length (el.length+ys.length))::s,m,h3⟩ Q):JP E w (some k) (some v) (some b) l ks ⟨s,m,h⟩ Q:=by
 rcases ho with⟨rfl,rfl⟩ | ⟨id,q1,rfl,q3⟩
 ·refine qbD hy (by simpa using hl) ?_;have:=hr (h++[.row w ys true]) (Up.app _) (by simp) (by simp);simpa using this
 ·exact WH hy q3 rfl (by omega) (hr _ ((Up.set (id:=id)).trans (Up.app _ (S:=λj=>j=id)) (λ_ _ q=>q) |>.w λj _ e=>⟨by rw[e];exact q1,by rw[e]⟩) (by rw[gAr (by simp)];simp) (by simp))
theorem qdK{C:List qD}{i:Nat}:((C.take i).flatMap (·.Words)).length<=(C.flatMap (·.Words)).length:=by
 have h:(C.flatMap (·.Words))=((C.take i).flatMap (·.Words))++((C.drop i).flatMap (·.Words)):=by
  rw[<-List.flatMap_append,List.take_append_drop]
 rw[h,lAp];omega
theorem qdL{C:List qD}{i:Nat}{c:qD}(hc:C[i]?=some c):(C.take (i+1)).flatMap (·.Words)=(C.take i).flatMap (·.Words)++c.Words:=by
 rw[List.take_add_one,hc,Option.toList_some,List.flatMap_append];simp
theorem qqG{m:qH}{h0:List qB}(hs:m.Cells.length<=1048576)(hw:(m.Cells.flatMap (·.Words)).length<=2000000):SCall Gm 1352 [.ept m.enc 0] h0 (λv h'=>Up (λ_=>False) h0 h'/\∃id,h0.length<=id/\v=.slice 2 id 0 (m.Root::m.Cells.flatMap (·.Words)).length false/\h'[id]?=some (.row 2 ((m.Root::m.Cells.flatMap (·.Words)).map qF.enc) true)):=by
 refine sI Uu ?_;simp only[Uu,qN,go_sem];refine Sem.loop (λa:Nat×AV×List qB=>a.1<=m.Cells.length/\Up (λ_=>False) h0 a.2.2/\LsW (λj=>h0.length<=j) 2 a.2.2 a.2.1 ((m.Root::(m.Cells.take a.1).flatMap (·.Words)).map qF.enc))
  (λa=>(⟨[(0,.ept m.enc 0),(3,a.2.1),(4,iI (a.1:Nat))],[],a.2.2⟩:VSt)) (λa=>m.Cells.length-a.1)
  (0,sQ 2 h0.length 1,_) (by kernel_rfl) ⟨nZl _,Up.app _,.inr ⟨h0.length,nLr _,rfl,by simp⟩⟩ csA ?_
 rintro⟨i,v,h⟩ ⟨hi,u0,I⟩;simp only at hi u0 I;simp only[go_sem];by_cases hlt:i<m.Cells.length
 ·have e:decide ((i:Int)<(m.Cells.length:Nat))=true:=decide_eq_true (by omega);have hc:=gEg hlt;generalize m.Cells[i]=c at hc;simp only[e,gMp,hc,oMs,go_sem];have ex:=qdL hc;have hl:=qdK (C:=m.Cells) (i:=i+1);rw[ex,lAp]at hl;refine qbC I Els.lst (by simp only[lMp,lCo];omega) λh3 u3 v3 l3=>?_;simp only[go_sem,wuA (n:=i)];refine qa (i+1,.slice 2 h.length 0 (((m.Root::(m.Cells.take i).flatMap (·.Words)).map qF.enc).length+(c.Words.map qF.enc).length) false,h3) ⟨by simp only;omega,u0.trans u3 (λj hj q=>by have:=q.1;omega),.inr ⟨h.length,u0.1, ?_, ?_⟩⟩ (by simp only;omega) csA
  ·simp only[ex,lMp,lCo,lAp];rw[show ∀a b:Nat,a+b+1=a+1+b from λa b=>by omega]
  ·simp only[ex];rw[v3];simp
 ·have e:decide ((i:Int)<(m.Cells.length:Nat))=false:=decide_eq_false (by omega);simp only[e,go_sem];rw[List.take_of_length_le (by omega)]at I;rcases I with⟨_,h2⟩ | ⟨id,q1,q2,q3⟩
  ·cases h2
  ·exact⟨u0,id,q1,by rw[q2,lMp,lCo],q3⟩
def jP(C:List qD):Nat:=C.countP λc=>decide (c.Kind=0)
def wO(C:List qD):Nat->Int->Bool
 | 0,a=>decide (a= -1)
 | n+1,a=>inI a 0 ((C.length:Int)-1)&&(((C[a.toNat]?).map λc=>decide (c.Kind=0)&&wO C n c.Value).getD false)
theorem qAX{C:List qD}{n:Nat}{a:Int}(h:inI a 0 ((C.length:Int)-1)=false):wO C (n+1) a=false:=by rw[wO,h];rfl
theorem qAW{C:List qD}{n k:Nat}{c:qD}(hc:C[k]?=some c):wO C (n+1) k=(decide (c.Kind=0)&&wO C n c.Value):=by
 have:=zH hc;have e:inI (k:Int) 0 ((C.length:Int)-1)=true:=by simp only[inI,bAt,dTe];omega
 rw[wO];simp only[e,Bool.true_and,iTn,hc,oMs,Option.getD_some]
theorem qdO{C:List qD}{i:Nat}{c:qD}(hc:C[i]?=some c):jP (C.take (i+1))=jP (C.take i)+(if c.Kind=0 then 1 else 0):=by
 rw[jP,List.take_add_one,hc,Option.toList_some,List.countP_append,List.countP_cons];simp[jP]
theorem Y3{C:List qD}:jP C<=C.length:=List.countP_le_length ..
theorem qjR{m:qH}(hs:m.Cells.length<=140737488355328):Pure Gm 1354 [.ept m.enc 0] (.bool (wO m.Cells (jP m.Cells) m.Free)):=by
 refine pJ Uw ?_;simp only[Uw,qN,go_sem];refine Sem.loop (λi:Nat=>i<=m.Cells.length)
  (λi=>(⟨[(0,.ept m.enc 0),(2,.bool false),(3,iI (jP (m.Cells.take i):Nat)),(4,iI (i:Nat))],[],[]⟩:VSt)) (λi=>m.Cells.length-i)
  0 (by kernel_rfl) (nZl _) (Can.sub (by simp[go_sem,jP]) (by simp[go_sem])) ?_
 rintro i hi;simp only[go_sem];by_cases hlt:i<m.Cells.length
 ·have e:decide ((i:Int)<(m.Cells.length:Nat))=true:=decide_eq_true (by omega);have hc:=gEg hlt;generalize m.Cells[i]=c at hc;simp only[e,gMp,hc,oMs,go_sem];have ex:=qdO hc;have hn:jP (m.Cells.take i)<=i:=nLt Y3 (by simp;omega);by_cases hk:c.Kind=0
  ·simp only[hk,go_sem,wuA (n:=i),jt (show jP (m.Cells.take i)<4611686018427387904 by omega)];refine qa (i+1) (by omega) (by omega) (Can.sub (by simp[go_sem,ex,hk]) (by simp[go_sem]))
  ·simp only[hk,decide_false,go_sem,wuA (n:=i)];refine qa (i+1) (by omega) (by omega) (Can.sub (by simp[go_sem,ex,hk]) (by simp[go_sem]))
 ·have e:decide ((i:Int)<(m.Cells.length:Nat))=false:=decide_eq_false (by omega);simp only[e,go_sem];rw[List.take_of_length_le (by omega)];have hn:=Y3 (C:=m.Cells);generalize hR:wO m.Cells (jP m.Cells) m.Free=R;refine Sem.loop (λa:Nat×Int=>a.1<=m.Cells.length/\wO m.Cells a.1 a.2=R)
   (λa=>(⟨[(0,.ept m.enc 0),(2,.bool false),(3,iI (a.1:Nat)),(5,iI a.2)],[],[]⟩:VSt)) (λa=>a.1)
   (jP m.Cells,m.Free) (by kernel_rfl) ⟨hn,hR⟩ csA ?_
  rintro⟨n,a⟩ ⟨h1,h2⟩;simp only at h1 h2;simp only[go_sem];cases n with
  | zero=>
   simp only[show decide ((0:Int)<((0:Nat):Int))=false from rfl,go_sem];exact qK rfl (by rw[<-h2];rfl)
  | succ n=>
   have e:decide ((0:Int)<((n+1:Nat):Int))=true:=decide_eq_true (by omega);simp only[e,go_sem];refine qI wN ?_;simp only[go_sem,jO (show-9223372036854775808<=((m.Cells.length:Int)-1) by omega) (by omega)];cases hi:inI a 0 ((m.Cells.length:Int)-1)
   ·simp only[go_sem];exact qK rfl (by rw[<-h2,qAX hi])
   ·simp only[go_sem];have hj:=hi;simp only[inI,bAt,dTe]at hj;obtain⟨k,rfl⟩:=Int.eq_ofNat_of_zero_le hj.1;have hk:k<m.Cells.length:=by omega
    have hc:=gEg hk;generalize m.Cells[k]=c at hc;rw[qAW hc]at h2;simp only[gMp,hc,oMs,go_sem];by_cases h0:c.Kind=0
    ·simp only[h0,go_sem,gMp,hc,oMs];simp only[jO (show-9223372036854775808<=(((n+1:Nat):Int)-1) by omega) (by omega)];refine qa (n,c.Value) ⟨by simp only;omega, ?_⟩ (by simp only;omega) csA;rw[<-h2];simp[h0]
    ·simp only[h0,decide_false,go_sem];exact qK rfl (by rw[<-h2];simp[h0])
section
variable {C:List qD} {a fr:Int} {n k:Nat} {L M:List Nat}
theorem qcG:∀{L M:List Nat}{a:Int},chn C a L->chn C a M->L=M
 |[],[],a,_,_=>rfl
 |[],k::M,a,h1,h2=>by have:=h1;have:=h2.1;simp only[chn]at h1;omega
 | k::L,[],a,h1,h2=>by have:=h1.1;simp only[chn]at h2;omega
 | k::L,j::M,a,⟨h1,c,h2,h3,h4⟩,⟨g1,d,g2,g3,g4⟩=>by
  obtain rfl:k=j:=by omega
  rw[h2]at g2;cases g2;rw[qcG h4 g4]
theorem qcI:∀{L:List Nat}{a:Int},chn C a L->k∈L->∃D,chn C k (k::D)/\D.length<L.length
 |[],a,_,h=>by cases h
 | j::L,a,⟨h1,c,h2,h3,h4⟩,h=>by
  rcases List.mem_cons.1 h with rfl | h
  ·exact⟨L,⟨rfl,c,h2,h3,h4⟩,by simp⟩
  ·obtain⟨D,d1,d2⟩:=qcI h4 h;exact⟨D,d1,by simp only[lCo];omega⟩
theorem qcH:∀{L:List Nat}{a:Int},chn C a L->L.Nodup
 |[],a,_=>List.nodup_nil
 | j::L,a,⟨h1,c,h2,h3,h4⟩=>by
  refine List.nodup_cons.2 ⟨λh=>?_,qcH h4⟩;obtain⟨D,d1,d2⟩:=qcI h4 h;have:=qcG d1 (M:=j::L) ⟨rfl,c,h2,h3,h4⟩;cases this;omega
theorem qcF:∀{n:Nat}{a:Int},wO C n a=true->∃L:List Nat,L.length=n/\chn C a L
 | 0,a,h=>⟨[],rfl,show a= -1 from odT h⟩
 | n+1,a,h=>by
  have hj:inI a 0 ((C.length:Int)-1)=true:=by
   cases q:inI a 0 ((C.length:Int)-1)
   ·rw[qAX q]at h;cases h
   ·rfl
  simp only[inI,bAt,dTe]at hj;obtain⟨k,rfl⟩:=Int.eq_ofNat_of_zero_le hj.1;have hk:k<C.length:=by omega
  have hc:=gEg hk;generalize C[k]=c at hc;rw[qAW hc]at h;simp only[bAt,dTe]at h;obtain⟨L,l1,l2⟩:=qcF h.2;exact⟨k::L,by simp[l1],rfl,c,hc,h.1,l2⟩
def Xi(C:List qD):List Nat:=(List.range C.length).filter λk=>decide ((C[k]?.map (·.Kind))=some 0)
theorem qmA:∀{C:List qD},(Xi C).length=jP C:=by
 intro C;unfold Xi jP;rw[<-List.countP_eq_length_filter]
 induction C with
 | nil=>rfl
 | cons c r ih=>
  rw[lCo,List.range_succ_eq_map,List.countP_cons,List.countP_cons,List.countP_map];have:(List.countP ((λk=>decide (((c::r)[k]?.map (·.Kind))=some 0))∘Nat.succ) (List.range r.length))=List.countP (λk=>decide ((r[k]?.map (·.Kind))=some 0)) (List.range r.length):=rfl;rw[this,ih];simp
theorem qdN:k∈Xi C↔∃c,C[k]?=some c/\c.Kind=0:=by
 simp only[Xi,List.mem_filter,lMr,dTe,oMi];exact⟨λh=>h.2,λh=>⟨by obtain⟨c,h1,_⟩:=h;exact zH h1,h⟩⟩
theorem FrC.of(h:wO C (jP C) fr=true):∃L,FrC C fr L:=by
 obtain⟨L,l1,l2⟩:=qcF h;have nd:=qcH l2;refine⟨L,nd,l2,λk c hc hk=>?_⟩;refine Classical.byContradiction λhn=>?_;have h1:(k::L).Nodup:=List.nodup_cons.2 ⟨hn,nd⟩;have h2:=h1.length_le_of_subset (l₂:=Xi C) λj hj=>by
  rcases List.mem_cons.1 hj with rfl | hj
  ·exact qdN.2 ⟨c,hc,hk⟩
  ·exact qdN.2 (WL (L:=L) l2 j hj)
 rw[qmA,lCo]at h2;omega
theorem FrC.val(h:FrC C fr L){c:qD}(hc:C[k]?=some c)(h0:c.Kind=0):inI c.Value (-1) ((C.length:Int)-1)=true:=by
 have hk:=h.all k c hc h0;have key:∀{L:List Nat}{a:Int},chn C a L->k∈L->-1<=c.Value/\c.Value<=(C.length:Int)-1:=by
  intro L
  induction L with
  | nil=>intro a _ q;cases q
  | cons j L ih=>
   rintro a ⟨h1,d,h2,h3,h4⟩ q;rcases List.mem_cons.1 q with rfl | q
   ·rw[hc]at h2;cases h2;cases L with
    | nil=>simp only[chn]at h4;omega
    | cons i L=>
     obtain⟨g1,e,g2,_⟩:=h4;have:=zH g2;omega
   ·exact ih h4 q
 have:=key h.ch hk;simp only[inI,bAt,dTe];omega
end
def qZ(m:qH):List qF:=m.Root::m.Cells.flatMap (·.Words)
def z8(m:qH)(k:Nat):Nat:=cw k (qZ m)+cr k m.Redexes
def WG(C:List qD)(a:Int):Bool:=((C[a.toNat]?).map λc=>qt c.Kind).getD false
def jr(C:List qD)(p:qL):Bool:=inI p.B 1 ((C.length:Int)-1)&&inI p.A 0 (p.B-1)&&WG C p.A&&WG C p.B
structure VM(m:qH):Prop where
 sz:inI m.Cells.length 1 1500=true
 rs:m.Redexes.length<=m.Cells.length
 cell:∀c∈m.Cells,JI c m.Cells.length=true
 wrd:∀w∈qZ m,wt m.Cells w=true
 rdx:∀p∈m.Redexes,jr m.Cells p=true
 cnt:∀(k:Nat)(c:qD),m.Cells[k]?=some c->(qt c.Kind=true->z8 m k=1)/\(c.Kind=13->z8 m k+c.Words.length=2)
 ends:∀(k:Nat)(c:qD),m.Cells[k]?=some c->c.Kind=13->(res m.Cells (m.Cells.length+1) ⟨2,k⟩).2=true
 chn:wO m.Cells (jP m.Cells) m.Free=true
noncomputable def Ja(m:qH):Bool:= @decide (VM m) (Classical.propDecidable _)
theorem Xy{m:qH}:Ja m=true↔VM m:=by unfold Ja;exact @decide_eq_true_iff _ (Classical.propDecidable _)
theorem QH{m:qH}(h:¬VM m):Ja m=false:=by
 cases q:Ja m
 ·rfl
 ·exact absurd (Xy.1 q) h
theorem WY{k:Int}(h:qt k=true):k≠0/\k≠13:=by
 simp only[qt,bAt,dTe]at h;omega
theorem qAR{c:qD}{s:Int}(h:JI c s=true):zr c:=by
 unfold JI at h;split at h
 ·rename_i h0;simp only[bAt,dTe]at h;obtain⟨⟨⟨h1,h2⟩,h3⟩,h4⟩:=h;exact .inr (.inr ⟨h0,h1,lEz (by omega),lEz (by omega)⟩)
 ·split at h
  ·rename_i h0;simp only[bAt,dTe]at h;obtain⟨⟨⟨h1,h2⟩,h3⟩,h4⟩:=h;exact .inr (.inl ⟨h0,h1,h2,lEz (by omega),by omega⟩)
  ·split at h
   ·next h0=>exact .inl ⟨h0,h⟩
   ·cases h
theorem qA2{k:Nat}:∀{C:List qD}(i:Nat),wS (λ_=>false) k i C=cw k (C.flatMap (·.Words))
 |[],i=>rfl
 | c::r,i=>by rw[wS,List.flatMap_cons,Zd,<-qA2 (i+1)];rfl
theorem qa7{C:List qD}{a:Int}(h0:0<=a)(h:WG C a=true):wOk C ⟨1,a⟩:=by
 obtain⟨k,rfl⟩:=Int.eq_ofNat_of_zero_le h0;unfold WG at h;rw[iTn]at h;cases hc:C[k]? with
 | none=>rw[hc]at h;cases h
 | some c=>rw[hc]at h;exact⟨k,c,rfl,hc,.inl ⟨rfl,h⟩⟩
theorem qDB{C:List qD}{w:qF}{k:Nat}{c:qD}(h:wOk C w)(e:w.At=(k:Int))(hc:C[k]?=some c):c.Kind≠0:=by
 obtain⟨j,d,h1,h2,h3⟩:=h;obtain rfl:j=k:=by omega
 rw[hc]at h2;cases h2;rcases h3 with⟨_,h3⟩ | ⟨_,h3⟩
 ·exact(WY h3).1
 ·omega
theorem qlD{k:Nat}{ws:List qF}(h:∀w∈ws,w.At≠(k:Int)):cw k ws=0:=List.countP_eq_zero.2 λw hw=>by simpa using h w hw
theorem VM.words{m:qH}(h:VM m):∀w∈qZ m,wOk m.Cells w:=λw hw=>V8.1 (h.wrd w hw)
theorem VM.allW{m:qH}(h:VM m):allW m.Cells:=λk c hc w hw=>h.words w (.tail _ (List.mem_flatMap.2 ⟨c,lMo hc,hw⟩))
theorem VM.pr{m:qH}(h:VM m):∀p∈m.Redexes,p.A<p.B/\wOk m.Cells ⟨1,p.A⟩/\wOk m.Cells ⟨1,p.B⟩:=λp hp=>by
 have:=h.rdx p hp;simp only[jr,bAt,inI,dTe]at this;obtain⟨⟨⟨h1,h2⟩,h3⟩,h4⟩:=this;exact⟨by omega,qa7 h2.1 h3,qa7 (by omega) h4⟩
theorem VM.mi{m:qH}(h:VM m):MI m.Cells m.Free m.Root m.Redexes [] (λ_=>false) where
 form:=λk c hc _=>qAR (h.cell c (lMo hc))
 opn:=λk c _ q=>by cases q
 wrd:=λk c hc _=>h.allW k c hc
 rt:=h.words _ (.head _)
 pw:=λw hw=>by cases hw
 pr:=h.pr
 occ:=λk c hc=>by
  have e:cw k (m.Root::[])+wS (λ_=>false) k 0 m.Cells+cr k m.Redexes=z8 m k:=by
   rw[qA2,z8,qZ,zL,zL,Zf];omega
  rw[e];obtain⟨c1,c2⟩:=h.cnt k c hc;rcases qAR (h.cell c (lMo hc))with⟨f1,f2⟩ | ⟨f1,f2,f3,f4,f5⟩ | ⟨f1,f2,f3,f4⟩
  ·have:=WY f1;rw[c1 f1,zR,if_neg this.1,if_neg (by simp[this.2])]
  ·have:=c2 f1;rw[zR,if_neg (by omega)];by_cases q:c.Words=[]
   ·rw[if_pos ⟨f1,q⟩];rw[q]at this;simpa using this
   ·rw[if_neg (by simp[q])];have:c.Words.length≠0:=λe=>q (lEz e);omega
  ·rw[zR,if_pos f1,z8];have h1:cw k (qZ m)=0:=qlD λw hw e=>qDB (h.words w hw) e hc f1;have h2:cr k m.Redexes=0:=by
    unfold cr;rw[List.countP_eq_zero.2,List.countP_eq_zero.2]
    ·intro p hp q;exact qDB (w:=⟨1,p.B⟩) (h.pr p hp).2.2 (by simpa using q) hc f1
    ·intro p hp q;exact qDB (w:=⟨1,p.A⟩) (h.pr p hp).2.1 (by simpa using q) hc f1
   omega
 fre:=FrC.of h.chn
def jM(n:Nat)(f:Nat->Nat):List AV:=(List.range n).map λk=>iI (f k:Nat)
theorem qk0{n:Nat}{f:Nat->Nat}:(jM n f).length=n:=by simp[jM]
theorem jn{n k:Nat}{f:Nat->Nat}(h:k<n):(jM n f)[k]?=some (iI (f k:Nat)):=by simp[jM,h]
theorem WM{n k:Nat}{f g:Nat->Nat}{v:Int}(h1:v=(g k:Nat))(h2:∀j,j≠k->g j=f j):(jM n f).set k (iI v)=jM n g:=by
 refine List.ext_getElem? λj=>?_;by_cases e:j=k
 ·subst e;by_cases hj:j<n
  ·rw[gSs (by rw[qk0];exact hj),jn hj,h1]
  ·rw[gEn (by simp[jM];omega),gEn (by simp[jM];omega)]
 ·rw[gSn (Ne.symm e)];by_cases hj:j<n
  ·rw[jn hj,jn hj,h2 j e]
  ·rw[gEn (by simp[jM];omega),gEn (by simp[jM];omega)]
theorem qcQ{n:Nat}:jM n (λ_=>0)=List.replicate n (iI 0):=by
 refine List.ext_getElem? λj=>?_;by_cases hj:j<n
 ·rw[jn hj,List.getElem?_replicate,if_pos hj];rfl
 ·rw[gEn (by simp[jM];omega),gEn (by simp;omega)]
theorem Yr{ws:List qF}{i k:Nat}{w:qF}(h:ws[i]?=some w):cw k (ws.take (i+1))=cw k (ws.take i)+(if w.At=(k:Int)then 1 else 0):=by
 rw[List.take_add_one,h,Option.toList_some,Zd,zL,Zf];omega
theorem Ze{ws:List qF}{k:Nat}:cw k ws<=ws.length:=List.countP_le_length ..
theorem qBG:∀{C:List qD},(C.flatMap (·.Words)).length<=qx qD.sz C
 |[]=>by simp
 | c::r=>by
  have:=qBG (C:=r);rw[List.flatMap_cons,lAp];simp only[qx,qD.sz];omega
theorem Yq{rx:List qL}{i k:Nat}{p:qL}(h:rx[i]?=some p):cr k (rx.take (i+1))=cr k (rx.take i)+(if p.A=(k:Int)then 1 else 0)+(if p.B=(k:Int)then 1 else 0):=by
 rw[List.take_add_one,h,Option.toList_some];unfold cr;rw[List.countP_append,List.countP_append,List.countP_cons,List.countP_cons];simp only[List.countP_nil,dTe];omega
theorem XW{rx:List qL}{k:Nat}:cr k rx<=2*rx.length:=by
 have h1:rx.countP (λp=>decide (p.A=(k:Int)))<=rx.length:=List.countP_le_length ..;have h2:rx.countP (λp=>decide (p.B=(k:Int)))<=rx.length:=List.countP_le_length ..;unfold cr;omega
theorem Qt{C:List qD}{k:Nat}{c:qD}(hc:C[k]?=some c):WG C k=qt c.Kind:=by
 rw[WG,iTn,hc];rfl
theorem qi8{m:qH}(hz:m.sz<=1048576):Pure Gm 1058 [.ept m.enc 0,.nils,.lst 2 (m.Redexes.map qL.enc) false] (.bool (Ja m)):=by
 have hsz:m.Cells.length+qx qD.sz m.Cells<=1048576:=by unfold qH.sz at hz;omega
 refine pI UG (by simp[AV.trees,AV.tree,go_sem,qb qL.isSh.tree]) rfl ?_;simp only[UG,qN,go_sem];refine qI wN ?_;simp only[go_sem];cases h0:inI m.Cells.length 1 1500
 ·simp only[go_sem];exact qK rfl (by rw[QH λv=>by rw[v.sz]at h0;cases h0])
 simp only[go_sem];by_cases h1:m.Redexes.length<=m.Cells.length
 case neg=>
  have e:decide ((m.Cells.length:Int)<(m.Redexes.length:Nat))=true:=decide_eq_true (by omega);simp only[e,go_sem];exact qK rfl (by rw[QH λv=>h1 v.rs])
 have e:decide ((m.Cells.length:Int)<(m.Redexes.length:Nat))=false:=decide_eq_false (by omega);simp only[e,go_sem];clear e;have hN:m.Cells.length<=1500/\1<=m.Cells.length:=by
  simp only[inI,bAt,dTe]at h0;omega
 refine Sem.loop (λa:Nat×AV×List qB=>a.1<=m.Cells.length/\(∀c∈m.Cells.take a.1,JI c m.Cells.length=true)/\((a.1=0/\a.2.1=.lst 1 [] true)\/∃u,a.2.1=sQ 1 u a.1/\a.2.2[u]?=some (.row 1 (List.replicate a.1 (iI 0)) true)))
  (λa=>(⟨[(0,.ept m.enc 0),(1,.nils),(2,.lst 2 (m.Redexes.map qL.enc) false),(6,.bool false),(7,iI (m.Cells.length:Nat)),(8,a.2.1),(9,iI (a.1:Nat))],[],a.2.2⟩:VSt)) (λa=>m.Cells.length-a.1)
  (0,.lst 1 [] true,[]) (by kernel_rfl) ⟨nZl _,by simp,.inl ⟨rfl,rfl⟩⟩ csA ?_
 rintro⟨i,v,h⟩ ⟨hi,hA,I⟩;simp only at hi hA I;simp only[go_sem];by_cases hlt:i<m.Cells.length
 ·have e:decide ((i:Int)<(m.Cells.length:Nat))=true:=decide_eq_true (by omega);have hc:=gEg hlt;generalize m.Cells[i]=c at hc;have hm:=lMo hc;have hcz:c.sz<=1048575:=by have:=jg (f:=qD.sz) hm;have:=List.length_pos_of_mem hm;omega
  simp only[e,gMp,hc,oMs,go_sem];refine qI (qjP hcz (by omega) (by omega)) ?_;simp only[go_sem];cases hcb:JI c m.Cells.length
  ·simp only[go_sem];exact qK rfl (by rw[QH λv=>by have:=v.cell c hm;rw[hcb]at this;cases this])
  ·simp only[go_sem];have hA2:∀d∈m.Cells.take (i+1),JI d m.Cells.length=true:=λd hd=>by
    rw[List.take_add_one,hc,Option.toList_some]at hd;rcases jR.1 hd with hd | hd
    ·exact hA d hd
    ·rw[lMg.1 hd];exact hcb
   rcases I with⟨rfl,rfl⟩ | ⟨u,rfl,hu⟩
   ·refine Qu (Els.row (ends (o:=qB.row 1 [AV.int IntKind.i64 0] true)) rfl) (by decide) ?_;simp only[go_sem];refine qa (1,sQ 1 (h.length+1) 1,(h++[qB.row 1 [AV.int IntKind.i64 0] true])++[qB.row 1 [AV.int IntKind.i64 0] true]) ⟨by simp only;omega,hA2,.inr ⟨h.length+1,rfl, ?_⟩⟩ (by simp only;omega) (Can.sub (by simp[go_sem,IntKind.wrap]) (by simp[go_sem]));simp
   ·refine Za ends (z7 hu) (by simp) (by omega) ?_;simp only[go_sem,wuA (n:=i)];refine qa (i+1,sQ 1 (h.length+1) (i+1),((h++[qB.row 1 [AV.int IntKind.i64 0] true]).set u .dead)++[qB.row 1 (List.replicate i (AV.int IntKind.i64 0)++[AV.int IntKind.i64 0]) true]) ⟨by simp only;omega,hA2,.inr ⟨h.length+1,rfl, ?_⟩⟩ (by simp only;omega) csA;rw[gAr (by simp)];simp[List.replicate_succ']
 have e:decide ((i:Int)<(m.Cells.length:Nat))=false:=decide_eq_false (by omega);simp only[e,go_sem];have hfm:=qBG (C:=m.Cells);have hcell:∀c∈m.Cells,JI c m.Cells.length=true:=by rw[List.take_of_length_le (by omega)]at hA;exact hA
 have hLl:(qZ m).length<=1048577:=by rw[qZ,lCo];omega
 obtain⟨u,rfl,hu⟩:∃u,v=sQ 1 u m.Cells.length/\h[u]?=some (.row 1 (jM m.Cells.length λ_=>0) true):=by
  obtain rfl:i=m.Cells.length:=by omega
  rcases I with⟨h3,_⟩ | ⟨u,h3,h4⟩
  ·omega
  ·exact⟨u,h3,by rw[qcQ];exact h4⟩
 refine qk (SCall.mono (qqG (by omega) (by omega)) ?_);rintro v1 h1 ⟨up1,wd,hwd,rfl,hw1⟩;simp only[go_sem];have hul:=qp hu;refine WH (ys:=[]) ⟨trivial,rfl⟩ hw1 (by rw[lMp];rfl) (by simp only[lNi,lCo];omega) ?_;simp only[go_sem,nAz,lAn];have g1:(h1.set wd .dead++[qB.row 2 ((qZ m).map qF.enc) true])[u]?=some (.row 1 (jM m.Cells.length λk=>cw k ((qZ m).take 0)) true):=by
  rw[gAl (by rw[lLs];have:=up1.1;omega),gSn (by omega)];exact up1.at hu id
 have g2:(h1.set wd .dead++[qB.row 2 ((qZ m).map qF.enc) true])[h1.length]?=some (.row 2 ((qZ m).map qF.enc) true):=by
  rw[gAr (by rw[lLs];omega),lLs,nSs];rfl
 change Sem _ _ ⟨_,_,h1.set wd .dead++[qB.row 2 ((qZ m).map qF.enc) true]⟩ _;generalize h1.set wd .dead++[qB.row 2 ((qZ m).map qF.enc) true]=h2 at g1 g2;generalize h1.length=wp at g2;change Sem _ _ ⟨(11,iI 0)::(10,.slice 2 wp 0 (qZ m).length false)::_,_,_⟩ _;clear hw1 up1 hwd I hu;refine Sem.loop (λa:Nat×List qB=>a.1<=(qZ m).length/\(∀w∈(qZ m).take a.1,wt m.Cells w=true)/\a.2[u]?=some (.row 1 (jM m.Cells.length λk=>cw k ((qZ m).take a.1)) true)/\a.2[wp]?=some (.row 2 ((qZ m).map qF.enc) true))
  (λa=>(⟨[(0,.ept m.enc 0),(2,.lst 2 (m.Redexes.map qL.enc) false),(6,.bool false),(7,iI (m.Cells.length:Nat)),(8,sQ 1 u m.Cells.length),(10,.slice 2 wp 0 (qZ m).length false),(11,iI (a.1:Nat))],[],a.2⟩:VSt)) (λa=>(qZ m).length-a.1)
  (0,h2) (by kernel_rfl) ⟨nZl _,by simp,g1,g2⟩ csA ?_
 clear g1 g2;rintro⟨i,h⟩ ⟨hi,hA,g1,g2⟩;simp only at hi hA g1 g2;simp only[go_sem];by_cases hlt:i<(qZ m).length
 ·have e:decide ((i:Int)<((qZ m).length:Nat))=true:=decide_eq_true (by omega);have hc:=gEg hlt;generalize (qZ m)[i]=w at hc;have hm:=lMo hc;simp only[e,qY hlt,nZa,g2,gMp,hc,oMs,go_sem];refine qI (qjQ (by omega)) ?_;simp only[go_sem];cases hwb:wt m.Cells w
  ·simp only[go_sem];exact qK rfl (by rw[QH λv=>by have:=v.wrd w hm;rw[hwb]at this;cases this])
  obtain⟨k,d,hw1,hw2,hw3⟩:=V8.1 hwb;have hk:=zH hw2;simp only[qY hlt,nZa,g2,gMp,hc,oMs,hw1,qY hk,g1,jn hk,go_sem];have hcl:=Ze (ws:=(qZ m).take i) (k:=k);rw[lLt]at hcl;simp only[jt (show cw k ((qZ m).take i)<4611686018427387904 by omega)];refine jF rfl g1 (jn hk) rfl ?_;simp only[go_sem,wuA (n:=i)];have hne:=qe8 g1 g2 (by simp);refine qa (i+1,h.set u (.row 1 ((jM m.Cells.length λk=>cw k ((qZ m).take i)).set k (iI ((cw k ((qZ m).take i)+1:Nat):Int))) true)) ⟨by simp only;omega,λx hx=>?_, ?_, ?_⟩ (by simp only;omega) csA
  ·rw[List.take_add_one,hc,Option.toList_some]at hx;rcases jR.1 hx with hx | hx
   ·exact hA x hx
   ·rw[lMg.1 hx];exact hwb
  ·rw[gSs (qp g1),WM (g:=λk=>cw k ((qZ m).take (i+1)))]
   ·simp only[Yr hc,hw1,if_true]
   ·intro j hj;simp only[Yr hc,hw1];rw[if_neg (by omega),nAz]
  ·rw[gSn hne];exact g2
 have e:decide ((i:Int)<((qZ m).length:Nat))=false:=decide_eq_false (by omega);simp only[e,go_sem];rw[List.take_of_length_le (by omega)]at hA g1;clear g2;refine Sem.loop (λa:Nat×List qB=>a.1<=m.Redexes.length/\(∀p∈m.Redexes.take a.1,jr m.Cells p=true)/\a.2[u]?=some (.row 1 (jM m.Cells.length λk=>cw k (qZ m)+cr k (m.Redexes.take a.1)) true))
  (λa=>(⟨[(0,.ept m.enc 0),(2,.lst 2 (m.Redexes.map qL.enc) false),(6,.bool false),(7,iI (m.Cells.length:Nat)),(8,sQ 1 u m.Cells.length),(12,iI (a.1:Nat))],[],a.2⟩:VSt)) (λa=>m.Redexes.length-a.1)
  (0,h) (by kernel_rfl) ⟨nZl _,by simp,g1⟩ csA ?_
 clear g1 hlt e hi;rintro⟨i,h⟩ ⟨hi,hP,g1⟩;simp only at hi hP g1;simp only[go_sem];by_cases hlt:i<m.Redexes.length
 ·have e:decide ((i:Int)<(m.Redexes.length:Nat))=true:=decide_eq_true (by omega);have hc:=gEg hlt;generalize m.Redexes[i]=p at hc;have hm:=lMo hc;simp only[e,gMp,hc,oMs,go_sem];refine qU (k:=2) rfl rfl ⟨_,rfl⟩ (by decide) ?_;simp only[go_sem];refine qI wN ?_;simp only[go_sem,jO (show-9223372036854775808<=((m.Cells.length:Int)-1) by omega) (by omega)];have no:jr m.Cells p=false->Ja m=false:=λq=>QH λv=>by have:=v.rdx p hm;rw[q]at this;cases this
  obtain⟨A,B⟩:=p;simp only at no|-;cases q1:inI B 1 ((m.Cells.length:Int)-1)
  ·simp only[go_sem];exact qK rfl (by rw[no (by simp only[jr,q1,Bool.false_and])])
  simp only[go_sem];have hB:=q1;simp only[inI,bAt,dTe]at hB;simp only[jO (show-9223372036854775808<=B-1 by omega) (by omega)];refine qI wN ?_;simp only[go_sem];cases q2:inI A 0 (B-1)
  ·simp only[go_sem];exact qK rfl (by rw[no (by simp only[jr,q1,q2,Bool.false_and,Bool.and_false])])
  simp only[go_sem];have hA2:=q2;simp only[inI,bAt,dTe]at hA2;obtain⟨ka,rfl⟩:=Int.eq_ofNat_of_zero_le hA2.1;obtain⟨kb,rfl⟩:=Int.eq_ofNat_of_zero_le (show 0<=B by omega);have hka:ka<m.Cells.length:=by omega
  have hkb:kb<m.Cells.length:=by omega
  have ha:=gEg hka;have hb:=gEg hkb;generalize m.Cells[ka]=ca at ha;generalize m.Cells[kb]=cb at hb;simp only[gMp,ha,oMs,go_sem];refine qI XQ ?_;simp only[go_sem];cases q3:qt ca.Kind
  ·simp only[go_sem];exact qK rfl (by rw[no (by simp only[jr,q1,q2,Qt ha,q3,Bool.false_and,Bool.and_false])])
  simp only[gMp,hb,oMs,go_sem];refine qI XQ ?_;simp only[go_sem];cases q4:qt cb.Kind
  ·simp only[go_sem];exact qK rfl (by rw[no (by simp only[jr,q1,q2,Qt ha,Qt hb,q3,q4,Bool.false_and,Bool.and_false])])
  simp only[qY hka,nZa,g1,jn hka,go_sem];have hcl:=Ze (ws:=qZ m) (k:=ka);have hcl2:=Ze (ws:=qZ m) (k:=kb);have hcr:=XW (rx:=m.Redexes.take i) (k:=ka);have hcr2:=XW (rx:=m.Redexes.take i) (k:=kb);rw[lLt]at hcr hcr2;simp only[jt (show cw ka (qZ m)+cr ka (m.Redexes.take i)<4611686018427387904 by omega)];refine jF rfl g1 (jn hka) rfl ?_;have g3:(h.set u (.row 1 ((jM m.Cells.length λk=>cw k (qZ m)+cr k (m.Redexes.take i)).set ka (iI ((cw ka (qZ m)+cr ka (m.Redexes.take i)+1:Nat):Int))) true))[u]?=some (.row 1 (jM m.Cells.length λk=>cw k (qZ m)+cr k (m.Redexes.take i)+if ka=k then 1 else 0) true):=by
   rw[gSs (qp g1),WM (g:=λk=>cw k (qZ m)+cr k (m.Redexes.take i)+if ka=k then 1 else 0)]
   ·simp only[if_true]
   ·intro j hj;rw[if_neg (Ne.symm hj)];rfl
  generalize h.set u _=h3 at g3;have hab:ka≠kb:=by omega
  simp only[qY hkb,nZa,g3,jn hkb,if_neg hab,nAz,go_sem];simp only[jt (show cw kb (qZ m)+cr kb (m.Redexes.take i)<4611686018427387904 by omega)];refine jF rfl g3 (jn hkb) rfl ?_;simp only[go_sem,wuA (n:=i)];refine qa (i+1,h3.set u (.row 1 ((jM m.Cells.length λk=>cw k (qZ m)+cr k (m.Redexes.take i)+if ka=k then 1 else 0).set kb (iI ((cw kb (qZ m)+cr kb (m.Redexes.take i)+1:Nat):Int))) true)) ⟨by simp only;omega,λx hx=>?_, ?_⟩ (by simp only;omega) csA
  ·rw[List.take_add_one,hc,Option.toList_some]at hx;rcases jR.1 hx with hx | hx
   ·exact hP x hx
   ·rw[lMg.1 hx];simp only[jr,q1,q2,Qt ha,Qt hb,q3,q4,Bool.and_self]
  ·rw[gSs (qp g3),WM (g:=λk=>cw k (qZ m)+cr k (m.Redexes.take (i+1)))]
   ·simp only[Yq hc,if_true];rw[if_neg (by omega)];omega
   ·intro j hj;simp only[Yq hc];rw[if_neg (show ¬(kb:Int)=j by omega)];by_cases q:ka=j
    ·rw[if_pos q,if_pos (by omega)];omega
    ·rw[if_neg q,if_neg (by omega)];omega
 have e:decide ((i:Int)<(m.Redexes.length:Nat))=false:=decide_eq_false (by omega);simp only[e,go_sem];rw[List.take_of_length_le (by omega)]at hP g1;have hW:∀w∈qZ m,wOk m.Cells w:=λw hw=>V8.1 (hA w hw);have hAW:allW m.Cells:=λk c hc w hw=>hW w (.tail _ (List.mem_flatMap.2 ⟨c,lMo hc,hw⟩));have hcl:∀k,cw k (qZ m)+cr k m.Redexes<=4000000:=λk=>by
  have h1:=Ze (ws:=qZ m) (k:=k);have h2:=XW (rx:=m.Redexes) (k:=k);omega
 refine Sem.loop (λi:Nat=>i<=m.Cells.length/\∀(k:Nat)(c:qD),k<i->m.Cells[k]?=some c->(qt c.Kind=true->z8 m k=1)/\(c.Kind=13->z8 m k+c.Words.length=2)/\(c.Kind=13->(res m.Cells (m.Cells.length+1) ⟨2,k⟩).2=true))
  (λi=>(⟨[(0,.ept m.enc 0),(6,.bool false),(8,sQ 1 u m.Cells.length),(14,iI (i:Nat))],[],h⟩:VSt)) (λi=>m.Cells.length-i)
  0 (by kernel_rfl) ⟨nZl _,λk c hk=>by omega⟩ csA ?_
 clear hlt e hi;rintro i ⟨hi,hI⟩;simp only[go_sem];by_cases hlt:i<m.Cells.length
 ·have e:decide ((i:Int)<(m.Cells.length:Nat))=true:=decide_eq_true (by omega);have hc:=gEg hlt;generalize m.Cells[i]=c at hc;have hm:=lMo hc;have hcz:c.sz<=1048575:=by have:=jg (f:=qD.sz) hm;have:=List.length_pos_of_mem hm;omega
  have hnext:((qt c.Kind=true->z8 m i=1)/\(c.Kind=13->z8 m i+c.Words.length=2)/\(c.Kind=13->(res m.Cells (m.Cells.length+1) ⟨2,i⟩).2=true))->∀(k:Nat)(c:qD),k<i+1->m.Cells[k]?=some c->(qt c.Kind=true->z8 m k=1)/\(c.Kind=13->z8 m k+c.Words.length=2)/\(c.Kind=13->(res m.Cells (m.Cells.length+1) ⟨2,k⟩).2=true):=λq k d hk hd=>by
   by_cases e:k=i
   ·subst e;rw[hc]at hd;cases hd;exact q
   ·exact hI k d (by omega) hd
  have hcw:c.Words.length<=1048576:=by unfold qD.sz at hcz;omega
  simp only[e,gMp,hc,oMs,go_sem];refine qI XQ ?_;simp only[go_sem];cases hag:qt c.Kind
  ·simp only[go_sem];by_cases hk:c.Kind=13
   ·simp only[hk,qY hlt,nZa,g1,jn hlt,go_sem];simp only[jO (show-9223372036854775808<=(2:Int)-(c.Words.length:Nat) by omega) (by omega)];by_cases hq:((cw i (qZ m)+cr i m.Redexes:Nat):Int)=2-(c.Words.length:Nat)
    ·simp only[hq,go_sem];simp only[hk,go_sem];refine qI (c951 (w:=⟨2,(i:Int)⟩) (by omega) ⟨i,c,rfl,hc,.inr ⟨rfl,hk⟩⟩ hAW) ?_;simp only[go_sem];refine qU (k:=2) rfl rfl ⟨_,rfl⟩ (by decide) ?_;simp only[go_sem];cases hr:(res m.Cells (m.Cells.length+1) ⟨2,(i:Int)⟩).2
     ·simp only[go_sem];exact qK rfl (by rw[QH λv=>by have:=v.ends i c hc hk;rw[hr]at this;cases this])
     ·simp only[go_sem,wuA (n:=i)];refine qa (i+1) ⟨by omega,hnext ⟨?_, ?_, ?_⟩⟩ (by omega) csA
      ·intro h;cases h.symm.trans hag
      ·intro _;unfold z8;omega
      ·intro _;exact hr
    ·simp only[hq,decide_false,go_sem];exact qK rfl (by rw[QH λv=>hq (by have:=(v.cnt i c hc).2 hk;unfold z8 at this;omega)])
   ·simp only[hk,decide_false,go_sem];simp only[wuA (n:=i)];refine qa (i+1) ⟨by omega,hnext ⟨?_, ?_, ?_⟩⟩ (by omega) csA
    ·intro h;cases h.symm.trans hag
    ·intro h;exact absurd h hk
    ·intro h;exact absurd h hk
  ·have hk:¬c.Kind=13:=(WY hag).2;simp only[qY hlt,nZa,g1,jn hlt,go_sem];by_cases hq:((cw i (qZ m)+cr i m.Redexes:Nat):Int)=1
   ·simp only[hq,hk,decide_false,go_sem,wuA (n:=i)];refine qa (i+1) ⟨by omega,hnext ⟨?_, ?_, ?_⟩⟩ (by omega) csA
    ·intro _;unfold z8;omega
    ·intro h;exact absurd h hk
    ·intro h;exact absurd h hk
   ·simp only[hq,decide_false,go_sem];exact qK rfl (by rw[QH λv=>hq (by have:=(v.cnt i c hc).1 hag;unfold z8 at this;omega)])
 have e:decide ((i:Int)<(m.Cells.length:Nat))=false:=decide_eq_false (by omega);simp only[e,go_sem];refine qI (qjR (by omega)) ?_;simp only[go_sem];refine qK rfl ?_;cases hch:wO m.Cells (jP m.Cells) m.Free
 ·rw[QH λv=>by have:=v.chn;rw[hch]at this;cases this]
 ·rw[Xy.2 ⟨h0,by assumption,hcell,hA,hP,λk c hc=>?_,λk c hc=>?_,hch⟩]
  ·have:=hI k c (by have:=zH hc;omega) hc;exact⟨this.1,this.2.1⟩
  ·exact(hI k c (by have:=zH hc;omega) hc).2.2
theorem c923{m:qH}(hz:m.sz<=1048576):Pure Gm 923 [.ept m.enc 0] (.bool (Ja m)):=by
 refine pJ F923 ?_;simp only[F923,qN,go_sem];refine qI (qi8 hz) ?_;simp only[go_sem];exact qK rfl rfl
theorem XN{c:qD}:Pure Gm 1254 [c.enc] (.bool (qt c.Kind)):=by
 refine pJ UW ?_;simp only[UW,qN,go_sem];refine qW rfl ?_;simp only[go_sem];apply zA<;>intro hc<;>simp only[hc,go_sem]
 ·exact qK rfl (by rw[qt,hc,Bool.true_and])
 ·exact qK rfl (by rw[qt,hc];rfl)
theorem XO{c:qD}:Pure Gm 1368 [c.enc] (.bool (decide (c.Kind=13))):=by
 refine pJ KD ?_;simp only[KD,qN,go_sem];refine qW rfl ?_;simp only[go_sem];exact qK rfl rfl
theorem XP{c:qD}:Pure Gm 1455 [c.enc] (.bool (decide (c.Kind=0))):=by
 refine pJ KY ?_;simp only[KY,qN,go_sem];refine qW rfl ?_;simp only[go_sem];exact qK rfl rfl
def JW(C:List qD)(k:Int):Bool:=decide (0<=k)&&decide (k<(C.length:Nat))
theorem qd2{C:List qD}{k:Int}:JW C k=inI k 0 ((C.length:Int)-1):=by
 unfold JW inI;congr 1;exact decide_eq_decide.2 (by omega)
theorem qd3{C:List qD}{k:Int}(h:¬(0<=k/\k<(C.length:Nat))):JW C k=false:=Bool.eq_false_iff.2 λq=>h (by simpa[JW]using q)
theorem Yf{m:qH}{k:Int}:Pure Gm 1484 [.ept m.enc 0,iI k] (.bool (JW m.Cells k)):=by
 refine pJ Kd ?_;simp only[Kd,qN,go_sem];apply zA<;>intro hc<;>simp only[hc,go_sem]
 ·exact qK rfl (by rw[JW,hc,Bool.true_and])
 ·exact qK rfl (by rw[JW,hc];rfl)
def JS(c:qD):Bool:=
 if qt c.Kind=true then qg (qX c)
 else if c.Kind=13 then decide (c.Level=0)&&decide (c.Value=0)&&decide ((c.Data.length:Int)=0)&&decide ((c.Words.length:Int)<=1)
 else decide (c.Kind=0)&&decide (c.Level=0)&&decide ((c.Data.length:Int)=0)&&decide ((c.Words.length:Int)=0)
theorem qjU{c:qD}(hz:c.sz<=1048575):Pure Gm 1358 [c.enc] (.bool (JS c)):=by
 refine pJ Uy ?_;simp only[Uy,qN,go_sem];unfold qD.sz at hz;refine qW rfl ?_;simp only[go_sem];refine qI XN ?_;simp only[go_sem];cases hag:qt c.Kind
 ·simp only[go_sem];refine qI XO ?_;simp only[go_sem]
  repeat' (first | (apply zA<;>intro h1<;>simp only[h1,go_sem]) | (apply qS<;>intro h1<;>simp only[h1,go_sem]) | (refine qI XP ?_;simp only[go_sem]) | refine qK rfl ?_)
  all_goals (simp_all[JS])
 ·simp only[go_sem];simp only[jt (show c.Words.length<4611686018427387904 by omega)];refine QI (by unfold LIM;omega) ?_;simp only[go_sem];refine Jv (vs':=[(qX c).enc]) (Cvs.cons (.agg rfl ?_) .nil) (qbT (by simp[qX];omega) (by simp[qX];omega)) rfl ?_
  ·intro p hp;have e:List.map qM.enc (qX c).Ports=List.replicate (c.Words.length+1) (AV.agg [AV.int .i64 0,AV.int .i64 0]):=by simp[qX];rfl
   rw[e]at hp;simp only[List.zip_cons_cons,List.zip_nil_left,List.mem_cons,List.not_mem_nil,or_false]at hp;rcases hp with rfl | rfl | rfl | rfl | rfl
   ·exact .refl rfl
   ·exact .refl rfl
   ·exact .refl rfl
   ·exact .refl (qb shI.tree _)
   ·exact Cv.row (c:=false) rfl (by simp) (by rw[<-e];exact qb qM.isSh.tree _) (by decide)
  simp only[go_sem];exact qK rfl (by rw[JS,if_pos hag])
theorem qjX{m:qH}{w:qF}:Pure Gm 1362 [.ept m.enc 0,w.enc] (.bool (wt m.Cells w)):=by
 refine pJ U8 ?_;simp only[U8,qN,go_sem];refine qW rfl ?_;simp only[go_sem];refine qI Yf ?_;rw[qd2];simp only[go_sem];cases hi:inI w.At 0 ((m.Cells.length:Int)-1)
 ·simp only[go_sem];exact qK rfl (by rw[qiE hi])
 ·simp only[go_sem];obtain⟨t,a⟩:=w;have hj:=hi;simp only[inI,bAt,dTe]at hj;obtain⟨k,rfl⟩:=Int.eq_ofNat_of_zero_le hj.1;have hk:k<m.Cells.length:=by omega
  have hc:=gEg hk;generalize m.Cells[k]=c at hc;rw[qiD hc];simp only[gMp,hc,oMs,go_sem];refine qU (k:=5) rfl (by simp[go_sem]) ⟨_,rfl⟩ (by decide) ?_;simp only[go_sem]
  repeat' (first | (apply zA<;>intro h1<;>simp only[h1,go_sem]) | (apply qS<;>intro h1<;>simp only[h1,go_sem]) | (refine qI XN ?_;simp only[go_sem]) | (refine qI XO ?_;simp only[go_sem]) | refine qK rfl ?_)
  all_goals (simp_all[kB])
theorem qj0{m:qH}{p:qL}:Pure Gm 1365 [.ept m.enc 0,p.enc] (.bool (jr m.Cells p)):=by
 obtain⟨A,B⟩:=p;refine pJ KA ?_;simp only[KA,qN,go_sem];refine qW rfl ?_;simp only[go_sem];have no:(¬(A<B/\0<=A/\A<(m.Cells.length:Nat)/\0<=B/\B<(m.Cells.length:Nat)))->jr m.Cells ⟨A,B⟩=false:=λq=>by
  cases e:jr m.Cells ⟨A,B⟩
  ·rfl
  ·refine absurd ?_ q;simp only[jr,bAt,inI,dTe]at e;omega
 by_cases h1:A<B
 case neg=>
  simp only[h1,decide_false,go_sem];exact qK rfl (by rw[no (λq=>h1 q.1)])
 simp only[h1,go_sem];refine qI Yf ?_;simp only[go_sem];by_cases h2:0<=A/\A<(m.Cells.length:Nat)
 case neg=>
  have e:JW m.Cells A=false:=qd3 h2;simp only[e,go_sem];exact qK rfl (by rw[no (λq=>h2 ⟨q.2.1,q.2.2.1⟩)])
 have e:JW m.Cells A=true:=by simpa[JW]using h2
 simp only[e,go_sem];refine qI Yf ?_;simp only[go_sem];by_cases h3:0<=B/\B<(m.Cells.length:Nat)
 case neg=>
  have e:JW m.Cells B=false:=qd3 h3;simp only[e,go_sem];exact qK rfl (by rw[no (λq=>h3 ⟨q.2.2.2.1,q.2.2.2.2⟩)])
 have e:JW m.Cells B=true:=by simpa[JW]using h3
 simp only[e,go_sem];have q1:inI B 1 ((m.Cells.length:Int)-1)=true:=by simp only[inI,bAt,dTe];omega
 have q2:inI A 0 (B-1)=true:=by simp only[inI,bAt,dTe];omega
 obtain⟨ka,rfl⟩:=Int.eq_ofNat_of_zero_le h2.1;obtain⟨kb,rfl⟩:=Int.eq_ofNat_of_zero_le h3.1;have ha:=gEg (show ka<m.Cells.length by omega);have hb:=gEg (show kb<m.Cells.length by omega);generalize m.Cells[ka]=ca at ha;generalize m.Cells[kb]=cb at hb;simp only[gMp,ha,oMs,go_sem];refine qI XN ?_;simp only[go_sem];cases q3:qt ca.Kind
 ·simp only[go_sem];exact qK rfl (by simp only[jr,q1,q2,Qt ha,q3,Bool.false_and,Bool.and_false])
 simp only[gMp,hb,oMs,go_sem];refine qI XN ?_;simp only[go_sem];exact qK rfl (by simp only[jr,q1,q2,Qt ha,Qt hb,q3,Bool.true_and])
def J7(C:List qD):Nat->qF->qF×Bool
 | 0,w=>(⟨0,0⟩,false)
 | n+1,w=>if w.Tag=1 then(w,true)else match V5 C w with
  |[]=>(w,true)
  | x::_=>J7 C n x
theorem qjM{m:qH}{w:qF}(hs:m.Cells.length<=140737488355328)(hw:wOk m.Cells w)(ha:allW m.Cells):Pure Gm 1256 [.ept m.enc 0,w.enc] (.tup [(J7 m.Cells (m.Cells.length+1) w).1.enc,.bool (J7 m.Cells (m.Cells.length+1) w).2]):=by
 refine pI UX (by simp[AV.trees,AV.tree,go_sem]) (by simp[AV.trees,AV.tree,go_sem]) ?_;simp only[UX,qN,go_sem];refine qW rfl ?_;simp only[go_sem];simp only[jt (show m.Cells.length<4611686018427387904 by omega)];generalize hR:J7 m.Cells (m.Cells.length+1) w=R;refine Sem.loop (λa:Nat×qF=>a.1<=m.Cells.length+1/\wOk m.Cells a.2/\J7 m.Cells (m.Cells.length+1-a.1) a.2=R) (λa=>(⟨[(12,iI (a.1:Nat)),(11,iI ((m.Cells.length+1:Nat):Int)),(5,.bool false),(0,.ept m.enc 0)],[(4,.agg [iI 0,iI 0]),(3,a.2.enc)],[]⟩:VSt)) (λa=>m.Cells.length+1-a.1) (0,w) (by kernel_rfl) ⟨nZl _,hw,hR⟩ csA ?_;rintro⟨n,t,a⟩ ⟨hi,hk,he⟩;simp only at hi hk he;simp only[go_sem];obtain⟨k,c,rfl,hc,hkc⟩:=hk;by_cases hlt:n<m.Cells.length+1
 case neg=>
  obtain rfl:n=m.Cells.length+1:=by omega
  have e:decide (((m.Cells.length+1:Nat):Int)<((m.Cells.length+1:Nat):Int))=false:=decide_eq_false (by omega);simp only[e,go_sem];refine qU (k:=2) rfl rfl ⟨_,rfl⟩ (by decide) ?_;simp only[go_sem];rw[nSs]at he;exact zW (by rfl) (by rw[<-he];rfl)
 have e:decide ((n:Int)<((m.Cells.length+1:Nat):Int))=true:=decide_eq_true (by omega);simp only[e,go_sem];obtain⟨r,hr⟩:∃r,m.Cells.length+1-n=r+1:=⟨m.Cells.length-n,by omega⟩;rw[hr]at he;by_cases ht:t=1
 ·simp only[ht,go_sem];refine qU (k:=2) rfl rfl ⟨_,rfl⟩ (by decide) ?_;simp only[go_sem];refine zW (by rfl) ?_;rw[<-he,J7,if_pos ht,ht]
 ·simp only[ht,decide_false,gMp,hc,oMs,go_sem];cases hw:c.Words with
  | nil=>
   simp only[hw,List.map_nil,Int.natCast_zero,go_sem];refine qU (k:=2) rfl rfl ⟨_,rfl⟩ (by decide) ?_;simp only[go_sem];refine zW (by rfl) ?_;rw[<-he,J7,if_neg ht,YQ hc,hw]
  | cons x ws=>
   have e2:decide (((ws.length+1:Nat):Int)=0)=false:=decide_eq_false (by omega);simp only[hw,lMc,e2,go_sem];simp only[gMp,hc,oMs,go_sem,hw,lMc];refine qU (k:=2) rfl rfl ⟨_,rfl⟩ (by decide) ?_;simp only[go_sem,wuA (n:=n)];refine qa (n+1,x) ⟨by simp only;omega,ha k c hc x (by rw[hw];exact .head _), ?_⟩ (by simp only;omega) csA;rw[<-he,J7,if_neg (by simp[ht]),YQ hc,hw];simp only;rw[show m.Cells.length+1-(n+1)=r by omega]
theorem qj2{m:qH}(hs:m.Cells.length<=140737488355328):Pure Gm 1367 [.ept m.enc 0] (.bool (wO m.Cells (jP m.Cells) m.Free)):=by
 refine pJ KC ?_;simp only[KC,qN,go_sem];refine Sem.loop (λi:Nat=>i<=m.Cells.length)
  (λi=>(⟨[(0,.ept m.enc 0),(2,.bool false),(10,.lst 5 (m.Cells.map qD.enc) false),(11,iI (m.Cells.length:Nat)),(3,iI (jP (m.Cells.take i):Nat)),(12,iI (i:Nat))],[],[]⟩:VSt)) (λi=>m.Cells.length-i)
  0 (by kernel_rfl) (nZl _) (Can.sub (by simp[go_sem,jP]) (by simp[go_sem])) ?_
 rintro i hi;simp only[go_sem];by_cases hlt:i<m.Cells.length
 ·have e:decide ((i:Int)<(m.Cells.length:Nat))=true:=decide_eq_true (by omega);have hc:=gEg hlt;generalize m.Cells[i]=c at hc;simp only[e,gMp,hc,oMs,go_sem];refine qU (k:=5) rfl (by simp[go_sem]) ⟨_,rfl⟩ (by decide) ?_;simp only[go_sem];refine qI XP ?_;simp only[go_sem];have ex:=qdO hc;have hn:jP (m.Cells.take i)<=i:=nLt Y3 (by simp;omega);refine qI Qz ?_;have ew:∀j:Nat,jP (m.Cells.take (i+1))=j->IntKind.i64.wrap (((jP (m.Cells.take i):Nat):Int)+(if decide (c.Kind=0)=true then 1 else 0))=(j:Nat):=λj hj=>by
   by_cases hk:c.Kind=0
   ·simp only[hk,decide_true,if_true];rw[if_pos hk]at ex;rw[wsA];omega
   ·simp only[hk,decide_false,bFt,if_false];rw[if_neg hk]at ex;rw[wsA];omega
  simp only[go_sem,ew _ rfl,wuA (n:=i)];refine lqA (i+1)
 ·have e:decide ((i:Int)<(m.Cells.length:Nat))=false:=decide_eq_false (by omega);simp only[e,go_sem];rw[List.take_of_length_le (by omega)];have hn:=Y3 (C:=m.Cells);generalize hF:jP m.Cells=F at hn;generalize hR:wO m.Cells F m.Free=R;refine Sem.loop (λa:Nat×Int=>a.1<=F/\wO m.Cells (F-a.1) a.2=R)
   (λa=>(⟨[(0,.ept m.enc 0),(2,.bool false),(26,iI (F:Nat)),(27,iI (a.1:Nat)),(6,iI a.2)],[],[]⟩:VSt)) (λa=>F-a.1)
   (0,m.Free) (by kernel_rfl) ⟨nZl _,hR⟩ csA ?_
  rintro⟨n,a⟩ ⟨h1,h2⟩;simp only at h1 h2;simp only[go_sem];by_cases hlt:n<F
  case neg=>
   have e:decide ((n:Int)<(F:Nat))=false:=decide_eq_false (by omega);simp only[e,go_sem];rw[show F-n=0 by omega]at h2;exact qK rfl (by rw[<-h2];rfl)
  have e:decide ((n:Int)<(F:Nat))=true:=decide_eq_true (by omega);obtain⟨r,hr⟩:∃r,F-n=r+1:=⟨F-n-1,by omega⟩;rw[hr]at h2;simp only[e,go_sem];refine qI Yf ?_;rw[qd2];simp only[go_sem];cases hi:inI a 0 ((m.Cells.length:Int)-1)
  ·simp only[go_sem];exact qK rfl (by rw[<-h2,qAX hi])
  simp only[go_sem];have hj:=hi;simp only[inI,bAt,dTe]at hj;obtain⟨k,rfl⟩:=Int.eq_ofNat_of_zero_le hj.1;have hk:k<m.Cells.length:=by omega
  have hc:=gEg hk;generalize m.Cells[k]=c at hc;rw[qAW hc]at h2;simp only[gMp,hc,oMs,go_sem];refine qI XP ?_;simp only[go_sem];by_cases h0:c.Kind=0
  ·simp only[h0,go_sem,gMp,hc,oMs];simp only[wuA (n:=n)];refine qa (n+1,c.Value) ⟨by simp only;omega, ?_⟩ (by simp only;omega) csA;rw[<-h2];simp only[h0,decide_true,Bool.true_and];rw[show F-(n+1)=r by omega]
  ·simp only[h0,decide_false,go_sem];exact qK rfl (by rw[<-h2];simp[h0])
theorem qjT{c:qD}(hz:c.sz<=1048575):Pure Gm 1357 [c.enc] (.bool (!JS c)):=by
 refine pJ Ux ?_;simp only[Ux,qN,go_sem];refine qW rfl ?_;simp only[go_sem];refine qI (qjU hz) ?_;simp only[go_sem];exact qK rfl rfl
theorem qjW{m:qH}{w:qF}:Pure Gm 1361 [w.enc,.ept (.ept m.enc 0) 0] (.bool (!wt m.Cells w)):=by
 refine pJ U0 ?_;simp only[U0,qN,go_sem];refine qW rfl ?_;simp only[go_sem];refine qI qjX ?_;simp only[go_sem];exact qK rfl rfl
theorem qjZ{m:qH}{p:qL}:Pure Gm 1364 [p.enc,.ept (.ept m.enc 0) 0] (.bool (!jr m.Cells p)):=by
 refine pJ U9 ?_;simp only[U9,qN,go_sem];refine qW rfl ?_;simp only[go_sem];refine qI qj0 ?_;simp only[go_sem];exact qK rfl rfl
theorem qjS{xs:List qD}(hx:∀c∈xs,c.sz<=1048575)(hl:xs.length<=1048576):Pure Gm 1356 [.lst 5 (xs.map qD.enc) false,.fn 1357 []] (.bool (xs.any λc=> !JS c)):=
 WO qD.isSh (gc:=1482) (gk _ qM8) (gk _ qQN) _ (λc=> !JS c) rfl xs (λc hc=>⟨1357,[],rfl,qjT (hx c hc)⟩) hl
theorem qjV{m:qH}{xs:List qF}(hl:xs.length<=1048576):Pure Gm 1359 [.lst 2 (xs.map qF.enc) false,.fn 1361 [.ept (.ept m.enc 0) 0]] (.bool (xs.any λc=> !wt m.Cells c)):=
 WO qF.isSh (gc:=1483) (gk _ qNE) (gk _ qQO) _ (λc=> !wt m.Cells c) (by simp[AV.trees,AV.tree,go_sem]) xs (λc hc=>⟨1361,[.ept (.ept m.enc 0) 0],rfl,qjW⟩) hl
theorem qjY{m:qH}{xs:List qL}(hl:xs.length<=1048576):Pure Gm 1363 [.lst 2 (xs.map qL.enc) false,.fn 1364 [.ept (.ept m.enc 0) 0]] (.bool (xs.any λc=> !jr m.Cells c)):=
 WO qL.isSh (gc:=1485) (gk _ qNO) (gk _ qQQ) _ (λc=> !jr m.Cells c) (by simp[AV.trees,AV.tree,go_sem]) xs (λc hc=>⟨1364,[.ept (.ept m.enc 0) 0],rfl,qjZ⟩) hl
theorem qg8{m:qH}{h0:List qB}(hs:m.Cells.length<=1048576)(hw:(m.Cells.flatMap (·.Words)).length<=2000000):SCall Gm 1360 [.ept m.enc 0] h0 (λv h'=>Up (λ_=>False) h0 h'/\∃id,h0.length<=id/\v=.slice 2 id 0 (qZ m).length false/\h'[id]?=some (.row 2 ((qZ m).map qF.enc) true)):=by
 refine sI Uz ?_;simp only[Uz,qN,go_sem];refine Sem.loop (λa:Nat×AV×List qB=>a.1<=m.Cells.length/\Up (λ_=>False) h0 a.2.2/\LsW (λj=>h0.length<=j) 2 a.2.2 a.2.1 ((m.Root::(m.Cells.take a.1).flatMap (·.Words)).map qF.enc))
  (λa=>(⟨[(14,.lst 5 (m.Cells.map qD.enc) false),(15,iI (m.Cells.length:Nat)),(3,a.2.1),(16,iI (a.1:Nat))],[],a.2.2⟩:VSt)) (λa=>m.Cells.length-a.1)
  (0,sQ 2 h0.length 1,_) (by kernel_rfl) ⟨nZl _,Up.app _,.inr ⟨h0.length,nLr _,rfl,by simp⟩⟩ csA ?_
 rintro⟨i,v,h⟩ ⟨hi,u0,I⟩;simp only at hi u0 I;simp only[go_sem];by_cases hlt:i<m.Cells.length
 ·have e:decide ((i:Int)<(m.Cells.length:Nat))=true:=decide_eq_true (by omega);have hc:=gEg hlt;generalize m.Cells[i]=c at hc;simp only[e,gMp,hc,oMs,go_sem];refine qU (k:=5) rfl (by simp[go_sem]) ⟨_,rfl⟩ (by decide) ?_;simp only[go_sem];have ex:=qdL hc;have hl:=qdK (C:=m.Cells) (i:=i+1);rw[ex,lAp]at hl;refine qbC I Els.lst (by simp only[lMp,lCo];omega) λh3 u3 v3 l3=>?_;simp only[go_sem,wuA (n:=i)];refine qa (i+1,.slice 2 h.length 0 (((m.Root::(m.Cells.take i).flatMap (·.Words)).map qF.enc).length+(c.Words.map qF.enc).length) false,h3) ⟨by simp only;omega,u0.trans u3 (λj hj q=>by have:=q.1;omega),.inr ⟨h.length,u0.1, ?_, ?_⟩⟩ (by simp only;omega) csA
  ·simp only[ex,lMp,lCo,lAp];rw[show ∀a b:Nat,a+b+1=a+1+b from λa b=>by omega]
  ·simp only[ex];rw[v3];simp
 ·have e:decide ((i:Int)<(m.Cells.length:Nat))=false:=decide_eq_false (by omega);simp only[e,go_sem];rw[List.take_of_length_le (by omega)]at I;rcases I with⟨_,h2⟩ | ⟨id,q1,q2,q3⟩
  ·cases h2
  ·exact⟨u0,id,q1,by rw[q2,lMp,qZ],q3⟩
noncomputable def Wo(m:qH):Bool:= @decide (∀(k:Nat)(c:qD),m.Cells[k]?=some c->z8 m k=zR c) (Classical.propDecidable _)
theorem VX{m:qH}:Wo m=true↔∀(k:Nat)(c:qD),m.Cells[k]?=some c->z8 m k=zR c:=by unfold Wo;exact @decide_eq_true_iff _ (Classical.propDecidable _)
theorem VY{m:qH}{k:Nat}{c:qD}(hc:m.Cells[k]?=some c)(h:z8 m k≠zR c):Wo m=false:=Bool.eq_false_iff.2 λq=>h (VX.1 q k c hc)
theorem qj1{m:qH}(hs:m.Cells.length<=1048576)(hfm:(m.Cells.flatMap (·.Words)).length<=1048576)(hrl:m.Redexes.length<=1048576)(hW:∀w∈qZ m,wOk m.Cells w)(hR:∀p∈m.Redexes,jr m.Cells p=true):Pure Gm 1366 [.ept m.enc 0,.nils] (.bool (Wo m)):=by
 refine pJ KB ?_;simp only[KB,qN,go_sem];refine QI (by unfold LIM;omega) ?_;simp only[go_sem];refine qk (SCall.mono (qg8 (by omega) (by omega)) ?_);rintro v1 h1 ⟨up1,wd,hwd,rfl,hw1⟩;have hLl:(qZ m).length<=1048577:=by rw[qZ,lCo];omega
 simp only[go_sem];refine WH (ys:=[]) ⟨trivial,rfl⟩ hw1 (by rw[lMp]) (by simp only[lNi];omega) ?_;simp only[go_sem,nAz,lAn];have g1:(h1.set wd .dead++[qB.row 2 ((qZ m).map qF.enc) true])[0]?=some (.row 1 (jM m.Cells.length λk=>cw k ((qZ m).take 0)) true):=by
  have:=up1.1;simp only[lAp,lCo,lNi]at this hwd;rw[gAl (by rw[lLs];omega),gSn (by omega)];refine up1.at ?_ id;show some (qB.row 1 (List.replicate m.Cells.length (AV.int .i64 0)) true)=_;rw[<-qcQ];rfl
 have g2:(h1.set wd .dead++[qB.row 2 ((qZ m).map qF.enc) true])[h1.length]?=some (.row 2 ((qZ m).map qF.enc) true):=by
  rw[gAr (by rw[lLs];omega),lLs,nSs];rfl
 generalize h1.set wd .dead++[qB.row 2 ((qZ m).map qF.enc) true]=h2 at g1 g2;generalize h1.length=wp at g2;clear hw1 up1 hwd;refine Sem.loop (λa:Nat×List qB=>a.1<=(qZ m).length/\a.2[0]?=some (.row 1 (jM m.Cells.length λk=>cw k ((qZ m).take a.1)) true)/\a.2[wp]?=some (.row 2 ((qZ m).map qF.enc) true))
  (λa=>(⟨[(0,.ept m.enc 0),(4,.bool false),(5,sQ 1 0 m.Cells.length),(22,.slice 2 wp 0 (qZ m).length false),(23,iI ((qZ m).length:Nat)),(24,iI (a.1:Nat))],[],a.2⟩:VSt)) (λa=>(qZ m).length-a.1)
  (0,h2) (by kernel_rfl) ⟨nZl _,g1,g2⟩ csA ?_
 clear g1 g2;rintro⟨i,h⟩ ⟨hi,g1,g2⟩;simp only at hi g1 g2;simp only[go_sem];by_cases hlt:i<(qZ m).length
 ·have e:decide ((i:Int)<((qZ m).length:Nat))=true:=decide_eq_true (by omega);have hc:=gEg hlt;generalize (qZ m)[i]=w at hc;have hm:=lMo hc;obtain⟨k,d,hw1,hw2,hw3⟩:=hW w hm;have hk:=zH hw2;simp only[e,qY hlt,nZa,g2,gMp,hc,oMs,go_sem];refine qU (k:=2) rfl rfl ⟨_,rfl⟩ (by decide) ?_;simp only[hw1,qY hk,nZa,g1,jn hk,go_sem];have hcl:=Ze (ws:=(qZ m).take i) (k:=k);rw[lLt]at hcl;simp only[jt (show cw k ((qZ m).take i)<4611686018427387904 by omega)];refine jF rfl g1 (jn hk) rfl ?_;simp only[go_sem,wuA (n:=i)];have hne:=qe8 g1 g2 (by simp);refine qa (i+1,h.set 0 (.row 1 ((jM m.Cells.length λk=>cw k ((qZ m).take i)).set k (iI ((cw k ((qZ m).take i)+1:Nat):Int))) true)) ⟨by simp only;omega, ?_, ?_⟩ (by simp only;omega) csA
  ·rw[gSs (qp g1),WM (g:=λk=>cw k ((qZ m).take (i+1)))]
   ·simp only[Yr hc,hw1,if_true]
   ·intro j hj;simp only[Yr hc,hw1];rw[if_neg (by omega),nAz]
  ·rw[gSn hne];exact g2
 have e:decide ((i:Int)<((qZ m).length:Nat))=false:=decide_eq_false (by omega);simp only[e,go_sem];rw[List.take_of_length_le (by omega)]at g1;clear g2;refine Sem.loop (λa:Nat×List qB=>a.1<=m.Redexes.length/\a.2[0]?=some (.row 1 (jM m.Cells.length λk=>cw k (qZ m)+cr k (m.Redexes.take a.1)) true))
  (λa=>(⟨[(0,.ept m.enc 0),(4,.bool false),(5,sQ 1 0 m.Cells.length),(39,.lst 2 (m.Redexes.map qL.enc) false),(40,iI (m.Redexes.length:Nat)),(41,iI (a.1:Nat))],[],a.2⟩:VSt)) (λa=>m.Redexes.length-a.1)
  (0,h) (by kernel_rfl) ⟨nZl _,g1⟩ csA ?_
 clear g1 hlt e hi;rintro⟨i,h⟩ ⟨hi,g1⟩;simp only at hi g1;simp only[go_sem];by_cases hlt:i<m.Redexes.length
 ·have e:decide ((i:Int)<(m.Redexes.length:Nat))=true:=decide_eq_true (by omega);have hc:=gEg hlt;generalize m.Redexes[i]=p at hc;have hm:=lMo hc;have hp:=hR p hm;simp only[e,gMp,hc,oMs,go_sem];refine qU (k:=2) rfl rfl ⟨_,rfl⟩ (by decide) ?_;obtain⟨A,B⟩:=p;simp only[jr,bAt,inI,dTe]at hp;obtain⟨ka,rfl⟩:=Int.eq_ofNat_of_zero_le hp.1.1.2.1;obtain⟨kb,rfl⟩:=Int.eq_ofNat_of_zero_le (show 0<=B by omega);have hka:ka<m.Cells.length:=by omega
  have hkb:kb<m.Cells.length:=by omega
  simp only[qY hka,nZa,g1,jn hka,go_sem];have hcl:=Ze (ws:=qZ m) (k:=ka);have hcl2:=Ze (ws:=qZ m) (k:=kb);have hcr:=XW (rx:=m.Redexes.take i) (k:=ka);have hcr2:=XW (rx:=m.Redexes.take i) (k:=kb);rw[lLt]at hcr hcr2;simp only[jt (show cw ka (qZ m)+cr ka (m.Redexes.take i)<4611686018427387904 by omega)];refine jF rfl g1 (jn hka) rfl ?_;have g3:(h.set 0 (.row 1 ((jM m.Cells.length λk=>cw k (qZ m)+cr k (m.Redexes.take i)).set ka (iI ((cw ka (qZ m)+cr ka (m.Redexes.take i)+1:Nat):Int))) true))[0]?=some (.row 1 (jM m.Cells.length λk=>cw k (qZ m)+cr k (m.Redexes.take i)+if ka=k then 1 else 0) true):=by
   rw[gSs (qp g1),WM (g:=λk=>cw k (qZ m)+cr k (m.Redexes.take i)+if ka=k then 1 else 0)]
   ·simp only[if_true]
   ·intro j hj;rw[if_neg (Ne.symm hj)];rfl
  generalize h.set 0 _=h3 at g3;have hab:ka≠kb:=by omega
  simp only[qY hkb,nZa,g3,jn hkb,if_neg hab,nAz,go_sem];simp only[jt (show cw kb (qZ m)+cr kb (m.Redexes.take i)<4611686018427387904 by omega)];refine jF rfl g3 (jn hkb) rfl ?_;simp only[go_sem,wuA (n:=i)];refine qa (i+1,h3.set 0 (.row 1 ((jM m.Cells.length λk=>cw k (qZ m)+cr k (m.Redexes.take i)+if ka=k then 1 else 0).set kb (iI ((cw kb (qZ m)+cr kb (m.Redexes.take i)+1:Nat):Int))) true)) ⟨by simp only;omega, ?_⟩ (by simp only;omega) csA;rw[gSs (qp g3),WM (g:=λk=>cw k (qZ m)+cr k (m.Redexes.take (i+1)))]
  ·simp only[Yq hc,if_true];rw[if_neg (by omega)];omega
  ·intro j hj;simp only[Yq hc];rw[if_neg (show ¬(kb:Int)=j by omega)];by_cases q:ka=j
   ·rw[if_pos q,if_pos (by omega)];omega
   ·rw[if_neg q,if_neg (by omega)];omega
 have e:decide ((i:Int)<(m.Redexes.length:Nat))=false:=decide_eq_false (by omega);simp only[e,go_sem];rw[List.take_of_length_le (by omega)]at g1;refine Sem.loop (λi:Nat=>i<=m.Cells.length/\∀(k:Nat)(c:qD),k<i->m.Cells[k]?=some c->z8 m k=zR c)
  (λi=>(⟨[(4,.bool false),(5,sQ 1 0 m.Cells.length),(63,.lst 5 (m.Cells.map qD.enc) false),(64,iI (m.Cells.length:Nat)),(65,iI (i:Nat))],[],h⟩:VSt)) (λi=>m.Cells.length-i)
  0 (by kernel_rfl) ⟨nZl _,λk c hk=>by omega⟩ csA ?_
 clear hlt e hi;rintro i ⟨hi,hI⟩;simp only[go_sem];by_cases hlt:i<m.Cells.length
 ·have e:decide ((i:Int)<(m.Cells.length:Nat))=true:=decide_eq_true (by omega);have hc:=gEg hlt;generalize m.Cells[i]=c at hc;simp only[e,gMp,hc,oMs,go_sem];refine qU (k:=5) rfl (by simp[go_sem]) ⟨_,rfl⟩ (by decide) ?_;simp only[go_sem];refine qI XP ?_;have hnext:z8 m i=zR c->∀(k:Nat)(c:qD),k<i+1->m.Cells[k]?=some c->z8 m k=zR c:=λq k d hk hd=>by
   by_cases e:k=i
   ·subst e;rw[hc]at hd;cases hd;exact q
   ·exact hI k d (by omega) hd
  simp only[go_sem];by_cases h0:c.Kind=0
  ·have ew:zR c=0:=by rw[zR,if_pos h0]
   simp only[h0,go_sem];simp only[qY hlt,nZa,g1,jn hlt,go_sem];by_cases hq:((cw i (qZ m)+cr i m.Redexes:Nat):Int)=0
   ·simp only[hq,go_sem,wuA (n:=i)];refine qa (i+1) ⟨by omega,hnext (by rw[ew];unfold z8;omega)⟩ (by omega) csA
   ·simp only[hq,decide_false,go_sem];exact qK rfl (by rw[VY hc (by rw[ew];unfold z8;omega)])
  ·simp only[h0,decide_false,go_sem];refine qI XO ?_;simp only[go_sem];by_cases h13:c.Kind=13
   ·simp only[h13,go_sem];by_cases hn:c.Words=[]
    ·have ew:zR c=2:=by rw[zR,if_neg h0,if_pos ⟨h13,hn⟩]
     simp only[hn,List.map_nil,Int.natCast_zero,go_sem];simp only[qY hlt,nZa,g1,jn hlt,go_sem];by_cases hq:((cw i (qZ m)+cr i m.Redexes:Nat):Int)=2
     ·simp only[hq,go_sem,wuA (n:=i)];refine qa (i+1) ⟨by omega,hnext (by rw[ew];unfold z8;omega)⟩ (by omega) csA
     ·simp only[hq,decide_false,go_sem];exact qK rfl (by rw[VY hc (by rw[ew];unfold z8;omega)])
    ·have ew:zR c=1:=by rw[zR,if_neg h0,if_neg (by simp[hn])]
     have en:decide ((c.Words.length:Int)=0)=false:=decide_eq_false λq=>hn (lEz (by omega));simp only[en,go_sem];simp only[qY hlt,nZa,g1,jn hlt,go_sem];by_cases hq:((cw i (qZ m)+cr i m.Redexes:Nat):Int)=1
     ·simp only[hq,go_sem,wuA (n:=i)];refine qa (i+1) ⟨by omega,hnext (by rw[ew];unfold z8;omega)⟩ (by omega) csA
     ·simp only[hq,decide_false,go_sem];exact qK rfl (by rw[VY hc (by rw[ew];unfold z8;omega)])
   ·have ew:zR c=1:=by rw[zR,if_neg h0,if_neg (by simp[h13])]
    simp only[h13,decide_false,go_sem];simp only[qY hlt,nZa,g1,jn hlt,go_sem];by_cases hq:((cw i (qZ m)+cr i m.Redexes:Nat):Int)=1
    ·simp only[hq,go_sem,wuA (n:=i)];refine qa (i+1) ⟨by omega,hnext (by rw[ew];unfold z8;omega)⟩ (by omega) csA
    ·simp only[hq,decide_false,go_sem];exact qK rfl (by rw[VY hc (by rw[ew];unfold z8;omega)])
 have e:decide ((i:Int)<(m.Cells.length:Nat))=false:=decide_eq_false (by omega);simp only[e,go_sem];exact qK rfl (by rw[VX.2 λk c hc=>hI k c (by have:=zH hc;omega) hc])
theorem qkP{c:qD}{s:Int}(h:JI c s=true):JS c=true:=by
 unfold JI at h;unfold JS;by_cases h0:c.Kind=0
 ·rw[if_pos h0]at h;rw[if_neg (by rw[h0];decide),if_neg (by omega)];simp only[bAt,dTe]at h|-;exact⟨⟨⟨h0,h.1.1.1⟩,h.1.1.2⟩,h.1.2⟩
 ·rw[if_neg h0]at h;by_cases h1:c.Kind=13
  ·rw[if_pos h1]at h;rw[if_neg (by rw[h1];decide),if_pos h1];simp only[bAt,dTe]at h|-;exact⟨h.1,by omega⟩
  ·rw[if_neg h1]at h;by_cases h2:qt c.Kind=true
   ·rw[if_pos h2]at h|-;exact h
   ·rw[if_neg h2]at h;cases h
theorem qkR{c:qD}{s:Int}(h:JS c=true)(hv:c.Kind=0->inI c.Value (-1) (s-1)=true):JI c s=true:=by
 unfold JS at h;unfold JI;by_cases h2:qt c.Kind=true
 ·have:=WY h2;rw[if_pos h2]at h;rw[if_neg this.1,if_neg this.2,if_pos h2];exact h
 ·rw[if_neg h2]at h;by_cases h1:c.Kind=13
  ·rw[if_pos h1]at h;rw[if_neg (by omega),if_pos h1];simp only[bAt,dTe]at h|-;exact⟨h.1,by omega⟩
  ·rw[if_neg h1]at h;simp only[bAt,dTe]at h;rw[if_pos h.1.1.1];simp only[bAt,dTe];exact⟨⟨⟨h.1.1.2,h.1.2⟩,h.2⟩,hv h.1.1.1⟩
theorem qgS{C:List qD}(ha:allW C):∀{n:Nat}{w:qF},wOk C w->(J7 C n w).2=(res C n w).2/\((res C n w).2=true->J7 C n w=res C n w)
 | 0,w,_=>⟨rfl,λh=>by cases h⟩
 | n+1,⟨t,a⟩,⟨k,c,e,hc,hk⟩=>by
  simp only at e hk;subst e;rcases hk with⟨rfl,hk⟩ | ⟨rfl,hk⟩
  ·exact⟨rfl,λ_=>rfl⟩
  ·rw[J7,res,if_neg (show ¬(2:Int)=1 by decide),if_neg (by simp),YQ hc];cases hw:c.Words with
   | nil=>exact⟨rfl,λ_=>rfl⟩
   | cons x ws=>exact qgS ha (ha k c hc x (by rw[hw];exact .head _))
theorem VM.occ{m:qH}(h:VM m):Wo m=true:=VX.2 λk c hc=>by
 rw[<-h.mi.occ k c hc,qA2,z8,qZ,zL,zL,Zf];omega
theorem qi9{m:qH}(hz:m.sz<=1048576):Pure Gm 1068 [.ept m.enc 0,.nils] (.bool (Ja m)):=by
 have hsz:m.Cells.length+qx qD.sz m.Cells+m.Redexes.length<=1048576:=by unfold qH.sz at hz;exact hz
 refine pJ UH ?_;simp only[UH,qN,go_sem];refine QD rfl ?_;simp only[go_sem];have g0:([]++[qB.row 1 [m.enc.ept 0] true]:List qB)[0]?=some (.row 1 [.ept m.enc 0] true):=rfl;generalize ([]++[qB.row 1 [m.enc.ept 0] true]:List qB)=h0 at g0|-;simp only[g0,go_sem];have bad:∀{P:Prop},(VM m->P)->¬P->Ja m=false:=λh n=>QH λv=>n (h v);by_cases n1:m.Cells.length<1
 ·have e:decide ((m.Cells.length:Int)<1)=true:=decide_eq_true (by omega);simp only[e,go_sem];refine qK rfl (by rw[bad (λv=>v.sz) (by simp only[inI,bAt,dTe];omega)])
 have e:decide ((m.Cells.length:Int)<1)=false:=decide_eq_false (by omega);simp only[e,g0,go_sem];by_cases n2:1500<m.Cells.length
 ·have e:decide ((1500:Int)<(m.Cells.length:Nat))=true:=decide_eq_true (by omega);simp only[e,go_sem];refine qK rfl (by rw[bad (λv=>v.sz) (by simp only[inI,bAt,dTe];omega)])
 have e:decide ((1500:Int)<(m.Cells.length:Nat))=false:=decide_eq_false (by omega);simp only[e,g0,go_sem];by_cases n3:m.Cells.length<m.Redexes.length
 ·have e:decide ((m.Cells.length:Int)<(m.Redexes.length:Nat))=true:=decide_eq_true (by omega);simp only[e,go_sem];refine qK rfl (by rw[bad (λv=>v.rs) (by omega)])
 have e:decide ((m.Cells.length:Int)<(m.Redexes.length:Nat))=false:=decide_eq_false (by omega);simp only[e,g0,go_sem];have hfm:=qBG (C:=m.Cells);refine qI (qjS (λc hc=>by have:=jg (f:=qD.sz) hc;have:=List.length_pos_of_mem hc;omega) (by omega)) ?_;simp only[go_sem];cases e1:m.Cells.any λc=> !JS c
 case true=>
  simp only[go_sem];obtain⟨c,hc,hn⟩:=List.any_eq_true.1 e1;exact qK rfl (by rw[bad (λv=>qkP (v.cell c hc)) (by simpa using hn)])
 have hcell:∀c∈m.Cells,JS c=true:=λc hc=>by
  have:=List.any_eq_false.1 e1 c hc;simpa using this
 simp only[g0,go_sem];refine qk (SCall.mono (qg8 (m:=m) (by omega) (by omega)) ?_);rintro v1 h1 ⟨up1,wd,hwd,rfl,hw1⟩;have hLl:(qZ m).length<=1048576:=by rw[qZ,lCo];omega
 simp only[go_sem];refine WH (ys:=[]) ⟨trivial,rfl⟩ hw1 (by rw[lMp]) (by simp only[lNi];omega) ?_;simp only[go_sem,nAz,lAn];have g1:(h1.set wd .dead++[qB.row 2 ((qZ m).map qF.enc) true])[0]?=some (.row 1 [.ept m.enc 0] true):=by
  have:=up1.1;have:=qp g0;rw[gAl (by rw[lLs];omega),gSn (by omega)];exact up1.at g0 id
 have g2:(h1.set wd .dead++[qB.row 2 ((qZ m).map qF.enc) true])[h1.length]?=some (.row 2 ((qZ m).map qF.enc) true):=by
  rw[gAr (by rw[lLs];omega),lLs,nSs];rfl
 generalize h1.set wd .dead++[qB.row 2 ((qZ m).map qF.enc) true]=h2 at g1 g2;generalize h1.length=wp at g2;clear hw1 up1 hwd;have cf:∀(g:Nat),∀p∈[AV.ptr 0 0 0].zip [AV.ept (.ept m.enc 0) 0],Cv h2 p.1 p.2:=λg p hp=>by
  simp only[List.zip_cons_cons,List.zip_nil_left,List.mem_cons,List.not_mem_nil,or_false]at hp;rw[hp];exact .ptr g1 (by decide) rfl (.refl (by simp[AV.tree,go_sem]))
 refine Jv (vs':=[.lst 2 ((qZ m).map qF.enc) false,.fn 1361 [.ept (.ept m.enc 0) 0]]) (Cvs.cons (Cv.row (c:=false) g2 (by simp) (qb qF.isSh.tree _) (by decide)) (Cvs.cons (.fn rfl (cf 0)) .nil)) (qjV (by omega)) rfl ?_;simp only[go_sem];cases e2:(qZ m).any λw=> !wt m.Cells w
 case true=>
  simp only[go_sem];obtain⟨c,hc,hn⟩:=List.any_eq_true.1 e2;exact qK rfl (by rw[bad (λv=>v.wrd c hc) (by simpa using hn)])
 have hwrd:∀w∈qZ m,wt m.Cells w=true:=λc hc=>by
  have:=List.any_eq_false.1 e2 c hc;simpa using this
 simp only[g1,go_sem];refine Jv (vs':=[.lst 2 (m.Redexes.map qL.enc) false,.fn 1364 [.ept (.ept m.enc 0) 0]]) (Cvs.cons (.refl (qb qL.isSh.tree _)) (Cvs.cons (.fn rfl (cf 0)) .nil)) (qjY (by omega)) rfl ?_;simp only[go_sem];cases e3:m.Redexes.any λp=> !jr m.Cells p
 case true=>
  simp only[go_sem];obtain⟨c,hc,hn⟩:=List.any_eq_true.1 e3;exact qK rfl (by rw[bad (λv=>v.rdx c hc) (by simpa using hn)])
 have hrdx:∀p∈m.Redexes,jr m.Cells p=true:=λc hc=>by
  have:=List.any_eq_false.1 e3 c hc;simpa using this
 have hW:∀w∈qZ m,wOk m.Cells w:=λw hw=>V8.1 (hwrd w hw);have hAW:allW m.Cells:=λk c hc w hw=>hW w (.tail _ (List.mem_flatMap.2 ⟨c,lMo hc,hw⟩));simp only[g1,go_sem];refine qI (qj1 (by omega) (by omega) (by omega) hW hrdx) ?_;simp only[go_sem];cases e4:Wo m
 case false=>
  simp only[go_sem];exact qK rfl (by rw[bad (λv=>v.occ) (by simp[e4])])
 simp only[g1,go_sem];refine qI (qj2 (by omega)) ?_;simp only[go_sem];cases e5:wO m.Cells (jP m.Cells) m.Free
 case false=>
  simp only[go_sem];exact qK rfl (by rw[bad (λv=>v.chn) (by simp[e5])])
 simp only[g1,go_sem];refine Sem.loop (λi:Nat=>i<=m.Cells.length/\∀(k:Nat)(c:qD),k<i->m.Cells[k]?=some c->c.Kind=13->(res m.Cells (m.Cells.length+1) ⟨2,k⟩).2=true)
  (λi=>(⟨[(2,.ptr 0 0 0),(4,.bool false),(69,.lst 5 (m.Cells.map qD.enc) false),(70,iI (m.Cells.length:Nat)),(71,iI (i:Nat))],[],h2⟩:VSt)) (λi=>m.Cells.length-i)
  0 (by kernel_rfl) ⟨nZl _,λk c hk=>by omega⟩ csA ?_
 rintro i ⟨hi,hI⟩;simp only[go_sem];by_cases hlt:i<m.Cells.length
 ·have e:decide ((i:Int)<(m.Cells.length:Nat))=true:=decide_eq_true (by omega);have hc:=gEg hlt;generalize m.Cells[i]=c at hc;simp only[e,gMp,hc,oMs,go_sem];refine qU (k:=5) rfl (by simp[go_sem]) ⟨_,rfl⟩ (by decide) ?_;simp only[go_sem];refine qI XO ?_;simp only[go_sem];by_cases h13:c.Kind=13
  ·have hv:wOk m.Cells ⟨2,(i:Int)⟩:=⟨i,c,rfl,hc,.inr ⟨rfl,h13⟩⟩;have hr:=(qgS hAW (n:=m.Cells.length+1) hv).1;simp only[h13,g1,go_sem];refine qI (qjM (w:=⟨2,(i:Int)⟩) (by omega) hv hAW) ?_;simp only[go_sem];refine qU (k:=2) rfl rfl ⟨_,rfl⟩ (by decide) ?_;simp only[go_sem,hr];cases e6:(res m.Cells (m.Cells.length+1) ⟨2,(i:Int)⟩).2
   ·simp only[go_sem];exact qK rfl (by rw[bad (λv=>v.ends i c hc h13) (by simp[e6])])
   ·simp only[go_sem,wuA (n:=i)];refine qa (i+1) ⟨by omega,λk d hk hd h3=>?_⟩ (by omega) csA;by_cases e:k=i
    ·subst e;exact e6
    ·exact hI k d (by omega) hd h3
  ·simp only[h13,decide_false,go_sem,wuA (n:=i)];refine qa (i+1) ⟨by omega,λk d hk hd h3=>?_⟩ (by omega) csA;by_cases e:k=i
   ·subst e;rw[hc]at hd;cases hd;exact absurd h3 h13
   ·exact hI k d (by omega) hd h3
 have e:decide ((i:Int)<(m.Cells.length:Nat))=false:=decide_eq_false (by omega);simp only[e,go_sem];refine qK rfl ?_;have hocc:=VX.1 e4;rw[Xy.2 ⟨by simp only[inI,bAt,dTe];omega,by omega,λc hc=>?_,hwrd,hrdx,λk c hc=>?_,λk c hc=>hI k c (by have:=zH hc;omega) hc,e5⟩]
 ·obtain⟨k,hk⟩:=List.getElem?_of_mem hc;refine qkR (hcell c hc) λh0=>?_;obtain⟨L,hL⟩:=FrC.of e5;exact hL.val hk h0
 ·have h:=hocc k c hc;have hv:=hcell c (lMo hc);refine⟨λq=>?_,λq=>?_⟩
  ·have:=WY q;rw[h,zR,if_neg this.1,if_neg (by simp[this.2])]
  ·rw[h,zR,if_neg (by omega)];unfold JS at hv;rw[if_neg (by rw[q];decide),if_pos q]at hv;simp only[bAt,dTe]at hv;by_cases hw:c.Words=[]
   ·rw[if_pos ⟨q,hw⟩,hw];rfl
   ·rw[if_neg (by simp[hw])];have:c.Words.length≠0:=λe=>hw (lEz e);omega
theorem c867{m:qH}(hz:m.sz<=1048576):Pure Gm 867 [m.enc] (.bool (Ja m)):=by
 refine pJ kq ?_;simp only[kq,qN,go_sem];refine QD rfl ?_;simp only[go_sem];refine Jv (vs':=[.ept m.enc 0,.nils]) (Cvs.cons (.ptr rfl (by decide) rfl (.refl qH.tr)) (Cvs.cons (.refl rfl) .nil)) (qi9 hz) rfl ?_;simp only[go_sem];exact qK rfl rfl
def cE(c:qD)(dv wv:AV):AV:=.agg [iI c.Kind,iI c.Level,iI c.Value,dv,wv]
@[go_sem] theorem qrO{c:qD}{dv wv:AV}:(cE c dv wv).part 0 (some 5)=some (cE c dv wv):=rfl
@[go_sem] theorem qrQ{c:qD}{dv wv:AV}:(cE c dv wv).part 0 none=some (iI c.Kind):=rfl
@[go_sem] theorem qrR{c:qD}{dv wv:AV}:(cE c dv wv).part 1 none=some (iI c.Level):=rfl
@[go_sem] theorem qrS{c:qD}{dv wv:AV}:(cE c dv wv).part 2 none=some (iI c.Value):=rfl
@[go_sem] theorem qrT{c:qD}{dv wv:AV}:(cE c dv wv).part 3 none=some dv:=rfl
@[go_sem] theorem qrU{c:qD}{dv wv:AV}:(cE c dv wv).part 4 none=some wv:=rfl
@[go_sem] theorem qrP{c:qD}{dv wv:AV}:(cE c dv wv).cells.length=5:=rfl
def CV(P:Nat->Prop)(h:List qB)(v:AV)(c:qD):Prop:=∃dv wv,v=cE c dv wv/\LsW P 1 h dv (c.Data.map qP)/\LsW P 2 h wv (c.Words.map qF.enc)
def mE(m:qH)(cid:Nat)(rv:AV)(post:List AV):AV:=.agg (sQ 5 cid m.Cells.length::iI m.Free::iI m.Root.Tag::iI m.Root.At::rv::post)
theorem Wu{cs:List AV}{n:Nat}{x v:AV}(hv:v.cells=[v])(hn:cs[n]?=some x):(AV.agg cs).put n v=some (.agg (cs.set n v)):=by
 have hl:=qp hn;show (if n+v.cells.length<=cs.length then some (AV.agg (List.take n cs++(v.cells++List.drop (n+v.cells.length) cs)))else none)=_;rw[hv,if_pos (by simp;omega)];simp only[lCo,lNi,nZa];rw[List.set_eq_take_append_cons_drop,if_pos hl];rfl
section
variable {m:qH} {cid:Nat} {rv:AV} {post:List AV}
theorem qnO{f:Int}:(mE m cid rv post).put 1 (iI f)=some (mE {m with Free:=f} cid rv post):=Wu rfl rfl
theorem qnP{rx:List qL}{rv':AV}(hv:rv'.cells=[rv']):(mE m cid rv post).put 4 rv'=some (mE {m with Redexes:=rx} cid rv' post):=Wu hv rfl
@[go_sem] theorem quV:(mE m cid rv post).part 0 none=some (sQ 5 cid m.Cells.length):=rfl
@[go_sem] theorem quW:(mE m cid rv post).part 1 none=some (iI m.Free):=rfl
@[go_sem] theorem quX:(mE m cid rv post).part 4 none=some rv:=rfl
end
structure MO(w mid:Nat)(post:List AV)(ow:Nat->Nat)(h:List qB)(m:qH)(cid:Nat)(cs:List AV)(rv:AV):Prop where
 o:h[mid]?=some (.row w [mE m cid rv post] true)
 c:h[cid]?=some (.row 5 cs true)
 l:cs.length=m.Cells.length
 e:∀(k:Nat)(c:qD),m.Cells[k]?=some c->∃v,cs[k]?=some v/\CV (λj=>ow j=k+3) h v c
 r:LsW (λj=>ow j=2) 2 h rv (m.Redexes.map qL.enc)
 m1:ow mid=1
 c1:ow cid=1
 ne:mid≠cid
 b:∀j,ow j≠0->j<h.length
def MH(w mid:Nat)(post:List AV)(ow:Nat->Nat)(h:List qB)(m:qH):Prop:=∃cid cs rv,MO w mid post ow h m cid cs rv
structure Fo(ow:Nat->Nat)(h:List qB)(ow':Nat->Nat)(h':List qB):Prop where
 l:h.length<=h'.length
 k:∀j,j<h.length->ow j=0->ow' j=0/\h'[j]?=h[j]?
section
variable {w mid cid k:Nat} {post cs:List AV} {ow ow' ow1 ow2:Nat->Nat} {h h' h1 h2:List qB} {m:qH} {rv v v':AV} {c c':qD} {P Q:Nat->Prop}
theorem Fo.refl:Fo ow h ow h:=⟨nLr _,λ_ _ q=>⟨q,rfl⟩⟩
theorem Fo.trans(x:Fo ow h ow1 h1)(y:Fo ow1 h1 ow2 h2):Fo ow h ow2 h2:=⟨nLt x.l y.l,λj hj q=>by
 obtain⟨a,b⟩:=x.k j hj q;obtain⟨a',b'⟩:=y.k j (Nat.lt_of_lt_of_le hj x.l) a;exact⟨a',b'.trans b⟩⟩
theorem Fo.app(o:List qB):Fo ow h ow (h++o):=⟨by simp,λj hj q=>⟨q,gAl hj⟩⟩
theorem Fo.at{o:qB}(x:Fo ow h ow1 h1){j:Nat}(q:h[j]?=some o)(z:ow j=0):h1[j]?=some o/\ow1 j=0:=by
 obtain⟨a,b⟩:=x.k j (qp q) z;exact⟨b.trans q,a⟩
theorem LsW.mono{w:Nat}{el:List AV}(x:LsW P w h v el)(k:∀j,j<h.length->P j->Q j/\h1[j]?=h[j]?):LsW Q w h1 v el:=by
 rcases x with x | ⟨id,q1,q2,q3⟩
 ·exact .inl x
 ·obtain⟨a,b⟩:=k id (qp q3) q1;exact .inr ⟨id,a,q2,b.trans q3⟩
theorem CV.mono(x:CV P h v c)(k:∀j,j<h.length->P j->Q j/\h1[j]?=h[j]?):CV Q h1 v c:=by
 obtain⟨dv,wv,e,a,b⟩:=x;exact⟨dv,wv,e,a.mono k,b.mono k⟩
theorem CV.free{n:Int}:CV P h (.agg [iI 0,iI 0,iI n,.nils,.nils]) (zp n):=⟨.nils,.nils,rfl,.inl ⟨rfl,rfl⟩,.inl ⟨rfl,rfl⟩⟩
theorem CV.cells(x:CV P h v c):v.cells.length=5:=by
 obtain⟨dv,wv,rfl,_⟩:=x;rfl
theorem CV.agg(x:CV P h v c):∃cs,v=.agg cs:=by
 obtain⟨dv,wv,rfl,_⟩:=x;exact⟨_,rfl⟩
noncomputable def owC(ow:Nat->Nat)(k:Nat)(T:Nat->Prop)(j:Nat):Nat:= @ite _ (T j) (Classical.propDecidable _) (k+3) (if ow j=k+3 then 0 else ow j)
theorem qoT{T:Nat->Prop}{j:Nat}(h:T j):owC ow k T j=k+3:=if_pos h
theorem Je{T:Nat->Prop}{j:Nat}(h:¬T j):owC ow k T j=if ow j=k+3 then 0 else ow j:=if_neg h
theorem MO.cell(M:MO w mid post ow h m cid cs rv)(T:Nat->Prop)(hc:m.Cells[k]?=some c)(hcid:h'[cid]?=some (.row 5 (cs.set k v') true))(hlen:h.length<=h'.length)
  (ho:∀j,j<h.length->ow j≠0->j≠cid->ow j≠k+3->h'[j]?=h[j]?) (hT:∀j,T j->j<h'.length/\(h.length<=j\/ow j=0\/ow j=k+3)) (hv:CV T h' v' c'):
  MO w mid post (owC ow k T) h' {m with Cells:=m.Cells.set k c'} cid (cs.set k v') rv where
 o:=by
  rw[ho mid (qp M.o) (by rw[M.m1];decide) M.ne (by rw[M.m1];omega),M.o];simp[mE]
 c:=hcid
 l:=by simp[M.l]
 e:=λl d hd=>by
  have hk:k<m.Cells.length:=zH hc;by_cases e:l=k
  ·subst e;rw[gSs hk]at hd;cases hd;refine⟨v',gSs (by rw[M.l];exact hk), ?_⟩;exact hv.mono λj _ q=>⟨qoT q,rfl⟩
  ·rw[gSn (Ne.symm e)]at hd;obtain⟨u,u1,u2⟩:=M.e l d hd;refine⟨u,by rw[gSn (Ne.symm e)];exact u1,u2.mono λj hj q=>?_⟩;have nc:j≠cid:=λe=>by subst e;rw[M.c1]at q;omega
   refine⟨?_,ho j hj (by omega) nc (by omega)⟩;rw[Je λt=>by have:=(hT j t).2;omega,if_neg (by omega)];exact q
 r:=M.r.mono λj hj q=>by
  have nc:j≠cid:=λe=>by subst e;rw[M.c1]at q;omega
  refine⟨?_,ho j hj (by omega) nc (by omega)⟩;rw[Je λt=>by have:=(hT j t).2;omega,if_neg (by omega)];exact q
 m1:=by rw[Je λt=>by have:=(hT mid t).2;have:=M.m1;have:=qp M.o;omega,if_neg (by rw[M.m1];omega)];exact M.m1
 c1:=by rw[Je λt=>by have:=(hT cid t).2;have:=M.c1;have:=qp M.c;omega,if_neg (by rw[M.c1];omega)];exact M.c1
 ne:=M.ne
 b:=λj hj=>by
  by_cases t:T j
  ·exact(hT j t).1
  ·rw[Je t]at hj;refine Nat.lt_of_lt_of_le (M.b j λe=>hj ?_) hlen;rw[if_neg (by omega)];exact e
theorem qCC{T:Nat->Prop}(hh:∀j,j<h.length->ow j=0->¬T j->h'[j]?=h[j]?)(hl:h.length<=h'.length)(ht:∀j,T j->j<h.length->ow j=k+3):Fo ow h (owC ow k T) h':=⟨hl,λj hj q=>by
 have nt:¬T j:=λt=>by have:=ht j t hj;omega
 exact⟨by rw[Je nt,if_neg (by omega)];exact q,hh j hj q nt⟩⟩
theorem MO.top{m':qH}{rv':AV}{post':List AV}(M:MO w mid post ow h m cid cs rv)(hC:m'.Cells=m.Cells)(hm:h'[mid]?=some (.row w [mE m' cid rv' post'] true))(hlen:h.length<=h'.length)
  (ho:∀j,j<h.length->ow j≠0->j≠mid->ow j≠2->h'[j]?=h[j]?) (hw:∀j,ow j≠2->ow' j≠2->ow' j=ow j) (h12:∀j,ow j≠2->ow j≠0->ow' j≠2) (hb:∀j,ow' j=2->j<h'.length) (h2:∀j,ow j=2->ow' j=2\/ow' j=0)
  (hr:LsW (λj=>ow' j=2) 2 h' rv' (m'.Redexes.map qL.enc)):MO w mid post' ow' h' m' cid cs rv' where
 o:=hm
 c:=by rw[ho cid (qp M.c) (by rw[M.c1];decide) (Ne.symm M.ne) (by rw[M.c1];decide)];exact M.c
 l:=by rw[hC];exact M.l
 e:=λk d hd=>by
  rw[hC]at hd;obtain⟨u,u1,u2⟩:=M.e k d hd;refine⟨u,u1,u2.mono λj hj q=>?_⟩;have nm:j≠mid:=λe=>by subst e;rw[M.m1]at q;omega
  exact⟨by rw[hw j (by omega) (h12 j (by omega) (by omega))];exact q,ho j hj (by omega) nm (by omega)⟩
 r:=hr
 m1:=by rw[hw mid (by rw[M.m1];decide) (h12 mid (by rw[M.m1];decide) (by rw[M.m1];decide))];exact M.m1
 c1:=by rw[hw cid (by rw[M.c1];decide) (h12 cid (by rw[M.c1];decide) (by rw[M.c1];decide))];exact M.c1
 ne:=M.ne
 b:=λj hj=>by
  by_cases e:ow' j=2
  ·exact hb j e
  ·by_cases e2:ow j=2
   ·have:=h2 j e2;omega
   ·rw[hw j e2 e]at hj;exact Nat.lt_of_lt_of_le (M.b j hj) hlen
theorem MO.heap(M:MO w mid post ow h m cid cs rv)(hlen:h.length<=h'.length)(hh:∀j,j<h.length->ow j≠0->h'[j]?=h[j]?):MO w mid post ow h' m cid cs rv where
 o:=by rw[hh mid (qp M.o) (by rw[M.m1];decide)];exact M.o
 c:=by rw[hh cid (qp M.c) (by rw[M.c1];decide)];exact M.c
 l:=M.l
 e:=λk d hd=>by
  obtain⟨u,u1,u2⟩:=M.e k d hd;exact⟨u,u1,u2.mono λj hj q=>⟨q,hh j hj (by omega)⟩⟩
 r:=M.r.mono λj hj q=>⟨q,hh j hj (by omega)⟩
 m1:=M.m1
 c1:=M.c1
 ne:=M.ne
 b:=λj hj=>Nat.lt_of_lt_of_le (M.b j hj) hlen
theorem MO.app(M:MO w mid post ow h m cid cs rv)(o:List qB):MO w mid post ow (h++o) m cid cs rv:=M.heap (by simp) λj hj _=>gAl hj
theorem MH.heap(M:MH w mid post ow h m)(hlen:h.length<=h'.length)(hh:∀j,j<h.length->ow j≠0->h'[j]?=h[j]?):MH w mid post ow h' m:=by
 obtain⟨cid,cs,rv,M⟩:=M;exact⟨cid,cs,rv,M.heap hlen hh⟩
theorem MH.app(M:MH w mid post ow h m)(o:List qB):MH w mid post ow (h++o) m:=M.heap (by simp) λj hj _=>gAl hj
theorem MH.b(M:MH w mid post ow h m):ow h.length=0:=by
 obtain⟨cid,cs,rv,M⟩:=M;refine Classical.byContradiction λq=>?_;have:=M.b _ q;omega
end
section
variable {w mid cid k:Nat} {post cs:List AV} {ow ow' ow1 ow2:Nat->Nat} {h h' h1 h2:List qB} {m:qH} {rv v v':AV} {c c':qD} {P Q:Nat->Prop}
theorem sne{o:qB}{j id:Nat}(e:j≠id):(h.set id o)[j]?=h[j]?:=gSn (Ne.symm e)
theorem MO.setC(M:MO w mid post ow h m cid cs rv)(T:Nat->Prop)(hc:m.Cells[k]?=some c)(hT:∀j,T j->j<h.length/\(ow j=0\/ow j=k+3))(hv:CV T h v' c'):
  MO w mid post (owC ow k T) (h.set cid (.row 5 (cs.set k v') true)) {m with Cells:=m.Cells.set k c'} cid (cs.set k v') rv:=by
 refine M.cell T hc (gSs (qp M.c)) (by simp) (λj hj h0 hcj hk=>sne hcj) (λj t=>⟨by simpa using(hT j t).1,.inr (hT j t).2⟩) (hv.mono λj hj t=>⟨t,sne λe=>?_⟩);subst e;have:=(hT j t).2;rw[M.c1]at this;omega
theorem MO.setC_fo(M:MO w mid post ow h m cid cs rv){T:Nat->Prop}(hT:∀j,T j->ow j=k+3):Fo ow h (owC ow k T) (h.set cid (.row 5 (cs.set k v') true)):=
 qCC (λj hj h0 _=>sne λe=>by subst e;rw[M.c1]at h0;omega) (by simp) (λj t _=>hT j t)
theorem MO.setF(M:MO w mid post ow h m cid cs rv)(f:Int):MO w mid post ow (h.set mid (.row w [mE {m with Free:=f} cid rv post] true)) {m with Free:=f} cid cs rv:=by
 have hl:∀j,ow j≠0->j<h.length:=M.b;refine M.top (m':={m with Free:=f}) rfl (gSs (qp M.o)) (by simp) (λj hj h0 hm h2=>sne hm) (λj _ _=>rfl) (λj a b=>a) (λj e=>by rw[lLs];exact hl j (by omega)) (λj e=>.inl e) ?_;exact M.r.mono λj hj q=>⟨q,sne λe=>by subst e;rw[M.m1]at q;omega⟩
theorem MO.setF_fo(M:MO w mid post ow h m cid cs rv){o:qB}:Fo ow h ow (h.set mid o):=⟨by simp,λj hj q=>⟨q,sne λe=>by subst e;rw[M.m1]at q;omega⟩⟩
theorem MO.sto5{E:Ev}{l:List qA}{ks:List Fr1}{s l':qq}{Q:qf->VSt->Prop}(M:MO w mid post ow h m cid cs rv)(hc:m.Cells[k]?=some c)(h5:v.cells.length=5)(ha:∃cs,v=.agg cs)(hr:R E (.ops l::ks) ⟨s,l',h.set cid (.row 5 (cs.set k v) true)⟩ Q):Sto E 5 (some (.ptr cid k 0)) (some v) l ks ⟨s,l',h⟩ Q:=by
 obtain⟨v0,v1,v2⟩:=M.e k c hc;exact jF h5 M.c v1 (Zu v2.cells h5 ⟨λ_=>ha,λ_=>v2.agg⟩ (by decide)) hr
theorem MO.stoF{E:Ev}{l:List qA}{ks:List Fr1}{s l':qq}{Q:qf->VSt->Prop}(M:MO w mid post ow h m cid cs rv)(f:Int)(hr:R E (.ops l::ks) ⟨s,l',h.set mid (.row w [mE {m with Free:=f} cid rv post] true)⟩ Q):Sto E 1 (some (.ptr mid 0 1)) (some (iI f)) l ks ⟨s,l',h⟩ Q:=jF rfl M.o rfl qnO hr
theorem Vp(M:MH w mid post ow h m)(hc:m.Cells[k]?=some c):SCall Gm 1278 [.ptr mid 0 0,iI (k:Nat)] h (λ_ h'=>∃ow',MH w mid post ow' h' (qQ m k)/\Fo ow h ow' h'/\h'.length=h.length/\∀j,j<h.length->ow j=k+3->ow' j=0/\h'[j]?=h[j]?):=by
 obtain⟨cid,cs,rv,M⟩:=M;have hk:=zH hc;refine sI Ua ?_;simp only[Ua,qN,go_sem,M.o,qY hk,nZa];refine M.sto5 hc rfl ⟨_,rfl⟩ ?_;have M1:=M.setC (k:=k) (c':=zp m.Free) (λ_=>False) hc (λ_ t=>t.elim) CV.free;have f1:=M.setC_fo (k:=k) (T:=λ_=>False) (v':=.agg [iI 0,iI 0,iI m.Free,.nils,.nils]) (λ_ t=>t.elim);simp only[go_sem];refine M1.stoF _ ?_;have M2:=M1.setF (k:Int);simp only[go_sem];refine⟨_,⟨cid,_,rv,by rw[qQ,iTn];exact M2⟩,f1.trans M1.setF_fo,by simp,λj hj q=>⟨by rw[Je (λt=>t),if_pos q], ?_⟩⟩;rw[sne λe=>by subst e;rw[M.m1]at q;omega,sne λe=>by subst e;rw[M.c1]at q;omega]
structure FoT(T:Nat->Prop)(ow:Nat->Nat)(h:List qB)(ow':Nat->Nat)(h':List qB):Prop where
 l:h.length<=h'.length
 k:∀j,j<h.length->ow j=0->¬T j->ow' j=0/\h'[j]?=h[j]?
theorem FoT.fo{T:Nat->Prop}(x:FoT T ow h ow' h')(n:∀j,j<h.length->ow j=0->¬T j):Fo ow h ow' h':=⟨x.l,λj hj q=>x.k j hj q (n j hj q)⟩
theorem Wz(M:MH w mid post ow h m)(hf:m.Free=(k:Nat))(hc:m.Cells[k]?=some c){T:Nat->Prop}(hT:∀j,T j->j<h.length/\ow j=0)(hv:CV T h v c'):SCall Gm 1282 [.ptr mid 0 0,v] h (λr h'=>r=iI (k:Nat)/\∃ow',MH w mid post ow' h' (qR m c')/\FoT T ow h ow' h'/\h'.length=h.length):=by
 obtain⟨cid,cs,rv,M⟩:=M;have hk:=zH hc;obtain⟨dv',wv',rfl,u2,u3⟩:=id hv;refine sI Ue ?_;simp only[Ue,qN,go_sem];refine qW rfl ?_;obtain⟨v0,v1,dv,wv,rfl,v2,v3⟩:=M.e k c hc;simp only[go_sem,M.o,hf,qY hk,nZa,M.c,v1];refine M.stoF _ ?_;have M1:=M.setF c.Value;have hv1:CV T (h.set mid (.row w [mE {m with Free:=c.Value} cid rv post] true)) (cE c' dv' wv') c':=hv.mono λj hj t=>⟨t,sne λe=>by subst e;have:=(hT j t).2;rw[M.m1]at this;cases this⟩;have hl1:∀o,(h.set mid o).length=h.length:=λo=>by simp
 have M2:=M1.setC (k:=k) (c':=c') (v':=cE c' dv' wv') T hc (λj t=>⟨by rw[hl1];exact(hT j t).1,.inl (hT j t).2⟩) hv1;simp only[go_sem,M1.o,qY hk,nZa];refine M1.sto5 hc rfl ⟨_,rfl⟩ ?_;simp only[go_sem];have et:qR m c'={m with Free:=c.Value,Cells:=m.Cells.set k c'}:=by rw[qR,hf,iTn,Jh hc]
 refine⟨trivial,_,⟨cid,_,rv,by rw[et];exact M2⟩,⟨by simp,λj hj q n=>⟨by rw[Je n,if_neg (by omega)];exact q, ?_⟩⟩,by simp⟩;rw[sne (λe=>by subst e;rw[M.c1]at q;omega),sne (λe=>by subst e;rw[M.m1]at q;omega)]
theorem qCW(M:MH w mid post ow h m)(hf:m.Free=(k:Nat))(hc:m.Cells[k]?=some c):SCall Gm 1418 [.ptr mid 0 0] h (λr h'=>r=(vwI (k:Nat)).enc/\∃ow',MH w mid post ow' h' (qR m (qd []))/\Fo ow h ow' h'/\h'.length=h.length):=by
 refine sI KT ?_;simp only[KT,qN,go_sem];refine qk (SCall.mono (Wz M hf hc (c':=qd []) (v:=cE (qd []) .nils .nils) (T:=λ_=>False) (λ_ t=>t.elim) ⟨.nils,.nils,rfl,.inl ⟨rfl,rfl⟩,.inl ⟨rfl,rfl⟩⟩) ?_);rintro r h' ⟨rfl,ow',M',f,l⟩;simp only[go_sem];refine qU (k:=2) rfl rfl ⟨_,rfl⟩ (by decide) ?_;simp only[go_sem];exact⟨rfl,ow',M',f.fo λ_ _ _ t=>t,l⟩
def owR(ow:Nat->Nat)(id:Nat)(j:Nat):Nat:=if j=id then 2 else if ow j=2 then 0 else ow j
theorem MO.redx{rx:List qL}{id:Nat}{rv':AV}(M:MO w mid post ow h m cid cs rv)(u:Up (λj=>ow j=2) h h1)(hi:h.length<=id)(hr:h1[id]?=some (.row 2 (rx.map qL.enc) true))(hv:rv'=sQ 2 id rx.length):
  MO w mid post (owR ow id) (h1.set mid (.row w [mE {m with Redexes:=rx} cid rv' post] true)) {m with Redexes:=rx} cid cs rv'/\Fo ow h (owR ow id) (h1.set mid (.row w [mE {m with Redexes:=rx} cid rv' post] true)):=by
 have hm:=qp M.o;have hid:id≠mid:=by omega
 have ho:∀j,j<h.length->j≠mid->ow j≠2->(h1.set mid (.row w [mE {m with Redexes:=rx} cid rv' post] true))[j]?=h[j]?:=λj hj a b=>by
  rw[sne a];have:=gEg hj;rw[this];exact u.at this b
 have n2:∀j,j≠id->owR ow id j=if ow j=2 then 0 else ow j:=λj e=>by rw[owR,if_neg e]
 have lb:∀j,ow j≠0->j≠id:=λj e=>by have:=M.b j e;omega
 refine⟨M.top (m':={m with Redexes:=rx}) rfl (gSs (Nat.lt_of_lt_of_le hm u.1)) (by rw[lLs];exact u.1) (λj hj a b c=>ho j hj b c) (λj a b=>?_) (λj a b=>?_) (λj e=>?_) (λj e=>?_) (.inr ⟨id,if_pos rfl,by rw[lMp];exact hv,by rw[sne hid];exact hr⟩),by rw[lLs];exact u.1,λj hj q=>⟨?_,ho j hj (λe=>?_) (by omega)⟩⟩
 ·have:j≠id:=λe=>b (by rw[owR,if_pos e]);rw[n2 j this,if_neg a]
 ·rw[n2 j (lb j b),if_neg a];exact a
 ·rw[lLs];by_cases q:j=id
  ·rw[q];exact qp hr
  ·rw[n2 j q]at e;split at e
   ·cases e
   ·omega
 ·rw[n2 j (lb j (by omega)),if_pos e];exact .inr rfl
 ·rw[n2 j (by omega),if_neg (by omega)];exact q
 ·subst e;rw[M.m1]at q;cases q
theorem Vu{E:Ev}{l:List qA}{ks:List Fr1}{s l':qq}{Q:qf->VSt->Prop}{rv':AV}(hm:h[mid]?=some (.row w [mE m cid rv post] true))(rx:List qL)(hv:rv'.cells=[rv'])(hr:R E (.ops l::ks) ⟨s,l',h.set mid (.row w [mE {m with Redexes:=rx} cid rv' post] true)⟩ Q):Sto E 1 (some (.ptr mid 0 4)) (some rv') l ks ⟨s,l',h⟩ Q:=jF (by rw[hv];rfl) hm rfl (qnP hv) hr
theorem Vq{a b:Int}(M:MH w mid post ow h m)(hl:m.Redexes.length<=1000000):SCall Gm 1280 [.ptr mid 0 0,iI a,iI b] h (λ_ h'=>∃ow',MH w mid post ow' h' (Jo m a b)/\Fo ow h ow' h'):=by
 obtain⟨cid,cs,rv,M⟩:=M;refine sI Uc ?_;simp only[Uc,qN,go_sem,M.o];refine qI c978 ?_;simp only[go_sem];refine qI Yi ?_;simp only[go_sem];have M1:=M.app [qB.row 2 [AV.agg [iI (if a<b then a else b),iI (if b<a then a else b)]] true];refine JH M1.r ends (by rw[lMp];omega) λh3 u3 v3 l3=>?_;have hm:=u3.at M1.o (λq=>by have:=q.1;rw[M.m1]at this;omega);simp only[go_sem];have e1:(m.Redexes.map qL.enc)++[AV.agg [iI (if a<b then a else b),iI (if b<a then a else b)]]=((m.Redexes++[(⟨min a b,max a b⟩:qL)]).map qL.enc):=by
  rw[lMa];congr 1;have e1:(if a<b then a else b)=min a b:=by split<;>omega
  have e2:(if b<a then a else b)=max a b:=by split<;>omega
  rw[e1,e2];rfl
 rw[e1]at v3;refine Vu hm (m.Redexes++[(⟨min a b,max a b⟩:qL)]) rfl ?_;simp only[go_sem];obtain⟨M2,f2⟩:=M1.redx (u3.w λj _ q=>q.1) (nLr _) v3 (rv':=.slice 2 (h++[qB.row 2 [AV.agg [iI (if a<b then a else b),iI (if b<a then a else b)]] true]).length 0 (m.Redexes.length+1) false) (by simp);have f3:=(Fo.app (ow:=ow) (h:=h) _).trans f2;exact⟨_,⟨cid,cs,_,M2⟩,f3⟩
end
section
variable {w mid cid k:Nat} {post cs:List AV} {ow ow' ow1 ow2:Nat->Nat} {h h' h1 h2:List qB} {m:qH} {rv v v':AV} {c c':qD} {P:List qF} {O:Nat->Bool} {x y:qF}
theorem qdJ(h:MM m (x::P) O):(x.Tag=1/\∀n,flw n m x=(m,x))\/∃k:Nat,x=vW k/\((m.Cells[k]?=some (qd [])/\∀n,flw n m x=(m,x))\/∃y,m.Cells[k]?=some (qd [y])/\(∀n,flw (n+1) m x=flw n (qQ m (k:Int)) y)/\MM (qQ m (k:Int)) (y::P) O/\nV (qQ m (k:Int)).Cells+1=nV m.Cells):=by
 obtain⟨k,c,e1,e2,e3⟩:=h.pw x (.head _);by_cases ht:x.Tag=2
 ·have hk:c.Kind=13:=by
   rcases e3 with⟨q,_⟩ | ⟨_,q⟩
   ·omega
   ·exact q
  obtain⟨ho,ws,hv,hl⟩:=h.var e2 hk;have hpos:=qe6 e2 hk;have hca:zZ m x.At=c:=by rw[e1];exact Jh e2
  have hwv:x=vW k:=by
   obtain⟨t,a⟩:=x;simp only at ht e1;subst ht e1;rfl
  refine .inr ⟨k,hwv, ?_⟩;cases ws with
  | nil=>
   refine .inl ⟨by rw[e2,hv],λn=>?_⟩;cases n with
   | zero=>rfl
   | succ n=>rw[flw,if_pos ht,hca,hv];rfl
  | cons y r=>
   have hr:r=[]:=by cases r with | nil=>rfl | cons a r=>simp at hl
   subst hr;have h1:=MI.rel (Q:=[x]) h e2 ho (by omega) (λz hz=>by simp only[lMg]at hz;rw[hz];exact e1) (by rw[hv];simp[zR,qd]);have hrel:qQ m (k:Int)={m with Cells:=m.Cells.set k (zp m.Free),Free:=(k:Int)}:=by
    unfold qQ;rw[iTn]
   have hnv:=qe7 (c':=zp m.Free) e2;rw[if_pos hk,if_neg (by simp[zp])]at hnv;refine .inr ⟨y,by rw[e2,hv],λn=>?_,by rw[hrel];rw[hv]at h1;exact h1,by rw[hrel];simpa using hnv⟩;rw[flw,if_pos ht,hca,hv,e1];rfl
 ·refine .inl ⟨?_,λn=>?_⟩
  ·rcases e3 with⟨q,_⟩ | ⟨q,_⟩
   ·exact q
   ·exact absurd q ht
  ·cases n with
   | zero=>rfl
   | succ n=>rw[flw,if_neg ht]
theorem MO.words(M:MO w mid post ow h m cid cs rv)(hc:m.Cells[k]?=some c):∃dv wv,cs[k]?=some (cE c dv wv)/\LsW (λj=>ow j=k+3) 1 h dv (c.Data.map qP)/\LsW (λj=>ow j=k+3) 2 h wv (c.Words.map qF.enc):=by
 obtain⟨v,v1,dv,wv,rfl,v2,v3⟩:=M.e k c hc;exact⟨dv,wv,v1,v2,v3⟩
theorem LsW.one{w:Nat}{Q:Nat->Prop}{a:AV}(x:LsW Q w h v [a]):∃id,Q id/\v=sQ w id 1/\h[id]?=some (.row w [a] true):=by
 rcases x with⟨_,q⟩ | x
 ·cases q
 ·exact x
theorem QF{w id:Nat}{cl:Bool}{k:IntKind}:idx w (some (.slice w id 0 1 cl)) (some (.int k 0))=some (.ptr id 0 0):=Xl (by omega) (by omega)
theorem qg4(M:MH w mid post ow h m)(hP:MM m (x::P) O):SCall Gm 1284 [.ptr mid 0 0,x.enc] h (λr h'=>r=(flw (nV m.Cells) m x).2.enc/\∃ow',MH w mid post ow' h' (flw (nV m.Cells) m x).1/\Fo ow h ow' h'):=by
 refine sI Ug ?_;simp only[Ug,qN,go_sem];refine qW rfl ?_;simp only[go_sem];generalize hR:flw (nV m.Cells) m x=R;refine Sem.loop (λa:qH×qF×(Nat->Nat)×List qB=>MH w mid post a.2.2.1 a.2.2.2 a.1/\MM a.1 (a.2.1::P) O/\flw (nV a.1.Cells) a.1 a.2.1=R/\Fo ow h a.2.2.1 a.2.2.2) (λa=>(⟨[(0,.ptr mid 0 0)],[(3,a.2.1.enc),(4,.agg [iI 0,iI 0])],a.2.2.2⟩:VSt)) (λa=>nV a.1.Cells) (m,x,ow,h) (by kernel_rfl) ⟨M,hP,hR,Fo.refl⟩ csA ?_;rintro⟨m1,x1,ow1,h1⟩ ⟨M1,P1,R1,f1⟩;simp only at M1 P1 R1 f1;simp only[go_sem];have done:R1=R1->flw (nV m1.Cells) m1 x1=(m1,x1)->x1.enc=R.2.enc/\∃ow',MH w mid post ow' h1 R.1/\Fo ow h ow' h1:=λ_ q=>by
  rw[R1]at q;subst q;exact⟨rfl,ow1,M1,f1⟩
 rcases qdJ P1 with⟨ht,hf⟩ | ⟨k,rfl,⟨hc,hf⟩ | ⟨y,hc,hf,hP1,hn⟩⟩
 ·have e:decide (x1.Tag=2)=false:=decide_eq_false (by omega);simp only[e,go_sem];refine qU (k:=2) rfl rfl ⟨_,rfl⟩ (by decide) ?_;simp only[go_sem];exact done rfl (hf _)
 ·obtain⟨cid,cs,rv,M1⟩:=M1;have hk:=zH hc;obtain⟨dv,wv,v1,v2,v3⟩:=M1.words hc;have hlen:=v3.len;have e:decide ((vW k).Tag=2)=true:=rfl;simp only[e,go_sem,M1.o,show (vW k).At=(k:Int)from rfl,qY hk,nZa,M1.c,v1,hlen];have e2:decide ((0:Int)<((qd []).Words.length:Nat))=false:=rfl;simp only[e2,go_sem];refine qU (k:=2) rfl rfl ⟨_,rfl⟩ (by decide) ?_;simp only[go_sem];exact done rfl (hf _)
 ·have M1':=M1;obtain⟨cid,cs,rv,M1⟩:=M1;have hk:=zH hc;obtain⟨dv,wv,v1,v2,v3⟩:=M1.words hc;have hlen:=v3.len;obtain⟨id,i1,rfl,i3⟩:=v3.one;have e:decide ((vW k).Tag=2)=true:=rfl;have e2:decide ((0:Int)<((1:Nat):Int))=true:=rfl;simp only[e,go_sem,M1.o,show (vW k).At=(k:Int)from rfl,qY hk,nZa,M1.c,v1,Int.natCast_one,show decide ((0:Int)<1)=true from rfl,QF,i3];refine qU (k:=2) rfl rfl ⟨_,rfl⟩ (by decide) ?_;simp only[go_sem];refine qk (SCall.mono (Vp M1' hc) ?_);rintro r h2 ⟨ow2,M2,f2,l2,-⟩;simp only[go_sem];refine qa (qQ m1 (k:Int),y,ow2,h2) ⟨M2,hP1, ?_,f1.trans f2⟩ (by simp only;omega) csA;rw[<-hn,hf]at R1;exact R1
end
section
variable {w mid cid k:Nat} {post cs:List AV} {ow ow' ow1 ow2:Nat->Nat} {h h' h1 h2:List qB} {m:qH} {rv v v' dv wv:AV} {c c':qD} {P:List qF} {O:Nat->Bool} {x y a b:qF} {ws:List qF}
theorem qAO{wv':AV}(hv:wv'.cells=[wv']):(cE c dv wv).put 4 wv'=some (cE c dv wv'):=Wu hv rfl
theorem MO.stoW{E:Ev}{l:List qA}{ks:List Fr1}{s l':qq}{Q:qf->VSt->Prop}{wv':AV}(M:MO w mid post ow h m cid cs rv)(hk:cs[k]?=some (cE c dv wv))(hv:wv'.cells=[wv'])(hr:R E (.ops l::ks) ⟨s,l',h.set cid (.row 5 (cs.set k (cE c dv wv')) true)⟩ Q):Sto E 1 (some (.ptr cid k 4)) (some wv') l ks ⟨s,l',h⟩ Q:=jF (by rw[hv];rfl) M.c hk (qAO hv) hr
theorem MO.setWv{id:Nat}{wv':AV}(M:MO w mid post ow h m cid cs rv)(hc:m.Cells[k]?=some c)(hk:cs[k]?=some (cE c dv wv))(hd:LsW (λj=>ow j=k+3) 1 h dv (c.Data.map qP))(hid:ow id=0)(hrow:h[id]?=some (.row 2 (ws.map qF.enc) true))(hv:wv'=sQ 2 id ws.length):
  MO w mid post (owC ow k (λj=>ow j=k+3\/j=id)) (h.set cid (.row 5 (cs.set k (cE c dv wv')) true)) {m with Cells:=m.Cells.set k {c with Words:=ws}} cid (cs.set k (cE c dv wv')) rv/\FoT (λj=>j=id) ow h (owC ow k (λj=>ow j=k+3\/j=id)) (h.set cid (.row 5 (cs.set k (cE c dv wv')) true)):=by
 have hl:=qp hrow;refine⟨M.setC (c':={c with Words:=ws}) (λj=>ow j=k+3\/j=id) hc (λj t=>?_) ⟨dv,wv',rfl,hd.mono λj _ q=>⟨.inl q,rfl⟩,.inr ⟨id,.inr rfl,by rw[lMp];exact hv,hrow⟩⟩,by simp,λj hj q n=>⟨?_,sne λe=>?_⟩⟩
 ·rcases t with t | t
  ·exact⟨M.b j (by omega),.inr t⟩
  ·rw[t];exact⟨hl,.inl hid⟩
 ·rw[Je (λt=>t.elim (λt=>by omega) n),if_neg (by omega)];exact q
 ·subst e;rw[M.c1]at q;cases q
theorem FoT.new{T:Nat->Prop}{o:List qB}(f:FoT T ow (h++o) ow' h')(n:∀j,T j->h.length<=j):Fo ow h ow' h':=⟨by have:=f.l;simp at this;omega,λj hj q=>by
 obtain⟨a,b⟩:=f.k j (by simp;omega) q λt=>by have:=n j t;omega
 exact⟨a,b.trans (gAl hj)⟩⟩
theorem V7{k:Nat}:(vW k).At=(k:Int):=rfl
theorem s973(M:MH w mid post ow h m)(hP:MM m (a::b::P) O)(hl:m.Redexes.length<=1000000):SCall Gm 973 [.ptr mid 0 0,a.enc,b.enc] h (λ_ h'=>∃ow',MH w mid post ow' h' (wQ m a b)/\Fo ow h ow' h'):=by
 refine sI F973 ?_;simp only[F973,qN,go_sem];refine qW rfl ?_;simp only[go_sem];refine qW rfl ?_;simp only[go_sem];refine qk (SCall.mono (qg4 M hP) ?_);obtain⟨g1,g2⟩:=Zg (nV m.Cells) hP (nLr _);have hL:wQ m a b=wQ m a b:=rfl
 conv at hL=>rhs;unfold wQ
 simp only at hL;generalize wQ m a b=L at hL|-;generalize flw (nV m.Cells) m a=r at g1 g2 hL|-;obtain⟨m1,a1⟩:=r;have g3:MM m1 (b::a1::P) O:=MI.perm g1 (List.Perm.swap _ _ _);obtain⟨k1,k2⟩:=Zg (nV m1.Cells) g3 (nLr _);simp only at g1 g2 k1 k2 hL|-;rintro r h1 ⟨rfl,ow1,M1,f1⟩;simp only[go_sem];refine qU (k:=2) rfl rfl ⟨_,rfl⟩ (by decide) ?_;simp only[go_sem];refine qk (SCall.mono (qg4 M1 g3) ?_);generalize flw (nV m1.Cells) m1 b=s at k1 k2 hL|-;obtain⟨m2,b1⟩:=s;simp only at k1 k2 hL|-;rintro r h2 ⟨rfl,ow2,M2,f2⟩;simp only[go_sem];refine qU (k:=2) rfl rfl ⟨_,rfl⟩ (by decide) ?_;simp only[go_sem];have k3:MM m2 (a1::b1::P) O:=MI.perm k1 (List.Perm.swap _ _ _);have hrx:m2.Redexes=m.Redexes:=by rw[k2.rx,g2.rx]
 have ha:a1.Tag=1\/∃k:Nat,a1=vW k/\m2.Cells[k]?=some (qd []):=by
  rcases g2.stop with q | ⟨k,q1,q2⟩
  ·exact .inl q
  ·exact .inr ⟨k,q1,k2.keep k _ q2 (.inr rfl)⟩
 have hb:=k2.stop;by_cases q1:a1.Tag=1
 ·have e1:decide (a1.Tag=1)=true:=decide_eq_true q1;simp only[e1,go_sem];by_cases q2:b1.Tag=1
  ·have e2:decide (b1.Tag=1)=true:=decide_eq_true q2;simp only[e2,go_sem];refine qk (SCall.mono (Vq M2 (by rw[hrx];exact hl)) ?_);rintro r h3 ⟨ow3,M3,f3⟩;simp only[go_sem];rw[if_pos ⟨q1,q2⟩]at hL;exact⟨ow3,by rw[hL];exact M3,(f1.trans f2).trans f3⟩
  ·have e2:decide (b1.Tag=1)=false:=decide_eq_false q2;simp only[e2,go_sem];rw[if_neg (λq=>q2 q.2)]at hL;have n3:¬a1=b1:=λq=>q2 (by rw[<-q];exact q1);have e3:decide (a1=b1)=false:=decide_eq_false n3;have e4:decide (a1.Tag=2)=false:=decide_eq_false (by omega);simp only[e3,e4,go_sem];rw[if_neg n3,if_neg (by omega)]at hL;obtain⟨k,rfl,hck⟩:∃k:Nat,b1=vW k/\m2.Cells[k]?=some (qd []):=by
    rcases hb with q | q
    ·exact absurd q q2
    ·exact q
   rw[V7,wB hck]at hL;obtain⟨cid,cs,rv,M2'⟩:=M2;obtain⟨dv,wv,v1,v2,v3⟩:=M2'.words hck;have hk:=zH hck;simp only[M2'.o,show (vW k).At=(k:Int)from rfl,qY hk,nZa,go_sem];have M3:=M2'.app [qB.row 2 [a1.enc] true];refine M3.stoW v1 rfl ?_;simp only[go_sem];obtain⟨M4,f4⟩:=M3.setWv (ws:=[a1]) hck v1 (v2.app _) (id:=h2.length) (by have:=MH.b ⟨_,_,_,M2'⟩;exact this) ends rfl;refine⟨_,⟨cid,_,rv,by rw[hL];exact M4⟩,(f1.trans f2).trans (f4.new λj e=>by omega)⟩
 ·have e1:decide (a1.Tag=1)=false:=decide_eq_false q1;simp only[e1,go_sem];rw[if_neg (λq=>q1 q.1)]at hL;obtain⟨k,rfl,hck⟩:∃k:Nat,a1=vW k/\m2.Cells[k]?=some (qd []):=by
   rcases ha with q | q
   ·exact absurd q q1
   ·exact q
  by_cases n3:vW k=b1
  ·have e3:decide (vW k=b1)=true:=decide_eq_true n3;simp only[e3,go_sem];rw[if_pos n3]at hL;refine qk (SCall.mono (Vp M2 hck) ?_);rintro r h3 ⟨ow3,M3,f3,-⟩;simp only[go_sem];exact⟨ow3,by rw[hL];exact M3,(f1.trans f2).trans f3⟩
  ·have e3:decide (vW k=b1)=false:=decide_eq_false n3;have e4:decide ((vW k).Tag=2)=true:=rfl;simp only[e3,e4,go_sem];rw[if_neg n3,if_pos (show (vW k).Tag=2 from rfl),V7,wB hck]at hL;obtain⟨cid,cs,rv,M2'⟩:=M2;obtain⟨dv,wv,v1,v2,v3⟩:=M2'.words hck;have hk:=zH hck;simp only[M2'.o,show (vW k).At=(k:Int)from rfl,qY hk,nZa,go_sem];have M3:=M2'.app [qB.row 2 [b1.enc] true];refine M3.stoW v1 rfl ?_;simp only[go_sem];obtain⟨M4,f4⟩:=M3.setWv (ws:=[b1]) hck v1 (v2.app _) (id:=h2.length) (by have:=MH.b ⟨_,_,_,M2'⟩;exact this) ends rfl;refine⟨_,⟨cid,_,rv,by rw[hL];exact M4⟩,(f1.trans f2).trans (f4.new λj e=>by omega)⟩
end
theorem c948{p q:qM}:Pure Gm 948 [p.enc,q.enc] (.bool (bef p q)):=by
 refine pJ F948 ?_;simp only[F948,qN,go_sem]
 repeat' (first | (refine qW rfl ?_;simp only[go_sem]) | (apply zA<;>intro h1<;>simp only[h1,go_sem]) | (apply qS<;>intro h1<;>simp only[h1,go_sem]) | refine qK rfl ?_)
 all_goals (simp_all[bef])
theorem c556{p q:qM}:Pure Gm 556 [p.enc,q.enc] (.bool (bef p q)):=by
 refine pJ kD ?_;simp only[kD,qN,go_sem]
 repeat' (first | (refine qW rfl ?_;simp only[go_sem]) | (apply zA<;>intro h1<;>simp only[h1,go_sem]) | (apply qS<;>intro h1<;>simp only[h1,go_sem]) | refine qK rfl ?_)
 all_goals (simp_all[bef])
def Ls0(P:Nat->Prop)(w:Nat)(h:List qB)(v:AV)(el:List AV):Prop:=(v=.lst w [] true/\el=[])\/LsW P w h v el
section
variable {P:Nat->Prop} {w:Nat} {h h1:List qB} {v:AV} {el:List AV}
theorem Ls0.len(x:Ls0 P w h v el):Qf (some v)=some (iI (el.length:Nat)):=by
 rcases x with⟨rfl,rfl⟩ | x
 ·rfl
 ·exact x.len
theorem Ls0.app(x:Ls0 P w h v el)(o:List qB):Ls0 P w (h++o) v el:=x.elim .inl λy=>.inr (y.app o)
theorem qAF{E:Ev}{l:List qA}{ks:List Fr1}{s m:qq}{Q:qf->VSt->Prop}{k id2:Nat}{c2:Bool}{x:AV}(ho:Ls0 P w h v el)(h2:h[id2]?=some (.row w [x] true))(hl:el.length<4000000000)
  (hr:∀h3,Up (λj=>P j/\v=sQ w j el.length) h h3->h3[h.length]?=some (.row w (el++[x]) true)->h3.length=h.length+1->R E (.ops l::ks) ⟨(k,sQ w h.length (el.length+1))::s,m,h3⟩ Q):JP E w (some k) (some v) (some (.slice w id2 0 1 c2)) l ks ⟨s,m,h⟩ Q:=by
 rcases ho with⟨rfl,rfl⟩ | ho
 ·exact Qu (ys:=[x]) (Els.row h2 rfl) (by simp) (hr _ (Up.app _) (by simp) (by simp))
 ·exact JH ho h2 hl hr
end
theorem c569{n:qE}(hz:n.sz<=1048576)(ok:zF n=true):Pure Gm 569 [.ept n.enc 0] (.lst 4 ((zC n.Agents).map zU.enc) false):=by
 refine pI kF (by simp[AV.trees,AV.tree,go_sem]) (qb zU.isSh.tree _) ?_;simp only[kF,qN,go_sem];unfold qE.sz at hz;refine Sem.loop (λa:Nat×AV×List qB=>a.1<=n.Agents.length/\Ls0 (λ_=>True) 4 a.2.2 a.2.1 ((wrs n.Agents (qv n.Agents a.1)).map zU.enc))
  (λa=>(⟨[(0,.ept n.enc 0),(2,.nils),(3,a.2.1),(4,iI (a.1:Nat))],[],a.2.2⟩:VSt)) (λa=>n.Agents.length-a.1)
  (0,.lst 4 [] true,[]) (by kernel_rfl) ⟨nZl _,.inl ⟨rfl,rfl⟩⟩ csA ?_
 rintro⟨i,v,h⟩ ⟨hi,I⟩;simp only at hi I;simp only[go_sem];by_cases hlt:i<n.Agents.length
 ·have e:decide ((i:Int)<(n.Agents.length:Nat))=true:=decide_eq_true (by omega);have hc:=gEg hlt;simp only[e,go_sem];have e0:qv n.Agents i++ze i 0=qv n.Agents i:=by simp[ze]
  have hpl:n.Agents[i].Ports.length<=qx qC.sz n.Agents:=by
   have h1:qC.sz n.Agents[i]<=qx qC.sz n.Agents:=jg (f:=qC.sz) (gMm hlt);have h2:n.Agents[i].Ports.length<=qC.sz n.Agents[i]:=by unfold qC.sz;omega
   omega
  have htl:=Zs n.Agents i (by omega);have htt:=qC6 qC.sz n.Agents i;generalize hx:n.Agents[i]=x at hc hpl;refine Sem.loop (λa:Nat×AV×List qB=>a.1<=x.Ports.length/\Ls0 (λ_=>True) 4 a.2.2 a.2.1 ((wrs n.Agents (qv n.Agents i++ze i a.1)).map zU.enc))
   (λa=>(⟨[(0,.ept n.enc 0),(2,.nils),(3,a.2.1),(4,iI (i:Nat)),(5,iI (a.1:Nat))],[],a.2.2⟩:VSt)) (λa=>x.Ports.length-a.1)
   (0,v,h) (by kernel_rfl) ⟨nZl _,by rw[e0];exact I⟩ csA ?_
  rintro⟨k,v1,h1⟩ ⟨hk,J⟩;simp only at hk J;simp only[gMp,hc,oMs,go_sem];by_cases hkl:k<x.Ports.length
  ·have e:decide ((k:Int)<(x.Ports.length:Nat))=true:=decide_eq_true (by omega);have hq:=gEg hkl;generalize x.Ports[k]=q at hq;have hpe:qO n.Agents ⟨(i:Int),(k:Int)⟩=q:=Ws (a:=i) (s:=k) (Qv.2 ⟨x,hc,hq⟩);simp only[e,gMp,hc,hq,oMs,go_sem];refine qU (k:=2) rfl rfl ⟨_,rfl⟩ (by decide) ?_;simp only[gMp,hc,hq,oMs,go_sem];refine qI (c948 (p:=⟨(i:Int),(k:Int)⟩) (q:=q)) ?_;have es:qv n.Agents i++ze i (k+1)=(qv n.Agents i++ze i k)++[⟨(i:Int),(k:Int)⟩]:=by rw[YF,lAa]
   have ew:wrs n.Agents (qv n.Agents i++ze i (k+1))=wrs n.Agents (qv n.Agents i++ze i k)++if bef ⟨(i:Int),(k:Int)⟩ q=true then [⟨⟨(i:Int),(k:Int)⟩,q⟩]else []:=by
    rw[es,qiF,qiG,hpe]
   cases hb:bef ⟨(i:Int),(k:Int)⟩ q
   ·simp only[go_sem,wuA (n:=k)];refine qa (k+1,v1,h1) ⟨by simp only;omega, ?_⟩ (by simp only;omega) csA;simp only[ew,hb,bFt,if_false,lAn];exact J
   ·have hwl:=qDH (xs:=n.Agents) (a:=qv n.Agents i++ze i k);have hsl:(qv n.Agents i++ze i k).length=(qv n.Agents i).length+k:=by simp[ze]
    simp only[gMp,hc,hq,oMs,go_sem];refine qAF (J.app _) ends (by rw[lMp];omega) λh3 u3 v3 l3=>?_;simp only[go_sem,wuA (n:=k)];refine qa (k+1,.slice 4 (h1++[qB.row 4 [AV.agg [iI i,iI k,iI q.Agent,iI q.Slot]] true]).length 0 (((wrs n.Agents (qv n.Agents i++ze i k)).map zU.enc).length+1) false,h3) ⟨by simp only;omega, ?_⟩ (by simp only;omega) csA;refine .inr (.inr ⟨(h1++[qB.row 4 [AV.agg [iI i,iI k,iI q.Agent,iI q.Slot]] true]).length,trivial, ?_, ?_⟩)
    ·simp[ew,hb]
    ·simp only[ew,hb,if_true,lMa];exact v3
  ·have e:decide ((k:Int)<(x.Ports.length:Nat))=false:=decide_eq_false (by omega);simp only[e,go_sem,wuA (n:=i)];refine qa (i+1,v1,h1) ⟨by simp only;omega, ?_⟩ (by simp only;omega) csA;have e2:qv n.Agents (i+1)=qv n.Agents i++ze i x.Ports.length:=by simp[qv,jE,hc]
   simp only[e2];rw[show k=x.Ports.length by omega]at J;exact J
 ·have e:decide ((i:Int)<(n.Agents.length:Nat))=false:=decide_eq_false (by omega);simp only[e,go_sem];obtain rfl:i=n.Agents.length:=by omega
  rcases I with⟨_,h2⟩ | I
  ·exact absurd (List.map_eq_nil_iff.1 h2) (qrB ok)
  ·exact QC (I.cv (qb zU.isSh.tree _) (by decide))
def j0(root:Bool)(x:zU):Bool:=decide (0<x.B.Slot)&&(decide (0<x.A.Slot) || (decide (x.A.Agent=0)&&root))
def XC(xs:List qC)(root:Bool):Nat:=(zC xs).countP (j0 root)
theorem qA0{α:Type}{p:α->Bool}{xs:List α}{i:Nat}{x:α}(h:xs[i]?=some x):(xs.take (i+1)).countP p=(xs.take i).countP p+if p x=true then 1 else 0:=by
 rw[List.take_add_one,h,Option.toList_some,List.countP_append,List.countP_cons,List.countP_nil,nZa]
theorem YR{n:qE}(hz:n.sz<=1048576):(zC n.Agents).length<=1048576:=by
 have h1:=qDH (xs:=n.Agents) (a:=qv n.Agents n.Agents.length);have h2:=Zs n.Agents n.Agents.length (nLr _);rw[lTl]at h2;unfold qE.sz at hz;unfold zC;omega
theorem qjF{n:qE}{root:Bool}(hz:n.sz<=1048576)(ok:zF n=true):Pure Gm 1174 [.ept n.enc 0,.bool root] (iI (XC n.Agents root:Nat)):=by
 refine pJ UR ?_;simp only[UR,qN,go_sem];refine qI (c569 hz ok) ?_;simp only[go_sem];have hwl:=YR hz;refine Sem.loop (λi:Nat=>i<=(zC n.Agents).length) (λi=>(⟨[(1,.bool root),(4,iI 0),(5,iI (((zC n.Agents).take i).countP (j0 root):Nat)),(6,.lst 4 ((zC n.Agents).map zU.enc) false),(7,iI (i:Nat))],[],[]⟩:VSt)) (λi=>(zC n.Agents).length-i)
  0 (by kernel_rfl) (nZl _) csA ?_
 rintro i hi;simp only[go_sem];by_cases hlt:i<(zC n.Agents).length
 ·have e:decide ((i:Int)<((zC n.Agents).length:Nat))=true:=decide_eq_true (by omega);have hc:=gEg hlt;generalize (zC n.Agents)[i]=x at hc;have ex:=qA0 (p:=j0 root) hc;have hle:((zC n.Agents).take i).countP (j0 root)<=i:=nLt (List.countP_le_length ..) (by simp;omega);simp only[e,gMp,hc,oMs,go_sem];refine qU (k:=2) rfl rfl ⟨_,rfl⟩ (by decide) ?_;simp only[gMp,hc,oMs,go_sem];refine qU (k:=2) rfl rfl ⟨_,rfl⟩ (by decide) ?_;simp only[go_sem];cases hB:decide (0<x.B.Slot)
  ·simp only[go_sem,wuA (n:=i),jt (show ((zC n.Agents).take i).countP (j0 root)<4611686018427387904 by omega)];have hv:j0 root x=false:=by simp only[j0,hB,Bool.false_and];try rfl
   rw[hv]at ex;refine qa (i+1) (by omega) (by omega) (Can.sub (by simp[go_sem,ex]) (by simp[go_sem]))
  ·simp only[go_sem];cases hA:decide (0<x.A.Slot)
   ·simp only[go_sem];cases hR:decide (x.A.Agent=0)
    ·simp only[go_sem,wuA (n:=i),jt (show ((zC n.Agents).take i).countP (j0 root)<4611686018427387904 by omega)];have hv:j0 root x=false:=by simp only[j0,hB,hA,hR,Bool.false_and,Bool.false_or,Bool.and_false];try rfl
     rw[hv]at ex;refine qa (i+1) (by omega) (by omega) (Can.sub (by simp[go_sem,ex]) (by simp[go_sem]))
    ·cases root
     ·simp only[go_sem,wuA (n:=i),jt (show ((zC n.Agents).take i).countP (j0 false)<4611686018427387904 by omega)];have hv:j0 false x=false:=by simp only[j0,hB,hA,hR];try rfl
      rw[hv]at ex;refine qa (i+1) (by omega) (by omega) (Can.sub (by simp[go_sem,ex]) (by simp[go_sem]))
     ·simp only[go_sem,wuA (n:=i),jt (show ((zC n.Agents).take i).countP (j0 true)<4611686018427387904 by omega)];have hv:j0 true x=true:=by simp only[j0,hB,hA,hR];try rfl
      rw[hv]at ex;refine qa (i+1) (by omega) (by omega) (Can.sub (by simp[go_sem,ex]) (by simp[go_sem]))
   ·simp only[go_sem,wuA (n:=i),jt (show ((zC n.Agents).take i).countP (j0 root)<4611686018427387904 by omega)];have hv:j0 root x=true:=by simp only[j0,hB,hA,Bool.true_or,Bool.true_and];try rfl
    rw[hv]at ex;refine qa (i+1) (by omega) (by omega) (Can.sub (by simp[go_sem,ex]) (by simp[go_sem]))
 ·have e:decide ((i:Int)<((zC n.Agents).length:Nat))=false:=decide_eq_false (by omega);simp only[e,go_sem];exact qK rfl (by rw[List.take_of_length_le (by omega)];rfl)
theorem c970{m:qH}{L:List Nat}(hs:m.Cells.length<=1000000)(hf:FrC m.Cells m.Free L):Pure Gm 970 [.ept m.enc 0] (iI (nF m.Cells:Nat)):=by
 refine pJ F970 ?_;simp only[F970,qN,go_sem];have hn:=hf.len;have hle:nF m.Cells<=m.Cells.length:=List.countP_le_length ..;refine Sem.loop (λa:Nat×Int×List Nat=>a.1+a.2.2.length=nF m.Cells/\chn m.Cells a.2.1 a.2.2) (λa=>(⟨[(0,.ept m.enc 0),(2,iI 0),(3,iI (a.1:Nat)),(4,iI a.2.1)],[],[]⟩:VSt)) (λa=>a.2.2.length)
  (0,m.Free,L) (by kernel_rfl) ⟨by simp only;omega,hf.ch⟩ csA ?_
 rintro⟨n,a,L⟩ ⟨h1,h2⟩;simp only at h1 h2;simp only[go_sem];cases L with
 | nil=>
  obtain rfl:a= -1:=h2;simp only[show decide ((0:Int)<=-1)=false from rfl,go_sem];exact qK rfl (by rw[<-h1];rfl)
 | cons k L=>
  obtain⟨rfl,c,hc,h0,h3⟩:=h2;have e:decide ((0:Int)<=(k:Nat))=true:=decide_eq_true (by omega);simp only[lCo]at h1;simp only[e,go_sem,wuA (n:=n),gMp,hc,oMs];refine qa (n+1,c.Value,L) ⟨by simp only;omega,h3⟩ (by simp only[lCo];omega) csA
structure RX(m:qH)(p:qL)(ka kb:Nat)(x y:qD):Prop where
 a:p.A=(ka:Int)
 b:p.B=(kb:Int)
 ha:m.Cells[ka]?=some x
 hb:m.Cells[kb]?=some y
theorem c969{m:qH}{p:qL}{ka kb:Nat}{x y:qD}(r:RX m p ka kb x y)(hx:x.Words.length<=1048576)(hy:y.Words.length<=1048576):Pure Gm 969 [.ept m.enc 0,p.enc] (iI (za (qX x) (qX y))):=by
 refine pJ F969 ?_;simp only[F969,qN,go_sem];refine qW rfl ?_;simp only[go_sem,r.a,gMp,r.ha,oMs];refine qI (qAI hx) ?_;simp only[go_sem];refine jF (e':=(qX x).enc) rfl rfl rfl rfl ?_;simp only[go_sem,r.b,gMp,r.hb,oMs];refine qI (qAI hy) ?_;simp only[go_sem];refine jF (e':=(qX y).enc) rfl rfl rfl rfl ?_;simp only[go_sem];refine Jv (Cvs.cons (.ptr rfl (by decide) rfl (.refl qC.tr)) (Cvs.cons (.ptr rfl (by decide) rfl (.refl qC.tr)) .nil)) (c744 (x:=qX x) (y:=qX y)) rfl ?_;simp only[go_sem];exact qK rfl rfl
def JO(x y:qD):Bool:=decide (zu x.Kind x.Level y.Kind y.Level=2)
theorem c971{m:qH}{p:qL}{ka kb:Nat}{x y:qD}(r:RX m p ka kb x y):Pure Gm 971 [.ept m.enc 0,p.enc] (if JO x y=true then .tup [iI (kb:Nat),iI (ka:Nat)]else .tup [iI (ka:Nat),iI (kb:Nat)]):=by
 refine pI F971 (by simp[AV.trees,AV.tree,go_sem]) (by split<;>rfl) ?_;simp only[F971,qN,go_sem];refine qW rfl ?_;simp only[go_sem,r.a,r.b,gMp,r.ha,r.hb,oMs];refine qI qjA ?_;simp only[go_sem];unfold JO;cases h:decide (zu x.Kind x.Level y.Kind y.Level=2)
 ·simp only[go_sem,r.a,r.b];exact zW (by rfl) (by rfl)
 ·simp only[go_sem,r.a,r.b];exact zW (by rfl) (by rfl)
theorem c857{c:Int}:Pure Gm 857 [iI c] (iI (if c=7 then 1 else 2)):=by
 refine pJ kX ?_;simp only[kX,qN,go_sem];by_cases h:c=7
 ·simp only[h,go_sem];exact qK rfl rfl
 ·simp only[h,decide_false,go_sem];exact qK rfl rfl
theorem QU{a:Int}:Pure Gm 1279 [iI a] (awI a).enc:=by
 refine pJ Ub ?_;simp only[Ub,qN,go_sem];refine qU (k:=2) rfl rfl ⟨_,rfl⟩ (by decide) ?_;simp only[go_sem];exact qK rfl rfl
def qe(x y:qD):Int:=za (qX x) (qX y)
def qy(bk:List qE)(x y:qD):Int×Int:=
 if qe x y=8 then(0,11)else if qe x y=3 then(2+3*(y.Words.length:Int),0)else if qe x y=4 then((y.Words.length:Int),0)
 else if qe x y=5 then(1,0)else if qe x y=6 then(1+(x.Words.length:Int),0)
 else if qe x y=7 then(if (bk.length:Int)<=x.Value then(0,3)else if 8<IntKind.i64.wrap (hiI (qr bk x.Value).Agents+x.Level)then(0,9)else(((qr bk x.Value).Agents.length:Int)-1+(XC (qr bk x.Value).Agents false:Nat),0))
 else(0,0)
structure RO(m:qH)(p:qL)(a b:Nat)(x y:qD):Prop where
 u:∃ka kb u v,RX m p ka kb u v/\((JO u v=true/\a=kb/\b=ka/\x=v/\y=u)\/(JO u v=false/\a=ka/\b=kb/\x=u/\y=v))
 ox:qg (qX x)=true
 oy:qg (qX y)=true
theorem RO.cls{m:qH}{p:qL}{a b:Nat}{x y:qD}(r:RO m p a b x y):∃ka kb u v,RX m p ka kb u v/\qe u v=qe x y/\((JO u v=true/\a=kb/\b=ka/\x=v/\y=u)\/(JO u v=false/\a=ka/\b=kb/\x=u/\y=v)):=by
 obtain⟨ka,kb,u,v,h1,h2⟩:=r.u;refine⟨ka,kb,u,v,h1, ?_,h2⟩;rcases h2 with⟨hs,_,_,rfl,rfl⟩ | ⟨hs,_,_,rfl,rfl⟩
 ·exact qkT r.oy r.ox (by simpa[JO,qX]using hs)
 ·rfl
theorem RO.at{m:qH}{p:qL}{a b:Nat}{x y:qD}(r:RO m p a b x y):m.Cells[a]?=some x/\m.Cells[b]?=some y:=by
 obtain⟨ka,kb,u,v,h1,h2⟩:=r.u;rcases h2 with⟨hs,rfl,rfl,rfl,rfl⟩ | ⟨hs,rfl,rfl,rfl,rfl⟩
 ·exact⟨h1.hb,h1.ha⟩
 ·exact⟨h1.ha,h1.hb⟩
theorem c855{m:qH}{p:qL}{bk:List qE}{a b:Nat}{x y:qD}(r:RO m p a b x y)(hb:jH bk=true)(hx:x.Words.length<=1000)(hy:y.Words.length<=1000)(hv:qe x y=7->0<=x.Value)(hl:0<=x.Level/\x.Level<=8):Pure Gm 855 [.lst 1 (bk.map qE.enc) false,.ept m.enc 0,p.enc] (.tup [iI (qy bk x y).1,iI (qy bk x y).2]):=by
 obtain⟨ka,kb,u,v,h1,hc,h2⟩:=r.cls;obtain⟨ra,rb⟩:=r.at;refine pI kV (by simp[AV.trees,AV.tree,go_sem,qb qE.isSh.tree]) rfl ?_;simp only[kV,qN,go_sem];refine qW rfl ?_;simp only[go_sem];refine qI (c971 h1) ?_;have e2:(if JO u v=true then AV.tup [iI (kb:Nat),iI (ka:Nat)]else .tup [iI (ka:Nat),iI (kb:Nat)])=.tup [iI (a:Nat),iI (b:Nat)]:=by
  rcases h2 with⟨hs,rfl,rfl,_,_⟩ | ⟨hs,rfl,rfl,_,_⟩<;>rw[hs]<;>rfl
 rw[e2];simp only[go_sem,gMp,ra,rb,oMs];have hw:u.Words.length<=1048576/\v.Words.length<=1048576:=by
  rcases h2 with⟨hs,_,_,rfl,rfl⟩ | ⟨hs,_,_,rfl,rfl⟩<;>omega
 refine qI (c969 h1 hw.1 hw.2) ?_;simp only[go_sem];change qe u v=qe x y at hc;rw[show za (qX u) (qX v)=qe x y from hc];generalize hC:qe x y=C at hv;have nv:∀{r:Int×Int},qy bk x y=r->AV.tup [iI r.1,iI r.2]=.tup [iI (qy bk x y).1,iI (qy bk x y).2]:=λe=>by rw[e]
 by_cases c8:C=8
 ·subst c8;simp only[go_sem];exact zW (by rfl) (nv (by rw[qy,hC]))
 simp only[c8,decide_false,go_sem];by_cases c3:C=3
 ·subst c3;simp only[go_sem,jO (show-9223372036854775808<=3*(y.Words.length:Int) by omega) (by omega),jO (show-9223372036854775808<=2+3*(y.Words.length:Int) by omega) (by omega)];exact zW (by rfl) (nv (by rw[qy,hC]))
 simp only[c3,decide_false,go_sem];by_cases c4:C=4
 ·subst c4;simp only[go_sem];exact zW (by rfl) (nv (by rw[qy,hC]))
 simp only[c4,decide_false,go_sem];by_cases c5:C=5
 ·subst c5;simp only[go_sem];exact zW (by rfl) (nv (by rw[qy,hC]))
 simp only[c5,decide_false,go_sem];by_cases c6:C=6
 ·subst c6;simp only[go_sem,jO (show-9223372036854775808<=1+(x.Words.length:Int) by omega) (by omega)];exact zW (by rfl) (nv (by rw[qy,hC]))
 simp only[c6,decide_false,go_sem];by_cases c7:C=7
 ·subst c7;have v0:=hv rfl;simp only[go_sem];by_cases q3:(bk.length:Int)<=x.Value
  ·simp only[q3,go_sem];exact zW (by rfl) (nv (r:=(0,3)) (by rw[qy,hC];simp[q3]))
  have q3':x.Value<bk.length:=by omega
  simp only[q3,decide_false,go_sem,Xj v0 q3'];have ot:=YL hb v0 q3';have tz:=ZJ ot;refine qI (qjG (by omega)) ?_;simp only[go_sem];by_cases q9:8<IntKind.i64.wrap (hiI (qr bk x.Value).Agents+x.Level)
  ·simp only[q9,go_sem];exact zW (by rfl) (nv (r:=(0,9)) (by rw[qy,hC];simp[q3,q9]))
  simp only[q9,decide_false,go_sem];refine qI (qjF (by omega) ot) ?_;have hw1:XC (qr bk x.Value).Agents false<=1048576:=nLt (List.countP_le_length ..) (YR (by omega));have hw2:(qr bk x.Value).Agents.length<=1048576:=by unfold qE.sz at tz;omega
  simp only[go_sem];rw[jO (show-9223372036854775808<=((qr bk x.Value).Agents.length:Int)-1 by omega) (by omega),wsA];exact zW (by rfl) (nv (r:=(((qr bk x.Value).Agents.length:Int)-1+(XC (qr bk x.Value).Agents false:Nat),0)) (by rw[qy,hC];simp[q3,q9]))
 simp only[c7,decide_false,go_sem];exact zW (by rfl) (nv (by rw[qy,hC,if_neg c8,if_neg c3,if_neg c4,if_neg c5,if_neg c6,if_neg c7]))
end Go.Ab
