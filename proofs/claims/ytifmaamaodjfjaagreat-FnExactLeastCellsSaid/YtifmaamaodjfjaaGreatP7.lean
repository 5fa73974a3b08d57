/- Texts Dbg21 .. Mh6: the abstract machine, its laws and contracts of functions: lemmas for the statement. No condition. -/
import Derived.Test.YtifmaamaodjfjaaGreatP6
set_option linter.unusedSimpArgs false
set_option linter.unusedVariables false
namespace Go.Ab
open Go
set_option maxRecDepth 10000
set_option maxHeartbeats 2000000
theorem qEB:∀{l:List qB}{i:Nat},jV l i=true->∀(k:Nat)(hk:k<l.length),(l[k].K=1↔i+k=0)
 |[],_,_,k,hk=>by simp at hk
 | y::l,i,h,k,hk=>by
  simp only[jV,bAt]at h;cases k with
  | zero=>have:=h.1.2;simp at this|-;simp[this]
  | succ k=>
   have:=qEB h.2 k (by simpa using hk);simp only[List.getElem_cons_succ,this];omega
theorem qhZ{x:qB}(h:qg x=true):x.K≠0:=by
 intro e;simp only[qg,bAt]at h;have h1:=h.1.1.1;rw[e]at h1;simp[jg]at h1
theorem Qi{n:qD}(h:qk n=true):jV n.G 0=true:=by
 simp only[qk,j5,bAt]at h;exact h.1.2
theorem Jv{x:qB}(h:qg x=true):zt x.K x.L=true:=by
 simp only[qg,bAt]at h;exact h.1.2
theorem qKA{a b c d:Int}(h:zL a b c d=6):(a=6/\c=11)\/(a=9/\c=10):=by
 simp only[zL]at h;repeat' (split at h<;>try omega)
theorem qJC{a b c d:Int}:jx a b c d=jx c d a b:=by
 simp only[jx];cases zt a b<;>cases zt c d<;>cases decide (a=1)<;>cases decide (c=1)<;>rfl
theorem qJ9{a b c d:Int}:zL a b c d≠8:=by
 simp only[zL];repeat' (split<;>try omega)
theorem qFS{x y:qB}(_hx:qg x=true)(_hy:qg y=true)(h:zr x.K x.L y.K y.L=2):
  za y x=if x.K=10/\y.K=9/\(x.D.length:Int)<=y.V then 8 else jH x.K x.L y.K y.L:=by
 have hp:jx x.K x.L y.K y.L=true:=by
  simp only[zr]at h;split at h
  ·assumption
  ·omega
 simp only[zr,hp,if_true]at h;have h1:zL x.K x.L y.K y.L=0:=by
  rcases Decidable.em (zL x.K x.L y.K y.L=0)with q | q
  ·exact q
  ·rw[iP q]at h;omega
 have h2:zL y.K y.L x.K x.L≠0:=by
  intro q;simp only[h1,q]at h;simp at h
 have e:jH y.K y.L x.K x.L=jH x.K x.L y.K y.L:=by
  simp only[jH,qJC (a:=y.K),hp,h1,if_true,iP h2];simp[]
 simp only[za,e];have n1:¬(y.K=10/\x.K=9):=by
  rintro⟨a,b⟩;have:zL x.K x.L y.K y.L=6:=by simp[zL,a,b]
  omega
 by_cases q:y.K=9/\x.K=10/\(x.D.length:Int)<=y.V
 ·rw[iP q,iP ⟨q.2.1,q.1,q.2.2⟩]
 ·rw[iN q,iN (by rintro⟨a,b,c⟩;exact n1 ⟨a,b⟩),iN (by rintro⟨a,b,c⟩;exact q ⟨b,a,c⟩)]
theorem qFR{x y:qB}(hx:qg x=true)(hy:qg y=true)(h:zr x.K x.L y.K y.L≠2):
  za x y=if x.K=9/\y.K=10/\(y.D.length:Int)<=x.V then 8 else jH x.K x.L y.K y.L:=by
 simp only[za];have n1:¬(x.K=10/\y.K=9):=by
  rintro⟨a,b⟩;apply h;have hp:jx x.K x.L y.K y.L=true:=by
   have q1:=Jv hx;have q2:=Jv hy;rw[a]at q1;rw[b]at q2;simp only[jx,a,b,q1,q2];decide
  have r1:zL x.K x.L y.K y.L=0:=by simp[zL,a]
  have r2:zL y.K y.L x.K x.L=6:=by simp[zL,a,b]
  simp[zr,hp,r1,r2]
 by_cases q:x.K=9/\y.K=10/\(y.D.length:Int)<=x.V
 ·rw[iP q,iP q]
 ·rw[iN q,iN q,iN (by rintro⟨a,b,c⟩;exact n1 ⟨a,b⟩)]
theorem qFQ{x y:qB}(h:jH x.K x.L y.K y.L=6):zr x.K x.L y.K y.L=1/\zL x.K x.L y.K y.L=6\/zr x.K x.L y.K y.L=2/\zL y.K y.L x.K x.L=6:=by
 simp only[jH,zr]at h|-
 repeat' (split at h)
 all_goals simp_all
theorem qIU{x y:qB}(hx:qg x=true)(hy:qg y=true)(a:x.K=9)(b:y.K=10):jH x.K x.L y.K y.L=6/\zr x.K x.L y.K y.L=1:=by
 have hp:jx x.K x.L y.K y.L=true:=by
  have q1:=Jv hx;have q2:=Jv hy;rw[a]at q1;rw[b]at q2;simp only[jx,a,b,q1,q2];decide
 have r1:zL x.K x.L y.K y.L=6:=by simp[zL,a,b]
 simp[jH,zr,hp,r1]
theorem qqZ{x y:qB}(hx:qg x=true)(hy:qg y=true)(a:x.K=10)(b:y.K=9):jH x.K x.L y.K y.L=6/\zr x.K x.L y.K y.L=2:=by
 have hp:jx x.K x.L y.K y.L=true:=by
  have q1:=Jv hx;have q2:=Jv hy;rw[a]at q1;rw[b]at q2;simp only[jx,a,b,q1,q2];decide
 have r1:zL x.K x.L y.K y.L=0:=by simp[zL,a]
 have r2:zL y.K y.L x.K x.L=6:=by simp[zL,a,b]
 simp[jH,zr,hp,r1,r2]
def wU(x y:qB):Int:=if jN x y then za y x else za x y
theorem qoQ{x y:qB}(hx:qg x=true)(hy:qg y=true):
  wU x y=if jH x.K x.L y.K y.L=6/\(if jN x y then x.K=10/\(x.D.length:Int)<=y.V else y.K=10/\(y.D.length:Int)<=x.V)then 8 else jH x.K x.L y.K y.L:=by
 by_cases h:zr x.K x.L y.K y.L=2
 ·have hs:jN x y=true:=by simp[jN,h]
  simp only[wU,hs,if_true,qFS hx hy h];by_cases q:x.K=10/\y.K=9/\(x.D.length:Int)<=y.V
  ·rw[iP q,iP ⟨(qqZ hx hy q.1 q.2.1).1,q.1,q.2.2⟩]
  ·rw[iN q];by_cases q2:jH x.K x.L y.K y.L=6/\x.K=10/\(x.D.length:Int)<=y.V
   ·exfalso;rcases qFQ q2.1 with⟨a,_⟩ | ⟨_,a⟩
    ·omega
    ·rcases qKA a with⟨_,a⟩ | ⟨a,_⟩
     ·omega
     ·exact q ⟨q2.2.1,a,q2.2.2⟩
   ·rw[iN q2]
 ·have hs:jN x y=false:=by simp[jN,h]
  simp only[wU,hs,bFt,if_false,qFR hx hy h];by_cases q:x.K=9/\y.K=10/\(y.D.length:Int)<=x.V
  ·rw[iP q,iP ⟨(qIU hx hy q.1 q.2.1).1,q.2.1,q.2.2⟩]
  ·rw[iN q];by_cases q2:jH x.K x.L y.K y.L=6/\y.K=10/\(y.D.length:Int)<=x.V
   ·exfalso;rcases qFQ q2.1 with⟨_,a⟩ | ⟨a,_⟩
    ·rcases qKA a with⟨_,a⟩ | ⟨a,_⟩
     ·omega
     ·exact q ⟨a,q2.2.1,q2.2.2⟩
    ·omega
   ·rw[iN q2]
theorem qjL{k:Int}:Pure Gm 1502 [iI k] (.bool (WT k)):=by
 refine pJ Kt ?_;simp only[Kt,qM,go_sem]
 repeat' (first | (refine qa rfl ?_;simp only[go_sem]) | (first | (apply zF<;>intro hc<;>simp only[hc,go_sem]) | (apply qU<;>intro hc<;>simp only[hc,go_sem])) | refine qN rfl ?_)
 all_goals (simp_all[WT])
theorem qjK{l k m:Int}:Pure Gm 1501 [iI l,iI k,iI m] (.bool (XN l k m)):=by
 refine pJ Ks ?_;simp only[Ks,qM,go_sem]
 repeat' (first | (refine qa rfl ?_;simp only[go_sem]) | (first | (apply zF<;>intro hc<;>simp only[hc,go_sem]) | (apply qU<;>intro hc<;>simp only[hc,go_sem])) | (refine qI (qE8) ?_;simp only[go_sem]) | (refine qI (qAN) ?_;simp only[go_sem]) | (refine qI (qAL) ?_;simp only[go_sem]) | refine qN rfl ?_)
 all_goals (simp_all[XN])
theorem qjE{ka la kb lb:Int}:Pure Gm 1398 [iI ka,iI la,iI kb,iI lb] (iI (zL ka la kb lb)):=by
 refine pJ KZ ?_;simp only[KZ,qM,go_sem]
 repeat' (first | (refine qa rfl ?_;simp only[go_sem]) | (first | (apply zF<;>intro hc<;>simp only[hc,go_sem]) | (apply qU<;>intro hc<;>simp only[hc,go_sem])) | (refine qI (qjK) ?_;simp only[go_sem]) | (refine qI (qjL) ?_;simp only[go_sem]) | refine qN rfl ?_)
 all_goals (simp_all[zL])
theorem qiN{ka la kb lb:Int}:Pure Gm 1115 [iI ka,iI la,iI kb,iI lb] (.tup [iI (jH ka la kb lb),iI (zr ka la kb lb)]):=by
 refine pJ UX ?_;simp only[UX,qM,go_sem]
 repeat' (first | (first | (apply zF<;>intro hc<;>simp only[hc,go_sem]) | (apply qU<;>intro hc<;>simp only[hc,go_sem])) | (refine qI qAN ?_;simp only[go_sem]) | (refine qI qjE ?_;simp only[go_sem]) | refine zT rfl ?_)
 all_goals (try simp only[bNt,Bool.not_eq_false',dTe,decide_eq_false_iff_not,Bool.not_false]at*)
 all_goals (simp[jH,zr,jx, *])
theorem Xn{n:qD}(h:qk n=true)(k:Nat)(hk:k<n.G.length):(n.G[k].K=1↔k=0):=by
 have:=qEB (Qi h) k hk;rw[this];omega
theorem qCD{n:qD}(h:qk n=true)(k:Nat)(hk:k<n.G.length):n.G[k].K≠0:=
 qhZ (J0 (Qi h) _ (gMm hk))
theorem jf{n:qD}(h:qk n=true):0<n.G.length:=by
 simp only[qk,j5,bAt]at h;have:=Jq.1 h.1.1;omega
theorem c376{n:qD}(hz:n.sz<=1048576)(ok:qk n=true):Pure Gm 376 [.ept n.enc 0] (.lst 2 ((Xm n).map qL.enc) false):=by
 refine pI K5 (by simp[AV.trees,AV.tree,go_sem]) (by simp[AV.tree,qb qL.isSh.tree]) ?_;simp only[K5,qM,go_sem];unfold qD.sz at hz;have hnp:=jf ok;refine Sem.loop (λi:Nat=>i<=n.G.length) (λi=>(⟨[(10,.lst 5 (n.G.map qB.enc) false),(11,iI (n.G.length:Int)),(12,iI (i:Nat)),(3,.slice 2 0 0 (qu n.G (i-1)).length false)],[],[.row 2 ((qu n.G (i-1)).map qL.enc) true]⟩:VSt)) (λi=>n.G.length-i) 0 (by kernel_rfl) (nZl _) (Can.renum [none] rfl ⟨.ph,trivial⟩ ⟨⟨_,rfl,.tree (by simp[AV.tree,qb qB.isSh.tree])⟩,⟨_,rfl,.tree rfl⟩,⟨_,rfl,.tree rfl⟩,⟨_,rfl,.ph rfl⟩,trivial⟩ trivial) ?_;rintro i hi;simp only[go_sem];refine qU ?_ ?_<;>intro hc<;>simp only[hc,go_sem]
 ·have hlt:i<n.G.length:=by have:=odT hc;omega
  simp only[gMp,gEg hlt,oMs,go_sem];have hp0:=qn4 ok _ (gMm hlt);have hk1:=Xn ok i hlt;have hk0:=qCD ok i hlt;refine lsA ?_;simp only[go_sem];simp only[gMp,gEg hp0,oMs,go_sem];refine lsA ?_;simp only[go_sem];have same (hn:¬(n.G[i].P[0].S=0/\(i:Int)<n.G[i].P[0].N/\n.G[i].K≠1)):qu n.G (i+1-1)=qu n.G (i-1):=by
   cases i with
   | zero=>rfl
   | succ i=>
    have h1:n.G[i+1].K≠1:=by intro q;have:=hk1.1 q;omega
    have:¬(n.G[i+1].P[0].S=0/\((i+1:Nat):Int)<n.G[i+1].P[0].N):=by rintro⟨q1,q2⟩;exact hn ⟨q1,q2,h1⟩
    simp only[Nat.add_sub_cancel,qu,JR,gEg hlt,gEg hp0,iN hk0,iN this,lAn]
  have more (hn:n.G[i].P[0].S=0/\(i:Int)<n.G[i].P[0].N/\n.G[i].K≠1):qu n.G (i+1-1)=qu n.G (i-1)++[⟨(i:Int),n.G[i].P[0].N⟩]:=by
   cases i with
   | zero=>exact absurd (hk1.2 rfl) hn.2.2
   | succ i=>
    simp only[Nat.add_sub_cancel,qu,JR,gEg hlt,gEg hp0,iN hk0];rw[iP ⟨hn.1,hn.2.1⟩]
  clear hk1 hk0
  repeat' (first | (first | (refine zF ?_ ?_<;>intro hc<;>simp only[hc,go_sem]) | (refine qU ?_ ?_<;>intro hc<;>simp only[hc,go_sem])))
  case refine_1.refine_1.refine_1=>
   have e:=more ⟨by simp_all,by simp_all,by simp_all⟩;refine WD (el:=(qu n.G (i-1)).map qL.enc) rfl rfl (by simp) (by have:=ZI n.G (i-1);omega) ?_;simp only[go_sem];simp only[wuA (n:=i)];refine qd (i+1) (by omega) (by omega) ?_;simp only[e,lAp,lCo,lNi,nZa];refine Can.renum [some 2] rfl ⟨.row rfl ?_,trivial⟩ ⟨⟨_,rfl,.tree (by simp[AV.tree,qb qB.isSh.tree])⟩,⟨_,rfl,.tree rfl⟩,⟨_,rfl,.tree rfl⟩,⟨_,rfl,.slice rfl⟩,trivial⟩ trivial;rw[lMa];have t:=qb qL.isSh.tree (qu n.G (i-1)++[⟨(i:Int),n.G[i].P[0].N⟩]);rw[lMa]at t;exact VR2s.trees t
  all_goals
   simp only[wuA (n:=i)];refine qd (i+1) (by omega) (by omega) ?_;rw[same (by simp_all<;>omega)];exact csA
 ·obtain rfl:i=n.G.length:=by have:=odF hc;omega
  refine J7 (Cv.row rfl (by simp[Xm]) (qb qL.isSh.tree _) (by omega))
theorem wR{n:qD}(h:qk n=true):W n.G λ_ _=>False:=by
 intro a s q hq _;obtain⟨x,hx,hs⟩:=Qs.1 hq;have hl:=(gSi.1 hx).1;have hl2:=(gSi.1 hs).1;have e1:n.G[a]=x:=(gSi.1 hx).2;have e2:x.P[s]=q:=(gSi.1 hs).2;unfold qk at h;simp only[bAt]at h;have h1:=VL h.2 a hl;rw[e1]at h1;have h2:=V9 h1 s hl2;rw[e2]at h2;simp only[nZa]at h2;unfold wH at h2;simp only[bAt,bNt,decide_eq_false_iff_not,dTe]at h2;obtain⟨⟨h3,h4⟩,h5⟩:=h2;obtain⟨b,t,rfl,hb,ht⟩:=qJL h4;exact⟨b,t,rfl,by rw[<-qo2];exact h5,λq=>q,λe=>h3 (by rw[e.1,e.2])⟩
theorem Jd{n:qD}(h:qk n=true){k:Nat}{x:qB}(hx:n.G[k]?=some x):qg x=true:=J0 (Qi h) x (lMo hx)
theorem qhY{x y:qB}(h:Qv y=Qv x):qg y=qg x:=by
 simp only[Qv,Prod.mk.injEq]at h;obtain⟨h1,h2,h3,h4,h5⟩:=h;unfold qg fieldsOf z8;rw[h1,h2,h3,h4,h5]
def w32(x:Int):Int:=IntKind.i64.wrap (IntKind.i32.wrap (IntKind.u32.wrap (IntKind.u64.wrap x)))
def opI(k a b:Int):Int:=
 if k=1 then w32 (IntKind.i64.wrap (w32 a+w32 b))else if k=2 then w32 (IntKind.i64.wrap (w32 a-w32 b))else if k=3 then w32 (IntKind.i64.wrap (w32 a*w32 b))
 else if k=4 then(if w32 b=0 then 0 else w32 (IntKind.i64.wrap ((w32 a).tdiv (w32 b))))else if k=5 then(if w32 a<w32 b then 1 else 0)else if k=6 then(if w32 a=w32 b then 1 else 0)else 0
theorem qLP(x:Int):w32 x=IntKind.i64.wrap (IntKind.i32.wrap x):=by
 unfold w32;congr 1;simp only[IntKind.wrap,IntKind.bits,IntKind.signed];simp
theorem WF{x:Int}:Pure Gm 1125 [iI x] (iI (w32 x)):=by
 refine pJ UZ ?_;simp only[UZ,qM,go_sem];exact qN rfl rfl
theorem qEW{b:Bool}:Pure Gm 1126 [.bool b] (iI (if b then 1 else 0)):=by
 refine pJ Ua ?_;simp only[Ua,qM,go_sem];apply qU<;>intro hc<;>simp only[hc,go_sem]
 ·exact qN rfl rfl
 ·exact qN rfl rfl
theorem c762{k a b:Int}:Pure Gm 762 [iI k,iI a,iI b] (iI (opI k a b)):=by
 refine pJ kT ?_;simp only[kT,qM,go_sem];refine qI WF ?_;simp only[go_sem];refine qI WF ?_;simp only[go_sem];unfold opI;apply qU<;>intro hc<;>simp only[hc,go_sem]
 ·rw[iP (odT hc)];refine qI WF ?_;simp only[go_sem];exact qN rfl rfl
 rw[iN (odF hc)];apply qU<;>intro hc<;>simp only[hc,go_sem]
 ·rw[iP (odT hc)];refine qI WF ?_;simp only[go_sem];exact qN rfl rfl
 rw[iN (odF hc)];apply qU<;>intro hc<;>simp only[hc,go_sem]
 ·rw[iP (odT hc)];refine qI WF ?_;simp only[go_sem];exact qN rfl rfl
 rw[iN (odF hc)];apply qU<;>intro hc<;>simp only[hc,go_sem]
 ·rw[iP (odT hc)];apply qU<;>intro hc<;>simp only[hc,go_sem]
  ·rw[iP (odT hc)];exact qN rfl rfl
  rw[iN (odF hc)];have hq:=odF hc;simp only[iN hq,go_sem];refine qI WF ?_;simp only[go_sem];exact qN rfl rfl
 rw[iN (odF hc)];apply qU<;>intro hc<;>simp only[hc,go_sem]
 ·rw[iP (odT hc)];refine qI qEW ?_;simp only[go_sem];exact qN rfl (by simp)
 rw[iN (odF hc)];apply qU<;>intro hc<;>simp only[hc,go_sem]
 ·rw[iP (odT hc)];refine qI qEW ?_;simp only[go_sem];exact qN rfl (by simp)
 rw[iN (odF hc)];exact qN rfl rfl
theorem QT{b:Bool}:Pure Gm 566 [.bool b] (iI (if b then 1 else 0)):=by
 refine pJ kH ?_;simp only[kH,qM,go_sem];apply qU<;>intro hc<;>simp only[hc,go_sem]
 ·exact qN rfl rfl
 ·exact qN rfl rfl
theorem WG{x:Int}:Pure Gm 1400 [iI x] (iI (w32 x)):=by
 refine pJ Ka ?_;simp only[Ka,qM,go_sem];exact qN rfl (by rw[qLP])
theorem qiO{k a b:Int}:Pure Gm 1118 [iI k,iI a,iI b] (iI (opI k a b)):=by
 refine pJ UY ?_;simp only[UY,qM,go_sem];refine qI WG ?_;simp only[go_sem];refine qI WG ?_;simp only[go_sem];unfold opI;apply qU<;>intro hc<;>simp only[hc,go_sem]
 ·rw[iP (odT hc)];refine qI WG ?_;simp only[go_sem];exact qN rfl rfl
 rw[iN (odF hc)];apply qU<;>intro hc<;>simp only[hc,go_sem]
 ·rw[iP (odT hc)];refine qI WG ?_;simp only[go_sem];exact qN rfl rfl
 rw[iN (odF hc)];apply qU<;>intro hc<;>simp only[hc,go_sem]
 ·rw[iP (odT hc)];refine qI WG ?_;simp only[go_sem];exact qN rfl rfl
 rw[iN (odF hc)];apply qU<;>intro hc<;>simp only[hc,go_sem]
 ·rw[iP (odT hc)];apply qU<;>intro hc<;>simp only[hc,go_sem]
  ·rw[iP (odT hc)];exact qN rfl rfl
  rw[iN (odF hc)];have hq:=odF hc;simp only[iN hq,go_sem];refine qI WG ?_;simp only[go_sem];exact qN rfl rfl
 rw[iN (odF hc)];apply qU<;>intro hc<;>simp only[hc,go_sem]
 ·rw[iP (odT hc)];refine qI QT ?_;simp only[go_sem];exact qN rfl (by simp)
 rw[iN (odF hc)];apply qU<;>intro hc<;>simp only[hc,go_sem]
 ·rw[iP (odT hc)];refine qI QT ?_;simp only[go_sem];exact qN rfl (by simp)
 rw[iN (odF hc)];exact qN rfl rfl
theorem qoN{k a b:Int}: -2147483648<=opI k a b/\opI k a b<=2147483647:=by
 have hw:∀n:Int,-2147483648<=w32 n/\w32 n<=2147483647:=λn=>by
  have h3: -2147483648<=IntKind.i32.wrap n/\IntKind.i32.wrap n<=2147483647:=by
   simp only[IntKind.wrap,IntKind.bits,IntKind.signed,Bool.true_and,dTe,Nat.reduceSub,Int.reducePow,ge_iff_le];split<;>constructor<;>omega
  rw[qLP,wsA];exact h3
 unfold opI
 repeat' split
 all_goals first
  | exact hw _
  | omega
theorem Zt{ka la kb lb:Int}:(zL ka la kb lb=1->ka=2/\kb=3)/\(zL ka la kb lb=2->ka=4/\kb=4)/\(zL ka la kb lb=3->ka=4)/\(zL ka la kb lb=4->ka=5)/\(zL ka la kb lb=5->ka=6/\(kb=7\/kb=8))/\
  (zL ka la kb lb=6->(ka=6/\kb=11)\/(ka=9/\kb=10))/\(zL ka la kb lb=7->ka=12/\WT kb=true)/\0<=zL ka la kb lb/\zL ka la kb lb<=7:=by
 unfold zL
 repeat' split
 all_goals (simp_all<;>omega)
theorem Je{x:qB}(h:qg x=true):(x.P.length:Int)=jg x.K (fieldsOf x)/\0<x.P.length:=by
 unfold qg at h;simp only[bAt,dTe]at h;omega
theorem qCF{x:qB}(h:qg x=true)(hk:x.K=5\/x.K=6\/x.K=12):x.P.length=1:=by
 have:=(Je h).1;unfold fieldsOf jg at this;rcases hk with e | e | e<;>rw[e]at this<;>simp at this<;>omega
theorem qIZ{x:qB}(h:qg x=true)(hk:x.K=8\/x.K=10\/x.K=11):x.P.length=2:=by
 have:=(Je h).1;unfold fieldsOf jg at this;rcases hk with e | e | e<;>rw[e]at this<;>simp at this<;>omega
theorem VX{x:qB}(h:qg x=true)(hk:x.K=2\/x.K=3\/x.K=4\/x.K=7):x.P.length=3:=by
 have:=(Je h).1;unfold fieldsOf jg at this;rcases hk with e | e | e | e<;>rw[e]at this<;>simp at this<;>omega
theorem wT{x:qB}(h:qg x=true):x.P.length<=4:=by
 have h1:=(Je h).1;have:jg x.K (fieldsOf x)<=4:=by
  unfold jg;split
  ·split
   ·rename_i q;rw[Jq]at q;omega
   ·omega
  ·split
   ·omega
   ·repeat' split
    all_goals omega
 omega
theorem qj0{x y:qB}(hx:qg x=true)(hy:qg y=true)(k1:x.K≠1)(k2:y.K≠1)(hf:zr x.K x.L y.K y.L≠2)(h8:za x y≠8):
  zL x.K x.L y.K y.L=za x y/\za x y≠0/\¬(x.K=9/\y.K=10/\(y.D.length:Int)<=x.V):=by
 have e:=qFR hx hy hf;have n1:¬(x.K=9/\y.K=10/\(y.D.length:Int)<=x.V):=λq=>h8 (by rw[e,iP q]);rw[iN n1]at e;have hp:jx x.K x.L y.K y.L=true:=by unfold jx;simp[Jv hx,Jv hy,k1,k2]
 unfold jH at e;rw[iP hp]at e;unfold zr at hf;rw[iP hp]at hf;by_cases q:zL x.K x.L y.K y.L≠0
 ·rw[iP q]at e;exact⟨e.symm,by rw[e];exact q,n1⟩
 ·rw[iN q]at hf e;by_cases q2:zL y.K y.L x.K x.L≠0
  ·rw[iP q2]at hf;exact absurd rfl hf
  ·rw[iN q2]at e;exact absurd e h8
theorem qoE{k l v:Int}(hk:k=5\/k=6\/k=12)(hl:zt k l=true)(hc:z8 (Xo k l v [] 1)=true):qg (Xo k l v [] 1)=true:=by
 unfold qg;rw[hc];simp only[Xo,hl,Bool.and_true,fieldsOf,jg,lLr];rcases hk with e | e | e<;>subst e<;>simp
theorem Zo{x:qB}(h:qg x=true):z8 x=true:=by unfold qg at h;simp only[bAt]at h;exact h.2
theorem qEC{p:Int->Bool}{xs:List Int}(h:xs.all p=true){i:Nat}(hi:i<xs.length):p (xs.getD i 0)=true:=by
 rw[lGd,gEg hi];exact lAt.1 h _ (gMm hi)
theorem qoH{l v:Int}(hl:inI l 0 8=true)(hv:ji v=true):qg (Xo 12 l v [] 1)=true:=
 qoE (.inr (.inr rfl)) (by unfold zt;rw[iP (by decide)];exact hl) (by unfold z8 Xo;simp[hv])
theorem VW{x:qB}(h:qg x=true)(hk:jK x.K=true):inI x.L 0 8=true:=by have:=Jv h;unfold zt at this;rwa[iP hk]at this
theorem qI0{z:qB}{lev base:Int}(h:qg z=true)(h1:jK z.K=true->inI (z.L+lev) 0 8=true):qg (QH lev base z)=true:=by
 unfold qg at*;have e1:fieldsOf (QH lev base z)=fieldsOf z:=by unfold fieldsOf QH;simp
 have e2:z8 (QH lev base z)=z8 z:=by unfold z8 QH;rfl
 rw[e1,e2];simp only[QH,lMp];simp only[bAt]at h|-;refine⟨⟨h.1.1, ?_⟩,h.2⟩;unfold zt at*;by_cases q:jK z.K=true
 ·rw[iP q,iP q];exact h1 q
 ·rw[iN q,iN q];have:=h.1.2;rwa[iN q]at this
theorem qoJ{y:qB}(h:qg y=true)(hk:y.K=11):y.D.length=2/\y.D.all ji=true:=by
 have:=Zo h;unfold z8 at this;rw[hk]at this;simp at this;exact⟨by omega,by simpa using this.2⟩
theorem qoD{y:qB}(h:qg y=true)(hk:y.K=10):y.D.all ji=true:=by
 have:=Zo h;unfold z8 at this;rw[hk]at this;simp at this;simpa using this.2
theorem qoF{x:qB}(h:qg x=true)(hk:x.K=6):inI x.V (-2147483648) 2147483647=true:=by
 have:=Zo h;unfold z8 at this;rw[hk]at this;simp at this;exact this.2
theorem qoC{x:qB}(h:qg x=true)(hk:x.K=9):inI x.V 0 3=true:=by
 have:=Zo h;unfold z8 at this;rw[hk]at this;simp at this;exact this.2
theorem qoI{x:qB}(h:qg x=true)(hk:x.K=12):ji x.V=true:=by
 have:=Zo h;unfold z8 at this;rw[hk]at this;simp at this;exact this.2
def w0:qE:=⟨0,0⟩
def opC(x y:qF):qF:=if y.K=7 then⟨8,y.L,y.V,[x.V],[y.W.getD 1 w0]⟩else⟨6,0,opI y.V (y.D.getD 0 0) x.V,[],[]⟩
def ju(m:qG)(x y:qF):qG×List qn:=(qR m (opC x y),[⟨y.W.getD 0 w0,awI m.F⟩])
def chD(x y:qF):Int:=if y.K=10 then y.D.getD x.V.toNat 0 else if x.V=0 then y.D.getD 1 0 else y.D.getD 0 0
def w9(x y:qF):qF:=⟨12,y.L,chD x y,[],[]⟩
def j6(y:qF):qF:=⟨3,y.L,0,[],[]⟩
def chA(m:qG)(x y:qF):Nat->qG×List Int
 | 0=>(qR m (w9 x y),[])
 | i+1=>(qR (chA m x y i).1 (j6 y),(chA m x y i).2++[(chA m x y i).1.F])
def nxW(y:qF)(apps:List Int)(i:Nat):qE:=match apps[i+1]? with
 | some a=>awI a
 | none=>y.W.getD 0 w0
def chB(x y:qF)(apps:List Int)(m:qG):Nat->qG
 | 0=>m
 | i+1=>qr (chB x y apps m i) (apps.getD i 0) [x.W.getD i w0,nxW y apps i]
def chM(m:qG)(x y:qF):qG×List qn:=
 if x.W=[]then(qR m (w9 x y),[⟨y.W.getD 0 w0,awI m.F⟩])
 else(wk (chB x y (chA m x y x.W.length).2 (chA m x y x.W.length).1 x.W.length) m.F ((chA m x y x.W.length).2.getD 0 0),[])
section
variable {P Q:List qE} {O:Nat->Bool} {k j:Nat} {c c' x y:qF} {m m':qG}
theorem Z3{ws:List qE}(h:ws.length=1):ws=[ws.getD 0 w0]:=by
 match ws,h with
 |[a],_=>rfl
theorem Qp{ws:List qE}(h:ws.length=2):ws=[ws.getD 0 w0,ws.getD 1 w0]:=by
 match ws,h with
 |[a,b],_=>rfl
theorem qoO(h:MM m (y.W++P) O)(hf:0<nF m.C)(hyF:zi y)(hy:y.K=7/\y.W.length=2\/y.K=8/\y.W.length=1)(hx:inI x.V (-2147483648) 2147483647=true):MM (ju m x y).1 (lws (ju m x y).2++P) O/\(ju m x y).1.C.length=m.C.length:=by
 have hya:qx y.K=true:=by rcases hy with⟨q,_⟩ | ⟨q,_⟩<;>rw[q]<;>rfl
 have fy:=agf hya hyF;rcases hy with⟨hk,hl⟩ | ⟨hk,hl⟩
 ·have eo:opC x y=⟨8,y.L,y.V,[x.V],[y.W.getD 1 w0]⟩:=by unfold opC;rw[iP hk]
  have hF:zi (opC x y):=by
   rw[eo];refine .inl ⟨rfl, ?_⟩;simp[qY,qg,hk,hl,jg,fieldsOf,zt,jK,z8]at fy|-;exact⟨fy.1,fy.2.2,hx⟩
  have h2:MM m ((opC x y).W++(y.W.getD 0 w0::P)) O:=by
   rw[eo];rw[Qp hl]at h;exact MI.perm h (List.Perm.swap _ _ _)
  obtain⟨k,k1,k2,k3⟩:=X9 h2 hf (by rw[eo];rfl) hF;refine⟨?_,k2.len⟩;unfold ju;simp only[k2.fr,lws];exact MI.perm k3 (List.Perm.swap _ _ _)
 ·have eo:opC x y=⟨6,0,opI y.V (y.D.getD 0 0) x.V,[],[]⟩:=by unfold opC;rw[iN (by omega)]
  have hF:zi (opC x y):=by
   rw[eo];refine .inl ⟨rfl, ?_⟩;have:=qoN (k:=y.V) (a:=y.D.getD 0 0) (b:=x.V);simp[qY,qg,jg,fieldsOf,zt,jK,z8,JM,inI]at this|-;exact this
  have h2:MM m ((opC x y).W++(y.W.getD 0 w0::P)) O:=by
   rw[eo];rw[Z3 hl]at h;exact h
  obtain⟨k,k1,k2,k3⟩:=X9 h2 hf (by rw[eo];rfl) hF;refine⟨?_,k2.len⟩;unfold ju;simp only[k2.fr,lws];exact MI.perm k3 (List.Perm.swap _ _ _)
def inO(O:Nat->Bool)(ks:List Nat):Nat->Bool:=λi=>decide (i∈ks) || O i
theorem Y0:inO O []=O:=by funext i;simp[inO]
theorem qHH{ks:List Nat}:opO (inO O ks) k=inO O (ks++[k]):=by
 funext i;unfold opO inO;by_cases q:i=k<;>simp[q]
theorem qHG{ks:List Nat}(hn:k∉ks)(ho:O k=false):clO (inO O (k::ks)) k=inO O ks:=by
 funext i;unfold clO inO;by_cases q:i=k
 ·subst q;simp[hn,ho]
 ·simp[q]
structure ChI(m0:qG)(x y:qF)(P:List qE)(O:Nat->Bool)(r:Nat)(ks:List Nat)(s:qG×List Int)(i:Nat):Prop where
 mm:MM s.1 (aW r::ks.map aW++P) (inO O ks)
 ap:s.2=ks.map λk:Nat=>(k:Int)
 len:ks.length=i
 nd:ks.Nodup
 no:∀k∈ks,O k=false
 at':∀k∈ks,s.1.C[k]?=some (j6 y)
 nf:nF m0.C=nF s.1.C+1+i
 cl:s.1.C.length=m0.C.length
theorem qAW(h:MM m P O)(hr:zi (w9 x y)):∀i,1+i<=nF m.C->∃r ks,m.F=(r:Nat)/\ChI m x y P O r ks (chA m x y i) i:=by
 intro i
 induction i with
 | zero=>
  intro hf;obtain⟨r,r1,r2,r3⟩:=X9 (c:=w9 x y) (P:=P) h (by omega) rfl hr;have n1:=r2.nf (by simp[w9]);exact⟨r,[],r2.fr,by rw[Y0];exact r3,rfl,rfl,List.nodup_nil,λk hk=>(by cases hk),λk hk=>(by cases hk),by simp only[chA];omega,r2.len⟩
 | succ i ih=>
  intro hf;obtain⟨r,ks,e0,I⟩:=ih (by omega);have:=I.nf;obtain⟨k,k1,k2,k3⟩:=Qo (c:=j6 y) I.mm (by omega) rfl;have n1:=k2.nf (by simp[j6]);have hk:k∉ks/\O k=false:=by
   unfold inO at k1;simpa using k1
  refine⟨r,ks++[k],e0, ?_, ?_,by simp[I.len], ?_, ?_, ?_, ?_, ?_⟩
  ·rw[<-qHH];refine MI.perm k3 ?_;rw[List.perm_iff_count];intro a;simp only[lMa,lMc,List.map_nil,List.count_append,List.count_cons,List.count_nil,lCa];omega
  ·simp only[chA];rw[I.ap,k2.fr];simp
  ·rw[List.nodup_append];refine⟨I.nd,by simp, ?_⟩;intro a ha b hb;simp only[lMg]at hb;subst hb;rintro rfl;exact hk.1 ha
  ·intro a ha;rcases jL.1 ha with ha | ha
   ·exact I.no a ha
   ·simp only[lMg]at ha;subst ha;exact hk.2
  ·intro a ha;simp only[chA];rcases jL.1 ha with ha | ha
   ·exact(k2.keep (I.at' a ha) (by simp[j6])).1
   ·simp only[lMg]at ha;subst ha;exact k2.new
  ·simp only[chA];omega
  ·simp only[chA];rw[k2.len,I.cl]
theorem appF(hl:zt 3 y.L=true){a b:qE}:zi {j6 y with W:=[a,b]}:=by
 refine .inl ⟨rfl, ?_⟩;simp[qY,j6,qg,jg,fieldsOf,z8];exact hl
theorem qFF{r:Nat}{ks:List Nat}{m0:qG}{s:qG×List Int}{n:Nat}(hn:x.W.length=n)(h0:0<n)(hl:zt 3 y.L=true)(I:ChI m0 x y (x.W++y.W.getD 0 w0::P) O r ks s n):∀i,i<=n->∃a,ks[0]?=some a/\MM (chB x y s.2 s.1 i) (aW r::aW a::((ks.drop (i+1)).map aW++(x.W.drop i++((if i<n then [y.W.getD 0 w0]else [])++P)))) (inO O (ks.drop i))/\(∀k∈ks.drop i,(chB x y s.2 s.1 i).C[k]?=some (j6 y))/\(chB x y s.2 s.1 i).C.length=m0.C.length:=by
 obtain⟨mm,ap,len,nd,no,at',nf,cl⟩:=I;obtain⟨a,kr,rfl⟩:∃a kr,ks=a::kr:=by cases ks with | nil=>simp at len;omega | cons a kr=>exact⟨a,kr,rfl⟩
 intro i
 induction i with
 | zero=>
  intro _;refine⟨a,rfl, ?_,λk hk=>at' k (by simpa using hk),cl⟩;rw[iP h0];refine MI.perm mm ?_;rw[List.perm_iff_count];intro b;simp only[chB,lMc,List.count_append,List.count_cons,List.count_nil,lCa,List.drop_succ_cons,List.drop_zero];omega
 | succ i ih=>
  intro hi;obtain⟨a',e1,g1,g2,g3⟩:=ih (by omega);have hik:i<(a::kr).length:=by omega
  have hix:i<x.W.length:=by omega
  have hda:(a::kr).drop i=(a::kr)[i]::(a::kr).drop (i+1):=lDc hik;have hdx:x.W.drop i=x.W[i]::x.W.drop (i+1):=lDc hix;generalize hki:(a::kr)[i]=ki at hda;have hki':(a::kr)[i]?=some ki:=by rw[gEg hik,hki]
  have hc:=g2 ki (by rw[hda];exact .head _);have hgd:s.2.getD i 0=(ki:Int):=by
   rw[ap];simp only[List.getD,gMp,hki',oMs,Option.getD_some]
  have hxd:x.W.getD i w0=x.W[i]:=by simp[List.getD,gEg hix]
  have hdn:((a::kr).drop i).Nodup:=nd.sublist (List.drop_sublist ..);rw[hda,List.nodup_cons]at hdn;have hki_no:O ki=false:=no ki (lMo hki');refine⟨a',e1, ?_⟩;rw[chB,hgd,hxd];have hop:inO O ((a::kr).drop i) ki=true:=by rw[hda];simp[inO]
  --the words that it takes
  have key:∃P',(aW r::aW a'::(((a::kr).drop (i+1)).map aW++(x.W.drop i++((if i<n then [y.W.getD 0 w0]else [])++P)))).Perm ([x.W[i],nxW y s.2 i]++P')/\P'=aW r::aW a'::(((a::kr).drop (i+1+1)).map aW++(x.W.drop (i+1)++((if i+1<n then [y.W.getD 0 w0]else [])++P))):=by
   refine⟨_, ?_,rfl⟩;rw[hdx,iP (by omega)];by_cases q:i+1<n
   ·have hq:i+1<(a::kr).length:=by omega
    have hd2:(a::kr).drop (i+1)=(a::kr)[i+1]::(a::kr).drop (i+1+1):=lDc hq;have hnx:nxW y s.2 i=aW (a::kr)[i+1]:=by
     unfold nxW;rw[ap,gMp,gEg hq];rfl
    rw[iP q,hnx,hd2,List.perm_iff_count];intro b;simp only[lMc,List.count_append,List.count_cons,List.count_nil,lCa];omega
   ·have hd2:(a::kr).drop (i+1)=[]:=List.drop_eq_nil_of_le (by omega);have hd3:(a::kr).drop (i+1+1)=[]:=List.drop_eq_nil_of_le (by omega);have hnx:nxW y s.2 i=y.W.getD 0 w0:=by
     unfold nxW;rw[ap,gMp,gEn (by omega)];rfl
    rw[iN q,hnx,hd2,hd3,List.perm_iff_count];intro b;simp only[List.map_nil,List.count_append,List.count_cons,List.count_nil,lCa];omega
  obtain⟨P',p1,p2⟩:=key;obtain⟨q1,q2,q3⟩:=Xu (k:=ki) (c:=j6 y) (MI.perm g1 p1) hc hop (appF hl);refine⟨?_,λk hk=>?_,by rw[q3,g3]⟩
  ·rw[hda,qHG hdn.1 hki_no,p2]at q1;exact q1
  ·have hkk:k≠ki:=by rintro rfl;exact hdn.1 hk
   rw[jv hc];simp only;rw[zb hkk];exact g2 k (by rw[hda];exact .tail _ hk)
theorem qjW(h:MM m (x.W++y.W++P) O)(hf:1+x.W.length<=nF m.C)(hyw:y.W.length=1)(hr:zi (w9 x y))(hl:zt 3 y.L=true):MM (chM m x y).1 (lws (chM m x y).2++P) O/\(chM m x y).1.C.length=m.C.length:=by
 rw[Z3 hyw]at h;unfold chM;by_cases hx:x.W=[]
 ·rw[iP hx];rw[hx]at h;obtain⟨r,r1,r2,r3⟩:=X9 (c:=w9 x y) (P:=y.W.getD 0 w0::P) h (by omega) rfl hr;refine⟨?_,r2.len⟩;simp only[r2.fr,lws];exact MI.perm r3 (List.Perm.swap _ _ _)
 ·rw[iN hx];have hpos:0<x.W.length:=List.length_pos_iff.2 hx;have h':MM m (x.W++y.W.getD 0 w0::P) O:=by
   refine MI.perm h ?_;simp
  obtain⟨r,ks,e0,I⟩:=qAW (x:=x) (y:=y) h' hr x.W.length (by omega);obtain⟨a,e1,g1,g2,g3⟩:=qFF (x:=x) (P:=P) rfl hpos hl I x.W.length (nLr _);have hgd:(chA m x y x.W.length).2.getD 0 0=(a:Int):=by
   rw[I.ap];simp only[List.getD,gMp,e1,oMs,Option.getD_some]
  rw[hgd,e0];rw[List.drop_eq_nil_of_le (show ks.length<=x.W.length+1 by have:=I.len;omega),List.drop_eq_nil_of_le (show ks.length<=x.W.length by have:=I.len;omega),iN (by omega),List.drop_length,Y0]at g1;have:=(MI.redex (a:=r) (b:=a) g1).2;exact⟨this,g3⟩
end
section
variable {m:qG} {a b:Int} {c d:qF} {ws u v:List qE} {i j k:Nat}
theorem qAR(h:a.toNat≠b.toNat):zZ (qr m a ws) b=zZ m b:=by
 unfold zZ qr;simp only;rw[gSn h]
theorem qjS(h:m.F.toNat≠b.toNat):zZ (qR m c) b=zZ m b:=by
 unfold zZ qR;simp only;rw[gSn h]
theorem YC(h:m.F.toNat≠a.toNat):qR (qr m a ws) c=qr (qR m c) a ws:=by
 have e1:zZ (qr m a ws) m.F=zZ m m.F:=qAR (Ne.symm h);have e2:zZ (qR m c) a=zZ m a:=qjS h;have e3:(qr m a ws).F=m.F:=rfl
 conv=>lhs;rw[qR,e3,e1]
 conv=>rhs;rw[qr,e2]
 simp only[qr,qR];rw[List.set_comm _ _ (Ne.symm h)]
theorem qCR(h:a.toNat≠b.toNat):qr (qr m a u) b v=qr (qr m b v) a u:=by
 have e1:zZ (qr m a u) b=zZ m b:=qAR h;have e2:zZ (qr m b v) a=zZ m a:=qAR (Ne.symm h)
 conv=>lhs;rw[qr,e1]
 conv=>rhs;rw[qr,e2]
 simp only[qr];rw[List.set_comm _ _ h]
theorem qCS:qr (qr m a u) a v=qr m a v:=by
 by_cases h:a.toNat<m.C.length
 ·have e:zZ (qr m a u) a={zZ m a with W:=u}:=by
   unfold zZ qr;simp only;rw[gSs h];rfl
  conv=>lhs;rw[qr,e]
  simp only[qr,List.set_set]
 ·have e:∀(x:qF),m.C.set a.toNat x=m.C:=λx=>List.set_eq_of_length_le (by omega);simp only[qr,e]
theorem Xt:(qr m a ws).F=m.F:=rfl
theorem qo8:(qr m a ws).C.length=m.C.length:=by simp[qr]
theorem qCT(h:m.C[k]?=some c):(qr m (k:Int) ws).C[k]?=some {c with W:=ws}:=by
 rw[jv h];exact jQ h
theorem Zq(h:j≠k):(qr m (k:Int) ws).C[j]?=m.C[j]?:=by
 unfold qr;simp only[iTn];exact zb h
def two(m:qG)(ck dk:Nat)(us vs:List qE):qG:=qr (qr m (ck:Int) us) (dk:Int) vs
theorem Wx{ck dk f:Nat}{us vs:List qE}(hf:m.F=(f:Int))(h1:f≠ck)(h2:f≠dk):qR (two m ck dk us vs) c=two (qR m c) ck dk us vs:=by
 unfold two;rw[YC (by rw[Xt,hf];simpa using h2),YC (by rw[hf];simpa using h1)]
theorem qLJ{ck dk f:Nat}{us vs:List qE}(h1:f≠ck)(h2:f≠dk):qr (two m ck dk us vs) (f:Int) ws=two (qr m (f:Int) ws) ck dk us vs:=by
 unfold two;rw[qCR (a:=(dk:Int)) (b:=(f:Int)) (by simpa using Ne.symm h2),qCR (a:=(ck:Int)) (b:=(f:Int)) (by simpa using Ne.symm h1)]
theorem qLF{ck dk:Nat}{us vs:List qE}(h:ck≠dk):qr (two m ck dk us vs) (ck:Int) ws=two m ck dk ws vs:=by
 unfold two;rw[qCR (a:=(dk:Int)) (b:=(ck:Int)) (by simpa using Ne.symm h),qCS]
theorem qLH{ck dk:Nat}{us vs:List qE}:qr (two m ck dk us vs) (dk:Int) ws=two m ck dk us ws:=by
 unfold two;rw[qCS]
theorem ZT{ck dk f:Nat}{us vs:List qE}(h1:f≠ck)(h2:f≠dk):(two m ck dk us vs).C[f]?=m.C[f]?:=by
 unfold two;rw[Zq h2,Zq h1]
theorem qLG{ck dk:Nat}{us vs:List qE}(h:ck≠dk)(hc:m.C[ck]?=some c):(two m ck dk us vs).C[ck]?=some {c with W:=us}:=by
 unfold two;rw[Zq h,qCT hc]
theorem qLI{ck dk:Nat}{us vs:List qE}(h:ck≠dk)(hd:m.C[dk]?=some d):(two m ck dk us vs).C[dk]?=some {d with W:=vs}:=by
 unfold two;exact qCT (by rw[Zq (Ne.symm h)];exact hd)
end
def ovC(g:Nat->Option (List qE))(k:Nat)(c:qF):qF:=match g k with
 | some ws=>{c with W:=ws}
 | none=>c
def ovM(m:qG)(g:Nat->Option (List qE)):qG:={m with C:=m.C.mapIdx (ovC g)}
def ZU(g:Nat->Option (List qE))(k:Nat)(ws:List qE)(j:Nat):Option (List qE):=if j=k then some ws else g j
section
variable {m:qG} {g g':Nat->Option (List qE)} {c d:qF} {k f:Nat} {ws u:List qE}
theorem Jf:(ovM m g).C[k]?=(m.C[k]?).map (ovC g k):=by simp[ovM,List.getElem?_mapIdx]
theorem qoS:(ovC g k c).V=c.V:=by unfold ovC;split<;>rfl
theorem qoR:(ovC g k c).K=c.K:=by unfold ovC;split<;>rfl
theorem VZ(h:g k=none):ovC g k c=c:=by unfold ovC;rw[h]
theorem Xq(h:g k=some ws):ovC g k c={c with W:=ws}:=by unfold ovC;rw[h]
theorem qCI:(ovM m g).C.length=m.C.length:=by simp[ovM]
theorem qCJ:ovM m (λ_=>none)=m:=by
 have:m.C.mapIdx (ovC λ_=>none)=m.C:=List.ext_getElem? λj=>by
  rw[List.getElem?_mapIdx];cases m.C[j]?<;>rfl
 unfold ovM;rw[this]
theorem WH{a b:qG}(h:∀j:Nat,a.C[j]?=b.C[j]?)(h1:a.F=b.F)(h2:a.O=b.O)(h3:a.R=b.R):a=b:=by
 obtain⟨a1,a2,a3,a4⟩:=a;obtain⟨b1,b2,b3,b4⟩:=b;have:a1=b1:=List.ext_getElem? h;simp only at h1 h2 h3;rw[this,h1,h2,h3]
theorem qCK(hf:m.F=(f:Int))(hg:g f=none):qR (ovM m g) c=ovM (qR m c) g:=by
 refine WH (λj=>?_) ?_ rfl rfl
 ·have e:(qR m c).C=m.C.set f c:=by unfold qR;rw[hf];rfl
  have e2:(qR (ovM m g) c).C=(ovM m g).C.set f c:=by unfold qR;rw[show (ovM m g).F=(f:Int)from hf];rfl
  rw[Jf,e,e2];by_cases q:j=f
  ·subst q;by_cases l:j<m.C.length
   ·rw[gSs (by rw[qCI];exact l),gSs l,oMs,VZ hg]
   ·rw[gEn (by rw[lLs,qCI];omega),gEn (by rw[lLs];omega)];rfl
  ·rw[gSn (Ne.symm q),gSn (Ne.symm q),Jf]
 ·show (zZ (ovM m g) m.F).V=(zZ m m.F).V;unfold zZ;rw[Jf];cases m.C[m.F.toNat]? with
  | none=>rfl
  | some d=>exact qoS
theorem Wk(hc:m.C[k]?=some c):qr (ovM m g) (k:Int) ws=ovM m (ZU g k ws):=by
 have h1:(ovM m g).C[k]?=some (ovC g k c):=by rw[Jf,hc];rfl
 rw[jv h1];refine WH (λj=>?_) rfl rfl rfl;rw[Jf];by_cases q:j=k
 ·subst q;have e:({ovC g j c with W:=ws}:qF)={c with W:=ws}:=by unfold ovC;split<;>rfl
  simp only;rw[jQ h1,hc,oMs,Xq (g:=ZU g j ws) (ws:=ws) (iP rfl),e]
 ·simp only;rw[zb q,Jf];have:ovC (ZU g k ws) j=ovC g j:=by funext c;unfold ovC;rw[show ZU g k ws j=g j from iN q]
  rw[this]
end
section
variable {R:Nat->Bool} {bk:List qD} {N:Ags} {a b:Nat} {x y:qB}
theorem YD(hb:z5 bk=true){v:Int}(h0:0<=v)(h:v<bk.length):qk (qt bk v)=true:=by
 unfold z5 at hb;simp only[bAt]at hb;have hv:v.toNat<bk.length:=by omega
 unfold qt;rw[gEg hv];exact lAt.1 hb.2 _ (gMm hv)
theorem ql4:∀{xs:Ags}{x:qB},x∈xs->x.L<=hiI xs:=by
 have key:∀(xs:Ags)(m:Int),m<=xs.foldl (λm x=>if x.L<m then m else x.L) m/\∀x∈xs,x.L<=xs.foldl (λm x=>if x.L<m then m else x.L) m:=by
  intro xs
  induction xs with
  | nil=>intro m;exact⟨Int.le_refl _,by simp⟩
  | cons y ys ih=>
   intro m;simp only[List.foldl_cons];have hm:m<=(if y.L<m then m else y.L)/\y.L<=(if y.L<m then m else y.L):=by split<;>omega
   obtain⟨h1,h2⟩:=ih (if y.L<m then m else y.L);refine⟨Int.le_trans hm.1 h1,λx hx=>?_⟩;rcases mCo.1 hx with rfl | q
   ·exact Int.le_trans hm.2 h1
   ·exact h2 x q
 intro xs x hx;exact(key xs 0).2 x hx
theorem ql3{xs:Ags}(h:∀x∈xs,0<=x.L/\x.L<=8):0<=hiI xs/\hiI xs<=8:=by
 have key:∀(xs:Ags)(m:Int),0<=m->m<=8->(∀x∈xs,0<=x.L/\x.L<=8)->0<=xs.foldl (λm x=>if x.L<m then m else x.L) m/\xs.foldl (λm x=>if x.L<m then m else x.L) m<=8:=by
  intro xs
  induction xs with
  | nil=>intro m h1 h2 _;exact⟨h1,h2⟩
  | cons y ys ih=>
   intro m h1 h2 h3;have:=h3 y (by simp);have hm:0<=(if y.L<m then m else y.L)/\(if y.L<m then m else y.L)<=8:=by split<;>omega
   exact ih _ hm.1 hm.2 λx hx=>h3 x (by simp[hx])
 exact key xs 0 (by omega) (by omega) h
theorem Jw{x:qB}(h:qg x=true):0<=x.L/\x.L<=8:=by
 have:=Jv h;unfold zt at this;split at this
 ·rwa[Jq]at this
 ·simp at this;omega
end
section
variable {R:Nat->Bool} {bk:List qD} {N:Ags} {a b:Nat} {x y:qB} {t:qD} {lev:Int}
theorem Jh(ht:qk t=true){z:qB}(hz:t.G[0]?=some z):z.P.length=1:=by
 obtain⟨q1,q2⟩:=gSi.1 hz;have k:=(Xn ht 0 q1).2 rfl;rw[q2]at k;have:=(Je (Jd ht hz)).1;unfold fieldsOf jg at this;rw[k]at this;simp at this;omega
theorem Jy(ht:qk t=true):∃c r,qK t.G (pt 0 0)=pt (c+1) r/\atP t.G 0 0=some (pt (c+1) r)/\atP t.G (c+1) r=some (pt 0 0)/\c+1<t.G.length:=by
 have h0:=jf ht;have hz:t.G[0]?=some t.G[0]:=gEg h0;have hp:=Jh ht hz;obtain⟨c,r,e1,e2,e3,_,e5,e6⟩:=(wR ht).live (a:=0) (s:=0) (jI.2 ⟨_,hz,by omega⟩) id;cases c with
 | zero=>
  have:=e3.in hz;obtain rfl:r=0:=by omega
  exact absurd ⟨rfl,rfl⟩ e6
 | succ c=>exact⟨c,r,e1,e2,e5,qh9 e5⟩
end
structure zN where
 A:qH
 B:qH
def zN.enc(x:zN):AV:=.agg [iI x.A.N,iI x.A.S,iI x.B.N,iI x.B.S]
theorem zN.isSh:Sh zN.enc 4 (some 4):=⟨λx=>by simp[zN.enc,AV.tree,AV.trees],λ_=>rfl,λ_=>rfl,by decide,λx=>by simp[zN.enc]⟩
section
variable {x:zN}
@[go_sem] theorem zN.tr:x.enc.tree=true:=zN.isSh.tree x
@[go_sem] theorem zN.ln:x.enc.cells.length=4:=nr rfl
@[go_sem] theorem zN.all:x.enc.part 0 (some 4)=some x.enc:=nr rfl
@[go_sem] theorem zN.q0:x.enc.part 0 (some 2)=some (qH.enc x.A):=nr rfl
@[go_sem] theorem zN.q2:x.enc.part 2 (some 2)=some (qH.enc x.B):=nr rfl
end
def bef(p q:qH):Bool:=decide (p.N<q.N) || (decide (p.N=q.N)&&decide (p.S<q.S))
def wrs(xs:List qB)(ps:List qH):List zN:=(ps.filter λp=>bef p (qK xs p)).map λp=>⟨p,qK xs p⟩
def qq(xs:List qB):List zN:=wrs xs (qo xs xs.length)
theorem Z4{xs:List qB}{a b:List qH}:wrs xs (a++b)=wrs xs a++wrs xs b:=by simp[wrs]
theorem UL{xs:List qB}{a:List qH}:(wrs xs a).length<=a.length:=by rw[wrs,lMp];exact List.length_filter_le ..
theorem YJ{xs:List qB}{p:qH}:wrs xs [p]=if bef p (qK xs p)=true then [⟨p,qK xs p⟩]else []:=by
 unfold wrs;cases h:bef p (qK xs p)<;>simp[h]
theorem qB6{xs:List qB}{a s:Nat}(h:Has xs a s):∀{i:Nat},a<i->i<=xs.length->pt a s∈qo xs i
 | 0,h0,_=>by omega
 | i+1,h1,h2=>by
  rw[qo];by_cases e:a=i
  ·subst e;obtain⟨x,hx,hs⟩:=jI.1 h;refine List.mem_append_right _ ?_;have:zw xs (a:Int)=x.P.length:=by simp[zw,hx]
   rw[this];exact List.mem_map.2 ⟨s,lMr.2 hs,rfl⟩
  ·exact List.mem_append_left _ (qB6 h (by omega) (by omega))
theorem qq8{n:qD}(ok:qk n=true):qq n.G≠[]:=by
 obtain⟨c,r,e1,e2,e3,e4⟩:=Jy ok;have hm:=qB6 (xs:=n.G) (a:=0) (s:=0) ⟨_,e2⟩ (i:=n.G.length) (by omega) (nLr _);have hb:bef (pt 0 0) (qK n.G (pt 0 0))=true:=by
  rw[e1];simp only[bef,pt,Bool.or_eq_true,dTe];exact .inl (by omega)
 have:(⟨pt 0 0,qK n.G (pt 0 0)⟩:zN)∈qq n.G:=List.mem_map.2 ⟨pt 0 0,mFi.2 ⟨hm,hb⟩,rfl⟩;intro h;rw[h]at this;cases this
def agC(lev:Int)(x:qB):qF:=⟨x.K,if jK x.K=true then x.L+lev else x.L,x.V,x.D,List.replicate (x.P.length-1) w0⟩
def tkA(lev:Int)(N:List qB)(m:qG):Nat->qG×List Int
 | 0=>(m,[])
 | i+1=>match N[i+1]? with
  | some x=>(qR (tkA lev N m i).1 (agC lev x),(tkA lev N m i).2++[(tkA lev N m i).1.F])
  | none=>tkA lev N m i
def tkV(m:qG):Nat->qG×List Int
 | 0=>(m,[])
 | i+1=>(qR (tkV m i).1 (qX []),(tkV m i).2++[(tkV m i).1.F])
def nI2(ks:List Nat):List Int:=ks.map λk:Nat=>(k:Int)
theorem JZ{k:Int}(h:qx k=true):k≠0:=by
 rintro rfl;cases h
section
variable {P:List qE} {O:Nat->Bool} {m m0:qG} {lev:Int} {N:List qB}
structure TkI(m0:qG)(N:List qB)(lev:Int)(P:List qE)(O:Nat->Bool)(ks:List Nat)(s:qG×List Int)(i:Nat):Prop where
 at':s.2=nI2 ks
 len:ks.length=i
 nd:ks.Nodup
 new:∀k∈ks,O k=false
 mm:MM s.1 (ks.map aW++P) (inO O ks)
 cell:∀(j k:Nat)(x:qB),ks[j]?=some k->N[j+1]?=some x->s.1.C[k]?=some (agC lev x)
 nf:nF m0.C=nF s.1.C+i
 cl:s.1.C.length=m0.C.length
 root:s.1.O=m0.O
 rx:s.1.R=m0.R
 keep:∀(k:Nat)(c:qF),m0.C[k]?=some c->c.K≠0->s.1.C[k]?=some c/\k∉ks
theorem YB(h:MM m P O)(hk:∀(i:Nat)(x:qB),N[i+1]?=some x->qx x.K=true):∀i,i<=nF m.C->i+1<=N.length->∃ks,TkI m N lev P O ks (tkA lev N m i) i
 | 0,_,_=>⟨[],rfl,rfl,List.nodup_nil,λk q=>(by cases q),by rw[Y0];exact h,λj k x q=>(by cases q),rfl,rfl,rfl,rfl,λk c q _=>⟨q,by simp⟩⟩
 | i+1,hf,hi=>by
  obtain⟨ks,a1,a2,a3,a4,a5,a6,a7,a8,a9,a10,a11⟩:=YB h hk i (by omega) (by omega);have hx:=gEg (show i+1<N.length by omega);generalize N[i+1]=x at hx;have ag:=hk i x hx;have k0:(agC lev x).K≠0:=JZ ag;obtain⟨k,t1,t2,t3⟩:=Qo (c:=agC lev x) a5 (by omega) ag;have e:tkA lev N m (i+1)=(qR (tkA lev N m i).1 (agC lev x),(tkA lev N m i).2++[(tkA lev N m i).1.F]):=by
   rw[tkA,hx]
  have hkn:k∉ks:=λq=>by simp[inO,q]at t1
  have hko:O k=false:=Bool.eq_false_iff.2 λq=>by simp[inO,q]at t1
  rw[e];refine⟨ks++[k],by simp only[a1,t2.fr,nI2,lMa];rfl,by simp[a2], ?_,λj q=>?_, ?_,λj l y q1 q2=>?_, ?_, ?_, ?_, ?_,λl c q1 q2=>?_⟩
  ·rw[List.nodup_append];exact⟨a3,by simp,λa ha b hb=>by simp only[lMg]at hb;rintro rfl;rw[hb]at ha;exact hkn ha⟩
  ·rcases jL.1 q with q | q
   ·exact a4 j q
   ·rw[lMg.1 q];exact hko
  ·rw[<-qHH];refine MI.perm t3 ?_;rw[lMa,lMc,List.map_nil,lAa];exact(List.perm_middle (a:=aW k) (l₁:=ks.map aW) (l₂:=P)).symm
  ·by_cases q:j<ks.length
   ·rw[gAl q]at q1;exact(t2.keep (a6 j l y q1 q2) (JZ (hk j y q2))).1
   ·have:j=i:=by
     have:=qZ q1;rw[lAp,List.length_singleton]at this;omega
    subst this;rw[gAr (by omega),a2,nSs]at q1;simp only[List.getElem?_cons_zero,oSi]at q1;subst q1;rw[hx]at q2;cases q2;exact t2.new
  ·have:=t2.nf k0;simp only;omega
  ·simp only;rw[t2.len,a8]
  ·simp only;rw[t2.root,a9]
  ·simp only;rw[t2.rx,a10]
  ·obtain⟨b1,b2⟩:=a11 l c q1 q2;obtain⟨b3,b4⟩:=t2.keep b1 q2;exact⟨b3,λq=>(jL.1 q).elim b2 λq=>b4 (lMg.1 q)⟩
structure TkV(m0:qG)(P:List qE)(O:Nat->Bool)(vs:List Nat)(s:qG×List Int)(i:Nat):Prop where
 at':s.2=nI2 vs
 len:vs.length=i
 nd:vs.Nodup
 mm:MM s.1 ((vs.flatMap λv=>[vW v,vW v])++P) O
 cell:∀v∈vs,s.1.C[v]?=some (qX [])
 nf:nF m0.C=nF s.1.C+i
 cl:s.1.C.length=m0.C.length
 root:s.1.O=m0.O
 rx:s.1.R=m0.R
 keep:∀(k:Nat)(c:qF),m0.C[k]?=some c->c.K≠0->s.1.C[k]?=some c/\k∉vs
theorem V2(h:MM m P O):∀i,i<=nF m.C->∃vs,TkV m P O vs (tkV m i) i
 | 0,_=>⟨[],rfl,rfl,List.nodup_nil,h,λv q=>(by cases q),rfl,rfl,rfl,rfl,λk c q _=>⟨q,by simp⟩⟩
 | i+1,hf=>by
  obtain⟨vs,a1,a2,a3,a5,a6,a7,a8,a9,a10,a11⟩:=V2 h i (by omega);obtain⟨k,t1,t2,t3⟩:=YA a5 (by omega);have hkn:k∉vs:=λq=>(t2.keep (a6 k q) (by decide)).2 rfl;refine⟨vs++[k],by simp only[tkV,a1,t2.fr,nI2,lMa];rfl,by simp[a2], ?_, ?_,λv q=>?_, ?_, ?_, ?_, ?_,λl c q1 q2=>?_⟩
  ·rw[List.nodup_append];exact⟨a3,by simp,λa ha b hb=>by simp only[lMg]at hb;rintro rfl;rw[hb]at ha;exact hkn ha⟩
  ·refine MI.perm t3 ?_;rw[List.flatMap_append,List.perm_iff_count];intro a;simp only[List.flatMap_cons,List.flatMap_nil,lAn,List.count_append,List.count_cons,List.count_nil];omega
  ·rcases jL.1 q with q | q
   ·exact(t2.keep (a6 v q) (by decide)).1
   ·rw[lMg.1 q];exact t2.new
  ·have:=t2.nf (show (qX []).K≠0 by decide);simp only[tkV];omega
  ·simp only[tkV];rw[t2.len,a8]
  ·simp only[tkV];rw[t2.root,a9]
  ·simp only[tkV];rw[t2.rx,a10]
  ·obtain⟨b1,b2⟩:=a11 l c q1 q2;obtain⟨b3,b4⟩:=t2.keep b1 q2;exact⟨b3,λq=>(jL.1 q).elim b2 λq=>b4 (lMg.1 q)⟩
end
section
variable {N:Ags} {p q:qH} {a s i:Nat}
def qO(N:Ags):List qH:=qo N N.length
theorem Vh:∀{i:Nat},p∈qo N i->∃a s,p=pt a s/\a<i/\(i<=N.length->Has N a s)
 | 0,h=>by cases h
 | i+1,h=>by
  rw[qo]at h;rcases jL.1 h with h | h
  ·obtain⟨a,s,e1,e2,e3⟩:=Vh h;exact⟨a,s,e1,by omega,λhi=>e3 (by omega)⟩
  ·obtain⟨s,hs,rfl⟩:=List.mem_map.1 h;refine⟨i,s,rfl,by omega,λhi=>?_⟩;have hx:=gEg (show i<N.length by omega);generalize N[i]=x at hx;have:zw N (i:Int)=x.P.length:=by simp[zw,hx]
   rw[this]at hs;exact jI.2 ⟨x,hx,lMr.1 hs⟩
theorem jB:p∈qO N↔∃a s,p=pt a s/\Has N a s:=by
 constructor
 ·intro h;obtain⟨a,s,e1,e2,e3⟩:=Vh h;exact⟨a,s,e1,e3 (nLr _)⟩
 ·rintro⟨a,s,rfl,h⟩;obtain⟨x,hx,hs⟩:=jI.1 h;exact qB6 h (qZ hx) (nLr _)
theorem Xs:∀{i:Nat},(qo N i).Nodup
 | 0=>List.nodup_nil
 | i+1=>by
  rw[qo,List.nodup_append];refine⟨Xs, ?_,λa ha b hb=>?_⟩
  ·unfold zY;rw[List.nodup_iff_pairwise_ne,List.pairwise_map];refine List.Pairwise.imp ?_ List.nodup_range;intro a b h e;simp only[qH.mk.injEq]at e;exact h (by omega)
  ·obtain⟨a',s',e1,e2,_⟩:=Vh ha;obtain⟨s,hs,rfl⟩:=List.mem_map.1 hb;rintro rfl;have:(⟨(i:Int),(s:Int)⟩:qH)=pt i s:=rfl;rw[this]at e1;have:=(QE.1 e1).1;omega
structure Peer(N:Ags)(p:qH):Prop where
 m:qK N p∈qO N
 pp:qK N (qK N p)=p
 ne:qK N p≠p
theorem zu(hW:W N λ_ _=>False)(h:p∈qO N):Peer N p:=by
 obtain⟨a,s,rfl,hs⟩:=jB.1 h;obtain⟨c,k,e1,e2,e3,_,e5,e6⟩:=hW.live hs id;refine⟨jB.2 ⟨c,k,e1,e3⟩,by rw[e1];exact Wl e5, ?_⟩;rw[e1];exact λe=>e6 (QE.1 e)
theorem qo4(hW:W N λ_ _=>False):((qO N).map (qK N)).Perm (qO N):=by
 refine(List.perm_ext_iff_of_nodup ?_ Xs).2 λq=>⟨λh=>?_,λh=>?_⟩
 ·rw[List.nodup_iff_pairwise_ne,List.pairwise_map];refine List.Pairwise.imp_of_mem ?_ (Xs (N:=N) (i:=N.length));intro a b ha hb hne e;have:=congrArg (qK N) e;rw[(zu hW ha).pp,(zu hW hb).pp]at this;exact hne this
 ·obtain⟨p,hp,rfl⟩:=List.mem_map.1 h;exact(zu hW hp).m
 ·exact List.mem_map.2 ⟨qK N q,(zu hW h).m,(zu hW h).pp⟩
theorem qJJ{α:Type}(hW:W N λ_ _=>False)(g:qH->List α):((qO N).flatMap λp=>g (qK N p)).Perm ((qO N).flatMap g):=by
 have h:=(qo4 hW).flatMap_right g;rw[List.flatMap_map]at h;exact h
theorem Zb{p q:qH}(h:p≠q):bef q p= !bef p q:=by
 obtain⟨a,s⟩:=p;obtain⟨b,t⟩:=q;have h2:¬(a=b/\s=t):=λe=>h (by rw[e.1,e.2]);unfold bef;by_cases h1:a<b
 ·simp only[h1,decide_true,Bool.true_or,Bool.not_true,Bool.or_eq_false_iff,decide_eq_false_iff_not,Bool.and_eq_false_iff];exact⟨by omega,.inl (by omega)⟩
 ·by_cases h3:a=b
  ·subst h3;by_cases h4:s<t
   ·have:¬t<s:=by omega
    simp[h4,this]
   ·have:t<s:=by omega
    simp[h4,this]
  ·have:b<a:=by omega
   have h5:¬b=a:=λe=>h3 e.symm;simp[h1,this,h3]
theorem XU{α β:Type}{f g:α->List β}:∀(l:List α),(l.flatMap f++l.flatMap g).Perm (l.flatMap λx=>f x++g x)
 |[]=>.refl _
 | x::l=>by
  simp only[List.flatMap_cons];refine List.Perm.trans ?_ (List.Perm.append_left (f x++g x) (XU l));rw[lAa,lAa];refine List.Perm.append_left _ ?_;rw[<-lAa,<-lAa];exact List.Perm.append_right _ List.perm_append_comm
theorem qHA{α:Type}(hW:W N λ_ _=>False)(c:qH->Bool)(hc:∀p∈qO N,c (qK N p)=c p)(g:qH->List α):
  ((qO N).flatMap λp=>if c p=true then g p else []).Perm ((qO N).flatMap λp=>if c p=true/\bef p (qK N p)=true then g p++g (qK N p)else []):=by
 have h1:((qO N).flatMap λp=>if c p=true then g p else []).Perm (((qO N).flatMap λp=>if c p=true/\bef p (qK N p)=true then g p else [])++((qO N).flatMap λp=>if c p=true/\bef (qK N p) p=true then g p else [])):=by
  have e:∀p∈qO N,(if c p=true then g p else [])=(if c p=true/\bef p (qK N p)=true then g p else [])++(if c p=true/\bef (qK N p) p=true then g p else []):=λp hp=>by
   rw[Zb (p:=p) (q:=qK N p) (zu hW hp).ne.symm];by_cases hc:c p=true
   ·cases hb:bef p (qK N p)<;>simp[hc]
   ·simp[hc]
  have e2:((qO N).flatMap λp=>if c p=true then g p else [])=(qO N).flatMap λp=>(if c p=true/\bef p (qK N p)=true then g p else [])++(if c p=true/\bef (qK N p) p=true then g p else []):=by
   rw[List.flatMap_def,List.flatMap_def,List.map_congr_left e]
  rw[e2];exact(XU _).symm
 have h2:((qO N).flatMap λp=>if c p=true/\bef (qK N p) p=true then g p else []).Perm ((qO N).flatMap λp=>if c p=true/\bef p (qK N p)=true then g (qK N p)else []):=by
  have:=(qJJ hW λp=>if c p=true/\bef (qK N p) p=true then g p else []).symm;refine this.trans ?_;have e:((qO N).flatMap λp=>if c (qK N p)=true/\bef (qK N (qK N p)) (qK N p)=true then g (qK N p)else [])=(qO N).flatMap λp=>if c p=true/\bef p (qK N p)=true then g (qK N p)else []:=by
   rw[List.flatMap_def,List.flatMap_def];congr 1;refine List.map_congr_left λp hp=>?_;rw[hc p hp,(zu hW hp).pp]
  rw[e]
 refine h1.trans ((List.Perm.append_left _ h2).trans ?_);have e:((qO N).flatMap λp=>if c p=true/\bef p (qK N p)=true then g p++g (qK N p)else [])=(qO N).flatMap λp=>(if c p=true/\bef p (qK N p)=true then g p else [])++(if c p=true/\bef p (qK N p)=true then g (qK N p)else []):=by
  rw[List.flatMap_def,List.flatMap_def];congr 1;refine List.map_congr_left λp hp=>?_;split<;>rfl
 rw[e];exact XU _
end
def j9(w:zN):Bool:=decide (0<w.A.S)&&decide (0<w.B.S)
def qf(N:List qB):List zN:=(qq N).filter j9
def atF(b:Nat)(ks:List Nat)(a:Nat):Nat:=(b::ks).getD a 0
structure TOk(N:List qB)(b:Nat)(ks vs:List Nat)(T:qH->qE):Prop where
 t1:∀p∈qO N,0<p.S->(qK N p).S=0->T p=aW (atF b ks (qK N p).N.toNat)
 t2:∀(i:Nat)(w:zN)(v:Nat),(qf N)[i]?=some w->vs[i]?=some v->T w.A=vW v/\T w.B=vW v
 vl:vs.length=(qf N).length
section
variable {N:List qB} {b:Nat} {ks vs:List Nat} {T:qH->qE}
theorem qJO(hp:∀(a:Nat)(x:qB),N[a]?=some x->0<x.P.length)(hl:ks.length+1=N.length):∀i,i<=N.length->((qo N i).flatMap λq=>if q.S=0 then [aW (atF b ks q.N.toNat)]else [])=((b::ks).take i).map aW
 | 0,_=>rfl
 | i+1,hi=>by
  have ih:=qJO hp hl i (by omega);have hx:=gEg (show i<N.length by omega);generalize N[i]=x at hx;have hx0:=hp i x hx;have hc:zw N (i:Int)=x.P.length:=by simp[zw,hx]
  rw[qo,List.flatMap_append,ih,hc];have hk:i<(b::ks).length:=by simp;omega
  rw[tA1,gEg hk,Option.toList_some,lMa];congr 1;have hs:∀n:Nat,((zY i (n+1)).flatMap λq=>if q.S=0 then [aW (atF b ks q.N.toNat)]else [])=[aW (b::ks)[i]]:=by
   intro n
   induction n with
   | zero=>
    have:atF b ks i=(b::ks)[i]:=by unfold atF;rw[lGd,gEg hk];rfl
    simp[zY,this]
   | succ n ih=>
    rw[X6,List.flatMap_append,ih];have:¬((n:Int)+1=0):=by omega
    simp[this]
  obtain⟨n,hn⟩:∃n,x.P.length=n+1:=⟨x.P.length-1,by omega⟩;rw[hn,hs];rfl
def Wz(N:List qB)(b:Nat)(ks:List Nat)(T:qH->qE):List qE:=(qO N).flatMap λp=>if 0<p.S then [T p]else if (qK N p).S=0 then [aW (atF b ks (qK N p).N.toNat)]else []
theorem Zx{p:qH}(h:p∈qO N):0<=p.S:=by
 obtain⟨a,s,rfl,_⟩:=jB.1 h;simp only[pt];omega
theorem qmD{α:Type}(f:qH->qH->List α):((qO N).flatMap λp=>if (decide (0<p.S)&&decide (0<(qK N p).S))=true/\bef p (qK N p)=true then f p (qK N p)else [])=(qf N).flatMap λw=>f w.A w.B:=by
 unfold qf qq wrs qO;generalize qo N N.length=l
 induction l with
 | nil=>rfl
 | cons p l ih=>
  rw[List.flatMap_cons,ih];by_cases hb:bef p (qK N p)=true
  ·by_cases hi:j9 ⟨p,qK N p⟩=true
   ·have hi':(decide (0<p.S)&&decide (0<(qK N p).S))=true:=hi;rw[iP ⟨hi',hb⟩,List.filter_cons_of_pos (p:=λp=>bef p (qK N p)) hb,lMc,List.filter_cons_of_pos hi,List.flatMap_cons]
   ·have hi':¬(decide (0<p.S)&&decide (0<(qK N p).S))=true:=hi;rw[iN (λq=>hi' q.1),List.filter_cons_of_pos (p:=λp=>bef p (qK N p)) hb,lMc,List.filter_cons_of_neg hi];rfl
  ·rw[iN (λq=>hb q.2),List.filter_cons_of_neg (p:=λp=>bef p (qK N p)) hb];rfl
theorem qGR{α β:Type}{f:α->List β}{g:Nat->List β}:∀{l:List α}{vs:List Nat},vs.length=l.length->(∀(i:Nat)(a:α)(v:Nat),l[i]?=some a->vs[i]?=some v->f a=g v)->l.flatMap f=vs.flatMap g
 |[],[],_,_=>rfl
 |[],v::vs,h,_=>by simp at h
 | a::l,[],h,_=>by simp at h
 | a::l,v::vs,h,hf=>by
  rw[List.flatMap_cons,List.flatMap_cons,hf 0 a v rfl rfl,qGR (by simpa using h) λi a v h1 h2=>hf (i+1) a v (by simpa using h1) (by simpa using h2)]
theorem qLK(hW:W N λ_ _=>False)(hp:∀(a:Nat)(x:qB),N[a]?=some x->0<x.P.length)(hl:ks.length+1=N.length)(t:TOk N b ks vs T):(Wz N b ks T).Perm ((b::ks).map aW++vs.flatMap λv=>[vW v,vW v]):=by
 let g:qH->List qE:=λq=>if q.S=0 then [aW (atF b ks q.N.toNat)]else if (qK N q).S=0 then []else [T (qK N q)];have h1:Wz N b ks T=(qO N).flatMap λp=>g (qK N p):=by
  unfold Wz;rw[List.flatMap_def,List.flatMap_def];congr 1;refine List.map_congr_left λp hp=>?_;have P:=zu hW hp;have s0:=Zx hp;have s1:=Zx P.m;simp only[g,P.pp];by_cases a:0<p.S
  ·rw[iP a];by_cases c:(qK N p).S=0
   ·rw[iP c,t.t1 p hp a c]
   ·rw[iN c,iN (by omega)]
  ·rw[iN a];by_cases c:(qK N p).S=0
   ·rw[iP c,iP c]
   ·rw[iN c,iN c,iP (by omega)]
 rw[h1];refine(qJJ hW g).trans ?_;let c:qH->Bool:=λp=>decide (0<p.S)&&decide (0<(qK N p).S);have h2:(qO N).flatMap g=(qO N).flatMap λq=>(if q.S=0 then [aW (atF b ks q.N.toNat)]else [])++(if c q=true then [T (qK N q)]else []):=by
  rw[List.flatMap_def,List.flatMap_def];congr 1;refine List.map_congr_left λp hp=>?_;have P:=zu hW hp;have s0:=Zx hp;have s1:=Zx P.m;simp only[g,c];by_cases a:p.S=0
  ·rw[iP a,iP a,iN (by simp[a])];rfl
  ·rw[iN a,iN a];by_cases d:(qK N p).S=0
   ·rw[iP d,iN (by simp[d])];rfl
   ·rw[iN d,iP (by simp;omega)];rfl
 rw[h2];refine(XU _).symm.trans ?_;have h3:((qO N).flatMap λq=>if q.S=0 then [aW (atF b ks q.N.toNat)]else [])=(b::ks).map aW:=by
  have:=qJO (b:=b) hp hl N.length (nLr _);rw[tOl (by simp;omega)]at this;exact this
 rw[h3];refine List.Perm.append_left _ ?_;refine(qHA hW c (λp hp=>?_) λq=>[T (qK N q)]).trans ?_
 ·have P:=zu hW hp;simp only[c,P.pp];exact Bool.and_comm _ _
 ·have h4:((qO N).flatMap λp=>if c p=true/\bef p (qK N p)=true then [T (qK N p)]++[T (qK N (qK N p))]else [])=(qO N).flatMap λp=>if (decide (0<p.S)&&decide (0<(qK N p).S))=true/\bef p (qK N p)=true then(λp q=>[T q,T p]) p (qK N p)else []:=by
   rw[List.flatMap_def,List.flatMap_def];congr 1;refine List.map_congr_left λp hp=>?_;simp only[c,(zu hW hp).pp];rfl
  refine List.Perm.of_eq (h4.trans ((qmD (N:=N) λp q=>[T q,T p]).trans ?_));exact qGR (g:=λv=>[vW v,vW v]) t.vl λi w v h1 h2=>by rw[(t.t2 i w v h1 h2).1,(t.t2 i w v h1 h2).2]
end
def gkw(ks:List Nat)(f:Nat->List qE)(k:Nat):Option (List qE):=if k∈ks then some (f (ks.idxOf k))else none
section
variable {m:qG} {ks:List Nat} {f f':Nat->List qE} {i k j n:Nat} {ws:List qE} {P:List qE} {O:Nat->Bool} {c:qF}
theorem ql9(nd:ks.Nodup)(h:ks[i]?=some k):ks.idxOf k=i:=by
 have hi:=qZ h;rw[gEg hi]at h;cases h;have h1:=List.idxOf_lt_length_of_mem (gMm hi);have h2:ks[ks.idxOf ks[i]]=ks[i]:=List.getElem_idxOf h1;exact(List.getElem_inj nd).1 h2
theorem WR(nd:ks.Nodup)(h:ks[i]?=some k):gkw ks f k=some (f i):=by
 rw[gkw,iP (lMo h),ql9 nd h]
theorem Qb(h:k∉ks):gkw ks f k=none:=iN h
theorem qG2(nd:ks.Nodup)(h:ks[i]?=some k):ZU (gkw ks f) k ws=gkw ks (λj=>if j=i then ws else f j):=by
 funext q;unfold ZU;by_cases e:q=k
 ·subst e;rw[iP rfl,WR nd h,iP rfl]
 ·rw[iN e];unfold gkw;by_cases hm:q∈ks
  ·rw[iP hm,iP hm];refine congrArg some (iN λhi=>?_).symm;apply e;have h1:=List.idxOf_lt_length_of_mem hm;have h2:ks[ks.idxOf q]=q:=List.getElem_idxOf h1;rw[gSi]at h;obtain⟨h3,h4⟩:=h;rw[<-h2,<-h4];congr 1
  ·rw[iN hm,iN hm]
theorem qBP(hf:∀i,i<ks.length->f i=f' i):gkw ks f=gkw ks f':=by
 funext q;unfold gkw;by_cases hm:q∈ks
 ·rw[iP hm,iP hm,hf _ (List.idxOf_lt_length_of_mem hm)]
 ·rw[iN hm,iN hm]
theorem Yx(nd:ks.Nodup)(h:ks[j]?=some k):gkw (ks.take (j+1)) f=ZU (gkw (ks.take j) f) k (f j):=by
 have hj:=qZ h;have e:ks.take (j+1)=ks.take j++[k]:=by rw[tA1,h];rfl
 have nd1:(ks.take (j+1)).Nodup:=nd.sublist (List.take_sublist _ _);have hk:k∉ks.take j:=by
  rw[e,List.nodup_append]at nd1;exact λq=>nd1.2.2 k q k (by simp) rfl
 funext q;unfold ZU;by_cases e2:q=k
 ·subst e2;rw[iP rfl];exact WR nd1 (by rw[gTk,iP (by omega)];exact h)
 ·rw[iN e2];unfold gkw;by_cases hm:q∈ks.take j
  ·rw[iP (by rw[e];exact List.mem_append_left _ hm),iP hm,e,List.idxOf_append,iP hm]
  ·rw[iN (by rw[e];simp[hm,e2]),iN hm]
theorem qFV(nd:ks.Nodup)(no:∀k∈ks,O k=false)(hc:∀(i k:Nat),ks[i]?=some k->∃c,m.C[k]?=some c/\zi {c with W:=f i})(h:MM m ((List.range ks.length).flatMap f++P) (inO O ks)):
  ∀j,j<=ks.length->MM (ovM m (gkw (ks.take j) f)) ((List.range' j (ks.length-j)).flatMap f++P) (inO O (ks.drop j))/\nF (ovM m (gkw (ks.take j) f)).C=nF m.C
 | 0,_=>by
  have e:gkw (ks.take 0) f=λ_=>none:=by funext q;exact Qb (by simp)
  rw[e,qCJ,List.drop_zero,Nat.sub_zero,<-List.range_eq_range'];exact⟨h,rfl⟩
 | j+1,hj=>by
  obtain⟨h1,h2⟩:=qFV nd no hc h j (by omega);have hk:=gEg (show j<ks.length by omega);generalize hkk:ks[j]=k at hk;obtain⟨c,c1,c2⟩:=hc j k hk;have hkn:k∉ks.take j:=by
   have nd1:(ks.take (j+1)).Nodup:=nd.sublist (List.take_sublist _ _);rw[tA1,hk,Option.toList_some,List.nodup_append]at nd1;exact λq=>nd1.2.2 k q k (by simp) rfl
  have hat:(ovM m (gkw (ks.take j) f)).C[k]?=some c:=by rw[Jf,c1,oMs,VZ (Qb hkn)]
  have ed:ks.drop j=k::ks.drop (j+1):=by rw[lDc (show j<ks.length by omega),hkk]
  rw[ed,show ks.length-j=(ks.length-(j+1))+1 by omega,List.range'_succ,List.flatMap_cons,lAa]at h1;obtain⟨p1,p2,p3⟩:=Xu (k:=k) (c:=c) h1 hat (by simp[inO]) c2;have nd2:(k::ks.drop (j+1)).Nodup:=by rw[<-ed];exact nd.sublist (List.drop_sublist _ _)
  rw[qHG (List.nodup_cons.1 nd2).1 (no k (lMo hk)),Wk c1,<-Yx nd hk]at p1;rw[Wk c1,<-Yx nd hk]at p2;exact⟨p1,by rw[p2,h2]⟩
def jF(m:qG)(ps:List (Nat×Nat)):qG:=ps.foldl (λm p=>wk m p.1 p.2) m
theorem qJZ:∀(ps:List (Nat×Nat)){m:qG},MM m ((ps.flatMap λp=>[aW p.1,aW p.2])++P) O->MM (jF m ps) P O
 |[],m,h=>h
 | (a,b)::ps,m,h=>by
  rw[List.flatMap_cons]at h;exact qJZ ps (m:=wk m a b) (MI.redex h).2
end
def tW(N:List qB)(b:Nat)(ks vs:List Nat)(p:qH):qE:=
 if (qK N p).S=0 then aW (atF b ks (qK N p).N.toNat)
 else match ((qf N).zip vs).find? (λq=>decide (q.1.A=p) || decide (q.1.B=p))with
  | some q=>vW q.2
  | none=>w0
section
variable {N:List qB} {b:Nat} {ks vs:List Nat} {w:zN} {i j:Nat} {p:qH}
theorem Jr:w∈qf N↔w.A∈qO N/\w.B=qK N w.A/\bef w.A w.B=true/\0<w.A.S/\0<w.B.S:=by
 unfold qf qq wrs;simp only[mFi,List.mem_map,j9,bAt,dTe];constructor
 ·rintro⟨⟨p,⟨h1,h2⟩,rfl⟩,h3⟩;exact⟨h1,rfl,h2,h3⟩
 ·rintro⟨h1,h2,h3,h4⟩;obtain⟨A,B⟩:=w;simp only at h1 h2 h3 h4|-;subst h2;exact⟨⟨A,⟨h1,h3⟩,rfl⟩,h4⟩
theorem qmE:(qf N).Nodup:=by
 unfold qf qq wrs;refine List.Nodup.sublist List.filter_sublist ?_;rw[List.nodup_iff_pairwise_ne,List.pairwise_map];refine List.Pairwise.imp ?_ (List.Nodup.sublist List.filter_sublist (Xs (N:=N) (i:=N.length)));intro a c h e;exact h (congrArg zN.A e)
theorem qmF(hW:W N λ_ _=>False){w w':zN}(h:w∈qf N)(h':w'∈qf N)(hp:p=w.A\/p=w.B)(hq:w'.A=p\/w'.B=p):w'=w:=by
 obtain⟨a1,a2,a3,a4,a5⟩:=Jr.1 h;obtain⟨b1,b2,b3,b4,b5⟩:=Jr.1 h';obtain⟨A,B⟩:=w;obtain⟨A',B'⟩:=w';simp only at*;have P:=zu hW a1;have P':=zu hW b1;subst a2 b2;have key:A'=A:=by
  rcases hp with rfl | rfl
  ·rcases hq with e | e
   ·exact e
   ·have e2:A'=qK N p:=by rw[<-e,P'.pp]
    rw[e2,P.pp,Zb P.ne.symm,a3]at b3;cases b3
  ·rcases hq with e | e
   ·rw[e,P.pp,Zb P.ne.symm,a3]at b3;cases b3
   ·have:=congrArg (qK N) e;rw[P'.pp,P.pp]at this;exact this
 rw[key]
theorem Zy(hW:W N λ_ _=>False)(hv:vs.length=(qf N).length):TOk N b ks vs (tW N b ks vs) where
 t1:=λp hp h1 h2=>by rw[tW,iP h2]
 t2:=λi w v h1 h2=>by
  have hm:=lMo h1;obtain⟨a1,a2,a3,a4,a5⟩:=Jr.1 hm;have P:=zu hW a1;have key:∀p,(p=w.A\/p=w.B)->((qf N).zip vs).find? (λq=>decide (q.1.A=p) || decide (q.1.B=p))=some (w,v):=λp hp=>by
   have hz:((qf N).zip vs)[i]?=some (w,v):=List.getElem?_zip_eq_some.2 ⟨h1,h2⟩;have hmz:=lMo hz;cases hf:((qf N).zip vs).find? (λq=>decide (q.1.A=p) || decide (q.1.B=p))with
   | none=>
    have:=List.find?_eq_none.1 hf (w,v) hmz;rcases hp with rfl | rfl<;>simp at this
   | some q=>
    have h3:=List.find?_some hf;have h4:=List.mem_of_find?_eq_some hf;obtain⟨k,hk⟩:=List.getElem?_of_mem h4;obtain⟨k1,k2⟩:=List.getElem?_zip_eq_some.1 hk;simp only[Bool.or_eq_true,dTe]at h3;have e:=qmF hW hm (lMo k1) hp h3;have hki:k=i:=by
     have l1:=qZ k1;have l2:=qZ h1;rw[gEg l1]at k1;rw[gEg l2]at h1;have:(qf N)[k]=(qf N)[i]:=by
      rw[Option.some.inj k1,Option.some.inj h1];exact e
     exact(List.getElem_inj qmE).1 this
    subst hki;rw[hz]at hk;rw[Option.some.inj hk]
  refine⟨?_, ?_⟩
  ·rw[tW,<-a2,iN (by omega),key _ (.inl rfl)]
  ·rw[tW,a2,P.pp,iN (by omega),<-a2,key _ (.inr rfl)]
 vl:=hv
def fW(N:List qB)(T:qH->qE)(i:Nat):List qE:=match N[i+1]? with
 | some x=>(List.range (x.P.length-1)).map λs=>T (pt (i+1) (s+1))
 | none=>[]
theorem qEI{T:qH->qE}(h0:∀x,N[0]?=some x->x.P.length=1):∀i,i<N.length->((qo N (i+1)).flatMap λp=>if 0<p.S then [T p]else [])=(List.range i).flatMap (fW N T)
 | 0,hi=>by
  have hx:=gEg hi;have h1:=h0 _ hx;have hc:zw N ((0:Nat):Int)=1:=by simp only[zw,iTn,hx];exact h1
  rw[qo,qo,hc];simp[zY]
 | i+1,hi=>by
  have ih:=qEI (T:=T) h0 i (by omega);have hx:=gEg hi;generalize N[i+1]=x at hx;have hc:zw N ((i+1:Nat):Int)=x.P.length:=by simp only[zw,iTn,hx]
  rw[qo,List.flatMap_append,ih,hc,List.range_succ,List.flatMap_append];congr 1;simp only[List.flatMap_cons,List.flatMap_nil,lAn,fW,hx];have:∀n:Nat,((zY (i+1) n).flatMap λp=>if 0<p.S then [T p]else [])=(List.range (n-1)).map λs=>T (pt (i+1) (s+1)):=by
   intro n
   induction n with
   | zero=>rfl
   | succ n ih=>
    rw[X6,List.flatMap_append,ih];cases n with
    | zero=>simp
    | succ n=>
     have:(0:Int)<(n:Int)+1:=by omega
     simp[this,List.range_succ,pt]
  exact this _
end
def ppC(N:List qB)(p:qH):Bool:=decide (p.S=0)&&decide ((qK N p).S=0)
def zX(N:List qB)(b:Nat)(ks:List Nat):List (Nat×Nat):=(qu N (N.length-1)).map λp=>(atF b ks p.A.toNat,atF b ks p.B.toNat)
def jl(N:List qB)(b:Nat)(ks:List Nat):List (Nat×Nat):=if (qK N (pt 0 0)).S=0 then [(b,atF b ks (qK N (pt 0 0)).N.toNat)]else []
section
variable {N:List qB} {b:Nat} {ks vs:List Nat} {T:qH->qE} {P:List qE} {O:Nat->Bool} {m:qG} {lev:Int}
theorem qCQ{a:Nat}:∀n:Nat,(zY a (n+1)).filter (λp=>ppC N p&&bef p (qK N p))=if (ppC N (pt a 0)&&bef (pt a 0) (qK N (pt a 0)))=true then [pt a 0]else []
 | 0=>by
  have:zY a (0+1)=[pt a 0]:=rfl;rw[this,List.filter_cons];rfl
 | n+1=>by
  rw[X6,List.filter_append,qCQ n];have:ppC N ⟨(a:Int),((n+1:Nat):Int)⟩=false:=by
   unfold ppC;simp only[Bool.and_eq_false_iff,decide_eq_false_iff_not];left;omega
  rw[List.filter_cons_of_neg (by rw[this];simp)];simp
theorem qJN(hr:∀(a:Nat)(x:qB),N[a]?=some x->0<x.P.length/\x.K≠0)(h00:0<(qK N (pt 0 0)).N):∀i,i<N.length->
  ((qo N (i+1)).filter λp=>ppC N p&&bef p (qK N p)).map (λp=>(atF b ks p.N.toNat,atF b ks (qK N p).N.toNat))=jl N b ks++(qu N i).map λp=>(atF b ks p.A.toNat,atF b ks p.B.toNat)
 | 0,hi=>by
  have hx:=gEg hi;generalize N[0]=x at hx;obtain⟨n,hn⟩:∃n,x.P.length=n+1:=⟨x.P.length-1,by have:=(hr 0 x hx).1;omega⟩;have hc:zw N ((0:Nat):Int)=n+1:=by simp only[zw,iTn,hx];exact hn
  rw[qo,qo,hc,lNa,qCQ,qu];unfold jl;have hb:bef (pt 0 0) (qK N (pt 0 0))=true:=by
   unfold bef;rw[Bool.or_eq_true];exact .inl (dEt h00)
  rw[hb,Bool.and_true];by_cases h:(qK N (pt 0 0)).S=0
  ·rw[iP h,iP (by simp only[ppC,h,decide_true,Bool.and_true];rfl)];simp[pt,atF]
  ·rw[iN h,iN (by simp[ppC,h])];rfl
 | i+1,hi=>by
  have ih:=qJN hr h00 i (by omega);have hx:=gEg hi;generalize N[i+1]=x at hx;obtain⟨h1,h2⟩:=hr (i+1) x hx;obtain⟨n,hn⟩:∃n,x.P.length=n+1:=⟨x.P.length-1,by omega⟩;have hc:zw N ((i+1:Nat):Int)=n+1:=by simp only[zw,iTn,hx];exact hn
  rw[qo,List.filter_append,lMa,ih,hc,qCQ,qu,lMa,lAa];congr 1;congr 1;have hq:=gEg (show 0<x.P.length by omega);generalize x.P[0]=q at hq;have hpe:qK N (pt (i+1) 0)=q:=Wl (Qs.2 ⟨x,hx,hq⟩);simp only[JR,hx,h2,if_false,hq,hpe,ppC,bef];by_cases hs:q.S=0
  ·by_cases hl:((i+1:Nat):Int)<q.N
   ·rw[iP,iP ⟨hs,hl⟩]
    ·rw[lMc,List.map_nil,hpe];rfl
    ·simp[hs,pt];omega
   ·rw[iN,iN (λa=>hl a.2)]
    ·rfl
    ·simp[hs,pt];omega
  ·rw[iN (by simp[hs]),iN (λa=>hs a.1)];rfl
theorem qLL(hW:W N λ_ _=>False)(hr:∀(a:Nat)(x:qB),N[a]?=some x->0<x.P.length/\x.K≠0)(h00:0<(qK N (pt 0 0)).N)(h1:∀x,N[0]?=some x->x.P.length=1)(hn:0<N.length):
  (Wz N b ks T).Perm ((List.range (N.length-1)).flatMap (fW N T)++((zX N b ks++jl N b ks).flatMap λp=>[aW p.1,aW p.2])):=by
 have e1:Wz N b ks T=(qO N).flatMap λp=>(if 0<p.S then [T p]else [])++(if ppC N p=true then [aW (atF b ks (qK N p).N.toNat)]else []):=by
  unfold Wz;rw[List.flatMap_def,List.flatMap_def];congr 1;refine List.map_congr_left λp hp=>?_;have s0:=Zx hp;by_cases a:0<p.S
  ·rw[iP a,iP a,iN]
   ·rfl
   ·unfold ppC;simp;omega
  ·rw[iN a,iN a,lNa];have:p.S=0:=by omega
   by_cases c:(qK N p).S=0
   ·rw[iP c,iP (by simp[ppC,this,c])]
   ·rw[iN c,iN (by simp[ppC,c])]
 rw[e1];refine(XU _).symm.trans ?_;obtain⟨n,e⟩:∃n,N.length=n+1:=⟨N.length-1,by omega⟩;have e2:((qO N).flatMap λp=>if 0<p.S then [T p]else [])=(List.range (N.length-1)).flatMap (fW N T):=by
  unfold qO;rw[e];exact qEI h1 n (by omega)
 rw[e2];refine List.Perm.append_left _ ?_;refine(qHA hW (ppC N) (λp hp=>?_) _).trans ?_
 ·unfold ppC;rw[(zu hW hp).pp,Bool.and_comm]
 ·have e3:((qO N).flatMap λp=>if ppC N p=true/\bef p (qK N p)=true then [aW (atF b ks (qK N p).N.toNat)]++[aW (atF b ks (qK N (qK N p)).N.toNat)]else [])=(((qO N).filter λp=>ppC N p&&bef p (qK N p)).map λp=>(atF b ks p.N.toNat,atF b ks (qK N p).N.toNat)).flatMap λp=>[aW p.2,aW p.1]:=by
   have:∀l:List qH,(∀p∈l,p∈qO N)->(l.flatMap λp=>if ppC N p=true/\bef p (qK N p)=true then [aW (atF b ks (qK N p).N.toNat)]++[aW (atF b ks (qK N (qK N p)).N.toNat)]else [])=((l.filter λp=>ppC N p&&bef p (qK N p)).map λp=>(atF b ks p.N.toNat,atF b ks (qK N p).N.toNat)).flatMap λp=>[aW p.2,aW p.1]:=by
    intro l hl
    induction l with
    | nil=>rfl
    | cons p l ih=>
     rw[List.flatMap_cons,ih λq hq=>hl q (.tail _ hq),(zu hW (hl p (.head _))).pp];by_cases q:ppC N p=true/\bef p (qK N p)=true
     ·rw[iP q,List.filter_cons_of_pos (by simp[q.1,q.2]),lMc,List.flatMap_cons];rfl
     ·rw[iN q,List.filter_cons_of_neg (by simpa using q)];rfl
   exact this _ λp hp=>hp
  rw[e3];have e4:=qJN (b:=b) (ks:=ks) hr h00 n (by omega);unfold qO;rw[e,e4,show n=N.length-1 by omega];change ((jl N b ks++zX N b ks).flatMap _).Perm _;refine((List.perm_append_comm (l₁:=jl N b ks) (l₂:=zX N b ks)).flatMap_right _).trans ?_;generalize zX N b ks++jl N b ks=l
  induction l with
  | nil=>exact .refl _
  | cons p l ih=>
   rw[List.flatMap_cons,List.flatMap_cons];exact List.Perm.append (List.Perm.swap _ _ _) ih
end
section
variable {b:Nat} {P:List qE} {O:Nat->Bool} {m:qG} {lev:Int} {t:qD}
structure Z9(t:qD)(lev:Int)(m:qG)(b:Nat)(P:List qE)(O:Nat->Bool)(ks vs:List Nat):Prop where
 i:TkI m t.G lev (aW b::P) O ks (tkA lev t.G m (t.G.length-1)) (t.G.length-1)
 j:TkV (tkA lev t.G m (t.G.length-1)).1 (ks.map aW++aW b::P) (inO O ks) vs (tkV (tkA lev t.G m (t.G.length-1)).1 (qf t.G).length) (qf t.G).length
 mm:MM (jF (ovM (tkV (tkA lev t.G m (t.G.length-1)).1 (qf t.G).length).1 (gkw ks (fW t.G (tW t.G b ks vs)))) (zX t.G b ks++jl t.G b ks)) P O
theorem Zs:∀(ps:List (Nat×Nat)){m:qG},(jF m ps).C=m.C/\(jF m ps).O=m.O
 |[],m=>⟨rfl,rfl⟩
 | p::ps,m=>Zs ps (m:=wk m p.1 p.2)
theorem qlF(ok:qk t=true)(h:MM m (aW b::P) O)(hf:t.G.length-1+(qf t.G).length<=nF m.C)
  (hC:∀(i:Nat)(x:qB),t.G[i+1]?=some x->qx x.K=true/\∀ws:List qE,ws.length=x.P.length-1->zi {agC lev x with W:=ws}):∃ks vs,Z9 t lev m b P O ks vs:=by
 have hn:=jf ok;have hW:=wR ok;obtain⟨ks,I⟩:=YB (lev:=lev) h (λi x hx=>(hC i x hx).1) (t.G.length-1) (by omega) (by omega);obtain⟨vs,J⟩:=V2 I.mm (qf t.G).length (by have:=I.nf;omega);refine⟨ks,vs,I,J, ?_⟩;have hkl:=I.len;have hp:∀(a:Nat)(x:qB),t.G[a]?=some x->0<x.P.length/\x.K≠0:=λa x hx=>by
  have oa:=Jd ok hx;refine⟨(Je oa).2,λe=>?_⟩;have hl:=qZ hx;rw[gEg hl]at hx;exact qCD ok a hl (by rw[Option.some.inj hx];exact e)
 have h1:∀x,t.G[0]?=some x->x.P.length=1:=λx hx=>Jh ok hx;have h00:0<(qK t.G (pt 0 0)).N:=by
  obtain⟨c,r,e1,_⟩:=Jy ok;rw[e1];simp only[pt];omega
 have T:=Zy (b:=b) (ks:=ks) hW J.len;have u1:=qLK hW (λa x hx=>(hp a x hx).1) (by omega) T;have u2:=qLL (b:=b) (ks:=ks) (T:=tW t.G b ks vs) hW hp h00 h1 hn;have u3:=u2.symm.trans u1;have hmm:MM (tkV (tkA lev t.G m (t.G.length-1)).1 (qf t.G).length).1 ((List.range ks.length).flatMap (fW t.G (tW t.G b ks vs))++(((zX t.G b ks++jl t.G b ks).flatMap λp=>[aW p.1,aW p.2])++P)) (inO O ks):=by
  refine MI.perm J.mm ?_;rw[hkl];refine List.Perm.trans ?_ (List.Perm.of_eq (lAa _ _ _));refine List.Perm.trans ?_ (List.Perm.append_right P u3.symm);rw[List.perm_iff_count];intro a;simp only[lMc,List.count_append,List.count_cons];omega
 have hcc:∀(i k:Nat),ks[i]?=some k->∃c,(tkV (tkA lev t.G m (t.G.length-1)).1 (qf t.G).length).1.C[k]?=some c/\zi {c with W:=fW t.G (tW t.G b ks vs) i}:=λi k hk=>by
  have hi:=qZ hk;have hx:=gEg (show i+1<t.G.length by omega);generalize t.G[i+1]=x at hx;obtain⟨q1,q2⟩:=hC i x hx;have e:=I.cell i k x hk hx;refine⟨agC lev x,(J.keep k _ e (JZ q1)).1,q2 _ ?_⟩;unfold fW;rw[hx];simp
 obtain⟨c1,c2⟩:=qFV I.nd I.new hcc hmm ks.length (nLr _);rw[nSs,lTl,List.drop_length,Y0]at c1;exact qJZ _ c1
end
section
variable {w:Nat} {post:List AV} {base:Nat->Prop} {nid:Nat} {h:List qA} {N:Ags} {K:AV->List qA->Prop} {a b s c k:Nat} {x y:qB} {X:Nat->Nat->Prop}
end
section
variable {w:Nat} {post:List AV} {base:Nat->Prop} {nid:Nat} {h:List qA} {N:Ags} {K:AV->List qA->Prop} {a b s c k:Nat} {x y:qB} {X:Nat->Nat->Prop}
end
section
variable {w:Nat} {post:List AV} {base:Nat->Prop} {nid:Nat} {h:List qA} {N:Ags} {K:AV->List qA->Prop} {a b s c k:Nat} {x y:qB} {X:Nat->Nat->Prop} {t:qD}
theorem layP{ps:List qH}{c:Bool}{n:Nat}:(lay (.lst 2 (ps.map qH.enc) c) n).2=[.row 2 (ps.map qH.enc) true]:=by simp[lay,qH.flat]
theorem layD{ps:List Int}{c:Bool}{n:Nat}:(lay (.lst 1 (ps.map qQ) c) n).2=[.row 1 (ps.map qQ) true]:=by simp[lay,lI]
end
theorem Zf{x:qB}(h:qg x=true):x.D.length<=4:=by
 have:=Zo h;unfold z8 at this;simp only[bAt,dTe,inI]at this
 repeat' split at this
 all_goals (simp only[bAt,dTe]at this;omega)
theorem qI1{x:qB}(h:qg x=true):x.sz<=8:=by
 have:=Zf h;have:=wT h;unfold qB.sz;omega
theorem qDC{α:Type}{f:α->Nat}{k:Nat}:∀{xs:List α},(∀x∈xs,f x<=k)->zD f xs<=k*xs.length
 |[],_=>nZl _
 | x::xs,h=>by
  have h1:=h x (by simp);have h2:=qDC (xs:=xs) λy hy=>h y (by simp[hy]);simp only[zD,lCo,Nat.mul_add];omega
theorem ZF{n:qD}(h:qk n=true):n.sz<=5400/\n.G.length<=600:=by
 have h1:n.G.length<=600:=by
  have:=h;unfold qk j5 at this;simp only[bAt,Jq]at this;omega
 have h2:=qDC (f:=qB.sz) (k:=8) λx hx=>qI1 (J0 (Qi h) x hx);unfold qD.sz;omega
section
variable {w:Nat} {post:List AV} {base:Nat->Prop} {nid:Nat} {h:List qA} {N:Ags} {K:AV->List qA->Prop} {a b s c k:Nat} {x y:qB} {X:Nat->Nat->Prop} {bk:List qD} {R:Nat->Bool}
end
section
variable {w:Nat} {post:List AV} {base:Nat->Prop} {nid aid:Nat} {h:List qA} {N M:Ags} {K:AV->List qA->Prop} {a b s c k:Nat} {x y:qB} {R:Nat->Bool}
end
section
variable {w:Nat} {post:List AV} {base:Nat->Prop} {nid:Nat} {h:List qA} {N:Ags} {K:AV->List qA->Prop} {a s c k:Nat}
end
def lvA(by':Int)(x:qB):qB:=if jK x.K then{x with L:=x.L+by'}else x
def wB(by':Int)(x:qB):Bool:= !jK x.K || decide (x.L+by'<=8)
def JA(n:qD)(by':Int):qD×Bool:=if n.G.all (wB by')then(⟨n.G.map (lvA by')⟩,true)else(⟨[]⟩,false)
def QD(r:qD×Bool):AV:=.tup [r.1.enc,.bool r.2]
def JP(by':Int)(xs:Ags)(i:Nat):Ags:=(xs.take i).map (lvA by')++xs.drop i
theorem Wa:∀{N:Ags}{m k:Nat}{x:qB},N[k]?=some x->(qT (N.map qB.enc) m).1[k]?=some (.agg [.int .i64 x.K,.int .i64 x.L,.int .i64 x.V,sQ 1 (m+2*k) x.D.length,sQ 2 (m+2*k+1) x.P.length])
 | y::ys,m,0,x,h=>by
  cases h;simp only[lMc,qT,qB.layE,AV.rows,qpU,nZa,List.getElem?_cons_zero,Nat.mul_zero,nAz]
 | y::ys,m,k+1,x,h=>by
  have:=Wa (N:=ys) (m:=m+2) (k:=k) (x:=x) h;simp only[lMc,qT,qB.layE,layP,layD,lCa,lNa,lCo,lNi,List.getElem?_cons_succ];rw[show m+2*(k+1)=m+2+2*k by omega];exact this
theorem qHV:∀{A B:Ags}{m:Nat},A.map (λx=>(x.D,x.P))=B.map (λx=>(x.D,x.P))->(qT (A.map qB.enc) m).2=(qT (B.map qB.enc) m).2
 |[],[],_,_=>rfl
 |[],_::_,_,h=>by simp at h
 | _::_,[],_,h=>by simp at h
 | x::A,y::B,m,h=>by
  simp only[lMc,List.cons.injEq,Prod.mk.injEq]at h;simp only[lMc,qT,qB.layE,layP,layD,h.1.1,h.1.2,lCa,lNa,lCo,lNi,qHV (A:=A) (B:=B) h.2]
theorem qnD{by':Int}{x:qB}:((lvA by' x).D,(lvA by' x).P)=(x.D,x.P):=by unfold lvA;split<;>rfl
theorem qnP{by':Int}{xs:Ags}{i:Nat}(h:i<xs.length):(JP by' xs i)[i]?=some xs[i]:=by
 unfold JP;rw[gAr (by simp;omega)];simp only[lMp,lLt,Nat.min_eq_left (Nat.le_of_lt h),nSs,gDr,nAz];exact gEg h
theorem qnQ{by':Int}{xs:Ags}{i:Nat}(h:i<xs.length):(JP by' xs i).set i (lvA by' xs[i])=JP by' xs (i+1):=by
 unfold JP;rw[lSr _ _ (by simp;omega)];simp only[lMp,lLt,Nat.min_eq_left (Nat.le_of_lt h),nSs];rw[lDc h,lSz,lTs h,lMa];simp only[lMc,List.map_nil,lAa,lCa,lNa]
theorem qmW{N:Ags}{m k:Nat}{x y:qB}(hx:N[k]?=some x)(e1:y.D=x.D)(e2:y.P=x.P):
  (qT (N.map qB.enc) m).1.set k (.agg [.int .i64 y.K,.int .i64 y.L,.int .i64 y.V,sQ 1 (m+2*k) x.D.length,sQ 2 (m+2*k+1) x.P.length])=(qT ((N.set k y).map qB.enc) m).1:=by
 have hk:=qZ hx;refine List.ext_getElem? λi=>?_;rcases Nat.lt_or_ge i N.length with q | q
 ·by_cases e:i=k
  ·subst e;rw[gSs (by rw[Ja];simpa using hk),Wa (x:=y) (gSs hk),e1,e2]
  ·rw[gSn (Ne.symm e),Wa (gEg q),Wa (x:=N[i]) (by rw[gSn (Ne.symm e)];exact gEg q)]
 ·rw[gEn (by rw[lLs,Ja];simpa using q),gEn (by rw[Ja];simpa using q)]
theorem qJB(r:qD×Bool):(QD r).pl=true:=by unfold QD;simp[AV.pl,AV.pls,qD.plx]
theorem qqK{h:List qA}:W5 (some [.agg [.nils],.bool false]) h (QD (⟨[]⟩,false)):=by
 refine⟨[none],rfl,⟨.ph,trivial⟩, ?_⟩;have a:VR2 [none] (.agg [.nils]) (.agg [sQ 5 0 0]):=.agg rfl (VR2s.cons (.ph rfl) VR2s.nil).2;exact .tup rfl (VR2s.cons a (VR2s.cons (.tree rfl) VR2s.nil)).2
theorem qIN(n:qD)(b:Int)(hz:n.sz<=1048576)(hb:0<=b/\b<=8)(hl:∀x∈n.G,0<=x.L/\x.L<=8):Fresh Gm 1456 [n.enc,.int .i64 b] (QD (JA n b)):=by
 refine fI Kh (by simp[AV.trees,AV.tree,qD.tr]) (qJB _) ?_;simp only[Kh,qM,go_sem];refine qa rfl ?_;simp only[go_sem];refine J3 (n798 n hz) ?_;simp only[lNa,lNi];have eL:(lay n.enc 0)=(.agg [sQ 5 0 n.G.length],.row 5 (qT (n.G.map qB.enc) 1).1 true::(qT (n.G.map qB.enc) 1).2):=by rw[qD.layE,lAn];rfl
 rw[eL];simp only[go_sem];unfold qD.sz at hz;refine Sem.loop (λi:Nat=>i<=n.G.length/\(n.G.take i).all (wB b)=true) (λi=>(⟨[(1,.int .i64 b),(13,.int .i64 (n.G.length:Nat)),(14,.int .i64 (i:Nat))],[(6,.agg [sQ 5 0 n.G.length]),(4,.agg [.nils])],.row 5 (qT ((JP b n.G i).map qB.enc) 1).1 true::(qT (n.G.map qB.enc) 1).2⟩:VSt)) (λi=>n.G.length-i) 0 (by kernel_rfl) ⟨nZl _,by simp⟩ (by rw[show JP b n.G 0=n.G by simp[JP]];exact csA) ?_;rintro i ⟨hi,hI⟩;simp only[go_sem];apply qU<;>intro hc<;>simp only[hc,go_sem]
 ·have hlt:i<n.G.length:=by have:=odT hc;omega
  clear hc;have hx:=qnP (by':=b) hlt;have hg:=Wa (m:=1) hx;have hlx:=hl _ (gMm hlt);have ms:=qnQ (by':=b) hlt;have al:(n.G.take (i+1)).all (wB b)=((n.G.take i).all (wB b)&&wB b n.G[i]):=by rw[lTs hlt,List.all_append];simp only[lAc,List.all_nil,Bool.and_true]
  rw[hI,Bool.true_and]at al;have alf:wB b n.G[i]=false->n.G.all (wB b)=false:=λe=>by
   rw[<-Bool.not_eq_true,lAt];intro q;have:=q _ (gMm hlt);rw[e]at this;cases this
  generalize n.G[i]=x at hx hg hlx ms al alf;simp only[ql8 hlt,hg,go_sem];refine qI qAL ?_;simp only[go_sem];apply qU<;>intro hc<;>simp only[hc,go_sem]
  ·have hv:jK x.K=false:=by simpa using hc
   have e1:lvA b x=x:=by unfold lvA;simp[hv]
   rw[e1]at ms;have e2:(JP b n.G i).set i x=JP b n.G i:=by
    refine List.ext_getElem? λj=>?_;by_cases e:j=i
    ·subst e;rw[gSs (qZ hx),hx]
    ·rw[gSn (Ne.symm e)]
   rw[e2]at ms;rw[ms];simp only[wuA (n:=i)];refine qd (i+1) ⟨by omega, ?_⟩ (by omega) csA;rw[al];unfold wB;simp[hv]
  ·have hv:jK x.K=true:=by simpa using hc
   clear hc;have e1:lvA b x={x with L:=x.L+b}:=by unfold lvA;simp[hv]
   have ew:IntKind.i64.wrap (x.L+b)=x.L+b:=wsA;simp only[hg,ew,go_sem];refine zx (e':=.agg [.int .i64 x.K,.int .i64 (x.L+b),.int .i64 x.V,sQ 1 (1+2*i) x.D.length,sQ 2 (1+2*i+1) x.P.length]) rfl (by rfl) hg rfl ?_;simp only[lSz];have es:=qmW (m:=1) (y:={x with L:=x.L+b}) hx rfl rfl;simp only at es;rw[es,<-e1,ms];have hx2:(JP b n.G (i+1))[i]?=some (lvA b x):=by rw[<-ms,gSs (qZ hx)]
   have hg2:=Wa (m:=1) hx2;rw[e1]at hg2;simp only at hg2;simp only[hg2,go_sem];apply qU<;>intro hc<;>simp only[hc,go_sem]
   ·have eo:wB b x=false:=by unfold wB;have:=odT hc;simp[hv];omega
    have er:JA n b=(⟨[]⟩,false):=by unfold JA;rw[alf eo];rfl
    rw[er];exact qqK
   ·have eo:wB b x=true:=by unfold wB;have:=odF hc;simp[hv];omega
    simp only[wuA (n:=i)];refine qd (i+1) ⟨by omega, ?_⟩ (by omega) csA;rw[al,eo]
 ·have hlt:i=n.G.length:=by have:=odF hc;omega
  subst hlt;rw[lTl]at hI;have er:JA n b=(⟨n.G.map (lvA b)⟩,true):=by unfold JA;rw[hI];rfl
  have em:JP b n.G n.G.length=n.G.map (lvA b):=by simp[JP]
  rw[er,em];have e2:(qT (n.G.map qB.enc) 1).2=(qT ((n.G.map (lvA b)).map qB.enc) 1).2:=(qHV (by rw[List.map_map];exact List.map_congr_left λx _=>qnD)).symm;rw[e2];refine XR (pre:=[]) (post:=[]) (qJB _) ?_ ?_
  ·simp[jS,QD,lay,qT,qD.layE]
  ·simp[QD,lay,qT,qD.layE]
theorem ql5{m:Int}(h0:0<=m){xs:Ags}(h:∀x∈xs,x.L<=m):hiI xs<=m:=by
 have key:∀(xs:Ags)(k:Int),k<=m->(∀x∈xs,x.L<=m)->xs.foldl (λm x=>if x.L<m then m else x.L) k<=m:=by
  intro xs
  induction xs with
  | nil=>intro k h1 _;exact h1
  | cons y ys ih=>
   intro k h1 h2;have:=h2 y (by simp);exact ih _ (by simp only;split<;>omega) λx hx=>h2 x (by simp[hx])
 exact key xs 0 h0 h
theorem Vw{t:qD}{lev:Int}(ht:qk t=true)(hl:0<=lev/\lev<=8):t.G.all (wB lev)=true↔¬8<IntKind.i64.wrap (hiI t.G+lev):=by
 have hb:=ql3 (xs:=t.G) λx hx=>Jw (J0 (Qi ht) x hx);rw[wsA,lAt];constructor
 ·intro h;have:=ql5 (m:=8-lev) (by omega) (xs:=t.G) λx hx=>by
   have h1:=h x hx;unfold wB at h1;have h2:=Jv (J0 (Qi ht) x hx);unfold zt at h2;by_cases q:jK x.K=true
   ·simp[q]at h1;omega
   ·rw[iN q]at h2;simp at h2;omega
  omega
 ·intro h x hx;have:=ql4 hx;unfold wB;simp;right;omega
section
variable {w:Nat} {post:List AV} {bk:List qD} {bid:Nat} {es:List (AV×AV)} {base:Nat->Prop} {mid nid:Nat} {h:List qA} {N:Ags} {K:AV->List qA->Prop} {a b s c k:Nat} {x y:qB}
theorem XW{v:Int}(h0:0<=v)(h1:v<bk.length):idx 1 (some (.lst 1 (bk.map qD.enc) false)) (some (.int .i64 v))=some (.ept (qt bk v).enc 0):=by
 have lv:v.toNat<bk.length:=by omega
 have e:v=((v.toNat:Nat):Int):=by omega
 unfold qt;generalize v.toNat=n at e lv;subst e;rw[qHF,gMp,gEg lv];rfl
def wC(bk:List qD)(x y:qB)(a b:Nat):AV:=if (JY bk x y).2=0 then .tup [.int .i64 (za x y),.int .i64 (a:Nat),.int .i64 (b:Nat),.int .i64 0]else .tup [.int .i64 0,.int .i64 0,.int .i64 0,.int .i64 (JY bk x y).2]
theorem qlX(h:za x y=8):(JY bk x y).2=11:=by unfold JY;rw[iP h]
theorem qlW(h:za x y=7)(q:(bk.length:Int)<=x.V):(JY bk x y).2=3:=by unfold JY;rw[iN (by omega),iP ⟨h,q⟩]
theorem qlY(h:za x y=7)(q:¬(bk.length:Int)<=x.V)(r:8<IntKind.i64.wrap (hiI (qt bk x.V).G+x.L)):(JY bk x y).2=9:=by unfold JY;rw[iN (by omega),iN (by omega),iP ⟨h,r⟩]
theorem qG8(h8:za x y≠8)(q:za x y=7->¬(bk.length:Int)<=x.V/\¬8<IntKind.i64.wrap (hiI (qt bk x.V).G+x.L)):(JY bk x y).2=0:=by
 unfold JY;rw[iN h8,iN (λe=>(q e.1).1 e.2),iN (λe=>(q e.1).2 e.2)]
end
section
variable {m:qG} {lev b:Int} {t:qD} {x:qB}
theorem qoG{k l v:Int}{d:List Int}{p q:List qH}(h:p.length=q.length):qg ⟨k,l,v,d,p⟩=qg ⟨k,l,v,d,q⟩:=by
 simp only[qg,fieldsOf,z8,h]
theorem qD9(oa:qg x=true)(k1:x.K≠1)(hl:jK x.K=true->inI (x.L+lev) 0 8=true):qx x.K=true/\∀ws:List qE,ws.length=x.P.length-1->zi {agC lev x with W:=ws}:=by
 have hk:qx x.K=true:=by
  have h1:zt x.K x.L=true:=by
   unfold qg at oa;simp only[bAt]at oa;exact oa.1.2
  have h2:JM x.K=true:=by
   unfold zt at h1;split at h1
   ·next q=>unfold jK at q;unfold JM inI;simp at q|-;omega
   ·simp only[bAt]at h1;exact h1.1
  unfold JM inI at h2;simp only[qx,bAt,dTe]at h2|-;omega
 refine⟨hk,λws hw=>.inl ⟨hk, ?_⟩⟩;have s:=qI0 (base:=0) oa hl;have hp:=(Je oa).2;have e:qg (qY {agC lev x with W:=ws})=qg (QH lev 0 x):=by
  unfold qY agC QH;exact qoG (by simp;omega)
 rw[e];exact s
theorem qDD(ok:qk t=true)(hl:0<=lev/\lev<=8)(h8:¬8<IntKind.i64.wrap (hiI t.G+lev))(i:Nat)(x:qB)(hx:t.G[i+1]?=some x):qx x.K=true/\∀ws:List qE,ws.length=x.P.length-1->zi {agC lev x with W:=ws}:=by
 have oa:=Jd ok hx;have hi:=qZ hx;refine qD9 oa (λe=>?_) λq=>?_
 ·have:=(Xn ok (i+1) hi).1 (by
   rw[gEg hi]at hx;rw[Option.some.inj hx];exact e)
  omega
 ·have h1:=(Vw ok hl).2 h8;have h2:=lAt.1 h1 x (lMo hx);have h3:=VW oa q;unfold wB at h2;simp only[inI,bAt,dTe]at h3|-;simp[q]at h2;omega
end
def dW(N:List qB)(T:qH->qE)(D:qH->Bool)(i:Nat):List qE:=match N[i+1]? with
 | some x=>(List.range (x.P.length-1)).map λs=>if D (pt (i+1) (s+1))=true then T (pt (i+1) (s+1))else w0
 | none=>[]
def zk(D:qH->Bool)(p:qH):qH->Bool:=λq=>decide (q=p) || D q
section
variable {N:List qB} {T:qH->qE} {D D':qH->Bool} {i j k s n:Nat} {x:qB} {m m0:qG} {ks vs:List Nat} {c:qF} {lev:Int} {P:List qE} {O:Nat->Bool} {f:Nat->List qE}
theorem Yk(hx:N[i+1]?=some x):dW N T D i=(List.range (x.P.length-1)).map λs=>if D (pt (i+1) (s+1))=true then T (pt (i+1) (s+1))else w0:=by unfold dW;rw[hx]
theorem qF7(hx:N[i+1]?=some x):(dW N T D i).length=x.P.length-1:=by rw[Yk hx];simp
theorem qkS(hx:N[i+1]?=some x)(hs:s+1<x.P.length):(dW N T D i).set s (T (pt (i+1) (s+1)))=dW N T (zk D (pt (i+1) (s+1))) i:=by
 rw[Yk hx,Yk hx];refine List.ext_getElem (by simp) λq h1 h2=>?_;rw[List.getElem_set];simp only[List.getElem_map,List.getElem_range,zk,Bool.or_eq_true,dTe];by_cases e:s=q
 ·subst e;simp
 ·have:pt (i+1) (q+1)≠pt (i+1) (s+1):=λz=>e (by have:=(QE.1 z).2;omega);simp[e,this]
theorem qkR(h:j≠i):dW N T (zk D (pt (i+1) (s+1))) j=dW N T D j:=by
 unfold dW;cases N[j+1]? with
 | none=>rfl
 | some y=>
  refine List.map_congr_left λq _=>?_;have:pt (j+1) (q+1)≠pt (i+1) (s+1):=λz=>h (by have:=(QE.1 z).1;omega);simp[zk,this]
theorem Ze(h:∀a s,Has N a s->0<a->0<s->D (pt a s)=D' (pt a s)):dW N T D=dW N T D':=by
 funext i;unfold dW;cases hx:N[i+1]? with
 | none=>rfl
 | some y=>
  refine List.map_congr_left λq hq=>?_;rw[lMr]at hq;rw[h (i+1) (q+1) (jI.2 ⟨y,hx,by omega⟩) (by omega) (by omega)]
theorem WL{a:Nat}(h:a=0\/s=0):dW N T (zk D (pt a s))=dW N T D:=Ze λa' s' _ h1 h2=>by
 have:pt a' s'≠pt a s:=λz=>by have:=QE.1 z;omega
 simp[zk,this]
theorem qA8{a:Nat}{p:qH}(h:a=0\/s=0):dW N T (zk (zk D (pt a s)) p)=dW N T (zk D p):=Ze λa' s' _ h1 h2=>by
 have:pt a' s'≠pt a s:=λz=>by have:=QE.1 z;omega
 simp[zk,this]
theorem J1{b:Nat}{a ka:Nat}(h:ks[a]?=some ka):atF b ks (a+1)=ka:=by simp[atF,lGd,h]
theorem qJQ(nd:ks.Nodup)(hk:ks[i]?=some k)(hc:m.C[k]?=some c)(hx:N[i+1]?=some x)(hs:s+1<x.P.length):
  qr (ovM m (gkw ks (dW N T D))) (k:Int) ((dW N T D i).set s (T (pt (i+1) (s+1))))=ovM m (gkw ks (dW N T (zk D (pt (i+1) (s+1))))):=by
 rw[Wk hc,qG2 nd hk,qkS hx hs];congr 1;refine qBP λj _=>?_;split
 ·next e=>rw[e]
 ·next e=>rw[qkR e]
theorem qA7(h:∀a s,Has N a s->0<a->0<s->D (pt a s)=true):dW N T D=fW N T:=by
 rw[Ze (D':=λ_=>true) h];funext i;unfold dW fW;cases N[i+1]? with
 | none=>rfl
 | some y=>simp
theorem qCG(nd:ks.Nodup)(hk:ks[i]?=some k)(hc:m.C[k]?=some c):(ovM m (gkw ks f)).C[k]?=some {c with W:=f i}:=by
 rw[Jf,hc,oMs,Xq (WR nd hk)]
theorem qCH(nd:ks.Nodup)(hl:ks.length+1<=N.length)(hc:∀(j k:Nat)(x:qB),ks[j]?=some k->N[j+1]?=some x->m.C[k]?=some (agC lev x)):ovM m (gkw ks (dW N T λ_=>false))=m:=by
 refine WH (λq=>?_) rfl rfl rfl;rw[Jf];by_cases hm:q∈ks
 ·obtain⟨j,hj⟩:=List.getElem?_of_mem hm;have hx:=gEg (show j+1<N.length by have:=qZ hj;omega);have e:=hc j q _ hj hx;rw[e,oMs,Xq (WR nd hj),Yk hx];simp[agC,List.map_const']
 ·cases m.C[q]? with
  | none=>rfl
  | some d=>rw[oMs,VZ (Qb hm)]
theorem V1:∀n,(tkV m n).2.length=n
 | 0=>rfl
 | n+1=>by rw[tkV,lAp,V1 n];rfl
theorem qK9:∀n,i<n->((tkV m n).2)[i]?=some (tkV m i).1.F
 | n+1,h=>by
  rw[tkV];by_cases e:i=n
  ·subst e;rw[gAr (by rw[V1];omega),V1,nSs];rfl
  ·rw[gAl (by rw[V1];omega)];exact qK9 n (by omega)
theorem qLB(h:MM m P (inO O ks))(J:TkV m P (inO O ks) vs (tkV m n) n)(hn:n<=nF m.C)(hi:i<n):∃v,vs[i]?=some v/\(tkV m i).1.F=(v:Int)/\(∃d,(ovM (tkV m i).1 (gkw ks f)).C[v]?=some d)/\qR (ovM (tkV m i).1 (gkw ks f)) (qX [])=ovM (tkV m (i+1)).1 (gkw ks f):=by
 obtain⟨us,K⟩:=V2 h i (by omega);obtain⟨v,d,a1,a2,a3,a4,a5⟩:=wF K.mm (by have:=K.nf;omega);have hv:=qK9 (m:=m) n hi;rw[J.at',nI2,gMp,oMi]at hv;obtain⟨v',b1,b2⟩:=hv;rw[a1]at b2;have:v'=v:=by omega
 subst this;have hn:v'∉ks:=λq=>by simp[inO,q]at a4
 exact⟨v',b1,a1,⟨_,by rw[Jf,a2];rfl⟩,qCK a1 (Qb hn)⟩
theorem qLA(h:MM m P (inO O ks))(hi:i<=nF m.C)(hc:m.C[k]?=some c)(h0:c.K≠0):(tkV m i).1.C[k]?=some c:=by
 obtain⟨us,K⟩:=V2 h i hi;exact(K.keep k c hc h0).1
def onW(ws:List zN):qH->Bool:=λq=>ws.any λw=>decide (q=w.A) || decide (q=w.B)
theorem qI3:onW []=λ_=>false:=rfl
theorem qI4{ws:List zN}{w:zN}:onW (ws++[w])=zk (zk (onW ws) w.A) w.B:=by
 funext q;simp only[onW,zk,List.any_append,List.any_cons,List.any_nil,Bool.or_false];cases decide (q=w.A)<;>cases decide (q=w.B)<;>simp
theorem qDH{w:zN}:w∈qq N↔w.A∈qO N/\w.B=qK N w.A/\bef w.A w.B=true:=by
 unfold qq wrs;rw[List.mem_map];constructor
 ·rintro⟨p,h,rfl⟩;rw[mFi]at h;exact⟨h.1,rfl,h.2⟩
 ·rintro⟨h1,h2,h3⟩;refine⟨w.A,mFi.2 ⟨h1,by rw[<-h2];exact h3⟩, ?_⟩;rw[<-h2]
theorem qBL{α:Type}{p:α->Bool}:∀{l:List α}{j:Nat}{x:α},l[j]?=some x->p x=true->(l.filter p)[(l.take j).countP p]?=some x
 |[],j,x,h,_=>by simp at h
 | a::l,0,x,h,hp=>by
  simp only[List.getElem?_cons_zero,oSi]at h;subst h;rw[List.filter_cons_of_pos hp];rfl
 | a::l,j+1,x,h,hp=>by
  have ih:=qBL (l:=l) (j:=j) (by simpa using h) hp;rw[List.take_succ_cons,List.countP_cons];cases ha:p a
  ·rw[List.filter_cons_of_neg (by rw[ha];decide)];simpa using ih
  ·rw[List.filter_cons_of_pos ha];simpa using ih
theorem Vb{p:qL}:∀{i:Nat},p∈qu N i->1<=p.A/\p.A<p.B
 | 0,h=>by cases h
 | i+1,h=>by
  rcases jL.1 h with h | h
  ·exact Vb h
  ·unfold JR at h;split at h
   ·split at h
    ·cases h
    ·split at h
     ·split at h
      ·next q=>simp only[lMg]at h;subst h;simp only;omega
      ·cases h
     ·cases h
   ·cases h
theorem Va{n:qD}{p:qL}{i:Nat}(ok:qk n=true)(h:p∈qu n.G i):∃a c:Nat,p=⟨(a+1:Nat),(c+1:Nat)⟩/\a+1<n.G.length/\c+1<n.G.length:=by
 obtain⟨a,c,rfl,h1,h2⟩:=qJD ok h;have:=Vb h;simp only at this;exact⟨a-1,c-1,by rw[show a-1+1=a by omega,show c-1+1=c by omega],by omega,by omega⟩
theorem Xw{ps:List (Nat×Nat)}{a b:Nat}:jF m (ps++[(a,b)])=wk (jF m ps) a b:=by simp[jF]
theorem Wo:∀{ps:List (Nat×Nat)}{m:qG},(jF m ps).R.length=m.R.length+ps.length
 |[],m=>rfl
 | p::ps,m=>by
  show (jF (wk m p.1 p.2) ps).R.length=_;rw[Wo];simp[wk];omega
theorem qI2(hW:W N λ_ _=>False){p:qH}(h:p∈qO N):onW (qq N) p=true:=by
 have Q:=zu hW h;unfold onW;rw[List.any_eq_true];cases hb:bef p (qK N p)
 ·refine⟨⟨qK N p,p⟩,qDH.2 ⟨Q.m,Q.pp.symm, ?_⟩,by simp⟩;have:=Zb Q.ne.symm;rw[hb]at this;simpa using this
 ·exact⟨⟨p,qK N p⟩,qDH.2 ⟨h,rfl,hb⟩,by simp⟩
end
section
variable {w:Nat} {post:List AV} {base:Nat->Prop} {nid:Nat} {h:List qA} {N:Ags} {K:AV->List qA->Prop} {a b s c k:Nat} {x y:qB} {X:Nat->Nat->Prop}
end
section
variable {N M A:Ags} {a b c d s k t u:Nat} {x y:qB} {lev v:Int} {X:Nat->Nat->Prop}
end
section
variable {w:Nat} {post:List AV} {base:Nat->Prop} {nid:Nat} {h:List qA} {N:Ags} {K:AV->List qA->Prop} {a b s c k:Nat} {x y:qB} {X:Nat->Nat->Prop}
end
section
variable {w:Nat} {post:List AV} {base:Nat->Prop} {nid:Nat} {h:List qA} {N:Ags} {K:AV->List qA->Prop} {a b s c k:Nat} {x y:qB} {X:Nat->Nat->Prop}
end
section
variable {w:Nat} {post:List AV} {base:Nat->Prop} {nid aid:Nat} {h:List qA} {N:Ags}
end
section
variable {w:Nat} {post:List AV} {base:Nat->Prop} {nid:Nat} {h:List qA} {N:Ags} {K:AV->List qA->Prop} {a b s c k:Nat} {x y:qB} {X:Nat->Nat->Prop} {t:qD}
theorem qqJ{lev d:Int}{z:qB}:Qv (QH lev d z)=Qv (lvA lev z):=by unfold QH lvA;split<;>simp[Qv]
end
section
variable {w:Nat} {post:List AV} {bk:List qD} {bid:Nat} {es:List (AV×AV)} {base:Nat->Prop} {mid nid lid:Nat} {h:List qA} {N:Ags} {K:AV->List qA->Prop} {a b s c k:Nat} {x y:qB} {ks rem:List Nat}
end
section
variable {e:Env} {w i:Nat} {el:List AV} {v:AV} {x:Ao} {r:List (Nat×Ao)}
@[go_sem] theorem qsH{a b:AV}(h:v.cells.length=w):fil e w [a,b] 0 (some v) r=jE e w [v,b] r:=by
 show (if v.cells.length=w/\0<2 then _ else _)=_;rw[iP ⟨h,by omega⟩];rfl
@[go_sem] theorem qsI{a b:AV}(h:v.cells.length=w):fil e w [a,b] 1 (some v) r=jE e w [a,v] r:=by
 show (if v.cells.length=w/\1<2 then _ else _)=_;rw[iP ⟨h,by omega⟩];rfl
@[go_sem] theorem rep2{v:AV}:List.replicate 2 v=[v,v]:=nr rfl
end
section
variable {w:Nat} {post:List AV} {bk:List qD} {bid:Nat} {es:List (AV×AV)} {base:Nat->Prop} {mid nid lid A B:Nat} {h:List qA} {N:Ags} {K:AV->List qA->Prop} {a b s c k:Nat} {x y u v:qB} {ks rem:List Nat} {R:Nat->Bool}
end
section
variable {w:Nat} {post:List AV} {base:Nat->Prop} {nid lid:Nat} {h:List qA} {N:Ags} {K:AV->List qA->Prop} {R:Nat->Bool}
end
@[go_sem] theorem qrX{w:Nat}:(AV.map w).cells=[.map w]:=rfl
section
variable {w:Nat} {post:List AV} {bk:List qD} {bid:Nat} {base:Nat->Prop} {nid mid:Nat} {h:List qA} {N:Ags} {K:AV->List qA->Prop} {R:Nat->Bool} {ks:List Nat}
end
section
variable {r:Nat->Nat} {R:Nat->Bool} {N M:Ags} {a b c d s t k f n:Nat} {x y:qB} {lab lev v:Int} {X:Nat->Nat->Prop}
end
section
variable {r:Nat->Nat} {R:Nat->Bool} {N M:Ags} {a b c d s t k f n:Nat} {x y:qB} {lab lev v:Int} {X:Nat->Nat->Prop}
end
section
variable {r:Nat->Nat} {R:Nat->Bool} {bk:List qD} {N M:Ags} {a b c d s k f n:Nat} {x y:qB} {t:qD} {lev v:Int} {X:Nat->Nat->Prop}
end
section
variable {R D D':Nat->Bool} {bk:List qD} {N M:Ags} {a b c d s k f n:Nat} {x y:qB}
end
section
variable {R:Nat->Bool} {bk:List qD} {N A:Ags} {a b c d s k u:Nat} {x y:qB}
end
def agP(L:Ags)(p:Int):qB:=L.getD p.toNat hole
section
variable {R:Nat->Bool} {N:Ags} {bk:List qD} {sch:List Int} {k:Nat}
end
section
variable {R:Nat->Bool} {N:Ags} {bk:List qD} {sch:List Int} {k a b:Nat} {x y:qB}
end
section
variable {R:Nat->Bool} {bk:List qD} {N:Ags} {a b:Nat} {x y:qB}
end
section
variable {w:Nat} {post:List AV} {bk:List qD} {bid:Nat} {base:Nat->Prop} {nid mid bx rid oid n:Nat} {h:List qA} {N:Ags} {K:AV->List qA->Prop} {R:Nat->Bool} {ks:List Nat} {rest:List AV}
end
section
variable {α:Type} {p:α->Bool}
end
section
variable {oid n f:Nat} {h:List qA} {K:AV->List qA->Prop} {caps:List AV} {p:qL->Bool} {xs:List qL}
end
section
variable {Γ:Nat->Option AFn} {g:Nat} {vs:List AV} {h:List qA} {K:AV->List qA->Prop}
end
abbrev ZL:=List (Nat×List Int)
abbrev ids(rid:Nat)(Z:ZL):List Nat:=rid::Z.map (·.1)
section
variable {bk:List qD} {bid b rid nid mid:Nat} {ks:List Nat} {R:Nat->Bool} {N:Ags} {Z:ZL} {h h' h0:List qA} {K:AV->List qA->Prop}
end
section
variable {bk:List qD} {bid b rid nid mid:Nat} {ks:List Nat} {R:Nat->Bool} {N:Ags} {Z:ZL} {h h' h0:List qA} {K:AV->List qA->Prop}
def Qd(c:List Int)(x:Int):List Int:=c.set (x-1).toNat (c.getD (x-1).toNat 0+1)
def ja(T:List Int):List Int:=T.foldl Qd (List.replicate 7 0)
theorem qj3{T:List Int}{x:Int}:ja (T++[x])=Qd (ja T) x:=by unfold ja;rw[List.foldl_append];rfl
theorem qj2{T:List Int}:(ja T).length=7:=by
 have:∀(T:List Int)(c:List Int),(T.foldl Qd c).length=c.length:=by
  intro T
  induction T with
  | nil=>intro c;rfl
  | cons x T ih=>intro c;rw[List.foldl_cons,ih];simp[Qd]
 unfold ja;rw[this];rfl
theorem qmA{c:List Int}{x:Int}{m:Int}(h0:0<=m)(h:∀y∈c,0<=y/\y<=m):∀y∈Qd c x,0<=y/\y<=m+1:=by
 intro y hy;unfold Qd at hy;rcases List.mem_or_eq_of_mem_set hy with q | q
 ·have:=h y q;omega
 ·subst q;rw[lGd];cases e:c[(x-1).toNat]? with
  | none=>simp;omega
  | some z=>have:=h z (lMo e);simp;omega
theorem qj1{T:List Int}:∀y∈ja T,0<=y/\y<=(T.length:Int):=by
 have:∀(T:List Int)(c:List Int)(m:Int),0<=m->(∀y∈c,0<=y/\y<=m)->∀y∈T.foldl Qd c,0<=y/\y<=m+T.length:=by
  intro T
  induction T with
  | nil=>intro c m _ h y hy;have:=h y hy;simp;omega
  | cons x T ih=>
   intro c m h0 h y hy;have:=ih (Qd c x) (m+1) (by omega) (qmA h0 h) y hy;simp;omega
 intro y hy;have:=this T _ 0 (by omega) (λy hy=>by simp at hy;omega) y hy;omega
end
section
variable {bk:List qD} {bid b rid nid mid:Nat} {ks:List Nat} {R:Nat->Bool} {N:Ags} {Z:ZL} {h h':List qA} {K:AV->List qA->Prop} {i id:Nat} {xs ys:List Int} {v:Int}
end
section
variable {bk:List qD} {bid b rid nid mid cid tid uid eid A B a c:Nat} {ks:List Nat} {R:Nat->Bool} {N:Ags} {Z:ZL} {h h':List qA} {K:AV->List qA->Prop} {T U E:List Int} {x y u v:qB}
end
structure zR where
 Id:Int
 Weight:Int
 State:Int
 Code:Int
 Left:Int
 Slices:Int
 U:List Int
 Q:List Int
 Y:List qD
 Net:qD
def zR.enc(x:zR):AV:=.agg [iI x.Id,iI x.Weight,iI x.State,iI x.Code,iI x.Left,iI x.Slices,lQ x.U,lQ x.Q,.lst 1 (x.Y.map qD.enc) false,.lst 5 (x.Net.G.map qB.enc) false]
theorem zR.isSh:Sh zR.enc 10 (some 10):=⟨λx=>by simp[zR.enc,AV.tree,AV.trees,qb qB.isSh.tree,qb qD.isSh.tree,qb shI.tree],λ_=>rfl,λ_=>rfl,by decide,λx=>by simp[zR.enc]⟩
section
variable {x:zR}
@[go_sem] theorem zR.tr:x.enc.tree=true:=zR.isSh.tree x
@[go_sem] theorem zR.ln:x.enc.cells.length=10:=nr rfl
@[go_sem] theorem zR.all:x.enc.part 0 (some 10)=some x.enc:=nr rfl
@[go_sem] theorem zR.cs:x.enc.cells=[iI x.Id,iI x.Weight,iI x.State,iI x.Code,iI x.Left,iI x.Slices,lQ x.U,lQ x.Q,.lst 1 (x.Y.map qD.enc) false,.lst 5 (x.Net.G.map qB.enc) false]:=nr rfl
@[go_sem] theorem zR.p0:x.enc.part 0 none=some (iI x.Id):=nr rfl
@[go_sem] theorem zR.p1:x.enc.part 1 none=some (iI x.Weight):=nr rfl
@[go_sem] theorem zR.p2:x.enc.part 2 none=some (iI x.State):=nr rfl
@[go_sem] theorem zR.p3:x.enc.part 3 none=some (iI x.Code):=nr rfl
@[go_sem] theorem zR.p4:x.enc.part 4 none=some (iI x.Left):=nr rfl
end
def zR.sz(x:zR):Nat:=x.U.length+x.Q.length+(x.Y.length+zD qD.sz x.Y)+qD.sz x.Net
def zR.bd(x:zR):Prop:=x.U.length<=140737488355328/\x.Q.length<=140737488355328/\x.Y.length<=140737488355328/\(∀y∈x.Y,qD.bd y)/\qD.bd x.Net
structure zp where
 Quantum:Int
 NextId:Int
 Turn:Int
 Jobs:List zR
def zp.enc(x:zp):AV:=.agg [iI x.Quantum,iI x.NextId,iI x.Turn,.lst 10 (x.Jobs.map zR.enc) false]
theorem zp.isSh:Sh zp.enc 4 (some 4):=⟨λx=>by simp[zp.enc,AV.tree,AV.trees,qb zR.isSh.tree],λ_=>rfl,λ_=>rfl,by decide,λx=>by simp[zp.enc]⟩
section
variable {x:zp}
@[go_sem] theorem zp.tr:x.enc.tree=true:=zp.isSh.tree x
@[go_sem] theorem zp.ln:x.enc.cells.length=4:=nr rfl
@[go_sem] theorem zp.all:x.enc.part 0 (some 4)=some x.enc:=nr rfl
@[go_sem] theorem zp.cs:x.enc.cells=[iI x.Quantum,iI x.NextId,iI x.Turn,.lst 10 (x.Jobs.map zR.enc) false]:=nr rfl
@[go_sem] theorem zp.p0:x.enc.part 0 none=some (iI x.Quantum):=nr rfl
@[go_sem] theorem zp.p1:x.enc.part 1 none=some (iI x.NextId):=nr rfl
@[go_sem] theorem zp.p2:x.enc.part 2 none=some (iI x.Turn):=nr rfl
@[go_sem] theorem zp.p3:x.enc.part 3 none=some (.lst 10 (x.Jobs.map zR.enc) false):=nr rfl
end
def zp.sz(x:zp):Nat:=(x.Jobs.length+zD zR.sz x.Jobs)
def zp.bd(x:zp):Prop:=x.Jobs.length<=140737488355328/\(∀y∈x.Jobs,zR.bd y)
theorem zR.plx(x:zR):x.enc.pl=true:=by simp[zR.enc,AV.pl,AV.pls,jT (enc:=qQ) (λ_=>rfl),jT qB.plx,jT qD.plx]
theorem zR.cnx(x:zR):x.enc.cn=true:=by simp[zR.enc,AV.cn,AV.cns,j8 (enc:=qQ) (λ_=>rfl),j8 qB.cnx,j8 qD.cnx]
theorem zR.layE(x:zR)(n:Nat):lay x.enc n=(.agg [iI x.Id,iI x.Weight,iI x.State,iI x.Code,iI x.Left,iI x.Slices,sQ 1 (n) x.U.length,.slice 1 (n+AV.rows (lQ x.U)) 0 x.Q.length false,.slice 1 (n+AV.rows (lQ x.U)+AV.rows (lQ x.Q)) 0 x.Y.length false,.slice 5 (n+AV.rows (lQ x.U)+AV.rows (lQ x.Q)+AV.rows (.lst 1 (x.Y.map qD.enc) false)) 0 x.Net.G.length false],(lay (lQ x.U) (n)).2++((lay (lQ x.Q) (n+AV.rows (lQ x.U))).2++((lay (.lst 1 (x.Y.map qD.enc) false) (n+AV.rows (lQ x.U)+AV.rows (lQ x.Q))).2++((lay (.lst 5 (x.Net.G.map qB.enc) false) (n+AV.rows (lQ x.U)+AV.rows (lQ x.Q)+AV.rows (.lst 1 (x.Y.map qD.enc) false))).2++[])))):=by
 simp[zR.enc,lay,qT,wO,AV.rows,Nat.add_assoc,Nat.add_comm,Nat.add_left_comm]
theorem zp.plx(x:zp):x.enc.pl=true:=by simp[zp.enc,AV.pl,AV.pls,jT zR.plx]
theorem zp.cnx(x:zp):x.enc.cn=true:=by simp[zp.enc,AV.cn,AV.cns,j8 zR.cnx]
theorem zp.layE(x:zp)(n:Nat):lay x.enc n=(.agg [iI x.Quantum,iI x.NextId,iI x.Turn,sQ 10 (n) x.Jobs.length],(lay (.lst 10 (x.Jobs.map zR.enc) false) (n)).2++[]):=by
 simp[zp.enc,lay,qT,wO,AV.rows,Nat.add_assoc,Nat.add_comm,Nat.add_left_comm]
section
variable {S Sb Sn Sc Ss:List (Option Nat)} {h h':List qA} {v vc vs vb vn:AV} {j:zR} {cj sj bj aj:Nat}
end
section
variable {h:List qA} {K:AV->List qA->Prop} {jid k:Nat} {vs:List AV} {i0 i1 i2 i3 i4 i5 st cd:Int} {vc vq vb vn u:AV}
end
section
variable {h:List qA} {K:AV->List qA->Prop} {jid k most:Nat} {vs:List AV} {v:AV} {j:zR} {S:List (Option Nat)}
end
section
variable {S:List (Option Nat)} {h h':List qA} {v t:AV} {vs ts:List AV}
end
section
variable {Z:List (Option Nat)->Prop} {qid jid:Nat} {vs:List AV} {SS:List (List (Option Nat))} {q:zp} {h:List qA} {K:AV->List qA->Prop}
end
section
variable {Z:List (Option Nat)->Prop} {qid jid:Nat} {vs:List AV} {SS:List (List (Option Nat))} {q:zp} {h:List qA} {K:AV->List qA->Prop}
end
section
variable {Z:List (Option Nat)->Prop} {qid jid:Nat} {vs:List AV} {SS:List (List (Option Nat))} {q:zp} {h:List qA}
end
section
variable {h:List qA} {K:AV->List qA->Prop} {jid k:Nat} {vs:List AV} {i0 i1 i2 i3 i4 i5 st cd:Int} {vc vq vb vn u:AV}
theorem c978{a b:Int}:Pure Gm 978 [iI a,iI b] (iI (if a<b then a else b)):=by
 refine pJ F978 ?_;simp only[F978,qM,go_sem]
 repeat' (first | (refine qa rfl ?_;simp only[go_sem]) | (first | (apply zF<;>intro hc<;>simp only[hc,go_sem]) | (apply qU<;>intro hc<;>simp only[hc,go_sem])) | refine qN rfl ?_ | refine zT (by rfl) ?_)
 all_goals (simp_all<;>omega)
end
section
variable {h:List qA} {K:AV->List qA->Prop} {jid k:Nat} {vs:List AV} {i0 i1 i2 i3 i4 i5:Int} {vc vq vb:AV} {J:zR}
end
theorem qjX{u v:qB}(hu:qg u=true)(hv:qg v=true)(h:zr u.K u.L v.K v.L=2):za u v=za v u:=by
 rw[qFS hu hv h];unfold za;rw[iN (by rintro⟨a,b,_⟩;have:=(qIU hu hv a b).2;omega)]
section
variable {w:Nat} {post post':List AV} {P P':Nat->Prop} {nid aid rid:Nat} {ps:List Nat} {h h':List qA} {N:Ags} {T:List Int} {R:Nat->Bool} {bk:List qD} {a b A B:Nat} {x y u v:qB} {K:AV->List qA->Prop}
end
section
variable {P:Nat->Prop} {rid sid most:Nat} {h:List qA} {N:Ags} {T sch:List Int} {R:Nat->Bool} {bk:List qD} {K:AV->List qA->Prop} {RES:Ags×List Int×Bool×Int}
end
section
variable {S:List Nat} {h h':List qA} {v:AV} {j:zR}
theorem Cv.ints{x:Int}:Cv h (iI x) (iI x):=.refl rfl
end
section
variable {qid jid:Nat} {vs:List AV} {SS:List (List Nat)} {q:zp} {h:List qA}
end
set_option maxHeartbeats 4000000
section
variable {S T:Nat->Prop} {h h' h1 h2 h3:List qA} {i j id:Nat} {o:qA}
theorem ends{h:List qA}{o:qA}:(h++[o])[h.length]?=some o:=by simp
def Up(S:Nat->Prop)(h h':List qA):Prop:=h.length<=h'.length/\∀(j:Nat)(o:qA),h[j]?=some o->¬S j->h'[j]?=some o
theorem jC{o:List qA}{o':qA}(q:h[j]?=some o'):(h++o)[j]?=some o':=by rw[gAl (qZ q)];exact q
theorem Up.refl:Up S h h:=⟨nLr _,λ_ _ q _=>q⟩
theorem Up.trans(x:Up S h h1)(y:Up T h1 h2)(hs:∀j,j<h.length->T j->S j):Up S h h2:=⟨nLt x.1 y.1,λj o q n=>y.2 j o (x.2 j o q n) λt=>n (hs j (qZ q) t)⟩
theorem Up.app(o:List qA):Up S h (h++o):=⟨by simp,λj o' q _=>jC q⟩
theorem Up.set:Up (λj=>j=id) h (h.set id o):=⟨by simp,λj o' q n=>by rw[gSn (Ne.symm n)];exact q⟩
theorem Up.at(x:Up S h h1)(q:h[j]?=some o)(n:¬S j):h1[j]?=some o:=x.2 j o q n
theorem Up.w(x:Up S h h1)(q:∀j,j<h.length->S j->T j):Up T h h1:=⟨x.1,λj o e n=>x.2 j o e λs=>n (q j (qZ e) s)⟩
theorem qn1{a b:qA}(x:h[id]?=some a)(y:h[j]?=some b)(n:a≠b):id≠j:=λe=>by subst e;rw[x]at y;cases y;exact n rfl
end
def LsW(P:Nat->Prop)(w:Nat)(h:List qA)(v:AV)(el:List AV):Prop:=(v=.nils/\el=[])\/∃id,P id/\v=sQ w id el.length/\h[id]?=some (.row w el true)
section
variable {P Q':Nat->Prop} {w:Nat} {h h1:List qA} {v:AV} {el:List AV}
theorem LsW.len(x:LsW P w h v el):QB (some v)=some (iI (el.length:Nat)):=by
 rcases x with⟨rfl,rfl⟩ | ⟨id,_,rfl,_⟩<;>rfl
theorem LsW.keep(x:LsW P w h v el)(k:∀j,P j->h[j]?=some (.row w el true)->h1[j]?=some (.row w el true)):LsW P w h1 v el:=by
 rcases x with x | ⟨id,q1,q2,q3⟩
 ·exact .inl x
 ·exact .inr ⟨id,q1,q2,k _ q1 q3⟩
theorem LsW.app(x:LsW P w h v el)(o:List qA):LsW P w (h++o) v el:=x.keep λj _ q=>jC q
theorem LsW.cv(x:LsW P w h v el)(ht:AV.trees el=true)(hw:0<w):Cv h v (.lst w el false):=by
 rcases x with⟨rfl,rfl⟩ | ⟨id,q1,rfl,q3⟩
 ·exact .nils
 ·exact Cv.row (c:=false) q3 rfl ht hw
theorem wc{E:Ev}{l:List qC}{ks:List Fr1}{s m:qp}{Q:qi->VSt->Prop}{k id2:Nat}{c2:Bool}{x:AV}(ho:LsW P w h v el)(h2:h[id2]?=some (.row w [x] true))(hl:el.length<4000000000)
  (hr:∀h3,Up (λj=>P j/\v=sQ w j el.length) h h3->h3[h.length]?=some (.row w (el++[x]) true)->h3.length=h.length+1->R E (.ops l::ks) ⟨(k,sQ w h.length (el.length+1))::s,m,h3⟩ Q):JC E w (some k) (some v) (some (.slice w id2 0 1 c2)) l ks ⟨s,m,h⟩ Q:=by
 rcases ho with⟨rfl,rfl⟩ | ⟨id,q1,rfl,q3⟩
 ·exact qEG (ys:=[x]) (Els.row h2 rfl) (by simp) (hr _ (Up.app _) (by simp) (by simp))
 ·exact WD h2 q3 rfl (by omega) (hr _ ((Up.set (id:=id)).trans (Up.app _ (S:=λj=>j=id)) (λ_ _ q=>q) |>.w λj _ e=>⟨by rw[e];exact q1,by rw[e]⟩) (by rw[gAr (by simp)];simp) (by simp))
end
theorem qpN{α:Type}{a:α}{n:Nat}:List.replicate n a++[a]=List.replicate (n+1) a:=by
 rw[List.replicate_succ',]
theorem qE0{c:qF}(hl:c.W.length<=1048576):Pure Gm 1277 [.ept c.enc 0] (qY c).enc:=by
 refine pI Ul (by simp[AV.trees,AV.tree,go_sem]) qB.tr ?_;simp only[Ul,qM,go_sem];refine lsA ?_;simp only[go_sem];refine Sem.loop (λa:Nat×AV×List qA=>a.1<=c.W.length/\LsW (λ_=>True) 2 a.2.2 a.2.1 ((List.replicate (a.1+1) (⟨0,0⟩:qH)).map qH.enc))
  (λa=>(⟨[(0,.ept c.enc 0),(4,iI (a.1:Nat))],[(3,.agg [iI c.K,iI c.L,iI c.V,lQ c.D,a.2.1]),(2,.agg [iI 0,iI 0,iI 0,.nils,.nils])],a.2.2⟩:VSt)) (λa=>c.W.length-a.1)
  (0,sQ 2 0 1,_) (by kernel_rfl) ⟨nZl _,.inr ⟨0,trivial,rfl,rfl⟩⟩ csA ?_
 rintro⟨i,v,hh⟩ ⟨hi,I⟩;simp only at hi I;simp only[go_sem];by_cases hlt:i<c.W.length
 ·have e:decide ((i:Int)<(c.W.length:Nat))=true:=dEt (by omega);simp only[e,go_sem];refine wc (I.app _) ends (by simp;omega) λh3 u3 v3 l3=>?_;simp only[go_sem,wuA (n:=i)];have ex:(List.replicate (i+1) (⟨0,0⟩:qH)).map qH.enc++[AV.agg [iI 0,iI 0]]=(List.replicate (i+1+1) (⟨0,0⟩:qH)).map qH.enc:=by
   rw[<-qpN (n:=i+1),lMa];rfl
  refine qd (i+1,.slice 2 (hh++[qA.row 2 [AV.agg [AV.int IntKind.i64 0,AV.int IntKind.i64 0]] true]).length 0 ((List.replicate (i+1) (⟨0,0⟩:qH)).map qH.enc).length.succ false,h3) ⟨hlt,.inr ⟨(hh++[qA.row 2 [AV.agg [AV.int IntKind.i64 0,AV.int IntKind.i64 0]] true]).length,trivial,by simp,by rw[<-ex];exact v3⟩⟩ (by simp only;omega) csA
 ·have e:decide ((i:Int)<(c.W.length:Nat))=false:=dEf (by omega);simp only[e,go_sem];refine lsA ?_;simp only[go_sem];obtain rfl:i=c.W.length:=by omega
  have hc:=I.cv (qb qH.isSh.tree _) (by decide);have:=Cvs.cons (Cv.ints (h:=hh) (x:=c.K)) (Cvs.cons (Cv.ints (x:=c.L)) (Cvs.cons (Cv.ints (x:=c.V)) (Cvs.cons (.refl (v:=lQ c.D) (qb shI.tree _)) (Cvs.cons hc Cvs.nil))));exact J7 (.agg this.1 this.2)
def kB(w:qE)(c:qF):Bool:=(decide (w.T=1)&&qx c.K) || (decide (w.T=2)&&decide (c.K=13))
def JU(C:List qF)(w:qE):Bool:=inI w.I 0 ((C.length:Int)-1)&&((C[w.I.toNat]?).map (kB w)).getD false
theorem qDL{C:List qF}{w:qE}:JU C w=true↔wOk C w:=by
 unfold JU wOk;constructor
 ·intro h;simp only[bAt,inI,dTe]at h;obtain⟨⟨h1,h2⟩,h3⟩:=h;obtain⟨k,hk⟩:=eOz h1;rw[hk,iTn]at h3;cases hc:C[k]? with
  | none=>rw[hc]at h3;cases h3
  | some c=>
   rw[hc]at h3;refine⟨k,c,hk,hc, ?_⟩;simpa[kB]using h3
 ·rintro⟨k,c,h1,h2,h3⟩;have:=(gSi.1 h2).1;rw[h1,iTn,h2];simp only[oMs,Option.getD_some,bAt,inI,dTe];refine⟨by omega, ?_⟩;simpa[kB]using h3
theorem qrA{C:List qF}{w:qE}(h:inI w.I 0 ((C.length:Int)-1)=false):JU C w=false:=by rw[JU,h];rfl
theorem qq9{C:List qF}{t:Int}{k:Nat}{c:qF}(hc:C[k]?=some c):JU C ⟨t,k⟩=kB ⟨t,k⟩ c:=by
 have:=zP hc;have e:inI (k:Int) 0 ((C.length:Int)-1)=true:=by simp only[inI,bAt,dTe];omega
 rw[JU];simp only[e,Bool.true_and,iTn,hc,oMs,Option.getD_some]
def J5(c:qF)(size:Int):Bool:=
 if c.K=0 then decide (c.L=0)&&decide ((c.D.length:Int)=0)&&decide ((c.W.length:Int)=0)&&inI c.V (-1) (size-1)
 else if c.K=13 then decide (c.L=0)&&decide (c.V=0)&&decide ((c.D.length:Int)=0)&&decide ((c.W.length:Int)<2)
 else if qx c.K=true then qg (qY c)else false
def V7(C:List qF)(w:qE):List qE:=((C[w.I.toNat]?).map (·.W)).getD []
def res(C:List qF):Nat->qE->qE×Bool
 | 0,w=>(w,false)
 | n+1,w=>if w.T≠2 then(w,true)else match V7 C w with
  |[]=>(w,true)
  | x::_=>res C n x
def allW(C:List qF):Prop:=∀(k:Nat)(c:qF),C[k]?=some c->∀w∈c.W,wOk C w
theorem V8{C:List qF}{t:Int}{k:Nat}{c:qF}(hc:C[k]?=some c):V7 C ⟨t,k⟩=c.W:=by
 simp[V7,hc]
theorem qh1{P:Nat->Prop}{w:Nat}{h:List qA}{v:AV}{el ys:List AV}{b:AV}{E:Ev}{l:List qC}{ks:List Fr1}{s m:qp}{Q:qi->VSt->Prop}{k:Nat}(ho:LsW P w h v el)(hy:Els h w b ys)(hl:el.length+ys.length<=4294967296)
  (hr:∀h3,Up (λj=>P j/\v=sQ w j el.length) h h3->h3[h.length]?=some (.row w (el++ys) true)->h3.length=h.length+1->R E (.ops l::ks) ⟨(k,sQ w h.length (el.length+ys.length))::s,m,h3⟩ Q):JC E w (some k) (some v) (some b) l ks ⟨s,m,h⟩ Q:=by
 rcases ho with⟨rfl,rfl⟩ | ⟨id,q1,rfl,q3⟩
 ·refine qEG hy (by simpa using hl) ?_;have:=hr (h++[.row w ys true]) (Up.app _) (by simp) (by simp);simpa using this
 ·exact XA hy q3 rfl (by omega) (hr _ ((Up.set (id:=id)).trans (Up.app _ (S:=λj=>j=id)) (λ_ _ q=>q) |>.w λj _ e=>⟨by rw[e];exact q1,by rw[e]⟩) (by rw[gAr (by simp)];simp) (by simp))
theorem qlN{C:List qF}{i:Nat}:((C.take i).flatMap (·.W)).length<=(C.flatMap (·.W)).length:=by
 have h:(C.flatMap (·.W))=((C.take i).flatMap (·.W))++((C.drop i).flatMap (·.W)):=by
  rw[<-List.flatMap_append,List.take_append_drop]
 rw[h,lAp];omega
theorem qlP{C:List qF}{i:Nat}{c:qF}(hc:C[i]?=some c):(C.take (i+1)).flatMap (·.W)=(C.take i).flatMap (·.W)++c.W:=by
 rw[tA1,hc,Option.toList_some,List.flatMap_append];simp
def jq(C:List qF):Nat:=C.countP λc=>decide (c.K=0)
def we(C:List qF):Nat->Int->Bool
 | 0,a=>decide (a= -1)
 | n+1,a=>inI a 0 ((C.length:Int)-1)&&(((C[a.toNat]?).map λc=>decide (c.K=0)&&we C n c.V).getD false)
theorem qFK{C:List qF}{n:Nat}{a:Int}(h:inI a 0 ((C.length:Int)-1)=false):we C (n+1) a=false:=by rw[we,h];rfl
theorem qAX{C:List qF}{n k:Nat}{c:qF}(hc:C[k]?=some c):we C (n+1) k=(decide (c.K=0)&&we C n c.V):=by
 have:=zP hc;have e:inI (k:Int) 0 ((C.length:Int)-1)=true:=by simp only[inI,bAt,dTe];omega
 rw[we];simp only[e,Bool.true_and,iTn,hc,oMs,Option.getD_some]
theorem qlR{C:List qF}{i:Nat}{c:qF}(hc:C[i]?=some c):jq (C.take (i+1))=jq (C.take i)+(if c.K=0 then 1 else 0):=by
 rw[jq,tA1,hc,Option.toList_some,List.countP_append,List.countP_cons];simp[jq]
theorem qGY{C:List qF}:jq C<=C.length:=List.countP_le_length ..
section
variable {C:List qF} {a fr:Int} {n k:Nat} {L M:List Nat}
theorem qFM:∀{L M:List Nat}{a:Int},chn C a L->chn C a M->L=M
 |[],[],a,_,_=>rfl
 |[],k::M,a,h1,h2=>by have:=h1;have:=h2.1;simp only[chn]at h1;omega
 | k::L,[],a,h1,h2=>by have:=h1.1;simp only[chn]at h2;omega
 | k::L,j::M,a,⟨h1,c,h2,h3,h4⟩,⟨g1,d,g2,g3,g4⟩=>by
  obtain rfl:k=j:=by omega
  rw[h2]at g2;cases g2;rw[qFM h4 g4]
theorem qFO:∀{L:List Nat}{a:Int},chn C a L->k∈L->∃D,chn C k (k::D)/\D.length<L.length
 |[],a,_,h=>by cases h
 | j::L,a,⟨h1,c,h2,h3,h4⟩,h=>by
  rcases mCo.1 h with rfl | h
  ·exact⟨L,⟨rfl,c,h2,h3,h4⟩,by simp⟩
  ·obtain⟨D,d1,d2⟩:=qFO h4 h;exact⟨D,d1,by simp only[lCo];omega⟩
theorem qFN:∀{L:List Nat}{a:Int},chn C a L->L.Nodup
 |[],a,_=>List.nodup_nil
 | j::L,a,⟨h1,c,h2,h3,h4⟩=>by
  refine List.nodup_cons.2 ⟨λh=>?_,qFN h4⟩;obtain⟨D,d1,d2⟩:=qFO h4 h;have:=qFM d1 (M:=j::L) ⟨rfl,c,h2,h3,h4⟩;cases this;omega
theorem qFJ:∀{n:Nat}{a:Int},we C n a=true->∃L:List Nat,L.length=n/\chn C a L
 | 0,a,h=>⟨[],rfl,show a= -1 from odT h⟩
 | n+1,a,h=>by
  have hj:inI a 0 ((C.length:Int)-1)=true:=by
   cases q:inI a 0 ((C.length:Int)-1)
   ·rw[qFK q]at h;cases h
   ·rfl
  simp only[inI,bAt,dTe]at hj;obtain⟨k,rfl⟩:=eOz hj.1;have hk:k<C.length:=by omega
  have hc:=gEg hk;generalize C[k]=c at hc;rw[qAX hc]at h;simp only[bAt,dTe]at h;obtain⟨L,l1,l2⟩:=qFJ h.2;exact⟨k::L,by simp[l1],rfl,c,hc,h.1,l2⟩
theorem qFL:∀{L:List Nat}{a:Int},chn C a L->we C L.length a=true
 |[],a,h=>by simpa[we,chn]using h
 | k::L,a,⟨h1,c,h2,h3,h4⟩=>by
  subst h1;rw[lCo,qAX h2,h3,qFL h4];rfl
def XV(C:List qF):List Nat:=(List.range C.length).filter λk=>decide ((C[k]?.map (·.K))=some 0)
theorem qlQ:∀{C:List qF},(XV C).length=jq C:=by
 intro C;unfold XV jq;rw[<-List.countP_eq_length_filter]
 induction C with
 | nil=>rfl
 | cons c r ih=>
  rw[lCo,List.range_succ_eq_map,List.countP_cons,List.countP_cons,List.countP_map];have:(List.countP ((λk=>decide (((c::r)[k]?.map (·.K))=some 0))∘Nat.succ) (List.range r.length))=List.countP (λk=>decide ((r[k]?.map (·.K))=some 0)) (List.range r.length):=rfl;rw[this,ih];simp
theorem qGX:k∈XV C↔∃c,C[k]?=some c/\c.K=0:=by
 simp only[XV,mFi,lMr,dTe,oMi];exact⟨λh=>h.2,λh=>⟨by obtain⟨c,h1,_⟩:=h;exact zP h1,h⟩⟩
theorem FrC.of(h:we C (jq C) fr=true):∃L,FrC C fr L:=by
 obtain⟨L,l1,l2⟩:=qFJ h;have nd:=qFN l2;refine⟨L,nd,l2,λk c hc hk=>?_⟩;refine Classical.byContradiction λhn=>?_;have h1:(k::L).Nodup:=List.nodup_cons.2 ⟨hn,nd⟩;have h2:=h1.length_le_of_subset (l₂:=XV C) λj hj=>by
  rcases mCo.1 hj with rfl | hj
  ·exact qGX.2 ⟨c,hc,hk⟩
  ·exact qGX.2 (WI (L:=L) l2 j hj)
 rw[qlQ,lCo]at h2;omega
theorem FrC.val(h:FrC C fr L){c:qF}(hc:C[k]?=some c)(h0:c.K=0):inI c.V (-1) ((C.length:Int)-1)=true:=by
 have hk:=h.all k c hc h0;have key:∀{L:List Nat}{a:Int},chn C a L->k∈L->-1<=c.V/\c.V<=(C.length:Int)-1:=by
  intro L
  induction L with
  | nil=>intro a _ q;cases q
  | cons j L ih=>
   rintro a ⟨h1,d,h2,h3,h4⟩ q;rcases mCo.1 q with rfl | q
   ·rw[hc]at h2;cases h2;cases L with
    | nil=>simp only[chn]at h4;omega
    | cons i L=>
     obtain⟨g1,e,g2,_⟩:=h4;have:=zP g2;omega
   ·exact ih h4 q
 have:=key h.ch hk;simp only[inI,bAt,dTe];omega
end
def qz(m:qG):List qE:=m.O::m.C.flatMap (·.W)
def jb(m:qG)(k:Nat):Nat:=cw k (qz m)+cr k m.R
def Qr(C:List qF)(a:Int):Bool:=((C[a.toNat]?).map λc=>qx c.K).getD false
def wV(C:List qF)(p:qL):Bool:=inI p.B 1 ((C.length:Int)-1)&&inI p.A 0 (p.B-1)&&Qr C p.A&&Qr C p.B
structure VM(m:qG):Prop where
 sz:inI m.C.length 1 1500=true
 rs:m.R.length<=m.C.length
 cell:∀c∈m.C,J5 c m.C.length=true
 wrd:∀w∈qz m,JU m.C w=true
 rdx:∀p∈m.R,wV m.C p=true
 cnt:∀(k:Nat)(c:qF),m.C[k]?=some c->(qx c.K=true->jb m k=1)/\(c.K=13->jb m k+c.W.length=2)
 ends:∀(k:Nat)(c:qF),m.C[k]?=some c->c.K=13->(res m.C (m.C.length+1) ⟨2,k⟩).2=true
 chn:we m.C (jq m.C) m.F=true
noncomputable def Qg(m:qG):Bool:= @decide (VM m) (Classical.propDecidable _)
theorem VG{m:qG}:Qg m=true↔VM m:=by unfold Qg;exact @decide_eq_true_iff _ (Classical.propDecidable _)
theorem qnO{m:qG}(h:¬VM m):Qg m=false:=by
 cases q:Qg m
 ·rfl
 ·exact absurd (VG.1 q) h
theorem Q2{k:Int}(h:qx k=true):k≠0/\k≠13:=by
 simp only[qx,bAt,dTe]at h;omega
theorem qAS{c:qF}{s:Int}(h:J5 c s=true):zi c:=by
 unfold J5 at h;split at h
 ·rename_i h0;simp only[bAt,dTe]at h;obtain⟨⟨⟨h1,h2⟩,h3⟩,h4⟩:=h;exact .inr (.inr ⟨h0,h1,lEz (by omega),lEz (by omega)⟩)
 ·split at h
  ·rename_i h0;simp only[bAt,dTe]at h;obtain⟨⟨⟨h1,h2⟩,h3⟩,h4⟩:=h;exact .inr (.inl ⟨h0,h1,h2,lEz (by omega),by omega⟩)
  ·split at h
   ·next h0=>exact .inl ⟨h0,h⟩
   ·cases h
theorem qA4{k:Nat}:∀{C:List qF}(i:Nat),wS (λ_=>false) k i C=cw k (C.flatMap (·.W))
 |[],i=>rfl
 | c::r,i=>by rw[wS,List.flatMap_cons,JG,<-qA4 (i+1)];rfl
theorem qD8{C:List qF}{a:Int}(h0:0<=a)(h:Qr C a=true):wOk C ⟨1,a⟩:=by
 obtain⟨k,rfl⟩:=eOz h0;unfold Qr at h;rw[iTn]at h;cases hc:C[k]? with
 | none=>rw[hc]at h;cases h
 | some c=>rw[hc]at h;exact⟨k,c,rfl,hc,.inl ⟨rfl,h⟩⟩
theorem qDF{C:List qF}{w:qE}{k:Nat}{c:qF}(h:wOk C w)(e:w.I=(k:Int))(hc:C[k]?=some c):c.K≠0:=by
 obtain⟨j,d,h1,h2,h3⟩:=h;obtain rfl:j=k:=by omega
 rw[hc]at h2;cases h2;rcases h3 with⟨_,h3⟩ | ⟨_,h3⟩
 ·exact(Q2 h3).1
 ·omega
theorem qkJ{k:Nat}{ws:List qE}(h:∀w∈ws,w.I≠(k:Int)):cw k ws=0:=List.countP_eq_zero.2 λw hw=>by simpa using h w hw
theorem VM.words{m:qG}(h:VM m):∀w∈qz m,wOk m.C w:=λw hw=>qDL.1 (h.wrd w hw)
theorem VM.allW{m:qG}(h:VM m):allW m.C:=λk c hc w hw=>h.words w (.tail _ (List.mem_flatMap.2 ⟨c,lMo hc,hw⟩))
theorem VM.pr{m:qG}(h:VM m):∀p∈m.R,p.A<p.B/\wOk m.C ⟨1,p.A⟩/\wOk m.C ⟨1,p.B⟩:=λp hp=>by
 have:=h.rdx p hp;simp only[wV,bAt,inI,dTe]at this;obtain⟨⟨⟨h1,h2⟩,h3⟩,h4⟩:=this;exact⟨by omega,qD8 h2.1 h3,qD8 (by omega) h4⟩
theorem VM.mi{m:qG}(h:VM m):MI m.C m.F m.O m.R [] (λ_=>false) where
 form:=λk c hc _=>qAS (h.cell c (lMo hc))
 opn:=λk c _ q=>by cases q
 wrd:=λk c hc _=>h.allW k c hc
 rt:=h.words _ (.head _)
 pw:=λw hw=>by cases hw
 pr:=h.pr
 occ:=λk c hc=>by
  have e:cw k (m.O::[])+wS (λ_=>false) k 0 m.C+cr k m.R=jb m k:=by
   rw[qA4,jb,qz,zE,zE,JW];omega
  rw[e];obtain⟨c1,c2⟩:=h.cnt k c hc;rcases qAS (h.cell c (lMo hc))with⟨f1,f2⟩ | ⟨f1,f2,f3,f4,f5⟩ | ⟨f1,f2,f3,f4⟩
  ·have:=Q2 f1;rw[c1 f1,zO,iN this.1,iN (by simp[this.2])]
  ·have:=c2 f1;rw[zO,iN (by omega)];by_cases q:c.W=[]
   ·rw[iP ⟨f1,q⟩];rw[q]at this;simpa using this
   ·rw[iN (by simp[q])];have:c.W.length≠0:=λe=>q (lEz e);omega
  ·rw[zO,iP f1,jb];have h1:cw k (qz m)=0:=qkJ λw hw e=>qDF (h.words w hw) e hc f1;have h2:cr k m.R=0:=by
    unfold cr;rw[List.countP_eq_zero.2,List.countP_eq_zero.2]
    ·intro p hp q;exact qDF (w:=⟨1,p.B⟩) (h.pr p hp).2.2 (by simpa using q) hc f1
    ·intro p hp q;exact qDF (w:=⟨1,p.A⟩) (h.pr p hp).2.1 (by simpa using q) hc f1
   omega
 fre:=FrC.of h.chn
def jp(n:Nat)(f:Nat->Nat):List AV:=(List.range n).map λk=>iI (f k:Nat)
theorem qj4{n:Nat}{f:Nat->Nat}:(jp n f).length=n:=by simp[jp]
theorem wq{n k:Nat}{f:Nat->Nat}(h:k<n):(jp n f)[k]?=some (iI (f k:Nat)):=by simp[jp,h]
theorem qAY{n k:Nat}{f g:Nat->Nat}{v:Int}(h1:v=(g k:Nat))(h2:∀j,j≠k->g j=f j):(jp n f).set k (iI v)=jp n g:=by
 refine List.ext_getElem? λj=>?_;by_cases e:j=k
 ·subst e;by_cases hj:j<n
  ·rw[gSs (by rw[qj4];exact hj),wq hj,h1]
  ·rw[gEn (by simp[jp];omega),gEn (by simp[jp];omega)]
 ·rw[gSn (Ne.symm e)];by_cases hj:j<n
  ·rw[wq hj,wq hj,h2 j e]
  ·rw[gEn (by simp[jp];omega),gEn (by simp[jp];omega)]
theorem qj5{n:Nat}:jp n (λ_=>0)=List.replicate n (iI 0):=by
 refine List.ext_getElem? λj=>?_;by_cases hj:j<n
 ·rw[wq hj,List.getElem?_replicate,iP hj];rfl
 ·rw[gEn (by simp[jp];omega),gEn (by simp;omega)]
theorem qF4{ws:List qE}{i k:Nat}{w:qE}(h:ws[i]?=some w):cw k (ws.take (i+1))=cw k (ws.take i)+(if w.I=(k:Int)then 1 else 0):=by
 rw[tA1,h,Option.toList_some,JG,zE,JW];omega
theorem qA5{ws:List qE}{k:Nat}:cw k ws<=ws.length:=List.countP_le_length ..
theorem qGT:∀{C:List qF},(C.flatMap (·.W)).length<=zD qF.sz C
 |[]=>by simp
 | c::r=>by
  have:=qGT (C:=r);rw[List.flatMap_cons,lAp];simp only[zD,qF.sz];omega
theorem qF1{rx:List qL}{i k:Nat}{p:qL}(h:rx[i]?=some p):cr k (rx.take (i+1))=cr k (rx.take i)+(if p.A=(k:Int)then 1 else 0)+(if p.B=(k:Int)then 1 else 0):=by
 rw[tA1,h,Option.toList_some];unfold cr;rw[List.countP_append,List.countP_append,List.countP_cons,List.countP_cons];simp only[List.countP_nil,dTe];omega
theorem qFZ{rx:List qL}{k:Nat}:cr k rx<=2*rx.length:=by
 have h1:rx.countP (λp=>decide (p.A=(k:Int)))<=rx.length:=List.countP_le_length ..;have h2:rx.countP (λp=>decide (p.B=(k:Int)))<=rx.length:=List.countP_le_length ..;unfold cr;omega
theorem qAC{C:List qF}{k:Nat}{c:qF}(hc:C[k]?=some c):Qr C k=qx c.K:=by
 rw[Qr,iTn,hc];rfl
theorem XC{c:qF}:Pure Gm 1254 [c.enc] (.bool (qx c.K)):=by
 refine pJ Ui ?_;simp only[Ui,qM,go_sem];refine qa rfl ?_;simp only[go_sem];apply zF<;>intro hc<;>simp only[hc,go_sem]
 ·exact qN rfl (by rw[qx,hc,Bool.true_and])
 ·exact qN rfl (by rw[qx,hc];rfl)
theorem XD{c:qF}:Pure Gm 1368 [c.enc] (.bool (decide (c.K=13))):=by
 refine pJ KM ?_;simp only[KM,qM,go_sem];refine qa rfl ?_;simp only[go_sem];exact qN rfl rfl
theorem XE{c:qF}:Pure Gm 1455 [c.enc] (.bool (decide (c.K=0))):=by
 refine pJ Kg ?_;simp only[Kg,qM,go_sem];refine qa rfl ?_;simp only[go_sem];exact qN rfl rfl
def JK(C:List qF)(k:Int):Bool:=decide (0<=k)&&decide (k<(C.length:Nat))
theorem qHB{C:List qF}{k:Int}:JK C k=inI k 0 ((C.length:Int)-1):=by
 unfold JK inI;congr 1;exact decide_eq_decide.2 (by omega)
theorem qHC{C:List qF}{k:Int}(h:¬(0<=k/\k<(C.length:Nat))):JK C k=false:=Bool.eq_false_iff.2 λq=>h (by simpa[JK]using q)
theorem YX{m:qG}{k:Int}:Pure Gm 1484 [.ept m.enc 0,iI k] (.bool (JK m.C k)):=by
 refine pJ Kl ?_;simp only[Kl,qM,go_sem];apply zF<;>intro hc<;>simp only[hc,go_sem]
 ·exact qN rfl (by rw[JK,hc,Bool.true_and])
 ·exact qN rfl (by rw[JK,hc];rfl)
def JE(c:qF):Bool:=
 if qx c.K=true then qg (qY c)
 else if c.K=13 then decide (c.L=0)&&decide (c.V=0)&&decide ((c.D.length:Int)=0)&&decide ((c.W.length:Int)<=1)
 else decide (c.K=0)&&decide (c.L=0)&&decide ((c.D.length:Int)=0)&&decide ((c.W.length:Int)=0)
theorem qiY{c:qF}(hz:c.sz<=1048575):Pure Gm 1358 [c.enc] (.bool (JE c)):=by
 refine pJ KD ?_;simp only[KD,qM,go_sem];unfold qF.sz at hz;refine qa rfl ?_;simp only[go_sem];refine qI XC ?_;simp only[go_sem];cases hag:qx c.K
 ·simp only[go_sem];refine qI XD ?_;simp only[go_sem]
  repeat' (first | (apply zF<;>intro h1<;>simp only[h1,go_sem]) | (apply qU<;>intro h1<;>simp only[h1,go_sem]) | (refine qI XE ?_;simp only[go_sem]) | refine qN rfl ?_)
  all_goals (simp_all[JE])
 ·simp only[go_sem];simp only[j0 (show c.W.length<4611686018427387904 by omega)];refine Jc (by unfold LIM;omega) ?_;simp only[go_sem];refine J4 (vs':=[(qY c).enc]) (Cvs.cons (.agg rfl ?_) .nil) (qEV (by simp[qY];omega) (by simp[qY];omega)) rfl ?_
  ·intro p hp;have e:List.map qH.enc (qY c).P=List.replicate (c.W.length+1) (AV.agg [AV.int .i64 0,AV.int .i64 0]):=by simp[qY];rfl
   rw[e]at hp;simp only[List.zip_cons_cons,List.zip_nil_left,mCo,List.not_mem_nil,or_false]at hp;rcases hp with rfl | rfl | rfl | rfl | rfl
   ·exact .refl rfl
   ·exact .refl rfl
   ·exact .refl rfl
   ·exact .refl (qb shI.tree _)
   ·exact Cv.row (c:=false) rfl (by simp) (by rw[<-e];exact qb qH.isSh.tree _) (by decide)
  simp only[go_sem];exact qN rfl (by rw[JE,iP hag])
theorem qi1{m:qG}{w:qE}:Pure Gm 1362 [.ept m.enc 0,w.enc] (.bool (JU m.C w)):=by
 refine pJ KG ?_;simp only[KG,qM,go_sem];refine qa rfl ?_;simp only[go_sem];refine qI YX ?_;rw[qHB];simp only[go_sem];cases hi:inI w.I 0 ((m.C.length:Int)-1)
 ·simp only[go_sem];exact qN rfl (by rw[qrA hi])
 ·simp only[go_sem];obtain⟨t,a⟩:=w;have hj:=hi;simp only[inI,bAt,dTe]at hj;obtain⟨k,rfl⟩:=eOz hj.1;have hk:k<m.C.length:=by omega
  have hc:=gEg hk;generalize m.C[k]=c at hc;rw[qq9 hc];simp only[gMp,hc,oMs,go_sem];refine Q7 (k:=5) rfl (by simp[go_sem]) ⟨_,rfl⟩ (by decide) ?_;simp only[go_sem]
  repeat' (first | (apply zF<;>intro h1<;>simp only[h1,go_sem]) | (apply qU<;>intro h1<;>simp only[h1,go_sem]) | (refine qI XC ?_;simp only[go_sem]) | (refine qI XD ?_;simp only[go_sem]) | refine qN rfl ?_)
  all_goals (simp_all[kB])
theorem qi4{m:qG}{p:qL}:Pure Gm 1365 [.ept m.enc 0,p.enc] (.bool (wV m.C p)):=by
 obtain⟨A,B⟩:=p;refine pJ KI ?_;simp only[KI,qM,go_sem];refine qa rfl ?_;simp only[go_sem];have no:(¬(A<B/\0<=A/\A<(m.C.length:Nat)/\0<=B/\B<(m.C.length:Nat)))->wV m.C ⟨A,B⟩=false:=λq=>by
  cases e:wV m.C ⟨A,B⟩
  ·rfl
  ·refine absurd ?_ q;simp only[wV,bAt,inI,dTe]at e;omega
 by_cases h1:A<B
 case neg=>
  simp only[h1,decide_false,go_sem];exact qN rfl (by rw[no (λq=>h1 q.1)])
 simp only[h1,go_sem];refine qI YX ?_;simp only[go_sem];by_cases h2:0<=A/\A<(m.C.length:Nat)
 case neg=>
  have e:JK m.C A=false:=qHC h2;simp only[e,go_sem];exact qN rfl (by rw[no (λq=>h2 ⟨q.2.1,q.2.2.1⟩)])
 have e:JK m.C A=true:=by simpa[JK]using h2
 simp only[e,go_sem];refine qI YX ?_;simp only[go_sem];by_cases h3:0<=B/\B<(m.C.length:Nat)
 case neg=>
  have e:JK m.C B=false:=qHC h3;simp only[e,go_sem];exact qN rfl (by rw[no (λq=>h3 ⟨q.2.2.2.1,q.2.2.2.2⟩)])
 have e:JK m.C B=true:=by simpa[JK]using h3
 simp only[e,go_sem];have q1:inI B 1 ((m.C.length:Int)-1)=true:=by simp only[inI,bAt,dTe];omega
 have q2:inI A 0 (B-1)=true:=by simp only[inI,bAt,dTe];omega
 obtain⟨ka,rfl⟩:=eOz h2.1;obtain⟨kb,rfl⟩:=eOz h3.1;have ha:=gEg (show ka<m.C.length by omega);have hb:=gEg (show kb<m.C.length by omega);generalize m.C[ka]=ca at ha;generalize m.C[kb]=cb at hb;simp only[gMp,ha,oMs,go_sem];refine qI XC ?_;simp only[go_sem];cases q3:qx ca.K
 ·simp only[go_sem];exact qN rfl (by simp only[wV,q1,q2,qAC ha,q3,Bool.false_and,Bool.and_false])
 simp only[gMp,hb,oMs,go_sem];refine qI XC ?_;simp only[go_sem];exact qN rfl (by simp only[wV,q1,q2,qAC ha,qAC hb,q3,Bool.true_and])
def Jx(C:List qF):Nat->qE->qE×Bool
 | 0,w=>(⟨0,0⟩,false)
 | n+1,w=>if w.T=1 then(w,true)else match V7 C w with
  |[]=>(w,true)
  | x::_=>Jx C n x
theorem qiT{m:qG}{w:qE}(hs:m.C.length<=140737488355328)(hw:wOk m.C w)(ha:allW m.C):Pure Gm 1256 [.ept m.enc 0,w.enc] (.tup [(Jx m.C (m.C.length+1) w).1.enc,.bool (Jx m.C (m.C.length+1) w).2]):=by
 refine pI Uj (by simp[AV.trees,AV.tree,go_sem]) (by simp[AV.trees,AV.tree,go_sem]) ?_;simp only[Uj,qM,go_sem];refine qa rfl ?_;simp only[go_sem];simp only[j0 (show m.C.length<4611686018427387904 by omega)];generalize hR:Jx m.C (m.C.length+1) w=R;refine Sem.loop (λa:Nat×qE=>a.1<=m.C.length+1/\wOk m.C a.2/\Jx m.C (m.C.length+1-a.1) a.2=R) (λa=>(⟨[(12,iI (a.1:Nat)),(11,iI ((m.C.length+1:Nat):Int)),(5,.bool false),(0,.ept m.enc 0)],[(4,.agg [iI 0,iI 0]),(3,a.2.enc)],[]⟩:VSt)) (λa=>m.C.length+1-a.1) (0,w) (by kernel_rfl) ⟨nZl _,hw,hR⟩ csA ?_;rintro⟨n,t,a⟩ ⟨hi,hk,he⟩;simp only at hi hk he;simp only[go_sem];obtain⟨k,c,rfl,hc,hkc⟩:=hk;by_cases hlt:n<m.C.length+1
 case neg=>
  obtain rfl:n=m.C.length+1:=by omega
  have e:decide (((m.C.length+1:Nat):Int)<((m.C.length+1:Nat):Int))=false:=dEf (by omega);simp only[e,go_sem];refine lsA ?_;simp only[go_sem];rw[nSs]at he;exact zT (by rfl) (by rw[<-he];rfl)
 have e:decide ((n:Int)<((m.C.length+1:Nat):Int))=true:=dEt (by omega);simp only[e,go_sem];obtain⟨r,hr⟩:∃r,m.C.length+1-n=r+1:=⟨m.C.length-n,by omega⟩;rw[hr]at he;by_cases ht:t=1
 ·simp only[ht,go_sem];refine lsA ?_;simp only[go_sem];refine zT (by rfl) ?_;rw[<-he,Jx,iP ht,ht]
 ·simp only[ht,decide_false,gMp,hc,oMs,go_sem];cases hw:c.W with
  | nil=>
   simp only[hw,List.map_nil,Int.natCast_zero,go_sem];refine lsA ?_;simp only[go_sem];refine zT (by rfl) ?_;rw[<-he,Jx,iN ht,V8 hc,hw]
  | cons x ws=>
   have e2:decide (((ws.length+1:Nat):Int)=0)=false:=dEf (by omega);simp only[hw,lMc,e2,go_sem];simp only[gMp,hc,oMs,go_sem,hw,lMc];refine lsA ?_;simp only[go_sem,wuA (n:=n)];refine qd (n+1,x) ⟨by simp only;omega,ha k c hc x (by rw[hw];exact .head _), ?_⟩ (by simp only;omega) csA;rw[<-he,Jx,iN (by simp[ht]),V8 hc,hw];simp only;rw[show m.C.length+1-(n+1)=r by omega]
theorem qi6{m:qG}(hs:m.C.length<=140737488355328):Pure Gm 1367 [.ept m.enc 0] (.bool (we m.C (jq m.C) m.F)):=by
 refine pJ KL ?_;simp only[KL,qM,go_sem];refine Sem.loop (λi:Nat=>i<=m.C.length)
  (λi=>(⟨[(0,.ept m.enc 0),(2,.bool false),(10,.lst 5 (m.C.map qF.enc) false),(11,iI (m.C.length:Nat)),(3,iI (jq (m.C.take i):Nat)),(12,iI (i:Nat))],[],[]⟩:VSt)) (λi=>m.C.length-i)
  0 (by kernel_rfl) (nZl _) (Can.sub (by simp[go_sem,jq]) (by simp[go_sem])) ?_
 rintro i hi;simp only[go_sem];by_cases hlt:i<m.C.length
 ·have e:decide ((i:Int)<(m.C.length:Nat))=true:=dEt (by omega);have hc:=gEg hlt;generalize m.C[i]=c at hc;simp only[e,gMp,hc,oMs,go_sem];refine Q7 (k:=5) rfl (by simp[go_sem]) ⟨_,rfl⟩ (by decide) ?_;simp only[go_sem];refine qI XE ?_;simp only[go_sem];have ex:=qlR hc;have hn:jq (m.C.take i)<=i:=nLt qGY (by simp;omega);refine qI QT ?_;have ew:∀j:Nat,jq (m.C.take (i+1))=j->IntKind.i64.wrap (((jq (m.C.take i):Nat):Int)+(if decide (c.K=0)=true then 1 else 0))=(j:Nat):=λj hj=>by
   by_cases hk:c.K=0
   ·simp only[hk,decide_true,if_true];rw[iP hk]at ex;rw[wsA];omega
   ·simp only[hk,decide_false,bFt,if_false];rw[iN hk]at ex;rw[wsA];omega
  simp only[go_sem,ew _ rfl,wuA (n:=i)];refine lqA (i+1)
 ·have e:decide ((i:Int)<(m.C.length:Nat))=false:=dEf (by omega);simp only[e,go_sem];rw[tOl (by omega)];have hn:=qGY (C:=m.C);generalize hF:jq m.C=F at hn;generalize hR:we m.C F m.F=R;refine Sem.loop (λa:Nat×Int=>a.1<=F/\we m.C (F-a.1) a.2=R)
   (λa=>(⟨[(0,.ept m.enc 0),(2,.bool false),(26,iI (F:Nat)),(27,iI (a.1:Nat)),(6,iI a.2)],[],[]⟩:VSt)) (λa=>F-a.1)
   (0,m.F) (by kernel_rfl) ⟨nZl _,hR⟩ csA ?_
  rintro⟨n,a⟩ ⟨h1,h2⟩;simp only at h1 h2;simp only[go_sem];by_cases hlt:n<F
  case neg=>
   have e:decide ((n:Int)<(F:Nat))=false:=dEf (by omega);simp only[e,go_sem];rw[show F-n=0 by omega]at h2;exact qN rfl (by rw[<-h2];rfl)
  have e:decide ((n:Int)<(F:Nat))=true:=dEt (by omega);obtain⟨r,hr⟩:∃r,F-n=r+1:=⟨F-n-1,by omega⟩;rw[hr]at h2;simp only[e,go_sem];refine qI YX ?_;rw[qHB];simp only[go_sem];cases hi:inI a 0 ((m.C.length:Int)-1)
  ·simp only[go_sem];exact qN rfl (by rw[<-h2,qFK hi])
  simp only[go_sem];have hj:=hi;simp only[inI,bAt,dTe]at hj;obtain⟨k,rfl⟩:=eOz hj.1;have hk:k<m.C.length:=by omega
  have hc:=gEg hk;generalize m.C[k]=c at hc;rw[qAX hc]at h2;simp only[gMp,hc,oMs,go_sem];refine qI XE ?_;simp only[go_sem];by_cases h0:c.K=0
  ·simp only[h0,go_sem,gMp,hc,oMs];simp only[wuA (n:=n)];refine qd (n+1,c.V) ⟨by simp only;omega, ?_⟩ (by simp only;omega) csA;rw[<-h2];simp only[h0,decide_true,Bool.true_and];rw[show F-(n+1)=r by omega]
  ·simp only[h0,decide_false,go_sem];exact qN rfl (by rw[<-h2];simp[h0])
theorem qiX{c:qF}(hz:c.sz<=1048575):Pure Gm 1357 [c.enc] (.bool (!JE c)):=by
 refine pJ KC ?_;simp only[KC,qM,go_sem];refine qa rfl ?_;simp only[go_sem];refine qI (qiY hz) ?_;simp only[go_sem];exact qN rfl rfl
theorem qi0{m:qG}{w:qE}:Pure Gm 1361 [w.enc,.ept (.ept m.enc 0) 0] (.bool (!JU m.C w)):=by
 refine pJ KF ?_;simp only[KF,qM,go_sem];refine qa rfl ?_;simp only[go_sem];refine qI qi1 ?_;simp only[go_sem];exact qN rfl rfl
theorem qi3{m:qG}{p:qL}:Pure Gm 1364 [p.enc,.ept (.ept m.enc 0) 0] (.bool (!wV m.C p)):=by
 refine pJ KH ?_;simp only[KH,qM,go_sem];refine qa rfl ?_;simp only[go_sem];refine qI qi4 ?_;simp only[go_sem];exact qN rfl rfl
theorem qiW{xs:List qF}(hx:∀c∈xs,c.sz<=1048575)(hl:xs.length<=1048576):Pure Gm 1356 [.lst 5 (xs.map qF.enc) false,.fn 1357 []] (.bool (xs.any λc=> !JE c)):=
 WK qF.isSh (gc:=1482) (gk _ qD0) (gk _ qD4) _ (λc=> !JE c) rfl xs (λc hc=>⟨1357,[],rfl,qiX (hx c hc)⟩) hl
theorem qiZ{m:qG}{xs:List qE}(hl:xs.length<=1048576):Pure Gm 1359 [.lst 2 (xs.map qE.enc) false,.fn 1361 [.ept (.ept m.enc 0) 0]] (.bool (xs.any λc=> !JU m.C c)):=
 WK qE.isSh (gc:=1483) (gk _ qD1) (gk _ qD5) _ (λc=> !JU m.C c) (by simp[AV.trees,AV.tree,go_sem]) xs (λc hc=>⟨1361,[.ept (.ept m.enc 0) 0],rfl,qi0⟩) hl
theorem qi2{m:qG}{xs:List qL}(hl:xs.length<=1048576):Pure Gm 1363 [.lst 2 (xs.map qL.enc) false,.fn 1364 [.ept (.ept m.enc 0) 0]] (.bool (xs.any λc=> !wV m.C c)):=
 WK qL.isSh (gc:=1485) (gk _ qD2) (gk _ qD6) _ (λc=> !wV m.C c) (by simp[AV.trees,AV.tree,go_sem]) xs (λc hc=>⟨1364,[.ept (.ept m.enc 0) 0],rfl,qi3⟩) hl
theorem qKL{m:qG}{h0:List qA}(hs:m.C.length<=1048576)(hw:(m.C.flatMap (·.W)).length<=2000000):SCall Gm 1360 [.ept m.enc 0] h0 (λv h'=>Up (λ_=>False) h0 h'/\∃id,h0.length<=id/\v=.slice 2 id 0 (qz m).length false/\h'[id]?=some (.row 2 ((qz m).map qE.enc) true)):=by
 refine sI KE ?_;simp only[KE,qM,go_sem];refine Sem.loop (λa:Nat×AV×List qA=>a.1<=m.C.length/\Up (λ_=>False) h0 a.2.2/\LsW (λj=>h0.length<=j) 2 a.2.2 a.2.1 ((m.O::(m.C.take a.1).flatMap (·.W)).map qE.enc))
  (λa=>(⟨[(14,.lst 5 (m.C.map qF.enc) false),(15,iI (m.C.length:Nat)),(3,a.2.1),(16,iI (a.1:Nat))],[],a.2.2⟩:VSt)) (λa=>m.C.length-a.1)
  (0,sQ 2 h0.length 1,_) (by kernel_rfl) ⟨nZl _,Up.app _,.inr ⟨h0.length,nLr _,rfl,by simp⟩⟩ csA ?_
 rintro⟨i,v,h⟩ ⟨hi,u0,I⟩;simp only at hi u0 I;simp only[go_sem];by_cases hlt:i<m.C.length
 ·have e:decide ((i:Int)<(m.C.length:Nat))=true:=dEt (by omega);have hc:=gEg hlt;generalize m.C[i]=c at hc;simp only[e,gMp,hc,oMs,go_sem];refine Q7 (k:=5) rfl (by simp[go_sem]) ⟨_,rfl⟩ (by decide) ?_;simp only[go_sem];have ex:=qlP hc;have hl:=qlN (C:=m.C) (i:=i+1);rw[ex,lAp]at hl;refine qh1 I Els.lst (by simp only[lMp,lCo];omega) λh3 u3 v3 l3=>?_;simp only[go_sem,wuA (n:=i)];refine qd (i+1,.slice 2 h.length 0 (((m.O::(m.C.take i).flatMap (·.W)).map qE.enc).length+(c.W.map qE.enc).length) false,h3) ⟨by simp only;omega,u0.trans u3 (λj hj q=>by have:=q.1;omega),.inr ⟨h.length,u0.1, ?_, ?_⟩⟩ (by simp only;omega) csA
  ·simp only[ex,lMp,lCo,lAp];rw[show ∀a b:Nat,a+b+1=a+1+b from λa b=>by omega]
  ·simp only[ex];rw[v3];simp
 ·have e:decide ((i:Int)<(m.C.length:Nat))=false:=dEf (by omega);simp only[e,go_sem];rw[tOl (by omega)]at I;rcases I with⟨_,h2⟩ | ⟨id,q1,q2,q3⟩
  ·cases h2
  ·exact⟨u0,id,q1,by rw[q2,lMp,qz],q3⟩
noncomputable def Wi(m:qG):Bool:= @decide (∀(k:Nat)(c:qF),m.C[k]?=some c->jb m k=zO c) (Classical.propDecidable _)
theorem VT{m:qG}:Wi m=true↔∀(k:Nat)(c:qF),m.C[k]?=some c->jb m k=zO c:=by unfold Wi;exact @decide_eq_true_iff _ (Classical.propDecidable _)
theorem VU{m:qG}{k:Nat}{c:qF}(hc:m.C[k]?=some c)(h:jb m k≠zO c):Wi m=false:=Bool.eq_false_iff.2 λq=>h (VT.1 q k c hc)
theorem qi5{m:qG}(hs:m.C.length<=1048576)(hfm:(m.C.flatMap (·.W)).length<=1048576)(hrl:m.R.length<=1048576)(hW:∀w∈qz m,wOk m.C w)(hR:∀p∈m.R,wV m.C p=true):Pure Gm 1366 [.ept m.enc 0,.nils] (.bool (Wi m)):=by
 refine pJ KJ ?_;simp only[KJ,qM,go_sem];refine Jc (by unfold LIM;omega) ?_;simp only[go_sem];refine qj (SCall.mono (qKL (by omega) (by omega)) ?_);rintro v1 h1 ⟨up1,wd,hwd,rfl,hw1⟩;have hLl:(qz m).length<=1048577:=by rw[qz,lCo];omega
 simp only[go_sem];refine XA (ys:=[]) ⟨trivial,rfl⟩ hw1 (by rw[lMp]) (by simp only[lNi];omega) ?_;simp only[go_sem,nAz,lAn];have g1:(h1.set wd .dead++[qA.row 2 ((qz m).map qE.enc) true])[0]?=some (.row 1 (jp m.C.length λk=>cw k ((qz m).take 0)) true):=by
  have:=up1.1;simp only[lAp,lCo,lNi]at this hwd;rw[gAl (by rw[lLs];omega),gSn (by omega)];refine up1.at ?_ id;show some (qA.row 1 (List.replicate m.C.length (AV.int .i64 0)) true)=_;rw[<-qj5];rfl
 have g2:(h1.set wd .dead++[qA.row 2 ((qz m).map qE.enc) true])[h1.length]?=some (.row 2 ((qz m).map qE.enc) true):=by
  rw[gAr (by rw[lLs];omega),lLs,nSs];rfl
 generalize h1.set wd .dead++[qA.row 2 ((qz m).map qE.enc) true]=h2 at g1 g2;generalize h1.length=wp at g2;clear hw1 up1 hwd;refine Sem.loop (λa:Nat×List qA=>a.1<=(qz m).length/\a.2[0]?=some (.row 1 (jp m.C.length λk=>cw k ((qz m).take a.1)) true)/\a.2[wp]?=some (.row 2 ((qz m).map qE.enc) true))
  (λa=>(⟨[(0,.ept m.enc 0),(4,.bool false),(5,sQ 1 0 m.C.length),(22,.slice 2 wp 0 (qz m).length false),(23,iI ((qz m).length:Nat)),(24,iI (a.1:Nat))],[],a.2⟩:VSt)) (λa=>(qz m).length-a.1)
  (0,h2) (by kernel_rfl) ⟨nZl _,g1,g2⟩ csA ?_
 clear g1 g2;rintro⟨i,h⟩ ⟨hi,g1,g2⟩;simp only at hi g1 g2;simp only[go_sem];by_cases hlt:i<(qz m).length
 ·have e:decide ((i:Int)<((qz m).length:Nat))=true:=dEt (by omega);have hc:=gEg hlt;generalize (qz m)[i]=w at hc;have hm:=lMo hc;obtain⟨k,d,hw1,hw2,hw3⟩:=hW w hm;have hk:=zP hw2;simp only[e,qW hlt,nZa,g2,gMp,hc,oMs,go_sem];refine lsA ?_;simp only[hw1,qW hk,nZa,g1,wq hk,go_sem];have hcl:=qA5 (ws:=(qz m).take i) (k:=k);rw[lLt]at hcl;simp only[j0 (show cw k ((qz m).take i)<4611686018427387904 by omega)];refine zx rfl g1 (wq hk) rfl ?_;simp only[go_sem,wuA (n:=i)];have hne:=qn1 g1 g2 (by simp);refine qd (i+1,h.set 0 (.row 1 ((jp m.C.length λk=>cw k ((qz m).take i)).set k (iI ((cw k ((qz m).take i)+1:Nat):Int))) true)) ⟨by simp only;omega, ?_, ?_⟩ (by simp only;omega) csA
  ·rw[gSs (qZ g1),qAY (g:=λk=>cw k ((qz m).take (i+1)))]
   ·simp only[qF4 hc,hw1,if_true]
   ·intro j hj;simp only[qF4 hc,hw1];rw[iN (by omega),nAz]
  ·rw[gSn hne];exact g2
 have e:decide ((i:Int)<((qz m).length:Nat))=false:=dEf (by omega);simp only[e,go_sem];rw[tOl (by omega)]at g1;clear g2;refine Sem.loop (λa:Nat×List qA=>a.1<=m.R.length/\a.2[0]?=some (.row 1 (jp m.C.length λk=>cw k (qz m)+cr k (m.R.take a.1)) true))
  (λa=>(⟨[(0,.ept m.enc 0),(4,.bool false),(5,sQ 1 0 m.C.length),(39,.lst 2 (m.R.map qL.enc) false),(40,iI (m.R.length:Nat)),(41,iI (a.1:Nat))],[],a.2⟩:VSt)) (λa=>m.R.length-a.1)
  (0,h) (by kernel_rfl) ⟨nZl _,g1⟩ csA ?_
 clear g1 hlt e hi;rintro⟨i,h⟩ ⟨hi,g1⟩;simp only at hi g1;simp only[go_sem];by_cases hlt:i<m.R.length
 ·have e:decide ((i:Int)<(m.R.length:Nat))=true:=dEt (by omega);have hc:=gEg hlt;generalize m.R[i]=p at hc;have hm:=lMo hc;have hp:=hR p hm;simp only[e,gMp,hc,oMs,go_sem];refine lsA ?_;obtain⟨A,B⟩:=p;simp only[wV,bAt,inI,dTe]at hp;obtain⟨ka,rfl⟩:=eOz hp.1.1.2.1;obtain⟨kb,rfl⟩:=eOz (show 0<=B by omega);have hka:ka<m.C.length:=by omega
  have hkb:kb<m.C.length:=by omega
  simp only[qW hka,nZa,g1,wq hka,go_sem];have hcl:=qA5 (ws:=qz m) (k:=ka);have hcl2:=qA5 (ws:=qz m) (k:=kb);have hcr:=qFZ (rx:=m.R.take i) (k:=ka);have hcr2:=qFZ (rx:=m.R.take i) (k:=kb);rw[lLt]at hcr hcr2;simp only[j0 (show cw ka (qz m)+cr ka (m.R.take i)<4611686018427387904 by omega)];refine zx rfl g1 (wq hka) rfl ?_;have g3:(h.set 0 (.row 1 ((jp m.C.length λk=>cw k (qz m)+cr k (m.R.take i)).set ka (iI ((cw ka (qz m)+cr ka (m.R.take i)+1:Nat):Int))) true))[0]?=some (.row 1 (jp m.C.length λk=>cw k (qz m)+cr k (m.R.take i)+if ka=k then 1 else 0) true):=by
   rw[gSs (qZ g1),qAY (g:=λk=>cw k (qz m)+cr k (m.R.take i)+if ka=k then 1 else 0)]
   ·simp only[if_true]
   ·intro j hj;rw[iN (Ne.symm hj)];rfl
  generalize h.set 0 _=h3 at g3;have hab:ka≠kb:=by omega
  simp only[qW hkb,nZa,g3,wq hkb,iN hab,nAz,go_sem];simp only[j0 (show cw kb (qz m)+cr kb (m.R.take i)<4611686018427387904 by omega)];refine zx rfl g3 (wq hkb) rfl ?_;simp only[go_sem,wuA (n:=i)];refine qd (i+1,h3.set 0 (.row 1 ((jp m.C.length λk=>cw k (qz m)+cr k (m.R.take i)+if ka=k then 1 else 0).set kb (iI ((cw kb (qz m)+cr kb (m.R.take i)+1:Nat):Int))) true)) ⟨by simp only;omega, ?_⟩ (by simp only;omega) csA;rw[gSs (qZ g3),qAY (g:=λk=>cw k (qz m)+cr k (m.R.take (i+1)))]
  ·simp only[qF1 hc,if_true];rw[iN (by omega)];omega
  ·intro j hj;simp only[qF1 hc];rw[iN (show ¬(kb:Int)=j by omega)];by_cases q:ka=j
   ·rw[iP q,iP (by omega)];omega
   ·rw[iN q,iN (by omega)];omega
 have e:decide ((i:Int)<(m.R.length:Nat))=false:=dEf (by omega);simp only[e,go_sem];rw[tOl (by omega)]at g1;refine Sem.loop (λi:Nat=>i<=m.C.length/\∀(k:Nat)(c:qF),k<i->m.C[k]?=some c->jb m k=zO c)
  (λi=>(⟨[(4,.bool false),(5,sQ 1 0 m.C.length),(63,.lst 5 (m.C.map qF.enc) false),(64,iI (m.C.length:Nat)),(65,iI (i:Nat))],[],h⟩:VSt)) (λi=>m.C.length-i)
  0 (by kernel_rfl) ⟨nZl _,λk c hk=>by omega⟩ csA ?_
 clear hlt e hi;rintro i ⟨hi,hI⟩;simp only[go_sem];by_cases hlt:i<m.C.length
 ·have e:decide ((i:Int)<(m.C.length:Nat))=true:=dEt (by omega);have hc:=gEg hlt;generalize m.C[i]=c at hc;simp only[e,gMp,hc,oMs,go_sem];refine Q7 (k:=5) rfl (by simp[go_sem]) ⟨_,rfl⟩ (by decide) ?_;simp only[go_sem];refine qI XE ?_;have hnext:jb m i=zO c->∀(k:Nat)(c:qF),k<i+1->m.C[k]?=some c->jb m k=zO c:=λq k d hk hd=>by
   by_cases e:k=i
   ·subst e;rw[hc]at hd;cases hd;exact q
   ·exact hI k d (by omega) hd
  simp only[go_sem];by_cases h0:c.K=0
  ·have ew:zO c=0:=by rw[zO,iP h0]
   simp only[h0,go_sem];simp only[qW hlt,nZa,g1,wq hlt,go_sem];by_cases hq:((cw i (qz m)+cr i m.R:Nat):Int)=0
   ·simp only[hq,go_sem,wuA (n:=i)];refine qd (i+1) ⟨by omega,hnext (by rw[ew];unfold jb;omega)⟩ (by omega) csA
   ·simp only[hq,decide_false,go_sem];exact qN rfl (by rw[VU hc (by rw[ew];unfold jb;omega)])
  ·simp only[h0,decide_false,go_sem];refine qI XD ?_;simp only[go_sem];by_cases h13:c.K=13
   ·simp only[h13,go_sem];by_cases hn:c.W=[]
    ·have ew:zO c=2:=by rw[zO,iN h0,iP ⟨h13,hn⟩]
     simp only[hn,List.map_nil,Int.natCast_zero,go_sem];simp only[qW hlt,nZa,g1,wq hlt,go_sem];by_cases hq:((cw i (qz m)+cr i m.R:Nat):Int)=2
     ·simp only[hq,go_sem,wuA (n:=i)];refine qd (i+1) ⟨by omega,hnext (by rw[ew];unfold jb;omega)⟩ (by omega) csA
     ·simp only[hq,decide_false,go_sem];exact qN rfl (by rw[VU hc (by rw[ew];unfold jb;omega)])
    ·have ew:zO c=1:=by rw[zO,iN h0,iN (by simp[hn])]
     have en:decide ((c.W.length:Int)=0)=false:=dEf λq=>hn (lEz (by omega));simp only[en,go_sem];simp only[qW hlt,nZa,g1,wq hlt,go_sem];by_cases hq:((cw i (qz m)+cr i m.R:Nat):Int)=1
     ·simp only[hq,go_sem,wuA (n:=i)];refine qd (i+1) ⟨by omega,hnext (by rw[ew];unfold jb;omega)⟩ (by omega) csA
     ·simp only[hq,decide_false,go_sem];exact qN rfl (by rw[VU hc (by rw[ew];unfold jb;omega)])
   ·have ew:zO c=1:=by rw[zO,iN h0,iN (by simp[h13])]
    simp only[h13,decide_false,go_sem];simp only[qW hlt,nZa,g1,wq hlt,go_sem];by_cases hq:((cw i (qz m)+cr i m.R:Nat):Int)=1
    ·simp only[hq,go_sem,wuA (n:=i)];refine qd (i+1) ⟨by omega,hnext (by rw[ew];unfold jb;omega)⟩ (by omega) csA
    ·simp only[hq,decide_false,go_sem];exact qN rfl (by rw[VU hc (by rw[ew];unfold jb;omega)])
 have e:decide ((i:Int)<(m.C.length:Nat))=false:=dEf (by omega);simp only[e,go_sem];exact qN rfl (by rw[VT.2 λk c hc=>hI k c (by have:=zP hc;omega) hc])
theorem qjT{c:qF}{s:Int}(h:J5 c s=true):JE c=true:=by
 unfold J5 at h;unfold JE;by_cases h0:c.K=0
 ·rw[iP h0]at h;rw[iN (by rw[h0];decide),iN (by omega)];simp only[bAt,dTe]at h|-;exact⟨⟨⟨h0,h.1.1.1⟩,h.1.1.2⟩,h.1.2⟩
 ·rw[iN h0]at h;by_cases h1:c.K=13
  ·rw[iP h1]at h;rw[iN (by rw[h1];decide),iP h1];simp only[bAt,dTe]at h|-;exact⟨h.1,by omega⟩
  ·rw[iN h1]at h;by_cases h2:qx c.K=true
   ·rw[iP h2]at h|-;exact h
   ·rw[iN h2]at h;cases h
theorem qjV{c:qF}{s:Int}(h:JE c=true)(hv:c.K=0->inI c.V (-1) (s-1)=true):J5 c s=true:=by
 unfold JE at h;unfold J5;by_cases h2:qx c.K=true
 ·have:=Q2 h2;rw[iP h2]at h;rw[iN this.1,iN this.2,iP h2];exact h
 ·rw[iN h2]at h;by_cases h1:c.K=13
  ·rw[iP h1]at h;rw[iN (by omega),iP h1];simp only[bAt,dTe]at h|-;exact⟨h.1,by omega⟩
  ·rw[iN h1]at h;simp only[bAt,dTe]at h;rw[iP h.1.1.1];simp only[bAt,dTe];exact⟨⟨⟨h.1.1.2,h.1.2⟩,h.2⟩,hv h.1.1.1⟩
theorem qJ5{C:List qF}(ha:allW C):∀{n:Nat}{w:qE},wOk C w->(Jx C n w).2=(res C n w).2/\((res C n w).2=true->Jx C n w=res C n w)
 | 0,w,_=>⟨rfl,λh=>by cases h⟩
 | n+1,⟨t,a⟩,⟨k,c,e,hc,hk⟩=>by
  simp only at e hk;subst e;rcases hk with⟨rfl,hk⟩ | ⟨rfl,hk⟩
  ·exact⟨rfl,λ_=>rfl⟩
  ·rw[Jx,res,iN (show ¬(2:Int)=1 by decide),iN (by simp),V8 hc];cases hw:c.W with
   | nil=>exact⟨rfl,λ_=>rfl⟩
   | cons x ws=>exact qJ5 ha (ha k c hc x (by rw[hw];exact .head _))
theorem VM.occ{m:qG}(h:VM m):Wi m=true:=VT.2 λk c hc=>by
 rw[<-h.mi.occ k c hc,qA4,jb,qz,zE,zE,JW];omega
theorem qiJ{m:qG}(hz:m.sz<=1048576):Pure Gm 1068 [.ept m.enc 0,.nils] (.bool (Qg m)):=by
 have hsz:m.C.length+zD qF.sz m.C+m.R.length<=1048576:=by unfold qG.sz at hz;exact hz
 refine pJ UR ?_;simp only[UR,qM,go_sem];refine JL rfl ?_;simp only[go_sem];have g0:([]++[qA.row 1 [m.enc.ept 0] true]:List qA)[0]?=some (.row 1 [.ept m.enc 0] true):=rfl;generalize ([]++[qA.row 1 [m.enc.ept 0] true]:List qA)=h0 at g0|-;simp only[g0,go_sem];have bad:∀{P:Prop},(VM m->P)->¬P->Qg m=false:=λh n=>qnO λv=>n (h v);by_cases n1:m.C.length<1
 ·have e:decide ((m.C.length:Int)<1)=true:=dEt (by omega);simp only[e,go_sem];refine qN rfl (by rw[bad (λv=>v.sz) (by simp only[inI,bAt,dTe];omega)])
 have e:decide ((m.C.length:Int)<1)=false:=dEf (by omega);simp only[e,g0,go_sem];by_cases n2:1500<m.C.length
 ·have e:decide ((1500:Int)<(m.C.length:Nat))=true:=dEt (by omega);simp only[e,go_sem];refine qN rfl (by rw[bad (λv=>v.sz) (by simp only[inI,bAt,dTe];omega)])
 have e:decide ((1500:Int)<(m.C.length:Nat))=false:=dEf (by omega);simp only[e,g0,go_sem];by_cases n3:m.C.length<m.R.length
 ·have e:decide ((m.C.length:Int)<(m.R.length:Nat))=true:=dEt (by omega);simp only[e,go_sem];refine qN rfl (by rw[bad (λv=>v.rs) (by omega)])
 have e:decide ((m.C.length:Int)<(m.R.length:Nat))=false:=dEf (by omega);simp only[e,g0,go_sem];have hfm:=qGT (C:=m.C);refine qI (qiW (λc hc=>by have:=jr (f:=qF.sz) hc;have:=List.length_pos_of_mem hc;omega) (by omega)) ?_;simp only[go_sem];cases e1:m.C.any λc=> !JE c
 case true=>
  simp only[go_sem];obtain⟨c,hc,hn⟩:=List.any_eq_true.1 e1;exact qN rfl (by rw[bad (λv=>qjT (v.cell c hc)) (by simpa using hn)])
 have hcell:∀c∈m.C,JE c=true:=λc hc=>by
  have:=List.any_eq_false.1 e1 c hc;simpa using this
 simp only[g0,go_sem];refine qj (SCall.mono (qKL (m:=m) (by omega) (by omega)) ?_);rintro v1 h1 ⟨up1,wd,hwd,rfl,hw1⟩;have hLl:(qz m).length<=1048576:=by rw[qz,lCo];omega
 simp only[go_sem];refine XA (ys:=[]) ⟨trivial,rfl⟩ hw1 (by rw[lMp]) (by simp only[lNi];omega) ?_;simp only[go_sem,nAz,lAn];have g1:(h1.set wd .dead++[qA.row 2 ((qz m).map qE.enc) true])[0]?=some (.row 1 [.ept m.enc 0] true):=by
  have:=up1.1;have:=qZ g0;rw[gAl (by rw[lLs];omega),gSn (by omega)];exact up1.at g0 id
 have g2:(h1.set wd .dead++[qA.row 2 ((qz m).map qE.enc) true])[h1.length]?=some (.row 2 ((qz m).map qE.enc) true):=by
  rw[gAr (by rw[lLs];omega),lLs,nSs];rfl
 generalize h1.set wd .dead++[qA.row 2 ((qz m).map qE.enc) true]=h2 at g1 g2;generalize h1.length=wp at g2;clear hw1 up1 hwd;have cf:∀(g:Nat),∀p∈[AV.ptr 0 0 0].zip [AV.ept (.ept m.enc 0) 0],Cv h2 p.1 p.2:=λg p hp=>by
  simp only[List.zip_cons_cons,List.zip_nil_left,mCo,List.not_mem_nil,or_false]at hp;rw[hp];exact .ptr g1 (by decide) rfl (.refl (by simp[AV.tree,go_sem]))
 refine J4 (vs':=[.lst 2 ((qz m).map qE.enc) false,.fn 1361 [.ept (.ept m.enc 0) 0]]) (Cvs.cons (Cv.row (c:=false) g2 (by simp) (qb qE.isSh.tree _) (by decide)) (Cvs.cons (.fn rfl (cf 0)) .nil)) (qiZ (by omega)) rfl ?_;simp only[go_sem];cases e2:(qz m).any λw=> !JU m.C w
 case true=>
  simp only[go_sem];obtain⟨c,hc,hn⟩:=List.any_eq_true.1 e2;exact qN rfl (by rw[bad (λv=>v.wrd c hc) (by simpa using hn)])
 have hwrd:∀w∈qz m,JU m.C w=true:=λc hc=>by
  have:=List.any_eq_false.1 e2 c hc;simpa using this
 simp only[g1,go_sem];refine J4 (vs':=[.lst 2 (m.R.map qL.enc) false,.fn 1364 [.ept (.ept m.enc 0) 0]]) (Cvs.cons (.refl (qb qL.isSh.tree _)) (Cvs.cons (.fn rfl (cf 0)) .nil)) (qi2 (by omega)) rfl ?_;simp only[go_sem];cases e3:m.R.any λp=> !wV m.C p
 case true=>
  simp only[go_sem];obtain⟨c,hc,hn⟩:=List.any_eq_true.1 e3;exact qN rfl (by rw[bad (λv=>v.rdx c hc) (by simpa using hn)])
 have hrdx:∀p∈m.R,wV m.C p=true:=λc hc=>by
  have:=List.any_eq_false.1 e3 c hc;simpa using this
 have hW:∀w∈qz m,wOk m.C w:=λw hw=>qDL.1 (hwrd w hw);have hAW:allW m.C:=λk c hc w hw=>hW w (.tail _ (List.mem_flatMap.2 ⟨c,lMo hc,hw⟩));simp only[g1,go_sem];refine qI (qi5 (by omega) (by omega) (by omega) hW hrdx) ?_;simp only[go_sem];cases e4:Wi m
 case false=>
  simp only[go_sem];exact qN rfl (by rw[bad (λv=>v.occ) (by simp[e4])])
 simp only[g1,go_sem];refine qI (qi6 (by omega)) ?_;simp only[go_sem];cases e5:we m.C (jq m.C) m.F
 case false=>
  simp only[go_sem];exact qN rfl (by rw[bad (λv=>v.chn) (by simp[e5])])
 simp only[g1,go_sem];refine Sem.loop (λi:Nat=>i<=m.C.length/\∀(k:Nat)(c:qF),k<i->m.C[k]?=some c->c.K=13->(res m.C (m.C.length+1) ⟨2,k⟩).2=true)
  (λi=>(⟨[(2,.ptr 0 0 0),(4,.bool false),(69,.lst 5 (m.C.map qF.enc) false),(70,iI (m.C.length:Nat)),(71,iI (i:Nat))],[],h2⟩:VSt)) (λi=>m.C.length-i)
  0 (by kernel_rfl) ⟨nZl _,λk c hk=>by omega⟩ csA ?_
 rintro i ⟨hi,hI⟩;simp only[go_sem];by_cases hlt:i<m.C.length
 ·have e:decide ((i:Int)<(m.C.length:Nat))=true:=dEt (by omega);have hc:=gEg hlt;generalize m.C[i]=c at hc;simp only[e,gMp,hc,oMs,go_sem];refine Q7 (k:=5) rfl (by simp[go_sem]) ⟨_,rfl⟩ (by decide) ?_;simp only[go_sem];refine qI XD ?_;simp only[go_sem];by_cases h13:c.K=13
  ·have hv:wOk m.C ⟨2,(i:Int)⟩:=⟨i,c,rfl,hc,.inr ⟨rfl,h13⟩⟩;have hr:=(qJ5 hAW (n:=m.C.length+1) hv).1;simp only[h13,g1,go_sem];refine qI (qiT (w:=⟨2,(i:Int)⟩) (by omega) hv hAW) ?_;simp only[go_sem];refine lsA ?_;simp only[go_sem,hr];cases e6:(res m.C (m.C.length+1) ⟨2,(i:Int)⟩).2
   ·simp only[go_sem];exact qN rfl (by rw[bad (λv=>v.ends i c hc h13) (by simp[e6])])
   ·simp only[go_sem,wuA (n:=i)];refine qd (i+1) ⟨by omega,λk d hk hd h3=>?_⟩ (by omega) csA;by_cases e:k=i
    ·subst e;exact e6
    ·exact hI k d (by omega) hd h3
  ·simp only[h13,decide_false,go_sem,wuA (n:=i)];refine qd (i+1) ⟨by omega,λk d hk hd h3=>?_⟩ (by omega) csA;by_cases e:k=i
   ·subst e;rw[hc]at hd;cases hd;exact absurd h3 h13
   ·exact hI k d (by omega) hd h3
 have e:decide ((i:Int)<(m.C.length:Nat))=false:=dEf (by omega);simp only[e,go_sem];refine qN rfl ?_;have hocc:=VT.1 e4;rw[VG.2 ⟨by simp only[inI,bAt,dTe];omega,by omega,λc hc=>?_,hwrd,hrdx,λk c hc=>?_,λk c hc=>hI k c (by have:=zP hc;omega) hc,e5⟩]
 ·obtain⟨k,hk⟩:=List.getElem?_of_mem hc;refine qjV (hcell c hc) λh0=>?_;obtain⟨L,hL⟩:=FrC.of e5;exact hL.val hk h0
 ·have h:=hocc k c hc;have hv:=hcell c (lMo hc);refine⟨λq=>?_,λq=>?_⟩
  ·have:=Q2 q;rw[h,zO,iN this.1,iN (by simp[this.2])]
  ·rw[h,zO,iN (by omega)];unfold JE at hv;rw[iN (by rw[q];decide),iP q]at hv;simp only[bAt,dTe]at hv;by_cases hw:c.W=[]
   ·rw[iP ⟨q,hw⟩,hw];rfl
   ·rw[iN (by simp[hw])];have:c.W.length≠0:=λe=>hw (lEz e);omega
theorem c867{m:qG}(hz:m.sz<=1048576):Pure Gm 867 [m.enc] (.bool (Qg m)):=by
 refine pJ F867 ?_;simp only[F867,qM,go_sem];refine JL rfl ?_;simp only[go_sem];refine J4 (vs':=[.ept m.enc 0,.nils]) (Cvs.cons (.ptr rfl (by decide) rfl (.refl qG.tr)) (Cvs.cons (.refl rfl) .nil)) (qiJ hz) rfl ?_;simp only[go_sem];exact qN rfl rfl
def cE(c:qF)(dv wv:AV):AV:=.agg [iI c.K,iI c.L,iI c.V,dv,wv]
@[go_sem] theorem qrM{c:qF}{dv wv:AV}:(cE c dv wv).part 0 (some 5)=some (cE c dv wv):=rfl
@[go_sem] theorem qrO{c:qF}{dv wv:AV}:(cE c dv wv).part 0 none=some (iI c.K):=rfl
@[go_sem] theorem qrP{c:qF}{dv wv:AV}:(cE c dv wv).part 1 none=some (iI c.L):=rfl
@[go_sem] theorem qrQ{c:qF}{dv wv:AV}:(cE c dv wv).part 2 none=some (iI c.V):=rfl
@[go_sem] theorem qrR{c:qF}{dv wv:AV}:(cE c dv wv).part 3 none=some dv:=rfl
@[go_sem] theorem qrS{c:qF}{dv wv:AV}:(cE c dv wv).part 4 none=some wv:=rfl
@[go_sem] theorem qrN{c:qF}{dv wv:AV}:(cE c dv wv).cells.length=5:=rfl
def CV(P:Nat->Prop)(h:List qA)(v:AV)(c:qF):Prop:=∃dv wv,v=cE c dv wv/\LsW P 1 h dv (c.D.map qQ)/\LsW P 2 h wv (c.W.map qE.enc)
def mE(m:qG)(cid:Nat)(rv:AV)(post:List AV):AV:=.agg (sQ 5 cid m.C.length::iI m.F::iI m.O.T::iI m.O.I::rv::post)
theorem Qk{cs:List AV}{n:Nat}{x v:AV}(hv:v.cells=[v])(hn:cs[n]?=some x):(AV.agg cs).put n v=some (.agg (cs.set n v)):=by
 have hl:=qZ hn;show (if n+v.cells.length<=cs.length then some (AV.agg (List.take n cs++(v.cells++List.drop (n+v.cells.length) cs)))else none)=_;rw[hv,iP (by simp;omega)];simp only[lCo,lNi,nZa];rw[List.set_eq_take_append_cons_drop,iP hl];rfl
section
variable {m:qG} {cid:Nat} {rv:AV} {post:List AV}
theorem qnI{f:Int}:(mE m cid rv post).put 1 (iI f)=some (mE {m with F:=f} cid rv post):=Qk rfl rfl
theorem qnJ{rx:List qL}{rv':AV}(hv:rv'.cells=[rv']):(mE m cid rv post).put 4 rv'=some (mE {m with R:=rx} cid rv' post):=Qk hv rfl
@[go_sem] theorem quT:(mE m cid rv post).part 0 none=some (sQ 5 cid m.C.length):=rfl
@[go_sem] theorem quU:(mE m cid rv post).part 1 none=some (iI m.F):=rfl
@[go_sem] theorem quV:(mE m cid rv post).part 4 none=some rv:=rfl
end
structure MO(w mid:Nat)(post:List AV)(ow:Nat->Nat)(h:List qA)(m:qG)(cid:Nat)(cs:List AV)(rv:AV):Prop where
 o:h[mid]?=some (.row w [mE m cid rv post] true)
 c:h[cid]?=some (.row 5 cs true)
 l:cs.length=m.C.length
 e:∀(k:Nat)(c:qF),m.C[k]?=some c->∃v,cs[k]?=some v/\CV (λj=>ow j=k+3) h v c
 r:LsW (λj=>ow j=2) 2 h rv (m.R.map qL.enc)
 m1:ow mid=1
 c1:ow cid=1
 ne:mid≠cid
 b:∀j,ow j≠0->j<h.length
def MH(w mid:Nat)(post:List AV)(ow:Nat->Nat)(h:List qA)(m:qG):Prop:=∃cid cs rv,MO w mid post ow h m cid cs rv
structure Fo(ow:Nat->Nat)(h:List qA)(ow':Nat->Nat)(h':List qA):Prop where
 l:h.length<=h'.length
 k:∀j,j<h.length->ow j=0->ow' j=0/\h'[j]?=h[j]?
section
variable {w mid cid k:Nat} {post cs:List AV} {ow ow' ow1 ow2:Nat->Nat} {h h' h1 h2:List qA} {m:qG} {rv v v':AV} {c c':qF} {P Q:Nat->Prop}
theorem Fo.refl:Fo ow h ow h:=⟨nLr _,λ_ _ q=>⟨q,rfl⟩⟩
theorem Fo.trans(x:Fo ow h ow1 h1)(y:Fo ow1 h1 ow2 h2):Fo ow h ow2 h2:=⟨nLt x.l y.l,λj hj q=>by
 obtain⟨a,b⟩:=x.k j hj q;obtain⟨a',b'⟩:=y.k j (nLl hj x.l) a;exact⟨a',b'.trans b⟩⟩
theorem Fo.app(o:List qA):Fo ow h ow (h++o):=⟨by simp,λj hj q=>⟨q,gAl hj⟩⟩
theorem Fo.at{o:qA}(x:Fo ow h ow1 h1){j:Nat}(q:h[j]?=some o)(z:ow j=0):h1[j]?=some o/\ow1 j=0:=by
 obtain⟨a,b⟩:=x.k j (qZ q) z;exact⟨b.trans q,a⟩
theorem LsW.mono{w:Nat}{el:List AV}(x:LsW P w h v el)(k:∀j,j<h.length->P j->Q j/\h1[j]?=h[j]?):LsW Q w h1 v el:=by
 rcases x with x | ⟨id,q1,q2,q3⟩
 ·exact .inl x
 ·obtain⟨a,b⟩:=k id (qZ q3) q1;exact .inr ⟨id,a,q2,b.trans q3⟩
theorem CV.mono(x:CV P h v c)(k:∀j,j<h.length->P j->Q j/\h1[j]?=h[j]?):CV Q h1 v c:=by
 obtain⟨dv,wv,e,a,b⟩:=x;exact⟨dv,wv,e,a.mono k,b.mono k⟩
theorem CV.free{n:Int}:CV P h (.agg [iI 0,iI 0,iI n,.nils,.nils]) (zS n):=⟨.nils,.nils,rfl,.inl ⟨rfl,rfl⟩,.inl ⟨rfl,rfl⟩⟩
theorem CV.cells(x:CV P h v c):v.cells.length=5:=by
 obtain⟨dv,wv,rfl,_⟩:=x;rfl
theorem CV.agg(x:CV P h v c):∃cs,v=.agg cs:=by
 obtain⟨dv,wv,rfl,_⟩:=x;exact⟨_,rfl⟩
noncomputable def owC(ow:Nat->Nat)(k:Nat)(T:Nat->Prop)(j:Nat):Nat:= @ite _ (T j) (Classical.propDecidable _) (k+3) (if ow j=k+3 then 0 else ow j)
theorem qoV{T:Nat->Prop}{j:Nat}(h:T j):owC ow k T j=k+3:=iP h
theorem JQ{T:Nat->Prop}{j:Nat}(h:¬T j):owC ow k T j=if ow j=k+3 then 0 else ow j:=iN h
theorem MO.cell(M:MO w mid post ow h m cid cs rv)(T:Nat->Prop)(hc:m.C[k]?=some c)(hcid:h'[cid]?=some (.row 5 (cs.set k v') true))(hlen:h.length<=h'.length)
  (ho:∀j,j<h.length->ow j≠0->j≠cid->ow j≠k+3->h'[j]?=h[j]?) (hT:∀j,T j->j<h'.length/\(h.length<=j\/ow j=0\/ow j=k+3)) (hv:CV T h' v' c'):
  MO w mid post (owC ow k T) h' {m with C:=m.C.set k c'} cid (cs.set k v') rv where
 o:=by
  rw[ho mid (qZ M.o) (by rw[M.m1];decide) M.ne (by rw[M.m1];omega),M.o];simp[mE]
 c:=hcid
 l:=by simp[M.l]
 e:=λl d hd=>by
  have hk:k<m.C.length:=zP hc;by_cases e:l=k
  ·subst e;rw[gSs hk]at hd;cases hd;refine⟨v',gSs (by rw[M.l];exact hk), ?_⟩;exact hv.mono λj _ q=>⟨qoV q,rfl⟩
  ·rw[gSn (Ne.symm e)]at hd;obtain⟨u,u1,u2⟩:=M.e l d hd;refine⟨u,by rw[gSn (Ne.symm e)];exact u1,u2.mono λj hj q=>?_⟩;have nc:j≠cid:=λe=>by subst e;rw[M.c1]at q;omega
   refine⟨?_,ho j hj (by omega) nc (by omega)⟩;rw[JQ λt=>by have:=(hT j t).2;omega,iN (by omega)];exact q
 r:=M.r.mono λj hj q=>by
  have nc:j≠cid:=λe=>by subst e;rw[M.c1]at q;omega
  refine⟨?_,ho j hj (by omega) nc (by omega)⟩;rw[JQ λt=>by have:=(hT j t).2;omega,iN (by omega)];exact q
 m1:=by rw[JQ λt=>by have:=(hT mid t).2;have:=M.m1;have:=qZ M.o;omega,iN (by rw[M.m1];omega)];exact M.m1
 c1:=by rw[JQ λt=>by have:=(hT cid t).2;have:=M.c1;have:=qZ M.c;omega,iN (by rw[M.c1];omega)];exact M.c1
 ne:=M.ne
 b:=λj hj=>by
  by_cases t:T j
  ·exact(hT j t).1
  ·rw[JQ t]at hj;refine nLl (M.b j λe=>hj ?_) hlen;rw[iN (by omega)];exact e
theorem qCL{T:Nat->Prop}(hh:∀j,j<h.length->ow j=0->¬T j->h'[j]?=h[j]?)(hl:h.length<=h'.length)(ht:∀j,T j->j<h.length->ow j=k+3):Fo ow h (owC ow k T) h':=⟨hl,λj hj q=>by
 have nt:¬T j:=λt=>by have:=ht j t hj;omega
 exact⟨by rw[JQ nt,iN (by omega)];exact q,hh j hj q nt⟩⟩
theorem MO.top{m':qG}{rv':AV}{post':List AV}(M:MO w mid post ow h m cid cs rv)(hC:m'.C=m.C)(hm:h'[mid]?=some (.row w [mE m' cid rv' post'] true))(hlen:h.length<=h'.length)
  (ho:∀j,j<h.length->ow j≠0->j≠mid->ow j≠2->h'[j]?=h[j]?) (hw:∀j,ow j≠2->ow' j≠2->ow' j=ow j) (h12:∀j,ow j≠2->ow j≠0->ow' j≠2) (hb:∀j,ow' j=2->j<h'.length) (h2:∀j,ow j=2->ow' j=2\/ow' j=0)
  (hr:LsW (λj=>ow' j=2) 2 h' rv' (m'.R.map qL.enc)):MO w mid post' ow' h' m' cid cs rv' where
 o:=hm
 c:=by rw[ho cid (qZ M.c) (by rw[M.c1];decide) (Ne.symm M.ne) (by rw[M.c1];decide)];exact M.c
 l:=by rw[hC];exact M.l
 e:=λk d hd=>by
  rw[hC]at hd;obtain⟨u,u1,u2⟩:=M.e k d hd;refine⟨u,u1,u2.mono λj hj q=>?_⟩;have nm:j≠mid:=λe=>by subst e;rw[M.m1]at q;omega
  exact⟨by rw[hw j (by omega) (h12 j (by omega) (by omega))];exact q,ho j hj (by omega) nm (by omega)⟩
 r:=hr
 m1:=by rw[hw mid (by rw[M.m1];decide) (h12 mid (by rw[M.m1];decide) (by rw[M.m1];decide))];exact M.m1
 c1:=by rw[hw cid (by rw[M.c1];decide) (h12 cid (by rw[M.c1];decide) (by rw[M.c1];decide))];exact M.c1
 ne:=M.ne
 b:=λj hj=>by
  by_cases e:ow' j=2
  ·exact hb j e
  ·by_cases e2:ow j=2
   ·have:=h2 j e2;omega
   ·rw[hw j e2 e]at hj;exact nLl (M.b j hj) hlen
theorem MO.heap(M:MO w mid post ow h m cid cs rv)(hlen:h.length<=h'.length)(hh:∀j,j<h.length->ow j≠0->h'[j]?=h[j]?):MO w mid post ow h' m cid cs rv where
 o:=by rw[hh mid (qZ M.o) (by rw[M.m1];decide)];exact M.o
 c:=by rw[hh cid (qZ M.c) (by rw[M.c1];decide)];exact M.c
 l:=M.l
 e:=λk d hd=>by
  obtain⟨u,u1,u2⟩:=M.e k d hd;exact⟨u,u1,u2.mono λj hj q=>⟨q,hh j hj (by omega)⟩⟩
 r:=M.r.mono λj hj q=>⟨q,hh j hj (by omega)⟩
 m1:=M.m1
 c1:=M.c1
 ne:=M.ne
 b:=λj hj=>nLl (M.b j hj) hlen
theorem MO.app(M:MO w mid post ow h m cid cs rv)(o:List qA):MO w mid post ow (h++o) m cid cs rv:=M.heap (by simp) λj hj _=>gAl hj
theorem MH.heap(M:MH w mid post ow h m)(hlen:h.length<=h'.length)(hh:∀j,j<h.length->ow j≠0->h'[j]?=h[j]?):MH w mid post ow h' m:=by
 obtain⟨cid,cs,rv,M⟩:=M;exact⟨cid,cs,rv,M.heap hlen hh⟩
theorem MH.app(M:MH w mid post ow h m)(o:List qA):MH w mid post ow (h++o) m:=M.heap (by simp) λj hj _=>gAl hj
theorem MH.b(M:MH w mid post ow h m):ow h.length=0:=by
 obtain⟨cid,cs,rv,M⟩:=M;refine Classical.byContradiction λq=>?_;have:=M.b _ q;omega
end
section
variable {w mid cid k:Nat} {post cs:List AV} {ow ow' ow1 ow2:Nat->Nat} {h h' h1 h2:List qA} {m:qG} {rv v v':AV} {c c':qF} {P Q:Nat->Prop}
theorem sne{o:qA}{j id:Nat}(e:j≠id):(h.set id o)[j]?=h[j]?:=gSn (Ne.symm e)
theorem MO.setC(M:MO w mid post ow h m cid cs rv)(T:Nat->Prop)(hc:m.C[k]?=some c)(hT:∀j,T j->j<h.length/\(ow j=0\/ow j=k+3))(hv:CV T h v' c'):
  MO w mid post (owC ow k T) (h.set cid (.row 5 (cs.set k v') true)) {m with C:=m.C.set k c'} cid (cs.set k v') rv:=by
 refine M.cell T hc (gSs (qZ M.c)) (by simp) (λj hj h0 hcj hk=>sne hcj) (λj t=>⟨by simpa using(hT j t).1,.inr (hT j t).2⟩) (hv.mono λj hj t=>⟨t,sne λe=>?_⟩);subst e;have:=(hT j t).2;rw[M.c1]at this;omega
theorem MO.setC_fo(M:MO w mid post ow h m cid cs rv){T:Nat->Prop}(hT:∀j,T j->ow j=k+3):Fo ow h (owC ow k T) (h.set cid (.row 5 (cs.set k v') true)):=
 qCL (λj hj h0 _=>sne λe=>by subst e;rw[M.c1]at h0;omega) (by simp) (λj t _=>hT j t)
theorem MO.setF(M:MO w mid post ow h m cid cs rv)(f:Int):MO w mid post ow (h.set mid (.row w [mE {m with F:=f} cid rv post] true)) {m with F:=f} cid cs rv:=by
 have hl:∀j,ow j≠0->j<h.length:=M.b;refine M.top (m':={m with F:=f}) rfl (gSs (qZ M.o)) (by simp) (λj hj h0 hm h2=>sne hm) (λj _ _=>rfl) (λj a b=>a) (λj e=>by rw[lLs];exact hl j (by omega)) (λj e=>.inl e) ?_;exact M.r.mono λj hj q=>⟨q,sne λe=>by subst e;rw[M.m1]at q;omega⟩
theorem MO.setF_fo(M:MO w mid post ow h m cid cs rv){o:qA}:Fo ow h ow (h.set mid o):=⟨by simp,λj hj q=>⟨q,sne λe=>by subst e;rw[M.m1]at q;omega⟩⟩
theorem MO.sto5{E:Ev}{l:List qC}{ks:List Fr1}{s l':qp}{Q:qi->VSt->Prop}(M:MO w mid post ow h m cid cs rv)(hc:m.C[k]?=some c)(h5:v.cells.length=5)(ha:∃cs,v=.agg cs)(hr:R E (.ops l::ks) ⟨s,l',h.set cid (.row 5 (cs.set k v) true)⟩ Q):Sto E 5 (some (.ptr cid k 0)) (some v) l ks ⟨s,l',h⟩ Q:=by
 obtain⟨v0,v1,v2⟩:=M.e k c hc;exact zx h5 M.c v1 (Zr v2.cells h5 ⟨λ_=>ha,λ_=>v2.agg⟩ (by decide)) hr
theorem MO.stoF{E:Ev}{l:List qC}{ks:List Fr1}{s l':qp}{Q:qi->VSt->Prop}(M:MO w mid post ow h m cid cs rv)(f:Int)(hr:R E (.ops l::ks) ⟨s,l',h.set mid (.row w [mE {m with F:=f} cid rv post] true)⟩ Q):Sto E 1 (some (.ptr mid 0 1)) (some (iI f)) l ks ⟨s,l',h⟩ Q:=zx rfl M.o rfl qnI hr
theorem Vp(M:MH w mid post ow h m)(hc:m.C[k]?=some c):SCall Gm 1278 [.ptr mid 0 0,iI (k:Nat)] h (λ_ h'=>∃ow',MH w mid post ow' h' (qS m k)/\Fo ow h ow' h'/\h'.length=h.length/\∀j,j<h.length->ow j=k+3->ow' j=0/\h'[j]?=h[j]?):=by
 obtain⟨cid,cs,rv,M⟩:=M;have hk:=zP hc;refine sI Um ?_;simp only[Um,qM,go_sem,M.o,qW hk,nZa];refine M.sto5 hc rfl ⟨_,rfl⟩ ?_;have M1:=M.setC (k:=k) (c':=zS m.F) (λ_=>False) hc (λ_ t=>t.elim) CV.free;have f1:=M.setC_fo (k:=k) (T:=λ_=>False) (v':=.agg [iI 0,iI 0,iI m.F,.nils,.nils]) (λ_ t=>t.elim);simp only[go_sem];refine M1.stoF _ ?_;have M2:=M1.setF (k:Int);simp only[go_sem];refine⟨_,⟨cid,_,rv,by rw[qS,iTn];exact M2⟩,f1.trans M1.setF_fo,by simp,λj hj q=>⟨by rw[JQ (λt=>t),iP q], ?_⟩⟩;rw[sne λe=>by subst e;rw[M.m1]at q;omega,sne λe=>by subst e;rw[M.c1]at q;omega]
structure FoT(T:Nat->Prop)(ow:Nat->Nat)(h:List qA)(ow':Nat->Nat)(h':List qA):Prop where
 l:h.length<=h'.length
 k:∀j,j<h.length->ow j=0->¬T j->ow' j=0/\h'[j]?=h[j]?
theorem FoT.fo{T:Nat->Prop}(x:FoT T ow h ow' h')(n:∀j,j<h.length->ow j=0->¬T j):Fo ow h ow' h':=⟨x.l,λj hj q=>x.k j hj q (n j hj q)⟩
theorem Ws(M:MH w mid post ow h m)(hf:m.F=(k:Nat))(hc:m.C[k]?=some c){T:Nat->Prop}(hT:∀j,T j->j<h.length/\ow j=0)(hv:CV T h v c'):SCall Gm 1282 [.ptr mid 0 0,v] h (λr h'=>r=iI (k:Nat)/\∃ow',MH w mid post ow' h' (qR m c')/\FoT T ow h ow' h'/\h'.length=h.length):=by
 obtain⟨cid,cs,rv,M⟩:=M;have hk:=zP hc;obtain⟨dv',wv',rfl,u2,u3⟩:=id hv;refine sI Ur ?_;simp only[Ur,qM,go_sem];refine qa rfl ?_;obtain⟨v0,v1,dv,wv,rfl,v2,v3⟩:=M.e k c hc;simp only[go_sem,M.o,hf,qW hk,nZa,M.c,v1];refine M.stoF _ ?_;have M1:=M.setF c.V;have hv1:CV T (h.set mid (.row w [mE {m with F:=c.V} cid rv post] true)) (cE c' dv' wv') c':=hv.mono λj hj t=>⟨t,sne λe=>by subst e;have:=(hT j t).2;rw[M.m1]at this;cases this⟩;have hl1:∀o,(h.set mid o).length=h.length:=λo=>by simp
 have M2:=M1.setC (k:=k) (c':=c') (v':=cE c' dv' wv') T hc (λj t=>⟨by rw[hl1];exact(hT j t).1,.inl (hT j t).2⟩) hv1;simp only[go_sem,M1.o,qW hk,nZa];refine M1.sto5 hc rfl ⟨_,rfl⟩ ?_;simp only[go_sem];have et:qR m c'={m with F:=c.V,C:=m.C.set k c'}:=by rw[qR,hf,iTn,JF hc]
 refine⟨trivial,_,⟨cid,_,rv,by rw[et];exact M2⟩,⟨by simp,λj hj q n=>⟨by rw[JQ n,iN (by omega)];exact q, ?_⟩⟩,by simp⟩;rw[sne (λe=>by subst e;rw[M.c1]at q;omega),sne (λe=>by subst e;rw[M.m1]at q;omega)]
theorem Vs(M:MH w mid post ow h m)(hf:m.F=(k:Nat))(hc:m.C[k]?=some c):SCall Gm 1418 [.ptr mid 0 0] h (λr h'=>r=(vwI (k:Nat)).enc/\∃ow',MH w mid post ow' h' (qR m (qX []))/\Fo ow h ow' h'/\h'.length=h.length):=by
 refine sI Kb ?_;simp only[Kb,qM,go_sem];refine qj (SCall.mono (Ws M hf hc (c':=qX []) (v:=cE (qX []) .nils .nils) (T:=λ_=>False) (λ_ t=>t.elim) ⟨.nils,.nils,rfl,.inl ⟨rfl,rfl⟩,.inl ⟨rfl,rfl⟩⟩) ?_);rintro r h' ⟨rfl,ow',M',f,l⟩;simp only[go_sem];refine lsA ?_;simp only[go_sem];exact⟨rfl,ow',M',f.fo λ_ _ _ t=>t,l⟩
def owR(ow:Nat->Nat)(id:Nat)(j:Nat):Nat:=if j=id then 2 else if ow j=2 then 0 else ow j
theorem MO.redx{rx:List qL}{id:Nat}{rv':AV}(M:MO w mid post ow h m cid cs rv)(u:Up (λj=>ow j=2) h h1)(hi:h.length<=id)(hr:h1[id]?=some (.row 2 (rx.map qL.enc) true))(hv:rv'=sQ 2 id rx.length):
  MO w mid post (owR ow id) (h1.set mid (.row w [mE {m with R:=rx} cid rv' post] true)) {m with R:=rx} cid cs rv'/\Fo ow h (owR ow id) (h1.set mid (.row w [mE {m with R:=rx} cid rv' post] true)):=by
 have hm:=qZ M.o;have hid:id≠mid:=by omega
 have ho:∀j,j<h.length->j≠mid->ow j≠2->(h1.set mid (.row w [mE {m with R:=rx} cid rv' post] true))[j]?=h[j]?:=λj hj a b=>by
  rw[sne a];have:=gEg hj;rw[this];exact u.at this b
 have n2:∀j,j≠id->owR ow id j=if ow j=2 then 0 else ow j:=λj e=>by rw[owR,iN e]
 have lb:∀j,ow j≠0->j≠id:=λj e=>by have:=M.b j e;omega
 refine⟨M.top (m':={m with R:=rx}) rfl (gSs (nLl hm u.1)) (by rw[lLs];exact u.1) (λj hj a b c=>ho j hj b c) (λj a b=>?_) (λj a b=>?_) (λj e=>?_) (λj e=>?_) (.inr ⟨id,iP rfl,by rw[lMp];exact hv,by rw[sne hid];exact hr⟩),by rw[lLs];exact u.1,λj hj q=>⟨?_,ho j hj (λe=>?_) (by omega)⟩⟩
 ·have:j≠id:=λe=>b (by rw[owR,iP e]);rw[n2 j this,iN a]
 ·rw[n2 j (lb j b),iN a];exact a
 ·rw[lLs];by_cases q:j=id
  ·rw[q];exact qZ hr
  ·rw[n2 j q]at e;split at e
   ·cases e
   ·omega
 ·rw[n2 j (lb j (by omega)),iP e];exact .inr rfl
 ·rw[n2 j (by omega),iN (by omega)];exact q
 ·subst e;rw[M.m1]at q;cases q
theorem X8{E:Ev}{l:List qC}{ks:List Fr1}{s l':qp}{Q:qi->VSt->Prop}{rv':AV}(hm:h[mid]?=some (.row w [mE m cid rv post] true))(rx:List qL)(hv:rv'.cells=[rv'])(hr:R E (.ops l::ks) ⟨s,l',h.set mid (.row w [mE {m with R:=rx} cid rv' post] true)⟩ Q):Sto E 1 (some (.ptr mid 0 4)) (some rv') l ks ⟨s,l',h⟩ Q:=zx (by rw[hv];rfl) hm rfl (qnJ hv) hr
theorem Vq{a b:Int}(M:MH w mid post ow h m)(hl:m.R.length<=1000000):SCall Gm 1280 [.ptr mid 0 0,iI a,iI b] h (λ_ h'=>∃ow',MH w mid post ow' h' (wk m a b)/\Fo ow h ow' h'):=by
 obtain⟨cid,cs,rv,M⟩:=M;refine sI Uo ?_;simp only[Uo,qM,go_sem,M.o];refine qI c978 ?_;simp only[go_sem];refine qI Yc ?_;simp only[go_sem];have M1:=M.app [qA.row 2 [AV.agg [iI (if a<b then a else b),iI (if b<a then a else b)]] true];refine wc M1.r ends (by rw[lMp];omega) λh3 u3 v3 l3=>?_;have hm:=u3.at M1.o (λq=>by have:=q.1;rw[M.m1]at this;omega);simp only[go_sem];have e1:(m.R.map qL.enc)++[AV.agg [iI (if a<b then a else b),iI (if b<a then a else b)]]=((m.R++[(⟨min a b,max a b⟩:qL)]).map qL.enc):=by
  rw[lMa];congr 1;have e1:(if a<b then a else b)=min a b:=by split<;>omega
  have e2:(if b<a then a else b)=max a b:=by split<;>omega
  rw[e1,e2];rfl
 rw[e1]at v3;refine X8 hm (m.R++[(⟨min a b,max a b⟩:qL)]) rfl ?_;simp only[go_sem];obtain⟨M2,f2⟩:=M1.redx (u3.w λj _ q=>q.1) (nLr _) v3 (rv':=.slice 2 (h++[qA.row 2 [AV.agg [iI (if a<b then a else b),iI (if b<a then a else b)]] true]).length 0 (m.R.length+1) false) (by simp);have f3:=(Fo.app (ow:=ow) (h:=h) _).trans f2;exact⟨_,⟨cid,cs,_,M2⟩,f3⟩
end
section
variable {w mid cid k:Nat} {post cs:List AV} {ow ow' ow1 ow2:Nat->Nat} {h h' h1 h2:List qA} {m:qG} {rv v v':AV} {c c':qF} {P:List qE} {O:Nat->Bool} {x y:qE}
theorem qGS(h:MM m (x::P) O):(x.T=1/\∀n,flw n m x=(m,x))\/∃k:Nat,x=vW k/\((m.C[k]?=some (qX [])/\∀n,flw n m x=(m,x))\/∃y,m.C[k]?=some (qX [y])/\(∀n,flw (n+1) m x=flw n (qS m (k:Int)) y)/\MM (qS m (k:Int)) (y::P) O/\nV (qS m (k:Int)).C+1=nV m.C):=by
 obtain⟨k,c,e1,e2,e3⟩:=h.pw x (.head _);by_cases ht:x.T=2
 ·have hk:c.K=13:=by
   rcases e3 with⟨q,_⟩ | ⟨_,q⟩
   ·omega
   ·exact q
  obtain⟨ho,ws,hv,hl⟩:=h.var e2 hk;have hpos:=qIP e2 hk;have hca:zZ m x.I=c:=by rw[e1];exact JF e2
  have hwv:x=vW k:=by
   obtain⟨t,a⟩:=x;simp only at ht e1;subst ht e1;rfl
  refine .inr ⟨k,hwv, ?_⟩;cases ws with
  | nil=>
   refine .inl ⟨by rw[e2,hv],λn=>?_⟩;cases n with
   | zero=>rfl
   | succ n=>rw[flw,iP ht,hca,hv];rfl
  | cons y r=>
   have hr:r=[]:=by cases r with | nil=>rfl | cons a r=>simp at hl
   subst hr;have h1:=MI.rel (Q:=[x]) h e2 ho (by omega) (λz hz=>by simp only[lMg]at hz;rw[hz];exact e1) (by rw[hv];simp[zO,qX]);have hrel:qS m (k:Int)={m with C:=m.C.set k (zS m.F),F:=(k:Int)}:=by
    unfold qS;rw[iTn]
   have hnv:=qIQ (c':=zS m.F) e2;rw[iP hk,iN (by simp[zS])]at hnv;refine .inr ⟨y,by rw[e2,hv],λn=>?_,by rw[hrel];rw[hv]at h1;exact h1,by rw[hrel];simpa using hnv⟩;rw[flw,iP ht,hca,hv,e1];rfl
 ·refine .inl ⟨?_,λn=>?_⟩
  ·rcases e3 with⟨q,_⟩ | ⟨q,_⟩
   ·exact q
   ·exact absurd q ht
  ·cases n with
   | zero=>rfl
   | succ n=>rw[flw,iN ht]
theorem MO.words(M:MO w mid post ow h m cid cs rv)(hc:m.C[k]?=some c):∃dv wv,cs[k]?=some (cE c dv wv)/\LsW (λj=>ow j=k+3) 1 h dv (c.D.map qQ)/\LsW (λj=>ow j=k+3) 2 h wv (c.W.map qE.enc):=by
 obtain⟨v,v1,dv,wv,rfl,v2,v3⟩:=M.e k c hc;exact⟨dv,wv,v1,v2,v3⟩
theorem LsW.one{w:Nat}{Q:Nat->Prop}{a:AV}(x:LsW Q w h v [a]):∃id,Q id/\v=sQ w id 1/\h[id]?=some (.row w [a] true):=by
 rcases x with⟨_,q⟩ | x
 ·cases q
 ·exact x
theorem J9{w id:Nat}{cl:Bool}{k:IntKind}:idx w (some (.slice w id 0 1 cl)) (some (.int k 0))=some (.ptr id 0 0):=XY (by omega) (by omega)
theorem qKH(M:MH w mid post ow h m)(hP:MM m (x::P) O):SCall Gm 1284 [.ptr mid 0 0,x.enc] h (λr h'=>r=(flw (nV m.C) m x).2.enc/\∃ow',MH w mid post ow' h' (flw (nV m.C) m x).1/\Fo ow h ow' h'):=by
 refine sI Ut ?_;simp only[Ut,qM,go_sem];refine qa rfl ?_;simp only[go_sem];generalize hR:flw (nV m.C) m x=R;refine Sem.loop (λa:qG×qE×(Nat->Nat)×List qA=>MH w mid post a.2.2.1 a.2.2.2 a.1/\MM a.1 (a.2.1::P) O/\flw (nV a.1.C) a.1 a.2.1=R/\Fo ow h a.2.2.1 a.2.2.2) (λa=>(⟨[(0,.ptr mid 0 0)],[(3,a.2.1.enc),(4,.agg [iI 0,iI 0])],a.2.2.2⟩:VSt)) (λa=>nV a.1.C) (m,x,ow,h) (by kernel_rfl) ⟨M,hP,hR,Fo.refl⟩ csA ?_;rintro⟨m1,x1,ow1,h1⟩ ⟨M1,P1,R1,f1⟩;simp only at M1 P1 R1 f1;simp only[go_sem];have done:R1=R1->flw (nV m1.C) m1 x1=(m1,x1)->x1.enc=R.2.enc/\∃ow',MH w mid post ow' h1 R.1/\Fo ow h ow' h1:=λ_ q=>by
  rw[R1]at q;subst q;exact⟨rfl,ow1,M1,f1⟩
 rcases qGS P1 with⟨ht,hf⟩ | ⟨k,rfl,⟨hc,hf⟩ | ⟨y,hc,hf,hP1,hn⟩⟩
 ·have e:decide (x1.T=2)=false:=dEf (by omega);simp only[e,go_sem];refine lsA ?_;simp only[go_sem];exact done rfl (hf _)
 ·obtain⟨cid,cs,rv,M1⟩:=M1;have hk:=zP hc;obtain⟨dv,wv,v1,v2,v3⟩:=M1.words hc;have hlen:=v3.len;have e:decide ((vW k).T=2)=true:=rfl;simp only[e,go_sem,M1.o,show (vW k).I=(k:Int)from rfl,qW hk,nZa,M1.c,v1,hlen];have e2:decide ((0:Int)<((qX []).W.length:Nat))=false:=rfl;simp only[e2,go_sem];refine lsA ?_;simp only[go_sem];exact done rfl (hf _)
 ·have M1':=M1;obtain⟨cid,cs,rv,M1⟩:=M1;have hk:=zP hc;obtain⟨dv,wv,v1,v2,v3⟩:=M1.words hc;have hlen:=v3.len;obtain⟨id,i1,rfl,i3⟩:=v3.one;have e:decide ((vW k).T=2)=true:=rfl;have e2:decide ((0:Int)<((1:Nat):Int))=true:=rfl;simp only[e,go_sem,M1.o,show (vW k).I=(k:Int)from rfl,qW hk,nZa,M1.c,v1,Int.natCast_one,show decide ((0:Int)<1)=true from rfl,J9,i3];refine lsA ?_;simp only[go_sem];refine qj (SCall.mono (Vp M1' hc) ?_);rintro r h2 ⟨ow2,M2,f2,l2,-⟩;simp only[go_sem];refine qd (qS m1 (k:Int),y,ow2,h2) ⟨M2,hP1, ?_,f1.trans f2⟩ (by simp only;omega) csA;rw[<-hn,hf]at R1;exact R1
end
section
variable {w mid cid k:Nat} {post cs:List AV} {ow ow' ow1 ow2:Nat->Nat} {h h' h1 h2:List qA} {m:qG} {rv v v' dv wv:AV} {c c':qF} {P:List qE} {O:Nat->Bool} {x y a b:qE} {ws:List qE}
theorem qAP{wv':AV}(hv:wv'.cells=[wv']):(cE c dv wv).put 4 wv'=some (cE c dv wv'):=Qk hv rfl
theorem MO.stoW{E:Ev}{l:List qC}{ks:List Fr1}{s l':qp}{Q:qi->VSt->Prop}{wv':AV}(M:MO w mid post ow h m cid cs rv)(hk:cs[k]?=some (cE c dv wv))(hv:wv'.cells=[wv'])(hr:R E (.ops l::ks) ⟨s,l',h.set cid (.row 5 (cs.set k (cE c dv wv')) true)⟩ Q):Sto E 1 (some (.ptr cid k 4)) (some wv') l ks ⟨s,l',h⟩ Q:=zx (by rw[hv];rfl) M.c hk (qAP hv) hr
theorem MO.setWv{id:Nat}{wv':AV}(M:MO w mid post ow h m cid cs rv)(hc:m.C[k]?=some c)(hk:cs[k]?=some (cE c dv wv))(hd:LsW (λj=>ow j=k+3) 1 h dv (c.D.map qQ))(hid:ow id=0)(hrow:h[id]?=some (.row 2 (ws.map qE.enc) true))(hv:wv'=sQ 2 id ws.length):
  MO w mid post (owC ow k (λj=>ow j=k+3\/j=id)) (h.set cid (.row 5 (cs.set k (cE c dv wv')) true)) {m with C:=m.C.set k {c with W:=ws}} cid (cs.set k (cE c dv wv')) rv/\FoT (λj=>j=id) ow h (owC ow k (λj=>ow j=k+3\/j=id)) (h.set cid (.row 5 (cs.set k (cE c dv wv')) true)):=by
 have hl:=qZ hrow;refine⟨M.setC (c':={c with W:=ws}) (λj=>ow j=k+3\/j=id) hc (λj t=>?_) ⟨dv,wv',rfl,hd.mono λj _ q=>⟨.inl q,rfl⟩,.inr ⟨id,.inr rfl,by rw[lMp];exact hv,hrow⟩⟩,by simp,λj hj q n=>⟨?_,sne λe=>?_⟩⟩
 ·rcases t with t | t
  ·exact⟨M.b j (by omega),.inr t⟩
  ·rw[t];exact⟨hl,.inl hid⟩
 ·rw[JQ (λt=>t.elim (λt=>by omega) n),iN (by omega)];exact q
 ·subst e;rw[M.c1]at q;cases q
theorem FoT.new{T:Nat->Prop}{o:List qA}(f:FoT T ow (h++o) ow' h')(n:∀j,T j->h.length<=j):Fo ow h ow' h':=⟨by have:=f.l;simp at this;omega,λj hj q=>by
 obtain⟨a,b⟩:=f.k j (by simp;omega) q λt=>by have:=n j t;omega
 exact⟨a,b.trans (gAl hj)⟩⟩
theorem UK{k:Nat}:(vW k).I=(k:Int):=rfl
theorem s973(M:MH w mid post ow h m)(hP:MM m (a::b::P) O)(hl:m.R.length<=1000000):SCall Gm 973 [.ptr mid 0 0,a.enc,b.enc] h (λ_ h'=>∃ow',MH w mid post ow' h' (wA m a b)/\Fo ow h ow' h'):=by
 refine sI F973 ?_;simp only[F973,qM,go_sem];refine qa rfl ?_;simp only[go_sem];refine qa rfl ?_;simp only[go_sem];refine qj (SCall.mono (qKH M hP) ?_);obtain⟨g1,g2⟩:=Zg (nV m.C) hP (nLr _);have hL:wA m a b=wA m a b:=rfl
 conv at hL=>rhs;unfold wA
 simp only at hL;generalize wA m a b=L at hL|-;generalize flw (nV m.C) m a=r at g1 g2 hL|-;obtain⟨m1,a1⟩:=r;have g3:MM m1 (b::a1::P) O:=MI.perm g1 (List.Perm.swap _ _ _);obtain⟨k1,k2⟩:=Zg (nV m1.C) g3 (nLr _);simp only at g1 g2 k1 k2 hL|-;rintro r h1 ⟨rfl,ow1,M1,f1⟩;simp only[go_sem];refine lsA ?_;simp only[go_sem];refine qj (SCall.mono (qKH M1 g3) ?_);generalize flw (nV m1.C) m1 b=s at k1 k2 hL|-;obtain⟨m2,b1⟩:=s;simp only at k1 k2 hL|-;rintro r h2 ⟨rfl,ow2,M2,f2⟩;simp only[go_sem];refine lsA ?_;simp only[go_sem];have k3:MM m2 (a1::b1::P) O:=MI.perm k1 (List.Perm.swap _ _ _);have hrx:m2.R=m.R:=by rw[k2.rx,g2.rx]
 have ha:a1.T=1\/∃k:Nat,a1=vW k/\m2.C[k]?=some (qX []):=by
  rcases g2.stop with q | ⟨k,q1,q2⟩
  ·exact .inl q
  ·exact .inr ⟨k,q1,k2.keep k _ q2 (.inr rfl)⟩
 have hb:=k2.stop;by_cases q1:a1.T=1
 ·have e1:decide (a1.T=1)=true:=dEt q1;simp only[e1,go_sem];by_cases q2:b1.T=1
  ·have e2:decide (b1.T=1)=true:=dEt q2;simp only[e2,go_sem];refine qj (SCall.mono (Vq M2 (by rw[hrx];exact hl)) ?_);rintro r h3 ⟨ow3,M3,f3⟩;simp only[go_sem];rw[iP ⟨q1,q2⟩]at hL;exact⟨ow3,by rw[hL];exact M3,(f1.trans f2).trans f3⟩
  ·have e2:decide (b1.T=1)=false:=dEf q2;simp only[e2,go_sem];rw[iN (λq=>q2 q.2)]at hL;have n3:¬a1=b1:=λq=>q2 (by rw[<-q];exact q1);have e3:decide (a1=b1)=false:=dEf n3;have e4:decide (a1.T=2)=false:=dEf (by omega);simp only[e3,e4,go_sem];rw[iN n3,iN (by omega)]at hL;obtain⟨k,rfl,hck⟩:∃k:Nat,b1=vW k/\m2.C[k]?=some (qX []):=by
    rcases hb with q | q
    ·exact absurd q q2
    ·exact q
   rw[UK,jv hck]at hL;obtain⟨cid,cs,rv,M2'⟩:=M2;obtain⟨dv,wv,v1,v2,v3⟩:=M2'.words hck;have hk:=zP hck;simp only[M2'.o,show (vW k).I=(k:Int)from rfl,qW hk,nZa,go_sem];have M3:=M2'.app [qA.row 2 [a1.enc] true];refine M3.stoW v1 rfl ?_;simp only[go_sem];obtain⟨M4,f4⟩:=M3.setWv (ws:=[a1]) hck v1 (v2.app _) (id:=h2.length) (by have:=MH.b ⟨_,_,_,M2'⟩;exact this) ends rfl;refine⟨_,⟨cid,_,rv,by rw[hL];exact M4⟩,(f1.trans f2).trans (f4.new λj e=>by omega)⟩
 ·have e1:decide (a1.T=1)=false:=dEf q1;simp only[e1,go_sem];rw[iN (λq=>q1 q.1)]at hL;obtain⟨k,rfl,hck⟩:∃k:Nat,a1=vW k/\m2.C[k]?=some (qX []):=by
   rcases ha with q | q
   ·exact absurd q q1
   ·exact q
  by_cases n3:vW k=b1
  ·have e3:decide (vW k=b1)=true:=dEt n3;simp only[e3,go_sem];rw[iP n3]at hL;refine qj (SCall.mono (Vp M2 hck) ?_);rintro r h3 ⟨ow3,M3,f3,-⟩;simp only[go_sem];exact⟨ow3,by rw[hL];exact M3,(f1.trans f2).trans f3⟩
  ·have e3:decide (vW k=b1)=false:=dEf n3;have e4:decide ((vW k).T=2)=true:=rfl;simp only[e3,e4,go_sem];rw[iN n3,iP (show (vW k).T=2 from rfl),UK,jv hck]at hL;obtain⟨cid,cs,rv,M2'⟩:=M2;obtain⟨dv,wv,v1,v2,v3⟩:=M2'.words hck;have hk:=zP hck;simp only[M2'.o,show (vW k).I=(k:Int)from rfl,qW hk,nZa,go_sem];have M3:=M2'.app [qA.row 2 [b1.enc] true];refine M3.stoW v1 rfl ?_;simp only[go_sem];obtain⟨M4,f4⟩:=M3.setWv (ws:=[b1]) hck v1 (v2.app _) (id:=h2.length) (by have:=MH.b ⟨_,_,_,M2'⟩;exact this) ends rfl;refine⟨_,⟨cid,_,rv,by rw[hL];exact M4⟩,(f1.trans f2).trans (f4.new λj e=>by omega)⟩
end
theorem c948{p q:qH}:Pure Gm 948 [p.enc,q.enc] (.bool (bef p q)):=by
 refine pJ F948 ?_;simp only[F948,qM,go_sem]
 repeat' (first | (refine qa rfl ?_;simp only[go_sem]) | (apply zF<;>intro h1<;>simp only[h1,go_sem]) | (apply qU<;>intro h1<;>simp only[h1,go_sem]) | refine qN rfl ?_)
 all_goals (simp_all[bef])
theorem c556{p q:qH}:Pure Gm 556 [p.enc,q.enc] (.bool (bef p q)):=by
 refine pJ kG ?_;simp only[kG,qM,go_sem]
 repeat' (first | (refine qa rfl ?_;simp only[go_sem]) | (apply zF<;>intro h1<;>simp only[h1,go_sem]) | (apply qU<;>intro h1<;>simp only[h1,go_sem]) | refine qN rfl ?_)
 all_goals (simp_all[bef])
def Ls0(P:Nat->Prop)(w:Nat)(h:List qA)(v:AV)(el:List AV):Prop:=(v=.lst w [] true/\el=[])\/LsW P w h v el
section
variable {P:Nat->Prop} {w:Nat} {h h1:List qA} {v:AV} {el:List AV}
theorem Ls0.len(x:Ls0 P w h v el):QB (some v)=some (iI (el.length:Nat)):=by
 rcases x with⟨rfl,rfl⟩ | x
 ·rfl
 ·exact x.len
theorem Ls0.app(x:Ls0 P w h v el)(o:List qA):Ls0 P w (h++o) v el:=x.elim .inl λy=>.inr (y.app o)
theorem qAG{E:Ev}{l:List qC}{ks:List Fr1}{s m:qp}{Q:qi->VSt->Prop}{k id2:Nat}{c2:Bool}{x:AV}(ho:Ls0 P w h v el)(h2:h[id2]?=some (.row w [x] true))(hl:el.length<4000000000)
  (hr:∀h3,Up (λj=>P j/\v=sQ w j el.length) h h3->h3[h.length]?=some (.row w (el++[x]) true)->h3.length=h.length+1->R E (.ops l::ks) ⟨(k,sQ w h.length (el.length+1))::s,m,h3⟩ Q):JC E w (some k) (some v) (some (.slice w id2 0 1 c2)) l ks ⟨s,m,h⟩ Q:=by
 rcases ho with⟨rfl,rfl⟩ | ho
 ·exact ZZ (ys:=[x]) (Els.row h2 rfl) (by simp) (hr _ (Up.app _) (by simp) (by simp))
 ·exact wc ho h2 hl hr
end
theorem c569{n:qD}(hz:n.sz<=1048576)(ok:qk n=true):Pure Gm 569 [.ept n.enc 0] (.lst 4 ((qq n.G).map zN.enc) false):=by
 refine pI kI (by simp[AV.trees,AV.tree,go_sem]) (qb zN.isSh.tree _) ?_;simp only[kI,qM,go_sem];unfold qD.sz at hz;refine Sem.loop (λa:Nat×AV×List qA=>a.1<=n.G.length/\Ls0 (λ_=>True) 4 a.2.2 a.2.1 ((wrs n.G (qo n.G a.1)).map zN.enc))
  (λa=>(⟨[(0,.ept n.enc 0),(2,.nils),(3,a.2.1),(4,iI (a.1:Nat))],[],a.2.2⟩:VSt)) (λa=>n.G.length-a.1)
  (0,.lst 4 [] true,[]) (by kernel_rfl) ⟨nZl _,.inl ⟨rfl,rfl⟩⟩ csA ?_
 rintro⟨i,v,h⟩ ⟨hi,I⟩;simp only at hi I;simp only[go_sem];by_cases hlt:i<n.G.length
 ·have e:decide ((i:Int)<(n.G.length:Nat))=true:=dEt (by omega);have hc:=gEg hlt;simp only[e,go_sem];have e0:qo n.G i++zY i 0=qo n.G i:=by simp[zY]
  have hpl:n.G[i].P.length<=zD qB.sz n.G:=by
   have h1:qB.sz n.G[i]<=zD qB.sz n.G:=jr (f:=qB.sz) (gMm hlt);have h2:n.G[i].P.length<=qB.sz n.G[i]:=by unfold qB.sz;omega
   omega
  have htl:=Qj n.G i (by omega);have htt:=qDB qB.sz n.G i;generalize hx:n.G[i]=x at hc hpl;refine Sem.loop (λa:Nat×AV×List qA=>a.1<=x.P.length/\Ls0 (λ_=>True) 4 a.2.2 a.2.1 ((wrs n.G (qo n.G i++zY i a.1)).map zN.enc))
   (λa=>(⟨[(0,.ept n.enc 0),(2,.nils),(3,a.2.1),(4,iI (i:Nat)),(5,iI (a.1:Nat))],[],a.2.2⟩:VSt)) (λa=>x.P.length-a.1)
   (0,v,h) (by kernel_rfl) ⟨nZl _,by rw[e0];exact I⟩ csA ?_
  rintro⟨k,v1,h1⟩ ⟨hk,J⟩;simp only at hk J;simp only[gMp,hc,oMs,go_sem];by_cases hkl:k<x.P.length
  ·have e:decide ((k:Int)<(x.P.length:Nat))=true:=dEt (by omega);have hq:=gEg hkl;generalize x.P[k]=q at hq;have hpe:qK n.G ⟨(i:Int),(k:Int)⟩=q:=Wl (a:=i) (s:=k) (Qs.2 ⟨x,hc,hq⟩);simp only[e,gMp,hc,hq,oMs,go_sem];refine lsA ?_;simp only[gMp,hc,hq,oMs,go_sem];refine qI (c948 (p:=⟨(i:Int),(k:Int)⟩) (q:=q)) ?_;have es:qo n.G i++zY i (k+1)=(qo n.G i++zY i k)++[⟨(i:Int),(k:Int)⟩]:=by rw[X6,lAa]
   have ew:wrs n.G (qo n.G i++zY i (k+1))=wrs n.G (qo n.G i++zY i k)++if bef ⟨(i:Int),(k:Int)⟩ q=true then [⟨⟨(i:Int),(k:Int)⟩,q⟩]else []:=by
    rw[es,Z4,YJ,hpe]
   cases hb:bef ⟨(i:Int),(k:Int)⟩ q
   ·simp only[go_sem,wuA (n:=k)];refine qd (k+1,v1,h1) ⟨by simp only;omega, ?_⟩ (by simp only;omega) csA;simp only[ew,hb,bFt,if_false,lAn];exact J
   ·have hwl:=UL (xs:=n.G) (a:=qo n.G i++zY i k);have hsl:(qo n.G i++zY i k).length=(qo n.G i).length+k:=by simp[zY]
    simp only[gMp,hc,hq,oMs,go_sem];refine qAG (J.app _) ends (by rw[lMp];omega) λh3 u3 v3 l3=>?_;simp only[go_sem,wuA (n:=k)];refine qd (k+1,.slice 4 (h1++[qA.row 4 [AV.agg [iI i,iI k,iI q.N,iI q.S]] true]).length 0 (((wrs n.G (qo n.G i++zY i k)).map zN.enc).length+1) false,h3) ⟨by simp only;omega, ?_⟩ (by simp only;omega) csA;refine .inr (.inr ⟨(h1++[qA.row 4 [AV.agg [iI i,iI k,iI q.N,iI q.S]] true]).length,trivial, ?_, ?_⟩)
    ·simp[ew,hb]
    ·simp only[ew,hb,if_true,lMa];exact v3
  ·have e:decide ((k:Int)<(x.P.length:Nat))=false:=dEf (by omega);simp only[e,go_sem,wuA (n:=i)];refine qd (i+1,v1,h1) ⟨by simp only;omega, ?_⟩ (by simp only;omega) csA;have e2:qo n.G (i+1)=qo n.G i++zY i x.P.length:=by simp[qo,zw,hc]
   simp only[e2];rw[show k=x.P.length by omega]at J;exact J
 ·have e:decide ((i:Int)<(n.G.length:Nat))=false:=dEf (by omega);simp only[e,go_sem];obtain rfl:i=n.G.length:=by omega
  rcases I with⟨_,h2⟩ | I
  ·exact absurd (List.map_eq_nil_iff.1 h2) (qq8 ok)
  ·exact J7 (I.cv (qb zN.isSh.tree _) (by decide))
def qv(root:Bool)(x:zN):Bool:=decide (0<x.B.S)&&(decide (0<x.A.S) || (decide (x.A.N=0)&&root))
def jO(xs:List qB)(root:Bool):Nat:=(qq xs).countP (qv root)
theorem qA2{α:Type}{p:α->Bool}{xs:List α}{i:Nat}{x:α}(h:xs[i]?=some x):(xs.take (i+1)).countP p=(xs.take i).countP p+if p x=true then 1 else 0:=by
 rw[tA1,h,Option.toList_some,List.countP_append,List.countP_cons,List.countP_nil,nZa]
theorem W1{n:qD}(hz:n.sz<=1048576):(qq n.G).length<=1048576:=by
 have h1:=UL (xs:=n.G) (a:=qo n.G n.G.length);have h2:=Qj n.G n.G.length (nLr _);rw[lTl]at h2;unfold qD.sz at hz;unfold qq;omega
theorem qEX{n:qD}{root:Bool}(hz:n.sz<=1048576)(ok:qk n=true):Pure Gm 1174 [.ept n.enc 0,.bool root] (iI (jO n.G root:Nat)):=by
 refine pJ Ub ?_;simp only[Ub,qM,go_sem];refine qI (c569 hz ok) ?_;simp only[go_sem];have hwl:=W1 hz;refine Sem.loop (λi:Nat=>i<=(qq n.G).length) (λi=>(⟨[(1,.bool root),(4,iI 0),(5,iI (((qq n.G).take i).countP (qv root):Nat)),(6,.lst 4 ((qq n.G).map zN.enc) false),(7,iI (i:Nat))],[],[]⟩:VSt)) (λi=>(qq n.G).length-i)
  0 (by kernel_rfl) (nZl _) csA ?_
 rintro i hi;simp only[go_sem];by_cases hlt:i<(qq n.G).length
 ·have e:decide ((i:Int)<((qq n.G).length:Nat))=true:=dEt (by omega);have hc:=gEg hlt;generalize (qq n.G)[i]=x at hc;have ex:=qA2 (p:=qv root) hc;have hle:((qq n.G).take i).countP (qv root)<=i:=nLt (List.countP_le_length ..) (by simp;omega);simp only[e,gMp,hc,oMs,go_sem];refine lsA ?_;simp only[gMp,hc,oMs,go_sem];refine lsA ?_;simp only[go_sem];cases hB:decide (0<x.B.S)
  ·simp only[go_sem,wuA (n:=i),j0 (show ((qq n.G).take i).countP (qv root)<4611686018427387904 by omega)];have hv:qv root x=false:=by simp only[qv,hB,Bool.false_and];try rfl
   rw[hv]at ex;refine qd (i+1) (by omega) (by omega) (Can.sub (by simp[go_sem,ex]) (by simp[go_sem]))
  ·simp only[go_sem];cases hA:decide (0<x.A.S)
   ·simp only[go_sem];cases hR:decide (x.A.N=0)
    ·simp only[go_sem,wuA (n:=i),j0 (show ((qq n.G).take i).countP (qv root)<4611686018427387904 by omega)];have hv:qv root x=false:=by simp only[qv,hB,hA,hR,Bool.false_and,Bool.false_or,Bool.and_false];try rfl
     rw[hv]at ex;refine qd (i+1) (by omega) (by omega) (Can.sub (by simp[go_sem,ex]) (by simp[go_sem]))
    ·cases root
     ·simp only[go_sem,wuA (n:=i),j0 (show ((qq n.G).take i).countP (qv false)<4611686018427387904 by omega)];have hv:qv false x=false:=by simp only[qv,hB,hA,hR];try rfl
      rw[hv]at ex;refine qd (i+1) (by omega) (by omega) (Can.sub (by simp[go_sem,ex]) (by simp[go_sem]))
     ·simp only[go_sem,wuA (n:=i),j0 (show ((qq n.G).take i).countP (qv true)<4611686018427387904 by omega)];have hv:qv true x=true:=by simp only[qv,hB,hA,hR];try rfl
      rw[hv]at ex;refine qd (i+1) (by omega) (by omega) (Can.sub (by simp[go_sem,ex]) (by simp[go_sem]))
   ·simp only[go_sem,wuA (n:=i),j0 (show ((qq n.G).take i).countP (qv root)<4611686018427387904 by omega)];have hv:qv root x=true:=by simp only[qv,hB,hA,Bool.true_or,Bool.true_and];try rfl
    rw[hv]at ex;refine qd (i+1) (by omega) (by omega) (Can.sub (by simp[go_sem,ex]) (by simp[go_sem]))
 ·have e:decide ((i:Int)<((qq n.G).length:Nat))=false:=dEf (by omega);simp only[e,go_sem];exact qN rfl (by rw[tOl (by omega)];rfl)
theorem c970{m:qG}{L:List Nat}(hs:m.C.length<=1000000)(hf:FrC m.C m.F L):Pure Gm 970 [.ept m.enc 0] (iI (nF m.C:Nat)):=by
 refine pJ F970 ?_;simp only[F970,qM,go_sem];have hn:=hf.len;have hle:nF m.C<=m.C.length:=List.countP_le_length ..;refine Sem.loop (λa:Nat×Int×List Nat=>a.1+a.2.2.length=nF m.C/\chn m.C a.2.1 a.2.2) (λa=>(⟨[(0,.ept m.enc 0),(2,iI 0),(3,iI (a.1:Nat)),(4,iI a.2.1)],[],[]⟩:VSt)) (λa=>a.2.2.length)
  (0,m.F,L) (by kernel_rfl) ⟨by simp only;omega,hf.ch⟩ csA ?_
 rintro⟨n,a,L⟩ ⟨h1,h2⟩;simp only at h1 h2;simp only[go_sem];cases L with
 | nil=>
  obtain rfl:a= -1:=h2;simp only[show decide ((0:Int)<=-1)=false from rfl,go_sem];exact qN rfl (by rw[<-h1];rfl)
 | cons k L=>
  obtain⟨rfl,c,hc,h0,h3⟩:=h2;have e:decide ((0:Int)<=(k:Nat))=true:=dEt (by omega);simp only[lCo]at h1;simp only[e,go_sem,wuA (n:=n),gMp,hc,oMs];refine qd (n+1,c.V,L) ⟨by simp only;omega,h3⟩ (by simp only[lCo];omega) csA
structure RX(m:qG)(p:qL)(ka kb:Nat)(x y:qF):Prop where
 a:p.A=(ka:Int)
 b:p.B=(kb:Int)
 ha:m.C[ka]?=some x
 hb:m.C[kb]?=some y
theorem c969{m:qG}{p:qL}{ka kb:Nat}{x y:qF}(r:RX m p ka kb x y)(hx:x.W.length<=1048576)(hy:y.W.length<=1048576):Pure Gm 969 [.ept m.enc 0,p.enc] (iI (za (qY x) (qY y))):=by
 refine pJ F969 ?_;simp only[F969,qM,go_sem];refine qa rfl ?_;simp only[go_sem,r.a,gMp,r.ha,oMs];refine qI (qE0 hx) ?_;simp only[go_sem];refine zx (e':=(qY x).enc) rfl rfl rfl rfl ?_;simp only[go_sem,r.b,gMp,r.hb,oMs];refine qI (qE0 hy) ?_;simp only[go_sem];refine zx (e':=(qY y).enc) rfl rfl rfl rfl ?_;simp only[go_sem];refine J4 (Cvs.cons (.ptr rfl (by decide) rfl (.refl qB.tr)) (Cvs.cons (.ptr rfl (by decide) rfl (.refl qB.tr)) .nil)) (c744 (x:=qY x) (y:=qY y)) rfl ?_;simp only[go_sem];exact qN rfl rfl
def JB(x y:qF):Bool:=decide (zr x.K x.L y.K y.L=2)
theorem c971{m:qG}{p:qL}{ka kb:Nat}{x y:qF}(r:RX m p ka kb x y):Pure Gm 971 [.ept m.enc 0,p.enc] (if JB x y=true then .tup [iI (kb:Nat),iI (ka:Nat)]else .tup [iI (ka:Nat),iI (kb:Nat)]):=by
 refine pI F971 (by simp[AV.trees,AV.tree,go_sem]) (by split<;>rfl) ?_;simp only[F971,qM,go_sem];refine qa rfl ?_;simp only[go_sem,r.a,r.b,gMp,r.ha,r.hb,oMs];refine qI qiL ?_;simp only[go_sem];unfold JB;cases h:decide (zr x.K x.L y.K y.L=2)
 ·simp only[go_sem,r.a,r.b];exact zT (by rfl) (by rfl)
 ·simp only[go_sem,r.a,r.b];exact zT (by rfl) (by rfl)
theorem c857{c:Int}:Pure Gm 857 [iI c] (iI (if c=7 then 1 else 2)):=by
 refine pJ kj ?_;simp only[kj,qM,go_sem];by_cases h:c=7
 ·simp only[h,go_sem];exact qN rfl rfl
 ·simp only[h,decide_false,go_sem];exact qN rfl rfl
theorem QR{a:Int}:Pure Gm 1279 [iI a] (awI a).enc:=by
 refine pJ Un ?_;simp only[Un,qM,go_sem];refine lsA ?_;simp only[go_sem];exact qN rfl rfl
def frT(size a:Nat):List qF:=(List.range' a (size-a)).map λk=>zS (if k+1=size then-1 else((k+1:Nat):Int))
def zg(size:Nat)(L:List qF)(r:qE):qG:=⟨L++frT size L.length,if L.length<size then(L.length:Int)else-1,r,[]⟩
def agL(N:List qB)(i:Nat):List qF:=((N.drop 1).take i).map (agC 0)
def ldC(N:List qB)(q:Nat):List qF:=agL N (N.length-1)++List.replicate q (qX [])
def rN(N:List qB):Nat:=if 0<(qK N (pt 0 0)).S then 1 else 0
def ldT(N:List qB)(p:qH):qE:=if (qK N p).N=0 then vW (N.length-1)else tW N (N.length-1) (List.range (N.length-1)) (List.range' (N.length-1+rN N) (qf N).length) p
def ldR(N:List qB):qE:=if (qK N (pt 0 0)).S=0 then aW ((qK N (pt 0 0)).N.toNat-1)else vW (N.length-1)
def ldS(N:List qB)(size q:Nat)(r:qE)(D:qH->Bool):qG:=ovM (zg size (ldC N q) r) (gkw (List.range (N.length-1)) (dW N (ldT N) D))
def ldM(N:List qB)(size:Nat):qG:=jF (ldS N size (rN N+(qf N).length) (ldR N) λ_=>true) (zX N (N.length-1) (List.range (N.length-1)))
section
variable {size i j k q a:Nat} {L:List qF} {r w:qE} {c:qF} {N:List qB} {x:qB} {n:qD} {D:qH->Bool}
theorem qGW(h:a<size):frT size a=zS (if a+1=size then-1 else((a+1:Nat):Int))::frT size (a+1):=by
 unfold frT;rw[show size-a=(size-(a+1))+1 by omega,List.range'_succ];rfl
theorem Yv:(frT size a).length=size-a:=by simp[frT]
theorem VH(h:L.length<size):(zg size L r).C[L.length]?=some (zS (if L.length+1=size then-1 else((L.length+1:Nat):Int))):=by
 show (L++frT size L.length)[L.length]?=_;rw[qGW h];simp
theorem Xl(h:L.length<size):(zg size L r).F=(L.length:Int):=iP h
theorem qB5(h:L.length<size):qR (zg size L r) c=zg size (L++[c]) r:=by
 unfold qR;rw[Xl h,JF (VH h),iTn];unfold zg;rw[qGW h,lAp,List.length_singleton,lAa];congr 1
 ·simp
 ·simp only[zS];split<;>split<;>omega
theorem qEA(hx:N[i+1]?=some x):agL N (i+1)=agL N i++[agC 0 x]:=by
 unfold agL;rw[tA1,gDr,Nat.add_comm 1 i,hx,Option.toList_some,lMa];rfl
theorem QN(h:i+1<=N.length):(agL N i).length=i:=by
 unfold agL;rw[lMp,lLt,List.length_drop];omega
theorem YQ(hx:N[i+1]?=some x)(h:i<j):(agL N j)[i]?=some (agC 0 x):=by
 unfold agL;rw[gMp,gTk,iP h,gDr,Nat.add_comm 1 i,hx];rfl
theorem qBW(h:0<N.length):(ldC N q).length=N.length-1+q:=by
 unfold ldC;rw[lAp,QN (by omega),lLr]
theorem qmX:ldC N (q+1)=ldC N q++[qX []]:=by
 unfold ldC;rw[List.replicate_succ',lAa]
theorem qBV(hx:N[i+1]?=some x):(zg size (ldC N q) r).C[i]?=some (agC 0 x):=by
 have hi:=qZ hx;have h1:=YQ (j:=N.length-1) hx (by omega);show ((agL N (N.length-1)++List.replicate q (qX []))++frT size (ldC N q).length)[i]?=_;rw[lAa,gAl (qZ h1),h1]
theorem JN(h:i<q):(List.range q)[i]?=some i:=by simp[h]
theorem qHO(h:q<=i):i∉List.range q:=by simp;omega
theorem qH3{f:Nat->List qE}(h0:0<N.length)(h:N.length-1+q<size):(zg size (ldC N q) r).F=((N.length-1+q:Nat):Int)/\(∃d,(ovM (zg size (ldC N q) r) (gkw (List.range (N.length-1)) f)).C[N.length-1+q]?=some d)/\
  qR (ovM (zg size (ldC N q) r) (gkw (List.range (N.length-1)) f)) (qX [])=ovM (zg size (ldC N (q+1)) r) (gkw (List.range (N.length-1)) f):=by
 have hl:=qBW (q:=q) h0;have e1:(zg size (ldC N q) r).F=((N.length-1+q:Nat):Int):=by rw[Xl (by omega),hl]
 refine⟨e1, ?_, ?_⟩
 ·have:=VH (r:=r) (show (ldC N q).length<size by omega);rw[hl]at this;rw[Jf,this];exact⟨_,rfl⟩
 ·rw[qCK (f:=N.length-1+q) e1 (Qb (qHO (by omega))),qB5 (by omega),qmX]
theorem V0:∀i,i+1<=N.length->i<=size->tkA 0 N (zg size [] r) i=(zg size (agL N i) r,nI2 (List.range i))
 | 0,_,_=>rfl
 | i+1,h,hs=>by
  have ih:=V0 i (by omega) (by omega);have hx:=gEg (show i+1<N.length by omega);have hl:=QN (N:=N) (i:=i) (by omega);rw[tkA,hx];simp only[ih];rw[qB5 (by omega),qEA hx,Xl (by omega),hl,List.range_succ,nI2,nI2,lMa];rfl
end
section
variable {size i j k q a:Nat} {L:List qF} {r w:qE} {c:qF} {N:List qB} {x:qB} {n:qD} {D:qH->Bool} {m:qG}
theorem Xv:∀(ps:List (Nat×Nat)){m:qG},(jF m ps).F=m.F/\(jF m ps).R=m.R++ps.map λp=>⟨min (p.1:Int) p.2,max (p.1:Int) p.2⟩
 |[],m=>⟨rfl,by simp[jF]⟩
 | p::ps,m=>by
  obtain⟨a,b⟩:=Xv ps (m:=wk m p.1 p.2);exact⟨a,by show (jF (wk m p.1 p.2) ps).R=_;rw[b];simp[wk]⟩
theorem qBY(h:∀a s,Has N a s->0<a->0<s->D (pt a s)=true):ldS N size q r D=ovM (zg size (ldC N q) r) (gkw (List.range (N.length-1)) (fW N (ldT N))):=by
 unfold ldS;rw[qA7 h]
theorem qm0(h0:0<N.length):(ldS N size q r λ_=>true).C=(agL N (N.length-1)).mapIdx (ovC (gkw (List.range (N.length-1)) (fW N (ldT N))))++(List.replicate q (qX [])++frT size (N.length-1+q)):=by
 rw[qBY λ_ _ _ _ _=>rfl];show ((agL N (N.length-1)++List.replicate q (qX []))++frT size (ldC N q).length).mapIdx _=_;rw[qBW h0,lAa,List.mapIdx_append];congr 1;refine List.ext_getElem? λj=>?_;rw[List.getElem?_mapIdx,QN (by omega)];cases (List.replicate q (qX [])++frT size (N.length-1+q))[j]? with
 | none=>rfl
 | some d=>rw[oMs,VZ (Qb (qHO (by omega)))]
theorem qlM:((agL N (N.length-1)).mapIdx (ovC (gkw (List.range (N.length-1)) (fW N (ldT N))))).flatMap (·.W)=(List.range (N.length-1)).flatMap (fW N (ldT N)):=by
 rw[List.flatMap_def,List.flatMap_def];congr 1;refine List.ext_getElem? λj=>?_;rw[gMp,List.getElem?_mapIdx,gMp];by_cases hj:j<N.length-1
 ·have hx:=gEg (show j+1<N.length by omega);rw[YQ hx hj,JN hj,oMs,oMs,oMs,Xq (WR List.nodup_range (JN hj))]
 ·rw[gEn (by by_cases h0:N.length=0;{simp[agL,h0]};rw[QN (by omega)];omega),gEn (by simp;omega)];rfl
theorem qlO:(List.replicate q (qX [])++frT size a).flatMap (·.W)=[]:=by
 rw[List.flatMap_eq_nil_iff];intro c hc;rcases jL.1 hc with h | h
 ·rw[(List.mem_replicate.1 h).2];rfl
 ·obtain⟨_,_,rfl⟩:=List.mem_map.1 h;rfl
theorem qF3:∀n:Nat,cw k ((List.range n).map aW)=if k<n then 1 else 0
 | 0=>rfl
 | n+1=>by
  rw[List.range_succ,lMa,JG,qF3 n,List.map_singleton,zE,JW];have:(aW n).I=(n:Int):=rfl;rw[this];split<;>split<;>split<;>omega
theorem qF5:∀n a:Nat,cw k ((List.range' a n).flatMap λv=>[vW v,vW v])=if a<=k/\k<a+n then 2 else 0
 | 0,a=>by rw[iN (by omega)];rfl
 | n+1,a=>by
  rw[List.range'_succ,List.flatMap_cons,JG,qF5 n (a+1),zE,zE,JW];have:(vW a).I=(a:Int):=rfl;rw[this];split<;>split<;>split<;>omega
theorem qkI{ws vs:List qE}(h:ws.map (·.I)=vs.map (·.I)):cw k ws=cw k vs:=by
 have e:∀l:List qE,cw k l=(l.map (·.I)).countP λa=>decide (a=(k:Int)):=λl=>by unfold cw;rw[List.countP_map];rfl
 rw[e,e,h]
theorem qF0:∀(ps:List (Nat×Nat)),cr k (ps.map λp=>⟨min (p.1:Int) p.2,max (p.1:Int) p.2⟩)=cw k (ps.flatMap λp=>[aW p.1,aW p.2])
 |[]=>rfl
 | p::ps=>by
  have ih:=qF0 ps;rw[List.flatMap_cons,JG,<-ih,zE,zE,JW];unfold cr;rw[lMc,List.countP_cons,List.countP_cons];have e1:(aW p.1).I=(p.1:Int):=rfl;have e2:(aW p.2).I=(p.2:Int):=rfl;simp only[e1,e2,dTe];rcases Int.le_total (p.1:Int) p.2 with h | h
  ·rw[Int.min_eq_left h,Int.max_eq_right h];omega
  ·rw[Int.min_eq_right h,Int.max_eq_left h];omega
theorem qF2{a b:List qE}(h:a.Perm b):cw k a=cw k b:=h.countP_eq _
theorem qlG{T T':qH->qE}(h:∀p∈qO N,(T p).I=(T' p).I)(i:Nat):(fW N T i).map (·.I)=(fW N T' i).map (·.I):=by
 unfold fW;cases hx:N[i+1]? with
 | none=>rfl
 | some y=>
  simp only[List.map_map];refine List.map_congr_left λs hs=>?_;rw[lMr]at hs;exact h _ (jB.2 ⟨i+1,s+1,rfl,jI.2 ⟨y,hx,by omega⟩⟩)
theorem qlH{T T':qH->qE}(h:∀p∈qO N,(T p).I=(T' p).I)(l:List Nat):(l.flatMap (fW N T)).map (·.I)=(l.flatMap (fW N T')).map (·.I):=by
 rw[List.map_flatMap,List.map_flatMap];congr 1;funext i;exact qlG h i
theorem Xx(ok:qk n=true){p:qH}(h:p∈qO n.G)(ha:p.N=0):p=pt 0 0:=by
 obtain⟨a,s,rfl,hs⟩:=jB.1 h;have:a=0:=by simpa[pt]using ha
 subst this;obtain⟨x,hx,hl⟩:=jI.1 hs;have:=Jh ok hx;obtain rfl:s=0:=by omega
 rfl
theorem Za{b m a:Nat}(h:a<m):atF b (List.range m) (a+1)=a:=J1 (JN h)
theorem qm4(ok:qk n=true):cw k (ldR n.G::(List.range (n.G.length-1)).flatMap (fW n.G (ldT n.G)))+cw k ((zX n.G (n.G.length-1) (List.range (n.G.length-1))).flatMap λp=>[aW p.1,aW p.2])=
  if k<n.G.length-1 then 1 else if k<n.G.length-1+(rN n.G+(qf n.G).length)then 2 else 0:=by
 have hn:=jf ok;have hW:=wR ok;have hp:∀(a:Nat)(x:qB),n.G[a]?=some x->0<x.P.length/\x.K≠0:=λa x hx=>by
  have oa:=Jd ok hx;refine⟨(Je oa).2,λe=>?_⟩;have hl:=qZ hx;rw[gEg hl]at hx;exact qCD ok a hl (by rw[Option.some.inj hx];exact e)
 have h1:∀x,n.G[0]?=some x->x.P.length=1:=λx hx=>Jh ok hx;obtain⟨c,s,e1,_,_,hc⟩:=Jy ok;have h00:0<(qK n.G (pt 0 0)).N:=by rw[e1];simp only[pt];omega
 have T:=Zy (b:=n.G.length-1) (ks:=List.range (n.G.length-1)) (vs:=List.range' (n.G.length-1+rN n.G) (qf n.G).length) hW (by simp);have u1:=qF2 (k:=k) (qLK hW (λa x hx=>(hp a x hx).1) (by simp;omega) T);have u2:=qF2 (k:=k) (qLL (b:=n.G.length-1) (ks:=List.range (n.G.length-1)) (T:=tW n.G (n.G.length-1) (List.range (n.G.length-1)) (List.range' (n.G.length-1+rN n.G) (qf n.G).length)) hW hp h00 h1 hn);rw[u1]at u2;have e2:cw k ((List.range (n.G.length-1)).flatMap (fW n.G (ldT n.G)))=cw k ((List.range (n.G.length-1)).flatMap (fW n.G (tW n.G (n.G.length-1) (List.range (n.G.length-1)) (List.range' (n.G.length-1+rN n.G) (qf n.G).length)))):=by
  refine qkI (qlH (λp hp=>?_) _);unfold ldT;by_cases ha:(qK n.G p).N=0
  ·rw[iP ha];have e:=Xx ok (zu hW hp).m ha;unfold tW;rw[e,iP (show (pt 0 0).S=0 from rfl)];rfl
  ·rw[iN ha]
 rw[JG,JG,List.flatMap_append,JG,qF5,lMc,zE,qF3]at u2;have ea:(aW (n.G.length-1)).I=((n.G.length-1:Nat):Int):=rfl;rw[ea]at u2;rw[zE,e2];clear u1 T;clear e2;unfold ldR;unfold jl at u2;rw[e1]at u2|-;by_cases hr:s=0
 ·subst hr;rw[iP (show (pt (c+1) 0).S=0 from rfl)];have er:rN n.G=0:=by unfold rN;rw[e1,iN (by simp[pt])]
  rw[er]at u2|-;rw[iP (show (pt (c+1) 0).S=0 from rfl),List.flatMap_cons,List.flatMap_nil,lAn,zE,zE,JW,show (pt (c+1) 0).N.toNat=c+1 from rfl,Za (by omega),ea]at u2;have eb:(aW c).I=(c:Int):=rfl;rw[eb]at u2;rw[show (aW ((pt (c+1) 0).N.toNat-1)).I=(c:Int)from rfl];generalize cw k (List.flatMap _ _)=A at u2|-;generalize cw k (List.flatMap _ _)=B at u2|-
  repeat' split at u2
  all_goals repeat' split
  all_goals omega
 ·have h2:¬(pt (c+1) s).S=0:=by simp only[pt];omega
  have h3:0<(pt (c+1) s).S:=by simp only[pt];omega
  rw[iN h2];have er:rN n.G=1:=by unfold rN;rw[e1,iP h3]
  rw[er]at u2|-;rw[iN h2,List.flatMap_nil,JW]at u2;rw[show (vW (n.G.length-1)).I=((n.G.length-1:Nat):Int)from rfl];generalize cw k (List.flatMap _ _)=A at u2|-;generalize cw k (List.flatMap _ _)=B at u2|-
  repeat' split at u2
  all_goals repeat' split
  all_goals omega
end
section
variable {size i j k q a:Nat} {L:List qF} {r w:qE} {c:qF} {N:List qB} {x:qB} {n:qD} {D:qH->Bool} {m:qG}
theorem Y6(ok:qk n=true)(i:Nat)(x:qB)(hx:n.G[i+1]?=some x):qx x.K=true/\∀ws:List qE,ws.length=x.P.length-1->zi {agC 0 x with W:=ws}:=by
 have oa:=Jd ok hx;have hi:=qZ hx;refine qD9 oa (λe=>?_) λq=>?_
 ·have:=(Xn ok (i+1) hi).1 (by
   rw[gEg hi]at hx;rw[Option.some.inj hx];exact e)
  omega
 ·have:=Jw oa;unfold inI;simp;omega
def ldQ(N:List qB):Nat:=rN N+(qf N).length
theorem Y5(h0:0<N.length):(ldM N size).C=(agL N (N.length-1)).mapIdx (ovC (gkw (List.range (N.length-1)) (fW N (ldT N))))++(List.replicate (ldQ N) (qX [])++frT size (N.length-1+ldQ N)):=by
 unfold ldM;rw[(Zs _).1,qm0 h0];rfl
theorem qGV(h:a+k<size):(frT size a)[k]?=some (zS (if a+k+1=size then-1 else((a+k+1:Nat):Int))):=by
 unfold frT;rw[gMp,List.getElem?_range' (by omega),oMs,Nat.one_mul]
theorem Xd(h0:0<N.length)(hq:N.length-1+ldQ N<=size)(hk:k<size):
  (k<N.length-1/\∃x,N[k+1]?=some x/\(ldM N size).C[k]?=some {agC 0 x with W:=fW N (ldT N) k})\/
  (N.length-1<=k/\k<N.length-1+ldQ N/\(ldM N size).C[k]?=some (qX []))\/
  (N.length-1+ldQ N<=k/\(ldM N size).C[k]?=some (zS (if k+1=size then-1 else((k+1:Nat):Int)))):=by
 rw[Y5 h0];have hl:((agL N (N.length-1)).mapIdx (ovC (gkw (List.range (N.length-1)) (fW N (ldT N))))).length=N.length-1:=by rw[List.length_mapIdx,QN (by omega)]
 by_cases h1:k<N.length-1
 ·refine .inl ⟨h1, ?_⟩;have hx:=gEg (show k+1<N.length by omega);refine⟨_,hx, ?_⟩;rw[gAl (by omega),List.getElem?_mapIdx,YQ hx h1,oMs,Xq (WR List.nodup_range (JN h1))]
 ·rw[gAr (by omega),hl];by_cases h2:k<N.length-1+ldQ N
  ·refine .inr (.inl ⟨by omega,h2, ?_⟩);rw[gAl (by simp;omega),List.getElem?_replicate,iP (by omega)]
  ·refine .inr (.inr ⟨by omega, ?_⟩);rw[gAr (by simp;omega),lLr,qGV (by omega),show N.length-1+ldQ N+(k-(N.length-1)-ldQ N)=k by omega]
theorem qH0(h0:0<N.length)(hq:N.length-1+ldQ N<=size):(ldM N size).C.length=size:=by
 rw[Y5 h0];simp only[lAp,List.length_mapIdx,lLr,Yv];rw[QN (by omega)];omega
theorem qH1(h0:0<N.length):qz (ldM N size)=ldR N::(List.range (N.length-1)).flatMap (fW N (ldT N)):=by
 unfold qz;rw[Y5 h0,List.flatMap_append,qlM,qlO,lAn];unfold ldM;rw[(Zs _).2];rfl
theorem qBX:(ldM N size).R=(zX N (N.length-1) (List.range (N.length-1))).map λp=>⟨min (p.1:Int) p.2,max (p.1:Int) p.2⟩:=by
 unfold ldM;rw[(Xv _).2];rfl
theorem qmY(h0:0<N.length):(ldM N size).F=if N.length-1+ldQ N<size then((N.length-1+ldQ N:Nat):Int)else-1:=by
 unfold ldM;rw[(Xv _).1];show (if (ldC N (rN N+(qf N).length)).length<size then _ else _)=_;rw[qBW h0];rfl
theorem qm7(ok:qk n=true)(hq:n.G.length-1+ldQ n.G<=size):∀w∈qz (ldM n.G size),wOk (ldM n.G size).C w:=by
 have hn:=jf ok;have hW:=wR ok;have ag:∀a,a<n.G.length-1->wOk (ldM n.G size).C (aW a):=λa ha=>by
  rcases Xd (k:=a) hn hq (by omega)with⟨_,x,hx,hc⟩ | ⟨h,_⟩ | ⟨h,_⟩
  ·exact⟨a,_,rfl,hc,.inl ⟨rfl,(Y6 ok a x hx).1⟩⟩
  all_goals omega
 have va:∀a,n.G.length-1<=a->a<n.G.length-1+ldQ n.G->wOk (ldM n.G size).C (vW a):=λa h1 h2=>by
  rcases Xd (k:=a) hn hq (by omega)with⟨h,_⟩ | ⟨_,_,hc⟩ | ⟨h,_⟩
  ·omega
  ·exact⟨a,_,rfl,hc,.inr ⟨rfl,rfl⟩⟩
  ·omega
 have agP:∀p∈qO n.G,p.S=0->p.N≠0->p.N.toNat-1<n.G.length-1/\p.N.toNat=p.N.toNat-1+1:=λp hp _ h0=>by
  obtain⟨a,s,rfl,hs⟩:=jB.1 hp;obtain⟨y,hy,_⟩:=jI.1 hs;have:=qZ hy;simp only[pt]at h0|-;omega
 obtain⟨c,s,e1,_,_,hc⟩:=Jy ok;rw[qH1 hn];intro w hw;rcases mCo.1 hw with rfl | hw
 ·unfold ldR;rw[e1];by_cases hs:(pt (c+1) s).S=0
  ·rw[iP hs];exact ag _ (by show c+1-1<_;omega)
  ·rw[iN hs];refine va _ (nLr _) ?_;have:rN n.G=1:=by unfold rN;rw[e1,iP (by simp only[pt]at hs|-;omega)]
   unfold ldQ;omega
 ·obtain⟨i,hi,hw⟩:=List.mem_flatMap.1 hw;rw[lMr]at hi;have hx:=gEg (show i+1<n.G.length by omega);generalize n.G[i+1]=x at hx;unfold fW at hw;rw[hx]at hw;obtain⟨t,ht,rfl⟩:=List.mem_map.1 hw;rw[lMr]at ht;have hp:pt (i+1) (t+1)∈qO n.G:=jB.2 ⟨_,_,rfl,jI.2 ⟨x,hx,by omega⟩⟩;have P:=zu hW hp;generalize hpe:pt (i+1) (t+1)=p at*;have hps:0<p.S:=by rw[<-hpe];simp only[pt];omega
  unfold ldT;by_cases ha:(qK n.G p).N=0
  ·rw[iP ha];refine va _ (nLr _) ?_;have e:=Xx ok P.m ha;have e2:=P.pp;rw[e,e1]at e2;have:rN n.G=1:=by unfold rN;rw[e1,e2,iP hps]
   unfold ldQ;omega
  ·rw[iN ha];have T:=Zy (b:=n.G.length-1) (ks:=List.range (n.G.length-1)) (vs:=List.range' (n.G.length-1+rN n.G) (qf n.G).length) hW (by simp);by_cases hs:(qK n.G p).S=0
   ·rw[T.t1 p hp hps hs];obtain⟨a1,a2⟩:=agP _ P.m hs ha;rw[a2,Za a1];exact ag _ a1
   ·have s1:=Zx P.m;have inn:∃v,n.G.length-1+rN n.G<=v/\v<n.G.length-1+rN n.G+(qf n.G).length/\tW n.G (n.G.length-1) (List.range (n.G.length-1)) (List.range' (n.G.length-1+rN n.G) (qf n.G).length) p=vW v:=by
     have key:∀w:zN,w∈qf n.G->(w.A=p\/w.B=p)->∃v,n.G.length-1+rN n.G<=v/\v<n.G.length-1+rN n.G+(qf n.G).length/\tW n.G (n.G.length-1) (List.range (n.G.length-1)) (List.range' (n.G.length-1+rN n.G) (qf n.G).length) p=vW v:=λw hw h=>by
      obtain⟨l,hl⟩:=List.getElem?_of_mem hw;have hll:=qZ hl;obtain⟨t1,t2⟩:=T.t2 l w (n.G.length-1+rN n.G+l) hl (by rw[List.getElem?_range' hll];simp);exact⟨n.G.length-1+rN n.G+l,by omega,by omega,by rcases h with rfl | rfl<;>assumption⟩
     cases hb:bef p (qK n.G p)with
     | true=>exact key ⟨p,qK n.G p⟩ (Jr.2 ⟨hp,rfl,hb,hps,by simp only;omega⟩) (.inl rfl)
     | false=>
      refine key ⟨qK n.G p,p⟩ (Jr.2 ⟨P.m,P.pp.symm, ?_,by simp only;omega,hps⟩) (.inr rfl);rw[Zb (p:=p) P.ne.symm,hb];rfl
    obtain⟨v,v1,v2,v3⟩:=inn;rw[v3];exact va v (by omega) (by unfold ldQ;omega)
theorem qo7(ok:qk n=true){p:Nat×Nat}(h:p∈zX n.G (n.G.length-1) (List.range (n.G.length-1))):p.1<p.2/\p.2<n.G.length-1:=by
 obtain⟨g,hg,rfl⟩:=List.mem_map.1 h;have h2:=Vb hg;obtain⟨a,c,rfl,ha,hc⟩:=Va ok hg;simp only[iTn]at h2|-;rw[Za (by omega),Za (by omega)];omega
theorem qH4(h0:0<N.length)(hq:N.length-1+ldQ N<=size):∀(m a:Nat),a+m=size->N.length-1+ldQ N<=a->chn (ldM N size).C (if a<size then(a:Int)else-1) (List.range' a m)
 | 0,a,e,_=>by rw[iN (by omega)];rfl
 | m+1,a,e,h=>by
  rw[iP (by omega),List.range'_succ];refine⟨rfl, ?_⟩;rcases Xd (k:=a) h0 hq (by omega)with⟨h,_⟩ | ⟨_,h,_⟩ | ⟨_,hc⟩
  ·omega
  ·omega
  ·refine⟨_,hc,rfl, ?_⟩;have:=qH4 h0 hq m (a+1) (by omega) (by omega);have e2:(zS (if a+1=size then-1 else((a+1:Nat):Int))).V=if a+1<size then((a+1:Nat):Int)else-1:=by
    show (if a+1=size then(-1:Int)else _)=_;split<;>split<;>omega
   rw[e2];exact this
theorem qH5(ok:qk n=true)(hq:n.G.length-1+ldQ n.G<=size):jq (ldM n.G size).C=size-(n.G.length-1+ldQ n.G):=by
 have hn:=jf ok;unfold jq;rw[Y5 hn,List.countP_append,List.countP_append,List.countP_eq_zero.2,List.countP_eq_zero.2,List.countP_eq_length.2,Yv]
 ·omega
 ·intro c hc;obtain⟨_,_,rfl⟩:=List.mem_map.1 hc;rfl
 ·intro c hc;rw[(List.mem_replicate.1 hc).2];decide
 ·intro c hc;obtain⟨j,hj⟩:=List.getElem?_of_mem hc;rw[List.getElem?_mapIdx,oMi]at hj;obtain⟨d,d1,rfl⟩:=hj;have hjl:=qZ d1;rw[QN (by omega)]at hjl;have hx:=gEg (show j+1<n.G.length by omega);rw[YQ hx hjl]at d1;cases d1;rw[qoR];have:=JZ (Y6 ok j _ hx).1;simpa[agC]using this
theorem qm3(ok:qk n=true)(h1:1<=size)(h2:size<=1500)(hq:n.G.length-1+ldQ n.G<=size):VM (ldM n.G size):=by
 have hn:=jf ok;have hl:=qH0 hn hq;have hcell:∀(k:Nat)(c:qF),(ldM n.G size).C[k]?=some c->(k<n.G.length-1/\qx c.K=true/\zi c)\/(n.G.length-1<=k/\k<n.G.length-1+ldQ n.G/\c=qX [])\/(n.G.length-1+ldQ n.G<=k/\c=zS (if k+1=size then-1 else((k+1:Nat):Int))):=λk c hc=>by
  have hk:=qZ hc;rw[hl]at hk;rcases Xd (k:=k) hn hq hk with⟨h,x,hx,h3⟩ | ⟨h,h',h3⟩ | ⟨h,h3⟩
  ·rw[hc]at h3;cases h3;obtain⟨f1,f2⟩:=Y6 ok k x hx;exact .inl ⟨h,f1,f2 _ (by unfold fW;rw[hx];simp)⟩
  ·rw[hc]at h3;cases h3;exact .inr (.inl ⟨h,h',rfl⟩)
  ·rw[hc]at h3;cases h3;exact .inr (.inr ⟨h,rfl⟩)
 refine⟨?_, ?_,λc hc=>?_,λw hw=>qDL.2 (qm7 ok hq w hw),λp hp=>?_,λk c hc=>?_,λk c hc hk=>?_, ?_⟩
 ·rw[hl];unfold inI;simp;omega
 ·rw[qBX,hl,lMp];have:=ZI n.G (n.G.length-1);unfold zX;rw[lMp];omega
 ·obtain⟨k,hk⟩:=List.getElem?_of_mem hc;have hkl:=qZ hk;rw[hl]at hkl|-;rcases hcell k c hk with⟨_,f1,f2⟩ | ⟨_,_,rfl⟩ | ⟨_,rfl⟩
  ·have:=Q2 f1;unfold J5;rw[iN this.1,iN this.2,iP f1];exact agf f1 f2
  ·simp[J5,qX]
  ·simp only[J5,zS,inI,if_true,lNi];simp;split<;>omega
 ·rw[qBX]at hp;obtain⟨g,hg,rfl⟩:=List.mem_map.1 hp;obtain⟨g1,g2⟩:=qo7 ok hg;have ag:∀a:Nat,a<n.G.length-1->Qr (ldM n.G size).C a=true:=λa ha=>by
   rcases Xd (k:=a) hn hq (by omega)with⟨_,x,hx,hc⟩ | ⟨h,_⟩ | ⟨h,_⟩
   ·unfold Qr;rw[iTn,hc];exact(Y6 ok a x hx).1
   all_goals omega
  unfold wV;rw[hl,Int.min_eq_left (by omega),Int.max_eq_right (by omega),ag _ (by omega),ag _ g2];unfold inI;simp;omega
 ·have e:jb (ldM n.G size) k=if k<n.G.length-1 then 1 else if k<n.G.length-1+ldQ n.G then 2 else 0:=by
   unfold jb;rw[qH1 hn,qBX,qF0,qm4 ok];rfl
  rw[e];rcases hcell k c hc with⟨h,f1,f2⟩ | ⟨h,h',rfl⟩ | ⟨h,rfl⟩
  ·rw[iP h];exact⟨λ_=>rfl,λq=>absurd q (Q2 f1).2⟩
  ·rw[iN (by omega),iP h'];exact⟨λq=>absurd q (by decide),λ_=>rfl⟩
  ·exact⟨λq=>absurd (show qx 0=true from q) (by decide),λq=>absurd (show (0:Int)=13 from q) (by decide)⟩
 ·rw[hl,res,iN (by simp),V8 hc];rcases hcell k c hc with⟨_,f1,_⟩ | ⟨_,_,rfl⟩ | ⟨_,rfl⟩
  ·exact absurd hk (Q2 f1).2
  ·rfl
  ·cases hk
 ·rw[qH5 ok hq,qmY hn];have:=qFL (qH4 hn hq (size-(n.G.length-1+ldQ n.G)) (n.G.length-1+ldQ n.G) (by omega) (nLr _));rw[List.length_range']at this;exact this
theorem Xr(ok:qk n=true):∀i,i<n.G.length->∃l,qo n.G (i+1)=pt 0 0::l/\∀p∈l,0<p.N
 | 0,h=>by
  have hx:=gEg h;have hc:zw n.G ((0:Nat):Int)=1:=by simp only[zw,iTn,hx];exact Jh ok hx
  exact⟨[],by rw[qo,qo,hc];rfl,λp h=>by cases h⟩
 | i+1,h=>by
  obtain⟨l,e,hl⟩:=Xr ok i (by omega);refine⟨l++zY (i+1) (zw n.G ((i+1:Nat):Int)),by rw[qo,e];rfl,λp hp=>?_⟩;rcases jL.1 hp with hp | hp
  ·exact hl p hp
  ·obtain⟨s,_,rfl⟩:=qB8.1 hp;simp only;omega
theorem qLW(ok:qk n=true):(qq n.G).filter (qv true)=(if 0<(qK n.G (pt 0 0)).S then [⟨pt 0 0,qK n.G (pt 0 0)⟩]else [])++qf n.G:=by
 have hn:=jf ok;obtain⟨c,s,e1,_,_,hc⟩:=Jy ok;obtain⟨l,hl,hp⟩:=Xr ok (n.G.length-1) (by omega);rw[Nat.sub_add_cancel hn]at hl;have hb:bef (pt 0 0) (qK n.G (pt 0 0))=true:=by rw[e1];unfold bef;rw[Bool.or_eq_true];left;simp[pt]
 have e2:qq n.G=[⟨pt 0 0,qK n.G (pt 0 0)⟩]++wrs n.G l:=by
  unfold qq;rw[hl,show pt 0 0::l=[pt 0 0]++l from rfl,Z4,YJ,iP hb]
 have e3:(wrs n.G l).filter (qv true)=(wrs n.G l).filter j9:=List.filter_congr λw hw=>by
  unfold wrs at hw;obtain⟨p,h1,rfl⟩:=List.mem_map.1 hw;have:=hp p (mFi.1 h1).1;have e:decide (p.N=0)=false:=dEf (by omega);simp only[qv,j9,e,Bool.false_and,Bool.or_false];exact Bool.and_comm _ _
 unfold qf;rw[e2,List.filter_append,List.filter_append,e3];have e4:j9 ⟨pt 0 0,qK n.G (pt 0 0)⟩=false:=rfl;rw[List.filter_cons_of_neg (p:=j9) (by rw[e4];decide),List.filter_nil,lNa];congr 1;by_cases h:0<(qK n.G (pt 0 0)).S
 ·rw[iP h,List.filter_cons_of_pos]
  ·rfl
  ·simp only[qv,h,decide_true,Bool.true_and];rfl
 ·rw[iN h,List.filter_cons_of_neg]
  ·rfl
  ·simp only[qv,h,decide_false,Bool.false_and];decide
theorem YH(ok:qk n=true):jO n.G true=ldQ n.G:=by
 unfold jO;rw[List.countP_eq_length_filter,qLW ok,lAp];unfold ldQ rN;congr 1;split<;>rfl
theorem qH2(ok:qk n=true){p:qH}{a:Nat}(hp:p∈qO n.G)(h0:0<p.S)(h1:qK n.G p=pt (a+1) 0)(ha:a<n.G.length-1):ldT n.G p=aW a:=by
 have T:=Zy (b:=n.G.length-1) (ks:=List.range (n.G.length-1)) (vs:=List.range' (n.G.length-1+rN n.G) (qf n.G).length) (wR ok) (by simp);unfold ldT;rw[h1,iN (by simp only[pt];omega),T.t1 p hp h0 (by rw[h1];rfl),h1,show (pt (a+1) 0).N.toNat=a+1 from rfl,Za ha]
theorem qm1(ok:qk n=true){w:zN}(h:(qf n.G)[i]?=some w):ldT n.G w.A=vW (n.G.length-1+rN n.G+i)/\ldT n.G w.B=vW (n.G.length-1+rN n.G+i):=by
 have hW:=wR ok;have T:=Zy (b:=n.G.length-1) (ks:=List.range (n.G.length-1)) (vs:=List.range' (n.G.length-1+rN n.G) (qf n.G).length) hW (by simp);have hl:=qZ h;obtain⟨t1,t2⟩:=T.t2 i w (n.G.length-1+rN n.G+i) h (by rw[List.getElem?_range' hl];simp);obtain⟨a1,a2,a3,a4,a5⟩:=Jr.1 (lMo h);have P:=zu hW a1;have n0:∀q∈qO n.G,0<q.S->q.N≠0:=λq hq hs e=>by
  rw[Xx ok hq e]at hs;exact absurd hs (by decide)
 unfold ldT;refine⟨?_, ?_⟩
 ·rw[<-a2,iN (n0 _ (by rw[a2];exact P.m) a5)];exact t1
 ·rw[show qK n.G w.B=w.A by rw[a2];exact P.pp,iN (n0 _ a1 a4)];exact t2
theorem qm2(ok:qk n=true):ldT n.G (qK n.G (pt 0 0))=vW (n.G.length-1):=by
 have P:=zu (wR ok) (p:=pt 0 0) (jB.2 ⟨0,0,rfl,by obtain⟨_,_,_,e,_⟩:=Jy ok;exact⟨_,e⟩⟩);unfold ldT;rw[P.pp,iP (show (pt 0 0).N=0 from rfl)]
theorem qHZ:{jF (ovM (zg size (ldC N (ldQ N)) r) (gkw (List.range (N.length-1)) (fW N (ldT N)))) (zX N (N.length-1) (List.range (N.length-1)))with O:=ldR N}=ldM N size:=by
 have e:ldS N size (ldQ N) (ldR N) (λ_=>true)=ovM (zg size (ldC N (ldQ N)) (ldR N)) (gkw (List.range (N.length-1)) (fW N (ldT N))):=qBY λ_ _ _ _ _=>rfl;unfold ldM;rw[show rN N+(qf N).length=ldQ N from rfl,e];refine WH (λj=>?_) ?_ ?_ ?_
 ·simp only[(Zs _).1];rfl
 ·simp only[(Xv _).1];rfl
 ·simp only[(Zs _).2];rfl
 ·simp only[(Xv _).2];rfl
end
def qe(x y:qF):Int:=za (qY x) (qY y)
def zA(bk:List qD)(x y:qF):Int×Int:=
 if qe x y=8 then(0,11)else if qe x y=3 then(2+3*(y.W.length:Int),0)else if qe x y=4 then((y.W.length:Int),0)
 else if qe x y=5 then(1,0)else if qe x y=6 then(1+(x.W.length:Int),0)
 else if qe x y=7 then(if (bk.length:Int)<=x.V then(0,3)else if 8<IntKind.i64.wrap (hiI (qt bk x.V).G+x.L)then(0,9)else(((qt bk x.V).G.length:Int)-1+(jO (qt bk x.V).G false:Nat),0))
 else(0,0)
structure RO(m:qG)(p:qL)(a b:Nat)(x y:qF):Prop where
 u:∃ka kb u v,RX m p ka kb u v/\((JB u v=true/\a=kb/\b=ka/\x=v/\y=u)\/(JB u v=false/\a=ka/\b=kb/\x=u/\y=v))
 ox:qg (qY x)=true
 oy:qg (qY y)=true
theorem RO.cls{m:qG}{p:qL}{a b:Nat}{x y:qF}(r:RO m p a b x y):∃ka kb u v,RX m p ka kb u v/\qe u v=qe x y/\((JB u v=true/\a=kb/\b=ka/\x=v/\y=u)\/(JB u v=false/\a=ka/\b=kb/\x=u/\y=v)):=by
 obtain⟨ka,kb,u,v,h1,h2⟩:=r.u;refine⟨ka,kb,u,v,h1, ?_,h2⟩;rcases h2 with⟨hs,_,_,rfl,rfl⟩ | ⟨hs,_,_,rfl,rfl⟩
 ·exact qjX r.oy r.ox (by simpa[JB,qY]using hs)
 ·rfl
theorem RO.at{m:qG}{p:qL}{a b:Nat}{x y:qF}(r:RO m p a b x y):m.C[a]?=some x/\m.C[b]?=some y:=by
 obtain⟨ka,kb,u,v,h1,h2⟩:=r.u;rcases h2 with⟨hs,rfl,rfl,rfl,rfl⟩ | ⟨hs,rfl,rfl,rfl,rfl⟩
 ·exact⟨h1.hb,h1.ha⟩
 ·exact⟨h1.ha,h1.hb⟩
theorem c855{m:qG}{p:qL}{bk:List qD}{a b:Nat}{x y:qF}(r:RO m p a b x y)(hb:z5 bk=true)(hx:x.W.length<=1000)(hy:y.W.length<=1000)(hv:qe x y=7->0<=x.V)(hl:0<=x.L/\x.L<=8):Pure Gm 855 [.lst 1 (bk.map qD.enc) false,.ept m.enc 0,p.enc] (.tup [iI (zA bk x y).1,iI (zA bk x y).2]):=by
 obtain⟨ka,kb,u,v,h1,hc,h2⟩:=r.cls;obtain⟨ra,rb⟩:=r.at;refine pI kZ (by simp[AV.trees,AV.tree,go_sem,qb qD.isSh.tree]) rfl ?_;simp only[kZ,qM,go_sem];refine qa rfl ?_;simp only[go_sem];refine qI (c971 h1) ?_;have e2:(if JB u v=true then AV.tup [iI (kb:Nat),iI (ka:Nat)]else .tup [iI (ka:Nat),iI (kb:Nat)])=.tup [iI (a:Nat),iI (b:Nat)]:=by
  rcases h2 with⟨hs,rfl,rfl,_,_⟩ | ⟨hs,rfl,rfl,_,_⟩<;>rw[hs]<;>rfl
 rw[e2];simp only[go_sem,gMp,ra,rb,oMs];have hw:u.W.length<=1048576/\v.W.length<=1048576:=by
  rcases h2 with⟨hs,_,_,rfl,rfl⟩ | ⟨hs,_,_,rfl,rfl⟩<;>omega
 refine qI (c969 h1 hw.1 hw.2) ?_;simp only[go_sem];change qe u v=qe x y at hc;rw[show za (qY u) (qY v)=qe x y from hc];generalize hC:qe x y=C at hv;have nv:∀{r:Int×Int},zA bk x y=r->AV.tup [iI r.1,iI r.2]=.tup [iI (zA bk x y).1,iI (zA bk x y).2]:=λe=>by rw[e]
 by_cases c8:C=8
 ·subst c8;simp only[go_sem];exact zT (by rfl) (nv (by rw[zA,hC]))
 simp only[c8,decide_false,go_sem];by_cases c3:C=3
 ·subst c3;simp only[go_sem,jn (show-9223372036854775808<=3*(y.W.length:Int) by omega) (by omega),jn (show-9223372036854775808<=2+3*(y.W.length:Int) by omega) (by omega)];exact zT (by rfl) (nv (by rw[zA,hC]))
 simp only[c3,decide_false,go_sem];by_cases c4:C=4
 ·subst c4;simp only[go_sem];exact zT (by rfl) (nv (by rw[zA,hC]))
 simp only[c4,decide_false,go_sem];by_cases c5:C=5
 ·subst c5;simp only[go_sem];exact zT (by rfl) (nv (by rw[zA,hC]))
 simp only[c5,decide_false,go_sem];by_cases c6:C=6
 ·subst c6;simp only[go_sem,jn (show-9223372036854775808<=1+(x.W.length:Int) by omega) (by omega)];exact zT (by rfl) (nv (by rw[zA,hC]))
 simp only[c6,decide_false,go_sem];by_cases c7:C=7
 ·subst c7;have v0:=hv rfl;simp only[go_sem];by_cases q3:(bk.length:Int)<=x.V
  ·simp only[q3,go_sem];exact zT (by rfl) (nv (r:=(0,3)) (by rw[zA,hC];simp[q3]))
  have q3':x.V<bk.length:=by omega
  simp only[q3,decide_false,go_sem,XW v0 q3'];have ot:=YD hb v0 q3';have tz:=ZF ot;refine qI (qiQ (by omega)) ?_;simp only[go_sem];by_cases q9:8<IntKind.i64.wrap (hiI (qt bk x.V).G+x.L)
  ·simp only[q9,go_sem];exact zT (by rfl) (nv (r:=(0,9)) (by rw[zA,hC];simp[q3,q9]))
  simp only[q9,decide_false,go_sem];refine qI (qEX (by omega) ot) ?_;have hw1:jO (qt bk x.V).G false<=1048576:=nLt (List.countP_le_length ..) (W1 (by omega));have hw2:(qt bk x.V).G.length<=1048576:=by unfold qD.sz at tz;omega
  simp only[go_sem];rw[jn (show-9223372036854775808<=((qt bk x.V).G.length:Int)-1 by omega) (by omega),wsA];exact zT (by rfl) (nv (r:=(((qt bk x.V).G.length:Int)-1+(jO (qt bk x.V).G false:Nat),0)) (by rw[zA,hC];simp[q3,q9]))
 simp only[c7,decide_false,go_sem];exact zT (by rfl) (nv (by rw[zA,hC,iN c8,iN c3,iN c4,iN c5,iN c6,iN c7]))
section
variable {w mid cid k:Nat} {post cs:List AV} {ow ow' ow1 ow2:Nat->Nat} {h h' h1 h2 h3:List qA} {m:qG} {rv v v' dv wv:AV} {c c':qF} {P:List qE} {O:Nat->Bool} {x y a b:qE} {ws:List qE}
theorem qEF{Pr:Nat->Prop}{w:Nat}{el:List AV}{ck:List qC}{E:Ev}{l:List qC}{ks:List Fr1}{s m:qp}{Q:qi->VSt->Prop}{k id2:Nat}{c2:Bool}{x:AV}(ho:LsW Pr w h v el)(h2:h[id2]?=some (.row w [x] true))(hl:el.length<4000000000)
  (hr:∀h3,Up (λj=>Pr j/\v=sQ w j el.length) h h3->h3[h.length]?=some (.row w (el++[x]) true)->h3.length=h.length+1->ckVs ⟨(k,sQ w h.length (el.length+1))::s,m,h3⟩ ck/\R E (.ops l::ks) ⟨(k,sQ w h.length (el.length+1))::s,m,h3⟩ Q):ZV E ck w (some k) (some v) (some (.slice w id2 0 1 c2)) l ks ⟨s,m,h⟩ Q:=by
 rcases ho with⟨rfl,rfl⟩ | ⟨id,q1,rfl,q3⟩
 ·obtain⟨a1,a2⟩:=hr (h++[qA.row w [x] true]) (Up.app _) (by simp) (by simp);exact qh2 (ys:=[x]) (Els.row h2 rfl) (by simp) a1 a2
 ·obtain⟨a1,a2⟩:=hr (h.set id .dead++[qA.row w (el++[x]) true]) ((Up.set (id:=id)).trans (Up.app _ (S:=λj=>j=id)) (λ_ _ q=>q) |>.w λj _ e=>⟨by rw[e];exact q1,by rw[e]⟩) (by rw[gAr (by simp)];simp) (by simp);exact qh3 (ys:=[x]) (Els.row h2 rfl) q3 rfl (by simp;omega) a1 a2
theorem MO.appW{id:Nat}{x:qE}{wv':AV}(M:MO w mid post ow h m cid cs rv)(hc:m.C[k]?=some c)(hk:cs[k]?=some (cE c dv wv))(hd:LsW (λj=>ow j=k+3) 1 h dv (c.D.map qQ))(hw:LsW (λj=>ow j=k+3) 2 h wv (c.W.map qE.enc))
  (u:Up (λj=>ow j=k+3/\wv=.slice 2 j 0 (c.W.map qE.enc).length false) h h3) (hi:h.length<=id) (hr:h3[id]?=some (.row 2 ((c.W++[x]).map qE.enc) true)) (hv:wv'=.slice 2 id 0 (c.W++[x]).length false):
  ∃ow',MO w mid post ow' (h3.set cid (.row 5 (cs.set k (cE c dv wv')) true)) {m with C:=m.C.set k {c with W:=c.W++[x]}} cid (cs.set k (cE c dv wv')) rv/\Fo ow h ow' (h3.set cid (.row 5 (cs.set k (cE c dv wv')) true)):=by
 have hcl:=qZ M.c;have hne:id≠cid:=by omega
 refine⟨_,M.cell (h':=h3.set cid (.row 5 (cs.set k (cE c dv wv')) true)) (c':={c with W:=c.W++[x]}) (λj=>(j<h.length/\ow j=k+3)\/j=id) hc (gSs (nLl hcl u.1)) (by rw[lLs];exact u.1) (λj hj h0 hcj hk=>?_) (λj t=>?_) ⟨dv,wv',rfl, ?_, ?_⟩,qCL (λj hj h0 _=>?_) (by rw[lLs];exact u.1) (λj t hj=>?_)⟩
 ·rw[sne hcj,gEg hj];exact u.at (gEg hj) λq=>hk q.1
 ·rw[lLs];rcases t with⟨t1,t2⟩ | t
  ·exact⟨nLl t1 u.1,.inr (.inr t2)⟩
  ·rw[t];exact⟨qZ hr,.inl hi⟩
 ·rcases hd with q | ⟨d,d1,d2,d3⟩
  ·exact .inl q
  ·refine .inr ⟨d,.inl ⟨qZ d3,d1⟩,d2, ?_⟩;rw[sne λe=>by subst e;rw[M.c1]at d1;omega];refine u.at d3 λq=>?_;rcases hw with⟨e,_⟩ | ⟨i,_,e,i3⟩
   ·rw[e]at q;cases q.2
   ·have q2:=q.2;rw[e]at q2;injection q2 with _ q2;subst q2;rw[d3]at i3;cases i3
 ·exact .inr ⟨id,.inr rfl,by rw[lMp];exact hv,by rw[sne hne];exact hr⟩
 ·rw[sne (λe=>by subst e;rw[M.c1]at h0;omega),gEg hj];exact u.at (gEg hj) λq=>by have:=q.1;omega
 ·rcases t with⟨_,t⟩ | t
  ·exact t
  ·omega
theorem qm5{s m:qp}{h:List qA}{sh:Option Nat}{p:Nat}:wY (.load sh (.t p)) ⟨s,m,h⟩=Xe h sh (get s p):=by
 simp only[wY,val];have e:ev (toE s) (.t p)=get s p:=rfl;rw[e];cases get s p with
 | none=>rfl
 | some v=>
  cases v<;>try rfl
  rename_i id i j;simp only[Xe,toH];cases h[id]? with
  | none=>rfl
  | some o=>
   cases o<;>try rfl
   rename_i w el rw';simp only[ZH];cases el[i]?<;>rfl
theorem J6{s m:qp}{h:List qA}{i d p id j k:Nat}{sh:Option Nat}{v:AV}(h1:get s d=some v)(h2:get s p=some (.ptr id j k))(h3:ZH sh k j h[id]?=some v)(h4:v.rigid):ckV ⟨s,m,h⟩ (.mk i (some d) none (.load sh (.t p)) []):=by
 refine⟨rfl,v,h1, ?_,h4⟩;rw[qm5,h2];exact h3
end
section
variable {P:List qE} {O:Nat->Bool}
structure FanT(s:qG×List qE×List qE×List qn)(lev:Int)(ck dk f g e:Nat):Prop where
 f0:∃d,s.1.C[f]?=some d
 ff:s.1.F=(f:Int)
 g0:∃d,(qR s.1 ⟨4,lev,0,[],[]⟩).C[g]?=some d
 gf:(qR s.1 ⟨4,lev,0,[],[]⟩).F=(g:Int)
 e0:∃d,(qR (qR s.1 ⟨4,lev,0,[],[]⟩) (qX [])).C[e]?=some d
 ef:(qR (qR s.1 ⟨4,lev,0,[],[]⟩) (qX [])).F=(e:Int)
 fc:f≠ck/\f≠dk
 gc:g≠ck/\g≠dk
 ec:e≠ck/\e≠dk
 cf:(qR (qR (qR s.1 ⟨4,lev,0,[],[]⟩) (qX [])) (qX [])).C[f]?=some ⟨4,lev,0,[],[]⟩
 eq:∀w,QX lev s w=(qr (qR (qR (qR s.1 ⟨4,lev,0,[],[]⟩) (qX [])) (qX [])) (f:Int) [vW g,vW e],s.2.1++[vW g],s.2.2.1++[vW e],s.2.2.2++[⟨w,aW f⟩])
theorem qGJ{m0:qG}{y:qF}{lev:Int}{ck dk i:Nat}{s:qG×List qE×List qE×List qn}(hy:qx y.K=true)(h:ZX m0 y P O ck dk s i)(hf:2<nF s.1.C):∃f g e,FanT s lev ck dk f g e:=by
 obtain⟨mm,us,vs,c1,c2,nf,len⟩:=h;obtain⟨f,f1,f2,f3⟩:=Qo (c:=⟨4,lev,0,[],[]⟩) mm (by omega) rfl;have k4:(⟨4,lev,0,[],[]⟩:qF).K≠0:=by simp
 have n1:=f2.nf k4;obtain⟨u,u1,u2,u3⟩:=YA f3 (by omega);have n2:=u2.nf (by decide);obtain⟨v,v1,v2,v3⟩:=YA u3 (by omega);have hk0:(zf y).K≠0:=by intro q;unfold zf at q;simp only at q;rw[q]at hy;cases hy
 have a1:=f2.keep c1 hk0;have a2:=f2.keep c2 hk0;have b1:=u2.keep a1.1 hk0;have b2:=u2.keep a2.1 hk0;have d1:=v2.keep b1.1 hk0;have d2:=v2.keep b2.1 hk0;obtain⟨x1,x2,_⟩:=f2.old;obtain⟨y1,y2,_⟩:=u2.old;obtain⟨z1,z2,_⟩:=v2.old;have e1:s.1.F=(f:Int):=f2.fr;have e2:(qR s.1 ⟨4,lev,0,[],[]⟩).F=(u:Int):=u2.fr;have e3:(qR (qR s.1 ⟨4,lev,0,[],[]⟩) (qX [])).F=(v:Int):=v2.fr;refine⟨f,u,v,⟨x1,x2⟩,e1,⟨y1,y2⟩,e2,⟨z1,z2⟩,e3,⟨Ne.symm a1.2,Ne.symm a2.2⟩,⟨Ne.symm b1.2,Ne.symm b2.2⟩,⟨Ne.symm d1.2,Ne.symm d2.2⟩,(v2.keep (u2.keep f2.new k4).1 k4).1,λw=>?_⟩;unfold QX;simp only[e1,e2,e3];rfl
theorem qBD{m:qG}{x y:qF}{i:Nat}(h:i<y.W.length):zK m x y (i+1)=QX x.L (zK m x y i) y.W[i]:=by
 unfold zK;rw[tA1,gEg h,Option.toList_some,List.foldl_append];rfl
theorem qGB{m:qG}{x y:qF}{ck dk:Nat}(h1:m.F=(ck:Int))(h2:(qR m (zf y)).F=(dk:Int)):wL m x y=(two (zK m x y y.W.length).1 ck dk (zK m x y y.W.length).2.1 (zK m x y y.W.length).2.2.1,(zK m x y y.W.length).2.2.2):=by
 unfold wL two;rw[h1,h2]
end
section
variable {w mid cid k:Nat} {post cs:List AV} {ow ow' ow1 ow2:Nat->Nat} {h h' h1 h2 h3:List qA} {m:qG} {rv v v' dv wv:AV} {c c':qF} {P:List qE} {O:Nat->Bool}
theorem X1(M:MH w mid post ow h m)(hf:m.F=(k:Nat))(hc:∃d,m.C[k]?=some d)(c:qF)(h1:c.D=[])(h2:c.W=[]):SCall Gm 1282 [.ptr mid 0 0,cE c .nils .nils] h (λr h'=>r=iI (k:Nat)/\∃ow',MH w mid post ow' h' (qR m c)/\Fo ow h ow' h'):=by
 obtain⟨d,hc⟩:=hc;refine SCall.mono (Ws M hf hc (c':=c) (T:=λ_=>False) (λ_ t=>t.elim) ⟨.nils,.nils,rfl,.inl ⟨rfl,by rw[h1];rfl⟩,.inl ⟨rfl,by rw[h2];rfl⟩⟩) ?_;rintro r h' ⟨e,ow',a,b,_⟩;exact⟨e,ow',a,b.fo λ_ _ _ t=>t⟩
theorem qHW:∀(xs:List Int)(n:Nat),qT (xs.map qQ) n=(xs.map qQ,[])
 |[],n=>rfl
 | x::xs,n=>by
  rw[lMc,qT];have e:lay (qQ x) n=(qQ x,[]):=rfl;rw[e];simp only[lNi,nAz,lNa,qHW xs n]
theorem Zk{xs:List Int}{n:Nat}:lay (lQ xs) n=(sQ 1 n xs.length,[.row 1 (xs.map qQ) true]):=by
 rw[lay,qHW,lMp]
theorem MH.intro{cid:Nat}{cs:List AV}{rv:AV}(M:MO w mid post ow h m cid cs rv):MH w mid post ow h m:=⟨_,_,_,M⟩
theorem qK1{cid:Nat}{cs:List AV}{dv wv:AV}{E:Ev}{l:List qC}{ks:List Fr1}{s l':qp}{Q:qi->VSt->Prop}{wv':AV}(hm:h[cid]?=some (.row 5 cs true))(hk:cs[k]?=some (cE c dv wv))(hv:wv'.cells=[wv'])(hr:R E (.ops l::ks) ⟨s,l',h.set cid (.row 5 (cs.set k (cE c dv wv')) true)⟩ Q):Sto E 1 (some (.ptr cid k 4)) (some wv') l ks ⟨s,l',h⟩ Q:=zx (by rw[hv];rfl) hm hk (qAP hv) hr
structure Bx(ow:Nat->Nat)(h:List qA)(xid:Nat)(x:qF):Prop where
 ex:∃dv wv,h[xid]?=some (.row 5 [cE x dv wv] true)/\LsW (λj=>ow j=0) 1 h dv (x.D.map qQ)/\LsW (λj=>ow j=0) 2 h wv (x.W.map qE.enc)
 o:ow xid=0
theorem Bx.fo{xid:Nat}{x:qF}(b:Bx ow h xid x)(f:Fo ow h ow' h'):Bx ow' h' xid x:=by
 obtain⟨⟨dv,wv,e1,e2,e3⟩,o⟩:=b;refine⟨⟨dv,wv,(f.at e1 o).1,e2.mono λj hj q=>?_,e3.mono λj hj q=>?_⟩,(f.at e1 o).2⟩
 ·exact f.k j hj q
 ·exact f.k j hj q
theorem LsW.two{w:Nat}{Q:Nat->Prop}{a b:AV}(x:LsW Q w h v [a,b]):∃id,Q id/\v=sQ w id 2/\h[id]?=some (.row w [a,b] true):=by
 rcases x with⟨_,q⟩ | x
 ·cases q
 ·exact x
theorem Q1{w id:Nat}{cl:Bool}{k:IntKind}:idx w (some (.slice w id 0 2 cl)) (some (.int k 0))=some (.ptr id 0 0):=XY (by omega) (by omega)
theorem WS{w id:Nat}{cl:Bool}{k:IntKind}:idx w (some (.slice w id 0 2 cl)) (some (.int k 1))=some (.ptr id 1 0):=XY (by omega) (by omega)
theorem Ym(M0:qG)(x y:qF):∀i:Nat,(zK M0 x y i).2.2.2.length=2+(y.W.take i).length
 | 0=>by simp[zK]
 | i+1=>by
  have ih:=Ym M0 x y i;by_cases h:i<y.W.length
  ·rw[qBD h];simp only[QX,lAp,lCo,lNi,ih,lLt];omega
  ·have e:y.W.take (i+1)=y.W.take i:=by rw[tOl (by omega),tOl (by omega)]
   unfold zK at ih|-;rw[e];exact ih
theorem qJT(hc:m.C[k]?=some c)(hw:c.W=[]):qr m (k:Int) []=m:=by
 rw[jv hc];have e:({c with W:=[]}:qF)=c:=by rw[<-hw]
 rw[e];refine WH (λj=>?_) rfl rfl rfl;simp only;by_cases q:j=k
 ·subst q;rw[jQ hc,hc]
 ·rw[zb q]
theorem qp4{xid yid:Nat}{x y:qF}(M:MH w mid post ow h m)(bx:Bx ow h xid x)(by_:Bx ow h yid y)(mm:MM m (x.W++y.W++P) O)(hy:qx y.K=true)(hyF:zi y)(hxw:x.W.length=2)(hyw:y.W.length<=1000)(hyd:y.D.length<=1000)(hl:inI x.L 0 8=true)(hf:2+3*y.W.length<=nF m.C):
  SCall Gm 1281 [.ptr mid 0 0,.ptr xid 0 0,.ptr yid 0 0] h (λv h'=>∃ow',MH w mid post ow' h' (wL m x y).1/\Fo ow h ow' h'/\∃id,v=.slice 4 id 0 (wL m x y).2.length false/\h'[id]?=some (.row 4 ((wL m x y).2.map qn.enc) true)/\ow' id=0):=by
 obtain⟨_,_,dup⟩:=qBE mm hy hyF hxw hl hf;obtain⟨ck,dk,hne,hck,hdk,_⟩:=dup 0 (nZl _);obtain⟨x0,x1',ex⟩:∃a b,x.W=[a,b]:=by
  match h:x.W,hxw with
  |[a,b],_=>exact⟨a,b,rfl⟩
 obtain⟨kc,dc,kc1,kc2,kc3,kc4,kc5⟩:=wF mm (by omega);obtain rfl:kc=ck:=by omega
 refine sI Uq ?_;obtain⟨⟨dvy,wvy,y1,y2,y3⟩,yo⟩:=id by_;simp only[Uq,qM,go_sem,y1];refine XG (vs':=[lQ y.D]) (Cvs.cons (y2.cv (qb shI.tree _) (by decide)) .nil) (VK y.D (by omega)) ?_;rw[Zk];simp only[go_sem];have hkc:qx (zf y).K=true:=hy;have hk0:(zf y).K≠0:=by intro q;unfold zf at q;simp only at q;rw[q]at hy;cases hy
 have o0:ow h.length=0:=M.b;refine qj (SCall.mono (Ws (M.app _) kc1 kc2 (c':=zf y) (v:=cE (zf y) (sQ 1 h.length y.D.length) .nils) (T:=λj=>j=h.length) (λj t=>by rw[t];exact⟨by simp,o0⟩) ⟨_,_,rfl,.inr ⟨h.length,rfl,by rw[lMp];rfl,ends⟩,.inl ⟨rfl,rfl⟩⟩) ?_);rintro r h1 ⟨rfl,ow1,M1,f1,_⟩;have F1:Fo ow h ow1 h1:=f1.new λj t=>by omega
 obtain⟨e1,tk1⟩:=kc5 (zf y);obtain⟨ck',t1,t2,t3⟩:=Qo (c:=zf y) mm (by omega) hkc;obtain⟨kd,dd,kd1,kd2,kd3,kd4,kd5⟩:=wF t3 (by have:=t2.nf hk0;omega);obtain rfl:kd=dk:=by omega
 have by1:=by_.fo F1;obtain⟨⟨dvy1,wvy1,z1,z2,z3⟩,zo⟩:=id by1;simp only[go_sem,z1];refine XG (vs':=[lQ y.D]) (Cvs.cons (z2.cv (qb shI.tree _) (by decide)) .nil) (VK y.D (by omega)) ?_;rw[Zk];simp only[go_sem];have o1:ow1 h1.length=0:=M1.b;refine qj (SCall.mono (Ws (M1.app _) kd1 kd2 (c':=zf y) (v:=cE (zf y) (sQ 1 h1.length y.D.length) .nils) (T:=λj=>j=h1.length) (λj t=>by rw[t];exact⟨by simp,o1⟩) ⟨_,_,rfl,.inr ⟨h1.length,rfl,by rw[lMp];rfl,ends⟩,.inl ⟨rfl,rfl⟩⟩) ?_);rintro r h2 ⟨rfl,ow2,M2,f2,_⟩;have F2:Fo ow h ow2 h2:=F1.trans (f2.new λj t=>by omega);have bx2:=bx.fo F2;have by2:=by_.fo F2;obtain⟨⟨dvx,wvx,x1,x2,x3⟩,xo⟩:=id bx2;rw[ex]at x3;obtain⟨xw,xw1,rfl,xw3⟩:=x3.two;simp only[go_sem,x1,Q1,WS,xw3];refine qI QR ?_;simp only[go_sem];refine qI QR ?_;simp only[go_sem];have DI:∀i,i<=y.W.length->ZX m y P O kc kd (zK m x y i) i:=λi hi=>by
  obtain⟨a,b,_,q1,q2,q3⟩:=dup i hi;obtain rfl:a=kc:=by omega
  obtain rfl:b=kd:=by omega
  exact q3
 have e00:zK m x y 0=(WN m y,[],[],[⟨x0,awI (kc:Nat)⟩,⟨x1',awI (kd:Nat)⟩]):=by
  simp only[zK,List.take_zero,List.foldl_nil,ex,hck,hdk];rfl
 have D0:=DI 0 (nZl _);have M3:MH w mid post ow2 (h2++[qA.row 4 [AV.agg [iI x0.T,iI x0.I,iI (awI (kc:Nat)).T,iI (awI (kc:Nat)).I],AV.agg [iI x1'.T,iI x1'.I,iI (awI (kd:Nat)).T,iI (awI (kd:Nat)).I]] true]) (two (zK m x y 0).1 kc kd (zK m x y 0).2.1 (zK m x y 0).2.2.1):=by
  have q1:=D0.c1;have q2:=D0.c2;rw[e00]at q1 q2|-;simp only at q1 q2|-;unfold two;rw[qJT q1 rfl,qJT q2 rfl];exact M2.app _
 refine Sem.loop (λa:Nat×(Nat->Nat)×Nat×List qA=>a.1<=y.W.length/\MH w mid post a.2.1 a.2.2.2 (two (zK m x y a.1).1 kc kd (zK m x y a.1).2.1 (zK m x y a.1).2.2.1)/\Fo ow h a.2.1 a.2.2.2/\a.2.1 a.2.2.1=0/\a.2.2.2[a.2.2.1]?=some (.row 4 ((zK m x y a.1).2.2.2.map qn.enc) true)/\h.length<=a.2.2.1)
  (λa=>(⟨[(0,.ptr mid 0 0),(1,.ptr xid 0 0),(2,.ptr yid 0 0),(6,.nils),(7,iI (kc:Nat)),(8,iI (kd:Nat)),(9,.slice 4 a.2.2.1 0 (zK m x y a.1).2.2.2.length false),(10,iI (a.1:Nat))],[],a.2.2.2⟩:VSt)) (λa=>y.W.length-a.1)
  (0,ow2,h2.length,_) (by kernel_rfl) ⟨nZl _,M3,F2.trans (Fo.app _),M2.b,by rw[ends,e00];rfl,F2.l⟩ (Can.sub (by simp[go_sem,e00]) (by simp[go_sem])) ?_
 clear M3 M2 M1 f1 f2 F1 F2 bx2 by2 by1 z1 z2 z3 x1 x2 xw3 y1 y2 y3;rintro⟨i,ow3,id,h3⟩ ⟨hi,M3,F3,oid,hid,lid⟩;simp only at hi M3 F3 oid hid lid;have I:=DI i hi;have bx3:=bx.fo F3;have by3:=by_.fo F3;obtain⟨⟨dvy3,wvy3,y1,y2,y3⟩,yo3⟩:=by3;have hylen:=y3.len;rw[lMp]at hylen;simp only[go_sem,y1,hylen];by_cases hlt:i<y.W.length
 case neg=>
  have e:decide ((i:Int)<(y.W.length:Nat))=false:=dEf (by omega);simp only[e,go_sem];obtain rfl:i=y.W.length:=by omega
  rw[qGB hck hdk];exact⟨ow3,M3,F3,id,rfl,hid,oid⟩
 have e:decide ((i:Int)<(y.W.length:Nat))=true:=dEt (by omega);obtain⟨⟨dvx3,wvx3,x1,x2,x3⟩,xo3⟩:=bx3;simp only[e,go_sem,x1];obtain⟨f,g,v,T⟩:=qGJ (lev:=x.L) hy I (by have:=I.nf;omega);have eS:=qBD (m:=m) (x:=x) hlt;rw[T.eq]at eS;generalize hS:zK m x y i=S at*;refine qj (SCall.mono (X1 M3 T.ff (by rw[ZT T.fc.1 T.fc.2];exact T.f0) ⟨4,x.L,0,[],[]⟩ rfl rfl) ?_);rintro r h4 ⟨rfl,ow4,M4,F4⟩;rw[Wx T.ff T.fc.1 T.fc.2]at M4;simp only[go_sem];obtain⟨d4,hd4⟩:=T.g0;refine qj (SCall.mono (Vs M4 T.gf (c:=d4) (by rw[ZT T.gc.1 T.gc.2];exact hd4)) ?_);rintro r h5 ⟨rfl,ow5,M5,F5,_⟩;rw[Wx T.gf T.gc.1 T.gc.2]at M5;simp only[go_sem];refine lsA ?_;simp only[go_sem];obtain⟨d5,hd5⟩:=T.e0;refine qj (SCall.mono (Vs M5 T.ef (c:=d5) (by rw[ZT T.ec.1 T.ec.2];exact hd5)) ?_);rintro r h6 ⟨rfl,ow6,M6,F6,_⟩;rw[Wx T.ef T.ec.1 T.ec.2]at M6;simp only[go_sem];refine lsA ?_;obtain⟨cid,cs,rv,M6⟩:=M6;have hcf:(two (qR (qR (qR S.1 ⟨4,x.L,0,[],[]⟩) (qX [])) (qX [])) kc kd S.2.1 S.2.2.1).C[f]?=some ⟨4,x.L,0,[],[]⟩:=by rw[ZT T.fc.1 T.fc.2];exact T.cf
 obtain⟨dv,wv,v1,v2,v3⟩:=M6.words hcf;have hk:=zP hcf;simp only[go_sem,M6.o,qW hk,nZa];have M6a:=M6.app [qA.row 2 [(vwI (g:Nat)).enc,(vwI (v:Nat)).enc] true];refine M6a.stoW v1 rfl ?_;obtain⟨M7,f7⟩:=M6a.setWv (ws:=[vW g,vW v]) (wv':=sQ 2 h6.length 2) hcf v1 (v2.app _) (id:=h6.length) (MH.b ⟨_,_,_,M6⟩) ends rfl;have F7:=(F4.trans (F5.trans F6)).trans (f7.new λj e=>by omega);have I2:=DI (i+1) (by omega);rw[eS]at I2;have M7':=MH.intro M7;rw[<-jv hcf,qLJ T.fc.1 T.fc.2]at M7';generalize (owC ow6 f λj=>ow6 j=f+3\/j=h6.length)=ow7 at M7' F7;generalize (h6++[qA.row 2 [(vwI (g:Nat)).enc,(vwI (v:Nat)).enc] true]).set cid _=h7 at M7' F7|-;clear M7 f7 M6a M6 v1 v2 v3 hcf hk;obtain⟨mm2,us2,vs2,c12,c22,nf2,len2⟩:=I2;simp only at c12 c22;generalize hS2:qr (qR (qR (qR S.1 ⟨4,x.L,0,[],[]⟩) (qX [])) (qX [])) (f:Int) [vW g,vW v]=S2 at M7' c12 c22 eS;obtain⟨cid,cs,rv,M7⟩:=M7';have hc1:=qLG (us:=S.2.1) (vs:=S.2.2.1) hne c12;obtain⟨dv,wv,v1,v2,v3⟩:=M7.words hc1;have hk:=zP hc1;have hcl:0<(two S2 kc kd S.2.1 S.2.2.1).C.length:=by omega
 simp only[go_sem,M7.o,qW hk,nZa,M7.c,v1];have hus:S.2.1.length=i:=I.us;have hvs:S.2.2.1.length=i:=I.vs;have M7a:=M7.app [qA.row 2 [(vwI (g:Nat)).enc] true];refine qEF (v3.app _) ends (by rw[lMp];simp only;omega) λh8 u8 w8 l8=>?_;have m8:=u8.at M7a.o (λq=>by have:=q.1;rw[M7.m1]at this;omega);refine⟨⟨J6 (id:=mid) (j:=0) (k:=0) (v:=.slice 5 cid 0 (two S2 kc kd S.2.1 S.2.2.1).C.length false) (by simp only[go_sem]) (by simp only[go_sem]) (by rw[m8];rfl) (by simp only[AV.rigid];omega),trivial⟩, ?_⟩;have q8:=u8.at M7a.c (λq=>by have:=q.1;rw[M7.c1]at this;omega);simp only[go_sem,qW hk,nZa];refine qK1 q8 v1 rfl ?_;obtain⟨ow8,M8,F8⟩:=M7a.appW (x:=vW g) hc1 v1 (v2.app _) (v3.app _) u8 (nLr _) (by rw[lMa];exact w8) (wv':=.slice 2 (h7++[qA.row 2 [(vwI (g:Nat)).enc] true]).length 0 (S.2.1.length+1) false) (by simp);have F8':=F7.trans ((Fo.app _).trans F8);have M8':=MH.intro M8;rw[<-jv hc1,qLF hne]at M8';generalize h8.set cid _=h9 at M8' F8'|-;clear M8 F8 M7a M7 u8 w8 l8 m8 q8 v1 v2 v3 hk hcl;obtain⟨cid,cs,rv,M8⟩:=M8';have hc2:=qLI (us:=S.2.1++[vW g]) (vs:=S.2.2.1) hne c22;obtain⟨dv,wv,v1,v2,v3⟩:=M8.words hc2;have hk:=zP hc2;have hcl:0<(two S2 kc kd (S.2.1++[vW g]) S.2.2.1).C.length:=by omega
 simp only[go_sem,M8.o,qW hk,nZa,M8.c,v1];have M8a:=M8.app [qA.row 2 [(vwI (v:Nat)).enc] true];refine qEF (v3.app _) ends (by rw[lMp];simp only;omega) λh8 u8 w8 l8=>?_;have m8:=u8.at M8a.o (λq=>by have:=q.1;rw[M8.m1]at this;omega);refine⟨⟨J6 (id:=mid) (j:=0) (k:=0) (v:=.slice 5 cid 0 (two S2 kc kd (S.2.1++[vW g]) S.2.2.1).C.length false) (by simp only[go_sem]) (by simp only[go_sem]) (by rw[m8];rfl) (by simp only[AV.rigid];omega),trivial⟩, ?_⟩;have q8:=u8.at M8a.c (λq=>by have:=q.1;rw[M8.c1]at this;omega);simp only[go_sem,qW hk,nZa];refine qK1 q8 v1 rfl ?_;obtain⟨ow9,M9,F9⟩:=M8a.appW (x:=vW v) hc2 v1 (v2.app _) (v3.app _) u8 (nLr _) (by rw[lMa];exact w8) (wv':=.slice 2 (h9++[qA.row 2 [(vwI (v:Nat)).enc] true]).length 0 (S.2.2.1.length+1) false) (by simp);have F9':=F8'.trans ((Fo.app _).trans F9);have M9':=MH.intro M9;rw[<-jv hc2,qLH]at M9';generalize h8.set cid _=h10 at M9' F9'|-;clear M9 F9 M8a M8 u8 w8 l8 m8 q8 v1 v2 v3 hk hcl;have F10:=F3.trans F9';obtain⟨⟨dvy4,wvy4,y1',y2',y3'⟩,yo4⟩:=by_.fo F10;have hyi:=gEg hlt;generalize y.W[i]=yw at hyi eS;obtain⟨yid2,yq1,rfl,yq3⟩:∃id,ow9 id=0/\wvy4=sQ 2 id y.W.length/\h10[id]?=some (.row 2 (y.W.map qE.enc) true):=by
  rcases y3' with⟨_,q⟩ | ⟨j,j1,j2,j3⟩
  ·have:=congrArg List.length q;rw[lMp,lNi]at this;omega
  ·exact⟨j,j1,by rw[j2,lMp],j3⟩
 simp only[go_sem,y1',qW hlt,nZa,yq3,gMp,hyi,oMs];refine qI QR ?_;simp only[go_sem];obtain⟨hid10,oid10⟩:=F9'.at hid oid;have hll:S.2.2.2.length<=100000:=by
  have:=Ym m x y i;rw[hS,lLt]at this;omega
 refine WD ends (jC hid10) (by rw[lMp]) (by omega) ?_;simp only[go_sem,wuA (n:=i)];have hidl:=qZ hid10;have MA:=M9'.app [qA.row 4 [AV.agg [iI yw.T,iI yw.I,iI (awI (f:Nat)).T,iI (awI (f:Nat)).I]] true];refine qd (i+1,ow9,(h10++[qA.row 4 [AV.agg [iI yw.T,iI yw.I,iI (awI (f:Nat)).T,iI (awI (f:Nat)).I]] true]).length,(h10++[qA.row 4 [AV.agg [iI yw.T,iI yw.I,iI (awI (f:Nat)).T,iI (awI (f:Nat)).I]] true]).set id .dead++[qA.row 4 (S.2.2.2.map qn.enc++[AV.agg [iI yw.T,iI yw.I,iI (awI (f:Nat)).T,iI (awI (f:Nat)).I]]) true]) ⟨by simp only;omega, ?_, ?_, ?_, ?_, ?_⟩ (by simp only;omega) (Can.sub (by simp[go_sem,eS]) (by simp[go_sem]))
 ·simp only[eS];refine MA.heap (by simp) λj hj h0=>?_;rw[gAl (by rw[lLs];exact hj),sne (λe=>by subst e;exact h0 oid10)]
 ·refine⟨by have:=F10.l;simp;omega,λj hj q=>⟨(F10.k j hj q).1, ?_⟩⟩;have hl10:=F10.l;simp only;rw[gAl (by simp;omega),sne (by omega),gAl (by omega)];exact(F10.k j hj q).2
 ·exact MA.b
 ·simp only[eS];rw[gAr (by simp)];simp only[lLs,nSs,lMa];rfl
 ·have:=F10.l;simp;omega
end
end Go.Ab
