/- Texts Mh4 .. Mi15: the abstract machine, its laws and contracts of functions: lemmas for the statement. No condition. -/
import Derived.Test.YtmjjilcgafiafaaGreatP7
set_option linter.unusedSimpArgs false
set_option linter.unusedVariables false
namespace Go.Ab
open Go
set_option maxRecDepth 10000
set_option maxHeartbeats 4000000
section
variable {w mid cid k:Nat} {post cs:List AV} {ow ow' ow1 ow2:Nat->Nat} {h h' h1 h2:List qA} {m:qH} {rv v v' dv wv:AV} {c c':qC} {P:List qE} {O:Nat->Bool} {x y a b:qE} {ws:List qE}
theorem qAR{wv':AV}(hv:wv'.cells=[wv']):(cE c dv wv).put 4 wv'=some (cE c dv wv'):=X5 hv rfl
theorem MO.stoW{E:Ev}{l:List qG}{ks:List Fr1}{s l':qt}{Q:qn->VSt->Prop}{wv':AV}(M:MO w mid post ow h m cid cs rv)(hk:cs[k]?=some (cE c dv wv))(hv:wv'.cells=[wv'])(hr:R E (.ops l::ks) ⟨s,l',h.set cid (.row 5 (cs.set k (cE c dv wv')) true)⟩ Q):Sto E 1 (some (.ptr cid k 4)) (some wv') l ks ⟨s,l',h⟩ Q:=zX (by rw[hv];rfl) M.c hk (qAR hv) hr
theorem MO.setWv{id:Nat}{wv':AV}(M:MO w mid post ow h m cid cs rv)(hc:m.C[k]?=some c)(hk:cs[k]?=some (cE c dv wv))(hd:LsW (λj=>ow j=k+3) 1 h dv (c.D.map qQ))(hid:ow id=0)(hrow:h[id]?=some (.row 2 (ws.map qE.enc) true))(hv:wv'=sQ 2 id ws.length):
  MO w mid post (owC ow k (λj=>ow j=k+3\/j=id)) (h.set cid (.row 5 (cs.set k (cE c dv wv')) true)) {m with C:=m.C.set k {c with W:=ws}} cid (cs.set k (cE c dv wv')) rv/\FoT (λj=>j=id) ow h (owC ow k (λj=>ow j=k+3\/j=id)) (h.set cid (.row 5 (cs.set k (cE c dv wv')) true)):=by
 have hl:=qz hrow;refine⟨M.setC (c':={c with W:=ws}) (λj=>ow j=k+3\/j=id) hc (λj t=>?_) ⟨dv,wv',rfl,hd.mono λj _ q=>⟨.inl q,rfl⟩,.inr ⟨id,.inr rfl,by rw[lMp];exact hv,hrow⟩⟩,by simp,λj hj q n=>⟨?_,sne λe=>?_⟩⟩
 ·rcases t with t | t
  ·exact⟨M.b j (by omega),.inr t⟩
  ·rw[t];exact⟨hl,.inl hid⟩
 ·rw[Ja (λt=>t.elim (λt=>by omega) n),iN (by omega)];exact q
 ·subst e;rw[M.c1]at q;cases q
theorem FoT.new{T:Nat->Prop}{o:List qA}(f:FoT T ow (h++o) ow' h')(n:∀j,T j->h.length<=j):Fo ow h ow' h':=⟨by have:=f.l;simp at this;omega,λj hj q=>by
 obtain⟨a,b⟩:=f.k j (by simp;omega) q λt=>by have:=n j t;omega
 exact⟨a,b.trans (gAl hj)⟩⟩
theorem US{k:Nat}:(vW k).I=(k:Int):=rfl
theorem s973(M:MH w mid post ow h m)(hP:MM m (a::b::P) O)(hl:m.R.length<=1000000):SCall Gm 973 [.ptr mid 0 0,a.enc,b.enc] h (λ_ h'=>∃ow',MH w mid post ow' h' (wQ m a b)/\Fo ow h ow' h'):=by
 refine sI F973 ?_;simp only[F973,qN,go_sem];refine qX rfl ?_;simp only[go_sem];refine qX rfl ?_;simp only[go_sem];refine qu (SCall.mono (qJS M hP) ?_);obtain⟨g1,g2⟩:=Ze (nV m.C) hP (nLr _);have hL:wQ m a b=wQ m a b:=rfl
 conv at hL=>rhs;unfold wQ
 simp only at hL;generalize wQ m a b=L at hL|-;generalize flw (nV m.C) m a=r at g1 g2 hL|-;obtain⟨m1,a1⟩:=r;have g3:MM m1 (b::a1::P) O:=MI.perm g1 (List.Perm.swap _ _ _);obtain⟨k1,k2⟩:=Ze (nV m1.C) g3 (nLr _);simp only at g1 g2 k1 k2 hL|-;rintro r h1 ⟨rfl,ow1,M1,f1⟩;simp only[go_sem];refine lsA ?_;simp only[go_sem];refine qu (SCall.mono (qJS M1 g3) ?_);generalize flw (nV m1.C) m1 b=s at k1 k2 hL|-;obtain⟨m2,b1⟩:=s;simp only at k1 k2 hL|-;rintro r h2 ⟨rfl,ow2,M2,f2⟩;simp only[go_sem];refine lsA ?_;simp only[go_sem];have k3:MM m2 (a1::b1::P) O:=MI.perm k1 (List.Perm.swap _ _ _);have hrx:m2.R=m.R:=by rw[k2.rx,g2.rx]
 have ha:a1.T=1\/∃k:Nat,a1=vW k/\m2.C[k]?=some (qg []):=by
  rcases g2.stop with q | ⟨k,q1,q2⟩
  ·exact .inl q
  ·exact .inr ⟨k,q1,k2.keep k _ q2 (.inr rfl)⟩
 have hb:=k2.stop;by_cases q1:a1.T=1
 ·have e1:decide (a1.T=1)=true:=dEt q1;simp only[e1,go_sem];by_cases q2:b1.T=1
  ·have e2:decide (b1.T=1)=true:=dEt q2;simp only[e2,go_sem];refine qu (SCall.mono (V4 M2 (by rw[hrx];exact hl)) ?_);rintro r h3 ⟨ow3,M3,f3⟩;simp only[go_sem];rw[iP ⟨q1,q2⟩]at hL;exact⟨ow3,by rw[hL];exact M3,(f1.trans f2).trans f3⟩
  ·have e2:decide (b1.T=1)=false:=dEf q2;simp only[e2,go_sem];rw[iN (λq=>q2 q.2)]at hL;have n3:¬a1=b1:=λq=>q2 (by rw[<-q];exact q1);have e3:decide (a1=b1)=false:=dEf n3;have e4:decide (a1.T=2)=false:=dEf (by omega);simp only[e3,e4,go_sem];rw[iN n3,iN (by omega)]at hL;obtain⟨k,rfl,hck⟩:∃k:Nat,b1=vW k/\m2.C[k]?=some (qg []):=by
    rcases hb with q | q
    ·exact absurd q q2
    ·exact q
   rw[US,j7 hck]at hL;obtain⟨cid,cs,rv,M2'⟩:=M2;obtain⟨dv,wv,v1,v2,v3⟩:=M2'.words hck;have hk:=zO hck;simp only[M2'.o,show (vW k).I=(k:Int)from rfl,qS hk,nZa,go_sem];have M3:=M2'.app [qA.row 2 [a1.enc] true];refine M3.stoW v1 rfl ?_;simp only[go_sem];obtain⟨M4,f4⟩:=M3.setWv (ws:=[a1]) hck v1 (v2.app _) (id:=h2.length) (by have:=MH.b ⟨_,_,_,M2'⟩;exact this) ends rfl;refine⟨_,⟨cid,_,rv,by rw[hL];exact M4⟩,(f1.trans f2).trans (f4.new λj e=>by omega)⟩
 ·have e1:decide (a1.T=1)=false:=dEf q1;simp only[e1,go_sem];rw[iN (λq=>q1 q.1)]at hL;obtain⟨k,rfl,hck⟩:∃k:Nat,a1=vW k/\m2.C[k]?=some (qg []):=by
   rcases ha with q | q
   ·exact absurd q q1
   ·exact q
  by_cases n3:vW k=b1
  ·have e3:decide (vW k=b1)=true:=dEt n3;simp only[e3,go_sem];rw[iP n3]at hL;refine qu (SCall.mono (V3 M2 hck) ?_);rintro r h3 ⟨ow3,M3,f3,-⟩;simp only[go_sem];exact⟨ow3,by rw[hL];exact M3,(f1.trans f2).trans f3⟩
  ·have e3:decide (vW k=b1)=false:=dEf n3;have e4:decide ((vW k).T=2)=true:=rfl;simp only[e3,e4,go_sem];rw[iN n3,iP (show (vW k).T=2 from rfl),US,j7 hck]at hL;obtain⟨cid,cs,rv,M2'⟩:=M2;obtain⟨dv,wv,v1,v2,v3⟩:=M2'.words hck;have hk:=zO hck;simp only[M2'.o,show (vW k).I=(k:Int)from rfl,qS hk,nZa,go_sem];have M3:=M2'.app [qA.row 2 [b1.enc] true];refine M3.stoW v1 rfl ?_;simp only[go_sem];obtain⟨M4,f4⟩:=M3.setWv (ws:=[b1]) hck v1 (v2.app _) (id:=h2.length) (by have:=MH.b ⟨_,_,_,M2'⟩;exact this) ends rfl;refine⟨_,⟨cid,_,rv,by rw[hL];exact M4⟩,(f1.trans f2).trans (f4.new λj e=>by omega)⟩
end
theorem c948{p q:qI}:Pure Gm 948 [p.enc,q.enc] (.bool (bef p q)):=by
 refine pJ F948 ?_;simp only[F948,qN,go_sem]
 repeat' (first | (refine qX rfl ?_;simp only[go_sem]) | (apply zH<;>intro h1<;>simp only[h1,go_sem]) | (apply qT<;>intro h1<;>simp only[h1,go_sem]) | refine qM rfl ?_)
 all_goals (simp_all[bef])
theorem c556{p q:qI}:Pure Gm 556 [p.enc,q.enc] (.bool (bef p q)):=by
 refine pJ kX ?_;simp only[kX,qN,go_sem]
 repeat' (first | (refine qX rfl ?_;simp only[go_sem]) | (apply zH<;>intro h1<;>simp only[h1,go_sem]) | (apply qT<;>intro h1<;>simp only[h1,go_sem]) | refine qM rfl ?_)
 all_goals (simp_all[bef])
def Ls0(P:Nat->Prop)(w:Nat)(h:List qA)(v:AV)(el:List AV):Prop:=(v=.lst w [] true/\el=[])\/LsW P w h v el
section
variable {P:Nat->Prop} {w:Nat} {h h1:List qA} {v:AV} {el:List AV}
theorem Ls0.len(x:Ls0 P w h v el):Qd (some v)=some (iI (el.length:Nat)):=by
 rcases x with⟨rfl,rfl⟩ | x
 ·rfl
 ·exact x.len
theorem Ls0.app(x:Ls0 P w h v el)(o:List qA):Ls0 P w (h++o) v el:=x.elim .inl λy=>.inr (y.app o)
theorem qAF{E:Ev}{l:List qG}{ks:List Fr1}{s m:qt}{Q:qn->VSt->Prop}{k id2:Nat}{c2:Bool}{x:AV}(ho:Ls0 P w h v el)(h2:h[id2]?=some (.row w [x] true))(hl:el.length<4000000000)
  (hr:∀h3,Up (λj=>P j/\v=sQ w j el.length) h h3->h3[h.length]?=some (.row w (el++[x]) true)->h3.length=h.length+1->R E (.ops l::ks) ⟨(k,sQ w h.length (el.length+1))::s,m,h3⟩ Q):JM E w (some k) (some v) (some (.slice w id2 0 1 c2)) l ks ⟨s,m,h⟩ Q:=by
 rcases ho with⟨rfl,rfl⟩ | ho
 ·exact Qu (ys:=[x]) (Els.row h2 rfl) (by simp) (hr _ (Up.app _) (by simp) (by simp))
 ·exact Jd ho h2 hl hr
end
theorem c569{n:qD}(hz:n.sz<=1048576)(ok:zM n=true):Pure Gm 569 [.ept n.enc 0] (.lst 4 ((zJ n.G).map zV.enc) false):=by
 refine pI kZ (by simp[AV.trees,AV.tree,go_sem]) (qb zV.isSh.tree _) ?_;simp only[kZ,qN,go_sem];unfold qD.sz at hz;refine Sem.loop (λa:Nat×AV×List qA=>a.1<=n.G.length/\Ls0 (λ_=>True) 4 a.2.2 a.2.1 ((wrs n.G (zB n.G a.1)).map zV.enc))
  (λa=>(⟨[(0,.ept n.enc 0),(2,.nils),(3,a.2.1),(4,iI (a.1:Nat))],[],a.2.2⟩:VSt)) (λa=>n.G.length-a.1)
  (0,.lst 4 [] true,[]) (by kernel_rfl) ⟨nZl _,.inl ⟨rfl,rfl⟩⟩ csA ?_
 rintro⟨i,v,h⟩ ⟨hi,I⟩;simp only at hi I;simp only[go_sem];by_cases hlt:i<n.G.length
 ·have e:decide ((i:Int)<(n.G.length:Nat))=true:=dEt (by omega);have hc:=gEg hlt;simp only[e,go_sem];have e0:zB n.G i++zf i 0=zB n.G i:=by simp[zf]
  have hpl:n.G[i].P.length<=qJ qB.sz n.G:=by
   have h1:qB.sz n.G[i]<=qJ qB.sz n.G:=z5 (f:=qB.sz) (gMm hlt);have h2:n.G[i].P.length<=qB.sz n.G[i]:=by unfold qB.sz;omega
   omega
  have htl:=Zt n.G i (by omega);have htt:=qDA qB.sz n.G i;generalize hx:n.G[i]=x at hc hpl;refine Sem.loop (λa:Nat×AV×List qA=>a.1<=x.P.length/\Ls0 (λ_=>True) 4 a.2.2 a.2.1 ((wrs n.G (zB n.G i++zf i a.1)).map zV.enc))
   (λa=>(⟨[(0,.ept n.enc 0),(2,.nils),(3,a.2.1),(4,iI (i:Nat)),(5,iI (a.1:Nat))],[],a.2.2⟩:VSt)) (λa=>x.P.length-a.1)
   (0,v,h) (by kernel_rfl) ⟨nZl _,by rw[e0];exact I⟩ csA ?_
  rintro⟨k,v1,h1⟩ ⟨hk,J⟩;simp only at hk J;simp only[gMp,hc,oMs,go_sem];by_cases hkl:k<x.P.length
  ·have e:decide ((k:Int)<(x.P.length:Nat))=true:=dEt (by omega);have hq:=gEg hkl;generalize x.P[k]=q at hq;have hpe:qR n.G ⟨(i:Int),(k:Int)⟩=q:=Ws (a:=i) (s:=k) (Qv.2 ⟨x,hc,hq⟩);simp only[e,gMp,hc,hq,oMs,go_sem];refine lsA ?_;simp only[gMp,hc,hq,oMs,go_sem];refine qL (c948 (p:=⟨(i:Int),(k:Int)⟩) (q:=q)) ?_;have es:zB n.G i++zf i (k+1)=(zB n.G i++zf i k)++[⟨(i:Int),(k:Int)⟩]:=by rw[YL,lAa]
   have ew:wrs n.G (zB n.G i++zf i (k+1))=wrs n.G (zB n.G i++zf i k)++if bef ⟨(i:Int),(k:Int)⟩ q=true then [⟨⟨(i:Int),(k:Int)⟩,q⟩]else []:=by
    rw[es,qK4,qK5,hpe]
   cases hb:bef ⟨(i:Int),(k:Int)⟩ q
   ·simp only[go_sem,wuA (n:=k)];refine qa (k+1,v1,h1) ⟨by simp only;omega, ?_⟩ (by simp only;omega) csA;simp only[ew,hb,bFt,if_false,lAn];exact J
   ·have hwl:=qDJ (xs:=n.G) (a:=zB n.G i++zf i k);have hsl:(zB n.G i++zf i k).length=(zB n.G i).length+k:=by simp[zf]
    simp only[gMp,hc,hq,oMs,go_sem];refine qAF (J.app _) ends (by rw[lMp];omega) λh3 u3 v3 l3=>?_;simp only[go_sem,wuA (n:=k)];refine qa (k+1,.slice 4 (h1++[qA.row 4 [AV.agg [iI i,iI k,iI q.N,iI q.S]] true]).length 0 (((wrs n.G (zB n.G i++zf i k)).map zV.enc).length+1) false,h3) ⟨by simp only;omega, ?_⟩ (by simp only;omega) csA;refine .inr (.inr ⟨(h1++[qA.row 4 [AV.agg [iI i,iI k,iI q.N,iI q.S]] true]).length,trivial, ?_, ?_⟩)
    ·simp[ew,hb]
    ·simp only[ew,hb,if_true,lMa];exact v3
  ·have e:decide ((k:Int)<(x.P.length:Nat))=false:=dEf (by omega);simp only[e,go_sem,wuA (n:=i)];refine qa (i+1,v1,h1) ⟨by simp only;omega, ?_⟩ (by simp only;omega) csA;have e2:zB n.G (i+1)=zB n.G i++zf i x.P.length:=by simp[zB,jA,hc]
   simp only[e2];rw[show k=x.P.length by omega]at J;exact J
 ·have e:decide ((i:Int)<(n.G.length:Nat))=false:=dEf (by omega);simp only[e,go_sem];obtain rfl:i=n.G.length:=by omega
  rcases I with⟨_,h2⟩ | I
  ·exact absurd (List.map_eq_nil_iff.1 h2) (qsZ ok)
  ·exact J8 (I.cv (qb zV.isSh.tree _) (by decide))
def ju(root:Bool)(x:zV):Bool:=decide (0<x.B.S)&&(decide (0<x.A.S) || (decide (x.A.N=0)&&root))
def W8(xs:List qB)(root:Bool):Nat:=(zJ xs).countP (ju root)
theorem qA3{α:Type}{p:α->Bool}{xs:List α}{i:Nat}{x:α}(h:xs[i]?=some x):(xs.take (i+1)).countP p=(xs.take i).countP p+if p x=true then 1 else 0:=by
 rw[tA1,h,Option.toList_some,List.countP_append,List.countP_cons,List.countP_nil,nZa]
theorem YY{n:qD}(hz:n.sz<=1048576):(zJ n.G).length<=1048576:=by
 have h1:=qDJ (xs:=n.G) (a:=zB n.G n.G.length);have h2:=Zt n.G n.G.length (nLr _);rw[lTl]at h2;unfold qD.sz at hz;unfold zJ;omega
theorem qkM{n:qD}{root:Bool}(hz:n.sz<=1048576)(ok:zM n=true):Pure Gm 1174 [.ept n.enc 0,.bool root] (iI (W8 n.G root:Nat)):=by
 refine pJ Um ?_;simp only[Um,qN,go_sem];refine qL (c569 hz ok) ?_;simp only[go_sem];have hwl:=YY hz;refine Sem.loop (λi:Nat=>i<=(zJ n.G).length) (λi=>(⟨[(1,.bool root),(4,iI 0),(5,iI (((zJ n.G).take i).countP (ju root):Nat)),(6,.lst 4 ((zJ n.G).map zV.enc) false),(7,iI (i:Nat))],[],[]⟩:VSt)) (λi=>(zJ n.G).length-i)
  0 (by kernel_rfl) (nZl _) csA ?_
 rintro i hi;simp only[go_sem];by_cases hlt:i<(zJ n.G).length
 ·have e:decide ((i:Int)<((zJ n.G).length:Nat))=true:=dEt (by omega);have hc:=gEg hlt;generalize (zJ n.G)[i]=x at hc;have ex:=qA3 (p:=ju root) hc;have hle:((zJ n.G).take i).countP (ju root)<=i:=nLt (List.countP_le_length ..) (by simp;omega);simp only[e,gMp,hc,oMs,go_sem];refine lsA ?_;simp only[gMp,hc,oMs,go_sem];refine lsA ?_;simp only[go_sem];cases hB:decide (0<x.B.S)
  ·simp only[go_sem,wuA (n:=i),jO (show ((zJ n.G).take i).countP (ju root)<4611686018427387904 by omega)];have hv:ju root x=false:=by simp only[ju,hB,Bool.false_and];try rfl
   rw[hv]at ex;refine qa (i+1) (by omega) (by omega) (Can.sub (by simp[go_sem,ex]) (by simp[go_sem]))
  ·simp only[go_sem];cases hA:decide (0<x.A.S)
   ·simp only[go_sem];cases hR:decide (x.A.N=0)
    ·simp only[go_sem,wuA (n:=i),jO (show ((zJ n.G).take i).countP (ju root)<4611686018427387904 by omega)];have hv:ju root x=false:=by simp only[ju,hB,hA,hR,Bool.false_and,Bool.false_or,Bool.and_false];try rfl
     rw[hv]at ex;refine qa (i+1) (by omega) (by omega) (Can.sub (by simp[go_sem,ex]) (by simp[go_sem]))
    ·cases root
     ·simp only[go_sem,wuA (n:=i),jO (show ((zJ n.G).take i).countP (ju false)<4611686018427387904 by omega)];have hv:ju false x=false:=by simp only[ju,hB,hA,hR];try rfl
      rw[hv]at ex;refine qa (i+1) (by omega) (by omega) (Can.sub (by simp[go_sem,ex]) (by simp[go_sem]))
     ·simp only[go_sem,wuA (n:=i),jO (show ((zJ n.G).take i).countP (ju true)<4611686018427387904 by omega)];have hv:ju true x=true:=by simp only[ju,hB,hA,hR];try rfl
      rw[hv]at ex;refine qa (i+1) (by omega) (by omega) (Can.sub (by simp[go_sem,ex]) (by simp[go_sem]))
   ·simp only[go_sem,wuA (n:=i),jO (show ((zJ n.G).take i).countP (ju root)<4611686018427387904 by omega)];have hv:ju root x=true:=by simp only[ju,hB,hA,Bool.true_or,Bool.true_and];try rfl
    rw[hv]at ex;refine qa (i+1) (by omega) (by omega) (Can.sub (by simp[go_sem,ex]) (by simp[go_sem]))
 ·have e:decide ((i:Int)<((zJ n.G).length:Nat))=false:=dEf (by omega);simp only[e,go_sem];exact qM rfl (by rw[tOl (by omega)];rfl)
theorem c970{m:qH}{L:List Nat}(hs:m.C.length<=1000000)(hf:FrC m.C m.F L):Pure Gm 970 [.ept m.enc 0] (iI (nF m.C:Nat)):=by
 refine pJ F970 ?_;simp only[F970,qN,go_sem];have hn:=hf.len;have hle:nF m.C<=m.C.length:=List.countP_le_length ..;refine Sem.loop (λa:Nat×Int×List Nat=>a.1+a.2.2.length=nF m.C/\chn m.C a.2.1 a.2.2) (λa=>(⟨[(0,.ept m.enc 0),(2,iI 0),(3,iI (a.1:Nat)),(4,iI a.2.1)],[],[]⟩:VSt)) (λa=>a.2.2.length)
  (0,m.F,L) (by kernel_rfl) ⟨by simp only;omega,hf.ch⟩ csA ?_
 rintro⟨n,a,L⟩ ⟨h1,h2⟩;simp only at h1 h2;simp only[go_sem];cases L with
 | nil=>
  obtain rfl:a= -1:=h2;simp only[show decide ((0:Int)<=-1)=false from rfl,go_sem];exact qM rfl (by rw[<-h1];rfl)
 | cons k L=>
  obtain⟨rfl,c,hc,h0,h3⟩:=h2;have e:decide ((0:Int)<=(k:Nat))=true:=dEt (by omega);simp only[lCo]at h1;simp only[e,go_sem,wuA (n:=n),gMp,hc,oMs];refine qa (n+1,c.V,L) ⟨by simp only;omega,h3⟩ (by simp only[lCo];omega) csA
structure RX(m:qH)(p:qF)(ka kb:Nat)(x y:qC):Prop where
 a:p.A=(ka:Int)
 b:p.B=(kb:Int)
 ha:m.C[ka]?=some x
 hb:m.C[kb]?=some y
theorem c969{m:qH}{p:qF}{ka kb:Nat}{x y:qC}(r:RX m p ka kb x y)(hx:x.W.length<=1048576)(hy:y.W.length<=1048576):Pure Gm 969 [.ept m.enc 0,p.enc] (iI (zb (qZ x) (qZ y))):=by
 refine pJ F969 ?_;simp only[F969,qN,go_sem];refine qX rfl ?_;simp only[go_sem,r.a,gMp,r.ha,oMs];refine qL (qAL hx) ?_;simp only[go_sem];refine zX (e':=(qZ x).enc) rfl rfl rfl rfl ?_;simp only[go_sem,r.b,gMp,r.hb,oMs];refine qL (qAL hy) ?_;simp only[go_sem];refine zX (e':=(qZ y).enc) rfl rfl rfl rfl ?_;simp only[go_sem];refine wC (Cvs.cons (.ptr rfl (by decide) rfl (.refl qB.tr)) (Cvs.cons (.ptr rfl (by decide) rfl (.refl qB.tr)) .nil)) (c744 (x:=qZ x) (y:=qZ y)) rfl ?_;simp only[go_sem];exact qM rfl rfl
def JL(x y:qC):Bool:=decide (zt x.K x.L y.K y.L=2)
theorem c971{m:qH}{p:qF}{ka kb:Nat}{x y:qC}(r:RX m p ka kb x y):Pure Gm 971 [.ept m.enc 0,p.enc] (if JL x y=true then .tup [iI (kb:Nat),iI (ka:Nat)]else .tup [iI (ka:Nat),iI (kb:Nat)]):=by
 refine pI F971 (by simp[AV.trees,AV.tree,go_sem]) (by split<;>rfl) ?_;simp only[F971,qN,go_sem];refine qX rfl ?_;simp only[go_sem,r.a,r.b,gMp,r.ha,r.hb,oMs];refine qL qkH ?_;simp only[go_sem];unfold JL;cases h:decide (zt x.K x.L y.K y.L=2)
 ·simp only[go_sem,r.a,r.b];exact zj (by rfl) (by rfl)
 ·simp only[go_sem,r.a,r.b];exact zj (by rfl) (by rfl)
theorem c857{c:Int}:Pure Gm 857 [iI c] (iI (if c=7 then 1 else 2)):=by
 refine pJ F857 ?_;simp only[F857,qN,go_sem];by_cases h:c=7
 ·simp only[h,go_sem];exact qM rfl rfl
 ·simp only[h,decide_false,go_sem];exact qM rfl rfl
theorem QR{a:Int}:Pure Gm 1279 [iI a] (awI a).enc:=by
 refine pJ Uy ?_;simp only[Uy,qN,go_sem];refine lsA ?_;simp only[go_sem];exact qM rfl rfl
def qi(x y:qC):Int:=zb (qZ x) (qZ y)
def zE(bk:List qD)(x y:qC):Int×Int:=
 if qi x y=8 then(0,11)else if qi x y=3 then(2+3*(y.W.length:Int),0)else if qi x y=4 then((y.W.length:Int),0)
 else if qi x y=5 then(1,0)else if qi x y=6 then(1+(x.W.length:Int),0)
 else if qi x y=7 then(if (bk.length:Int)<=x.V then(0,3)else if 8<IntKind.i64.wrap (hiI (qw bk x.V).G+x.L)then(0,9)else(((qw bk x.V).G.length:Int)-1+(W8 (qw bk x.V).G false:Nat),0))
 else(0,0)
structure RO(m:qH)(p:qF)(a b:Nat)(x y:qC):Prop where
 u:∃ka kb u v,RX m p ka kb u v/\((JL u v=true/\a=kb/\b=ka/\x=v/\y=u)\/(JL u v=false/\a=ka/\b=kb/\x=u/\y=v))
 ox:qk (qZ x)=true
 oy:qk (qZ y)=true
theorem RO.cls{m:qH}{p:qF}{a b:Nat}{x y:qC}(r:RO m p a b x y):∃ka kb u v,RX m p ka kb u v/\qi u v=qi x y/\((JL u v=true/\a=kb/\b=ka/\x=v/\y=u)\/(JL u v=false/\a=ka/\b=kb/\x=u/\y=v)):=by
 obtain⟨ka,kb,u,v,h1,h2⟩:=r.u;refine⟨ka,kb,u,v,h1, ?_,h2⟩;rcases h2 with⟨hs,_,_,rfl,rfl⟩ | ⟨hs,_,_,rfl,rfl⟩
 ·exact ql2 r.oy r.ox (by simpa[JL,qZ]using hs)
 ·rfl
theorem RO.at{m:qH}{p:qF}{a b:Nat}{x y:qC}(r:RO m p a b x y):m.C[a]?=some x/\m.C[b]?=some y:=by
 obtain⟨ka,kb,u,v,h1,h2⟩:=r.u;rcases h2 with⟨hs,rfl,rfl,rfl,rfl⟩ | ⟨hs,rfl,rfl,rfl,rfl⟩
 ·exact⟨h1.hb,h1.ha⟩
 ·exact⟨h1.ha,h1.hb⟩
theorem c855{m:qH}{p:qF}{bk:List qD}{a b:Nat}{x y:qC}(r:RO m p a b x y)(hb:jG bk=true)(hx:x.W.length<=1000)(hy:y.W.length<=1000)(hv:qi x y=7->0<=x.V)(hl:0<=x.L/\x.L<=8):Pure Gm 855 [.lst 1 (bk.map qD.enc) false,.ept m.enc 0,p.enc] (.tup [iI (zE bk x y).1,iI (zE bk x y).2]):=by
 obtain⟨ka,kb,u,v,h1,hc,h2⟩:=r.cls;obtain⟨ra,rb⟩:=r.at;refine pI F855 (by simp[AV.trees,AV.tree,go_sem,qb qD.isSh.tree]) rfl ?_;simp only[F855,qN,go_sem];refine qX rfl ?_;simp only[go_sem];refine qL (c971 h1) ?_;have e2:(if JL u v=true then AV.tup [iI (kb:Nat),iI (ka:Nat)]else .tup [iI (ka:Nat),iI (kb:Nat)])=.tup [iI (a:Nat),iI (b:Nat)]:=by
  rcases h2 with⟨hs,rfl,rfl,_,_⟩ | ⟨hs,rfl,rfl,_,_⟩<;>rw[hs]<;>rfl
 rw[e2];simp only[go_sem,gMp,ra,rb,oMs];have hw:u.W.length<=1048576/\v.W.length<=1048576:=by
  rcases h2 with⟨hs,_,_,rfl,rfl⟩ | ⟨hs,_,_,rfl,rfl⟩<;>omega
 refine qL (c969 h1 hw.1 hw.2) ?_;simp only[go_sem];change qi u v=qi x y at hc;rw[show zb (qZ u) (qZ v)=qi x y from hc];generalize hC:qi x y=C at hv;have nv:∀{r:Int×Int},zE bk x y=r->AV.tup [iI r.1,iI r.2]=.tup [iI (zE bk x y).1,iI (zE bk x y).2]:=λe=>by rw[e]
 by_cases c8:C=8
 ·subst c8;simp only[go_sem];exact zj (by rfl) (nv (by rw[zE,hC]))
 simp only[c8,decide_false,go_sem];by_cases c3:C=3
 ·subst c3;simp only[go_sem,jc (show-9223372036854775808<=3*(y.W.length:Int) by omega) (by omega),jc (show-9223372036854775808<=2+3*(y.W.length:Int) by omega) (by omega)];exact zj (by rfl) (nv (by rw[zE,hC]))
 simp only[c3,decide_false,go_sem];by_cases c4:C=4
 ·subst c4;simp only[go_sem];exact zj (by rfl) (nv (by rw[zE,hC]))
 simp only[c4,decide_false,go_sem];by_cases c5:C=5
 ·subst c5;simp only[go_sem];exact zj (by rfl) (nv (by rw[zE,hC]))
 simp only[c5,decide_false,go_sem];by_cases c6:C=6
 ·subst c6;simp only[go_sem,jc (show-9223372036854775808<=1+(x.W.length:Int) by omega) (by omega)];exact zj (by rfl) (nv (by rw[zE,hC]))
 simp only[c6,decide_false,go_sem];by_cases c7:C=7
 ·subst c7;have v0:=hv rfl;simp only[go_sem];by_cases q3:(bk.length:Int)<=x.V
  ·simp only[q3,go_sem];exact zj (by rfl) (nv (r:=(0,3)) (by rw[zE,hC];simp[q3]))
  have q3':x.V<bk.length:=by omega
  simp only[q3,decide_false,go_sem,Xk v0 q3'];have ot:=YR hb v0 q3';have tz:=ZI ot;refine qL (qkN (by omega)) ?_;simp only[go_sem];by_cases q9:8<IntKind.i64.wrap (hiI (qw bk x.V).G+x.L)
  ·simp only[q9,go_sem];exact zj (by rfl) (nv (r:=(0,9)) (by rw[zE,hC];simp[q3,q9]))
  simp only[q9,decide_false,go_sem];refine qL (qkM (by omega) ot) ?_;have hw1:W8 (qw bk x.V).G false<=1048576:=nLt (List.countP_le_length ..) (YY (by omega));have hw2:(qw bk x.V).G.length<=1048576:=by unfold qD.sz at tz;omega
  simp only[go_sem];rw[jc (show-9223372036854775808<=((qw bk x.V).G.length:Int)-1 by omega) (by omega),wsA];exact zj (by rfl) (nv (r:=(((qw bk x.V).G.length:Int)-1+(W8 (qw bk x.V).G false:Nat),0)) (by rw[zE,hC];simp[q3,q9]))
 simp only[c7,decide_false,go_sem];exact zj (by rfl) (nv (by rw[zE,hC,iN c8,iN c3,iN c4,iN c5,iN c6,iN c7]))
set_option maxHeartbeats 2000000
structure Ord(x y:qC):Prop where
 ox:qk (qZ x)=true
 oy:qk (qZ y)=true
 kx:qy x.K=true
 ky:qy y.K=true
 f:zt x.K x.L y.K y.L≠2
 h8:qi x y≠8
section
variable {x y:qC}
theorem qG5{k:Int}(h:qy k=true):k≠1:=by rintro rfl;cases h
theorem agp{c:qC}:(qZ c).P.length=c.W.length+1:=by simp[qZ]
theorem Ord.rule(o:Ord x y):zS x.K x.L y.K y.L=qi x y/\qi x y≠0/\¬(x.K=9/\y.K=10/\(y.D.length:Int)<=x.V):=ql5 (x:=qZ x) (y:=qZ y) o.ox o.oy (qG5 o.kx) (qG5 o.ky) o.f o.h8
theorem Ord.cls(o:Ord x y):1<=qi x y/\qi x y<=7:=by
 obtain⟨e,n0,_⟩:=o.rule;have:=(Zy (ka:=x.K) (la:=x.L) (kb:=y.K) (lb:=y.L)).2.2.2.2.2.2.2;omega
theorem Ord.wl(o:Ord x y):x.W.length<=3/\y.W.length<=3:=by
 have h1:=JZ o.ox;have h2:=JZ o.oy;rw[agp]at h1 h2;omega
theorem Ord.f12(o:Ord x y)(c:qi x y=1\/qi x y=2):x.W.length=2/\y.W.length=2:=by
 obtain⟨e,n0,n9⟩:=o.rule;obtain⟨r1,r2,_⟩:=Zy (ka:=x.K) (la:=x.L) (kb:=y.K) (lb:=y.L);have hk:(x.K=2/\y.K=3)\/(x.K=4/\y.K=4):=c.elim (λc=>.inl (r1 (e.trans c))) (λc=>.inr (r2 (e.trans c)));have h1:=Vo o.ox (show x.K=2\/x.K=3\/x.K=4\/x.K=7 by omega);have h2:=Vo o.oy (show y.K=2\/y.K=3\/y.K=4\/y.K=7 by omega);rw[agp]at h1 h2;omega
theorem Ord.f3(o:Ord x y)(c:qi x y=3):x.W.length=2/\inI x.L 0 8=true:=by
 obtain⟨e,n0,n9⟩:=o.rule;obtain⟨r1,r2,r3,_⟩:=Zy (ka:=x.K) (la:=x.L) (kb:=y.K) (lb:=y.L);have hk:=r3 (e.trans c);have h1:=Vo o.ox (show x.K=2\/x.K=3\/x.K=4\/x.K=7 by omega);rw[agp]at h1;exact⟨by omega,Vn o.ox (show jQ x.K=true by rw[hk];rfl)⟩
theorem Ord.f4(o:Ord x y)(c:qi x y=4):x.W=[]:=by
 obtain⟨e,n0,n9⟩:=o.rule;obtain⟨r1,r2,r3,r4,_⟩:=Zy (ka:=x.K) (la:=x.L) (kb:=y.K) (lb:=y.L);have hk:=r4 (e.trans c);have h1:=qCC o.ox (show x.K=5\/x.K=6\/x.K=12 by omega);rw[agp]at h1;exact lEz (by omega)
theorem Ord.f5(o:Ord x y)(c:qi x y=5):x.W=[]/\(y.K=7/\y.W.length=2\/y.K=8/\y.W.length=1/\y.D.length=1)/\inI x.V (-2147483648) 2147483647=true:=by
 obtain⟨e,n0,n9⟩:=o.rule;obtain⟨r1,r2,r3,r4,r5,_⟩:=Zy (ka:=x.K) (la:=x.L) (kb:=y.K) (lb:=y.L);obtain⟨k6,k78⟩:=r5 (e.trans c);have h1:=qCC o.ox (show x.K=5\/x.K=6\/x.K=12 by omega);rw[agp]at h1;refine⟨lEz (by omega), ?_,qp0 o.ox k6⟩;rcases k78 with k | k
 ·have h2:=Vo o.oy (show y.K=2\/y.K=3\/y.K=4\/y.K=7 by omega);rw[agp]at h2;exact .inl ⟨k,by omega⟩
 ·have h2:=qH4 o.oy (show y.K=8\/y.K=10\/y.K=11 by omega);rw[agp]at h2;have h3:=Zq o.oy;unfold z6 at h3;simp[qZ,k]at h3;exact .inr ⟨k,by omega,by omega⟩
theorem Ord.f6(o:Ord x y)(c:qi x y=6):y.W.length=1/\zw (JJ x y)/\zu 3 y.L=true/\(if y.K=10 then 0<=x.V/\x.V<y.D.length else y.D.length=2):=by
 obtain⟨e,n0,n9⟩:=o.rule;obtain⟨r1,r2,r3,r4,r5,r6,_⟩:=Zy (ka:=x.K) (la:=x.L) (kb:=y.K) (lb:=y.L);have hk:=r6 (e.trans c);have h2:=qH4 o.oy (show y.K=8\/y.K=10\/y.K=11 by omega);rw[agp]at h2;have l:=Vn o.oy (show jQ y.K=true by rcases hk with⟨_,q⟩ | ⟨_,q⟩<;>rw[q]<;>rfl);have rf:∀v,jv v=true->zw ⟨12,y.L,v,[],[]⟩:=λv hv=>.inl ⟨rfl,qp2 l hv⟩;have l3:zu 3 y.L=true:=by unfold zu;rw[iP (by decide)];exact l
 rcases hk with⟨k6,k11⟩ | ⟨k9,k10⟩
 ·obtain⟨d1,d2⟩:=qp4 o.oy k11;have d1':y.D.length=2:=d1;have d2':y.D.all jv=true:=d2;refine⟨by omega,rf _ ?_,l3,by rw[iN (by omega)];exact d1⟩;unfold chD;rw[iN (by omega)];split<;>exact qD9 d2' (by omega)
 ·have v9:=qpX o.ox k9;rw[Js]at v9;have v9':0<=x.V/\x.V<=3:=v9;have d2':y.D.all jv=true:=qpY o.oy k10;refine⟨by omega,rf _ ?_,l3,by rw[iP k10];omega⟩;unfold chD;rw[iP k10];exact qD9 d2' (by omega)
theorem Ord.f7(o:Ord x y)(c:qi x y=7):x.W=[]/\0<=x.V:=by
 obtain⟨e,n0,n9⟩:=o.rule;obtain⟨r1,r2,r3,r4,r5,r6,r7,_⟩:=Zy (ka:=x.K) (la:=x.L) (kb:=y.K) (lb:=y.L);have hk:=r7 (e.trans c);have h1:=qCC o.ox (show x.K=5\/x.K=6\/x.K=12 by omega);rw[agp]at h1;have hv:=qp3 o.ox (show x.K=12 from hk.1);unfold jv at hv;rw[Js]at hv;exact⟨lEz (by omega),hv.1⟩
end
def Xf(t:qD)(lev:Int)(m:qH)(b:Nat):qH:=
 let s:=tkA lev t.G m (t.G.length-1);let u:=tkV s.1 (qq t.G).length;let ks:=s.2.map Int.toNat
 wV (ovM u.1 (gkw ks (fW t.G (tW t.G b ks (u.2.map Int.toNat))))) (jV t.G b ks++j6 t.G b ks)
def zZ(bk:List qD)(m:qH)(a b:Nat)(x y:qC):qH×List qp:=
 if qi x y=7 then(Xf (qw bk x.V) x.L (qV m a) b,[])
 else if qi x y=1\/qi x y=2 then(qV (qV m a) b,[⟨x.W.getD 0 w0,y.W.getD 0 w0⟩,⟨x.W.getD 1 w0,y.W.getD 1 w0⟩])
 else if qi x y=3 then wc (qV (qV m a) b) x y
 else if qi x y=4 then zr (qV (qV m a) b) y y.W.length
 else if qi x y=5 then j5 (qV (qV m a) b) x y
 else if qi x y=6 then chM (qV (qV m a) b) x y
 else(qV (qV m a) b,[])
section
variable {bk:List qD} {m:qH} {a b:Nat} {x y:qC} {P:List qE} {O:Nat->Bool} {t:qD} {lev:Int}
theorem qB7{ks:List Nat}:(nI2 ks).map Int.toNat=ks:=by simp[nI2,List.map_map,Function.comp_def]
theorem qsY:ju false=z8:=by
 funext x;simp[ju,z8,Bool.and_comm]
theorem qKT{N:List qB}:W8 N false=(qq N).length:=by
 unfold W8 qq;rw[qsY,List.countP_eq_length_filter]
theorem WB.mem{ks vs:List Nat}(X:WB t lev m b P O ks vs):Xf t lev m b=wV (ovM (tkV (tkA lev t.G m (t.G.length-1)).1 (qq t.G).length).1 (gkw ks (fW t.G (tW t.G b ks vs)))) (jV t.G b ks++j6 t.G b ks):=by
 unfold Xf;simp only[X.i.at',X.j.at',qB7]
theorem qrB{c:qC}(h:m.C[b]?=some c)(n:a≠b):(qV m a).C[b]?=some c:=by
 unfold qV;simp only[iTn];rw[zd (Ne.symm n)];exact h
theorem qJF(ha:m.C[a]?=some x)(h0:x.K≠0):nF (qV m a).C=nF m.C+1:=by
 have:=Zn (c':=zq m.F) ha;rw[iN h0,iP (show (zq m.F).K=0 from rfl)]at this;unfold qV;simp only[iTn];omega
theorem qCV:(qV m a).C.length=m.C.length:=by simp[qV]
structure Pl(bk:List qD)(m:qH)(a b:Nat)(x y:qC)(P:List qE)(O:Nat->Bool):Prop where
 o:Ord x y
 hb:jG bk=true
 ne:a≠b
 ha:m.C[a]?=some x
 hy:(qV m a).C[b]?=some y
 oa:O a=false
 ob:O b=false
 n0:(zE bk x y).2=0
 nd:(zE bk x y).1<=(nF m.C:Int)+(if qi x y=7 then 1 else 2)
 h1:MM (qV m a) (x.W++(aW b::P)) O
 f1:nF (qV m a).C=nF m.C+1
 h2:MM (qV (qV m a) b) (x.W++y.W++P) O
 f2:nF (qV (qV m a) b).C=nF m.C+2
theorem Pl.of(o:Ord x y)(hb:jG bk=true)(h:MM m (aW a::aW b::P) O)(ha:m.C[a]?=some x)(hy:m.C[b]?=some y)(oa:O a=false)(ob:O b=false)(n0:(zE bk x y).2=0)(nd:(zE bk x y).1<=(nF m.C:Int)+(if qi x y=7 then 1 else 2)):Pl bk m a b x y P O:=by
 obtain⟨ne,-⟩:=MI.redex h;have r1:=MI.rel (Q:=[aW a]) (P:=aW b::P) h ha oa (Jt o.kx) (λw hw=>by rw[lMg.1 hw];rfl) (by rw[qDF o.kx];rfl);have e1:qV m a={m with C:=m.C.set a (zq m.F),F:=(a:Int)}:=by unfold qV;simp
 have h1:MM (qV m a) (x.W++(aW b::P)) O:=by rw[e1];exact r1
 have hy1:=qrB (a:=a) hy ne;have h1':MM (qV m a) ([aW b]++(x.W++P)) O:=MI.perm h1 List.perm_middle;have r2:=MI.rel (Q:=[aW b]) h1' hy1 ob (Jt o.ky) (λw hw=>by rw[lMg.1 hw];rfl) (by rw[qDF o.ky];rfl);have e2:qV (qV m a) b={qV m a with C:=(qV m a).C.set b (zq (qV m a).F),F:=(b:Int)}:=by rw[qV];simp
 have h2:MM (qV (qV m a) b) (x.W++y.W++P) O:=by
  rw[e2];refine MI.perm r2 ?_;rw[<-lAa];exact List.Perm.append_right P List.perm_append_comm
 have f1:=qJF ha (Jt o.kx);exact⟨o,hb,ne,ha,hy1,oa,ob,n0,nd,h1,f1,h2,by rw[qJF hy1 (Jt o.ky),f1]⟩
theorem Pl.need3(p:Pl bk m a b x y P O)(c:qi x y=3):2+3*y.W.length<=nF m.C+2:=by
 have:=p.nd;unfold zE at this;rw[c]at this;simp at this;omega
theorem Pl.need4(p:Pl bk m a b x y P O)(c:qi x y=4):y.W.length<=nF m.C+2:=by
 have:=p.nd;unfold zE at this;rw[c]at this;simp at this;omega
theorem Pl.need6(p:Pl bk m a b x y P O)(c:qi x y=6):1+x.W.length<=nF m.C+2:=by
 have:=p.nd;unfold zE at this;rw[c]at this;simp at this;omega
theorem Pl.need7(p:Pl bk m a b x y P O)(c:qi x y=7):0<=x.V/\x.V<bk.length/\zM (qw bk x.V)=true/\¬8<IntKind.i64.wrap (hiI (qw bk x.V).G+x.L)/\(qw bk x.V).G.length-1+(qq (qw bk x.V).G).length<=nF m.C+1:=by
 have h1:=p.n0;have h2:=p.nd;obtain⟨-,v0⟩:=p.o.f7 c;unfold zE at h1 h2;rw[c]at h1 h2;simp only[show ¬((7:Int)=8) by decide,show ¬((7:Int)=3) by decide,show ¬((7:Int)=4) by decide,show ¬((7:Int)=5) by decide,show ¬((7:Int)=6) by decide,if_false,if_true]at h1 h2;by_cases q3:(bk.length:Int)<=x.V
 ·rw[iP q3]at h1;cases h1
 rw[iN q3]at h1 h2;by_cases q9:8<IntKind.i64.wrap (hiI (qw bk x.V).G+x.L)
 ·rw[iP q9]at h1;cases h1
 rw[iN q9]at h2;simp only[qKT]at h2;have ot:=YR p.hb v0 (by omega);have:=ZH ot;exact⟨v0,by omega,ot,q9,by omega⟩
theorem Pl.exp(p:Pl bk m a b x y P O)(c:qi x y=7):∃ks vs,WB (qw bk x.V) x.L (qV m a) b P O ks vs:=by
 obtain⟨v0,v1,ot,n9,hf⟩:=p.need7 c;have h1:=p.h1;rw[(p.o.f7 c).1,lNa]at h1;have hl:=QF p.o.ox;exact qnE ot h1 (by rw[p.f1];exact hf) (qDD ot hl n9)
theorem qqD{g:Nat->Option (List qE)}{ps:List (Nat×Nat)}:(wV (ovM m g) ps).C.length=m.C.length:=by rw[(qJA ps).1,qCG]
theorem qCL(p:Pl bk m a b x y P O):MM (zZ bk m a b x y).1 (lws (zZ bk m a b x y).2++P) O/\(zZ bk m a b x y).1.C.length=m.C.length:=by
 have hl2:(qV (qV m a) b).C.length=m.C.length:=by rw[qCV,qCV]
 have hc:=p.o.cls;unfold zZ;by_cases c7:qi x y=7
 ·rw[iP c7];obtain⟨ks,vs,X⟩:=p.exp c7;rw[X.mem];exact⟨X.mm,by rw[qqD,X.j.cl,X.i.cl,qCV]⟩
 rw[iN c7];by_cases c12:qi x y=1\/qi x y=2
 ·rw[iP c12];obtain⟨w1,w2⟩:=p.o.f12 c12;refine⟨MI.perm p.h2 ?_,hl2⟩;rw[Qq w1,Qq w2,List.perm_iff_count];intro z;simp only[lws,List.count_append,List.count_cons,List.count_nil,List.getD_cons_zero,List.getD_cons_succ];omega
 rw[iN c12];by_cases c3:qi x y=3
 ·rw[iP c3];obtain⟨w1,w2⟩:=p.o.f3 c3;obtain⟨d1,d2,_⟩:=qBC p.h2 p.o.ky (.inl ⟨p.o.ky,p.o.oy⟩) w1 w2 (by rw[p.f2];exact p.need3 c3);exact⟨d1,by rw[d2];exact hl2⟩
 rw[iN c3];by_cases c4:qi x y=4
 ·rw[iP c4];have h2:=p.h2;rw[p.o.f4 c4,lNa]at h2;obtain⟨d1,d2,d3⟩:=qBE h2 (by rw[p.f2];exact p.need4 c4) y.W.length (nLr _);rw[List.drop_length,lAn]at d1;exact⟨d1,by rw[d3];exact hl2⟩
 rw[iN c4];by_cases c5:qi x y=5
 ·rw[iP c5];obtain⟨w1,w2,w3⟩:=p.o.f5 c5;have h2:=p.h2;rw[w1,lNa]at h2;obtain⟨d1,d2⟩:=qp8 h2 (by rw[p.f2];omega) (.inl ⟨p.o.ky,p.o.oy⟩) (w2.imp id λq=>⟨q.1,q.2.1⟩) w3;exact⟨d1,by rw[d2];exact hl2⟩
 rw[iN c5];have c6:qi x y=6:=by omega
 rw[iP c6];obtain⟨w1,w2,w3,w4⟩:=p.o.f6 c6;obtain⟨d1,d2⟩:=ql1 p.h2 (by rw[p.f2];exact p.need6 c6) w1 w2 w3;exact⟨d1,by rw[d2];exact hl2⟩
end
section
variable {xs:Ags} {f:qB->qB} {q p:qI} {lev:Int}
structure MpF(f:qB->qB):Prop where
 p:∀x,(f x).P=x.P
 k:∀x,(f x).K=x.K
theorem qHQ(h:MpF f){a:Int}:jA (xs.map f) a=jA xs a:=by
 unfold jA;rw[gMp];cases xs[a.toNat]? with
 | none=>rfl
 | some x=>simp[h.p]
theorem qHP(h:MpF f):Ji (xs.map f) q=Ji xs q:=by
 unfold Ji;rw[gMp];cases xs[q.N.toNat]? with
 | none=>rfl
 | some x=>simp[h.p]
theorem qHS(h:MpF f):qR (xs.map f) q=qR xs q:=by unfold qR;rw[qHP h]
theorem qB6(h:MpF f):∀i,zB (xs.map f) i=zB xs i
 | 0=>rfl
 | i+1=>by rw[zB,zB,qB6 h i,qHQ h]
theorem qpF(h:MpF f):zJ (xs.map f)=zJ xs:=by
 unfold zJ wrs;rw[qB6 h,lMp];have e:∀p,qR (xs.map f) p=qR xs p:=λp=>qHS h;simp only[e]
theorem qpD(h:MpF f):qq (xs.map f)=qq xs:=by unfold qq;rw[qpF h]
theorem qHR(h:MpF f):∀i,zI (xs.map f) i=zI xs i
 | 0=>rfl
 | i+1=>by
  rw[zI,zI,qHR h i];unfold Jb;rw[gMp];cases xs[i+1]? with
  | none=>rfl
  | some x=>simp[h.p,h.k]
theorem qpE(h:MpF f)(ok:zM ⟨xs⟩=true)(ha:∀x∈xs,qk (f x)=true):zM ⟨xs.map f⟩=true:=by
 unfold zM at ok|-;simp only[bAt]at ok|-;obtain⟨h1,h2⟩:=ok;have w:∀(qs:List qI)(i k:Nat),wY (xs.map f) i qs k=wY xs i qs k:=by
  intro qs
  induction qs with
  | nil=>intro i k;rfl
  | cons q qs ih=>
   intro i k;rw[wY,wY,ih];unfold wX wU;rw[qHP h,qHQ h,lMp]
 have n:∀(r:Ags)(i:Nat),w5 (xs.map f) (r.map f) i=w5 xs r i:=by
  intro r
  induction r with
  | nil=>intro i;rfl
  | cons x r ih=>intro i;rw[lMc,w5,w5,ih,w,h.p]
 have g:∀(r:Ags)(i:Nat),(∀x∈r,qk (f x)=true)->jX r i=true->jX (r.map f) i=true:=by
  intro r
  induction r with
  | nil=>intro i _ _;rfl
  | cons x r ih=>
   intro i hr q;rw[jX]at q;simp only[bAt]at q;rw[lMc,jX,h.k,hr x (.head _),q.1.2,ih _ (λy hy=>hr y (.tail _ hy)) q.2];rfl
 refine⟨?_,by rw[n];exact h2⟩;unfold wL at h1|-;simp only[bAt]at h1|-;rw[lMp];exact⟨h1.1,g xs 0 ha h1.2⟩
theorem ZG:MpF (lvA lev):=⟨λx=>by unfold lvA;split<;>rfl,λx=>by unfold lvA;split<;>rfl⟩
def dP(N:Ags)(i:Nat):qI->Bool:=λq=>onW (qq N) q || ((qo N).take i).any λp=>decide (q=p)&&(decide (0<p.S)&&decide ((qR N p).S=0))
theorem qmN:dP xs 0=onW (qq xs):=by funext q;simp[dP]
theorem qmM{i:Nat}(h:(qo xs)[i]?=some p)(h1:0<p.S)(h2:(qR xs p).S=0):dP xs (i+1)=jW (dP xs i) p:=by
 funext q;simp only[dP,jW];rw[tA1,h,Option.toList_some,List.any_append];simp only[List.any_cons,List.any_nil,Bool.or_false,h1,h2,decide_true,Bool.and_true];cases decide (q=p)<;>simp
theorem qmL{i:Nat}(h:(qo xs)[i]?=some p)(h1:¬(0<p.S/\(qR xs p).S=0)):dP xs (i+1)=dP xs i:=by
 funext q;simp only[dP];rw[tA1,h,Option.toList_some,List.any_append];have:(decide (0<p.S)&&decide ((qR xs p).S=0))=false:=by rw[Bool.eq_false_iff];simpa using h1
 simp only[List.any_cons,List.any_nil,Bool.or_false,this,Bool.and_false]
theorem qmK(hW:W xs λ_ _=>False){a s:Nat}(h:Has xs a s)(hs:0<s):dP xs (qo xs).length (pt a s)=true:=by
 have hm:=JO.2 ⟨a,s,rfl,h⟩;have Q:=jq hW hm;have s0:0<(pt a s).S:=by simp only[pt];omega
 simp only[dP,lTl,Bool.or_eq_true];by_cases q:(qR xs (pt a s)).S=0
 ·exact .inr (List.any_eq_true.2 ⟨pt a s,hm,by simp only[q,s0,decide_true,Bool.and_self]⟩)
 ·refine .inl ?_;have sp:=Wx Q.m;unfold onW;rw[List.any_eq_true];cases hb:bef (pt a s) (qR xs (pt a s))
  ·refine⟨⟨qR xs (pt a s),pt a s⟩,WX.2 ⟨Q.m,Q.pp.symm, ?_,by simp only;omega,s0⟩,by simp⟩;have:=XO Q.ne.symm;rw[hb]at this;simpa using this
  ·exact⟨⟨pt a s,qR xs (pt a s)⟩,WX.2 ⟨hm,rfl,hb,s0,by simp only;omega⟩,by simp⟩
theorem qoX{t:qD}(ok:zM t=true)(hl:0<=lev/\lev<=8)(n9:¬8<IntKind.i64.wrap (hiI t.G+lev)):zM ⟨t.G.map (lvA lev)⟩=true:=by
 refine qpE ZG ok λx hx=>?_;have oa:=J4 (Qg ok) x hx;have h1:=(V7 ok hl).2 n9;have h2:=lAt.1 h1 x hx;rw[<-qjV (qr8 (lev:=lev) (d:=0) (z:=x))];refine qH5 oa λq=>?_;have h3:=Vn oa q;unfold wR at h2;simp only[inI,bAt,dTe]at h3|-;simp[q]at h2;omega
theorem qoY{t:qD}(ok:zM t=true)(hl:0<=lev/\lev<=8)(n9:¬8<IntKind.i64.wrap (hiI t.G+lev)):JK t lev=(⟨t.G.map (lvA lev)⟩,true):=by
 unfold JK;rw[iP ((V7 ok hl).2 n9)]
theorem qoW{x:qB}:(⟨(lvA lev x).K,(lvA lev x).L,(lvA lev x).V,(lvA lev x).D,List.replicate ((lvA lev x).P.length-1) w0⟩:qC)=agC lev x:=by
 unfold lvA agC;split<;>rfl
end
def O0:Nat->Bool:=λ_=>false
def Wp(m:qH)(p:qF):Nat×Nat:=if JL (za m p.A) (za m p.B)=true then(p.B.toNat,p.A.toNat)else(p.A.toNat,p.B.toNat)
def unR(m:qH)(k:Nat):qH:={m with R:=m.R.take k++m.R.drop (k+1)}
def JE(c:Int):Int:=if c=7 then 1 else 2
def doM(bk:List qD)(m:qH)(k:Nat):qH×Int×Int:=
 let o:=Wp m (m.R.getD k ⟨0,0⟩);let x:=za m (o.1:Nat);let y:=za m (o.2:Nat)
 if (zE bk x y).2≠0 then(m,0,(zE bk x y).2)
 else if (nF m.C:Int)+JE (qi x y)<(zE bk x y).1 then(m,0,4)
 else(JW (zZ bk (unR m k) o.1 o.2 x y).1 (zZ bk (unR m k) o.1 o.2 x y).2,qi x y,0)
def QE(bk:List qD)(m:qH)(k:Nat):Int×Int:=zE bk (za m ((Wp m (m.R.getD k ⟨0,0⟩)).1:Nat)) (za m ((Wp m (m.R.getD k ⟨0,0⟩)).2:Nat))
structure RD(m:qH)(k:Nat)(p:qF)(a b:Nat)(x y:qC):Prop where
 at':m.R[k]?=some p
 ro:RO m p a b x y
 kx:qy x.K=true
 ky:qy y.K=true
 f:zt x.K x.L y.K y.L≠2
 mm:MM (unR m k) [aW a,aW b] O0
 eo:Wp m p=(a,b)
section
variable {bk:List qD} {m:qH} {k a b:Nat} {p:qF} {x y:qC}
theorem YF{P:List qE}{O:Nat->Bool}(h:MM m P O):m.R.length<=m.C.length:=by
 have nn:∀q∈m.R,∃k:Nat,q.A=(k:Int)/\k<m.C.length:=λq hq=>by
  obtain⟨_,⟨k,c,e,hc,_⟩,_⟩:=h.pr q hq;exact⟨k,e,zO hc⟩
 have nd:(m.R.map λq=>q.A.toNat).Nodup:=by
  rw[List.nodup_iff_count];intro k;by_cases hk:k<m.C.length
  ·have e:=h.occ k _ (gEg hk);have w:zU m.C[k]<=2:=by
    unfold zU;split
    ·omega
    ·split<;>omega
   rw[List.count_eq_countP,List.countP_map];have hle:m.R.countP ((λz=>z==k)∘λq=>q.A.toNat)<=m.R.countP (λq=>decide (q.A=(k:Int))):=by
    refine List.countP_mono_left λq hq z=>?_;obtain⟨j,e1,_⟩:=nn q hq;simp only[Function.comp_apply,bIe]at z;simp only[dTe];omega
   refine nLt hle ?_;by_cases h0:0<m.R.countP λq=>decide (q.A=(k:Int))
   ·obtain⟨q,hq,z⟩:=List.countP_pos_iff.1 h0;simp only[dTe]at z;obtain⟨_,⟨j,c,e1,hc,h3⟩,_⟩:=h.pr q hq;have:j=k:=by simp only at e1;omega
    subst this;rw[gEg hk]at hc;have ek:qy m.C[j].K=true:=by
     rw[Option.some.inj hc];rcases h3 with⟨_,q⟩ | ⟨q,_⟩
     ·exact q
     ·cases q
    rw[qDF ek]at e;unfold cr at e;omega
   ·omega
  ·rw[List.count_eq_zero.2 λz=>?_];omega;obtain⟨q,hq,e⟩:=List.mem_map.1 z;obtain⟨j,e1,e2⟩:=nn q hq;omega
 have hs:∀z∈m.R.map (λq=>q.A.toNat),z∈List.range m.C.length:=λz hz=>by
  obtain⟨q,hq,e⟩:=List.mem_map.1 hz;obtain⟨j,e1,e2⟩:=nn q hq;rw[lMr];omega
 have:=nd.length_le_of_subset hs;simpa using this
theorem qnG{a b c d:Int}(h:zt a b c d=2):zt c d a b≠2:=by
 unfold zt at h|-;rw[qIJ];by_cases h1:wG a b c d=true
 ·rw[iP h1]at h|-;by_cases h2:zS a b c d≠0
  ·rw[iP h2]at h;cases h
  ·rw[iN h2]at h;by_cases h3:zS c d a b≠0
   ·rw[iP h3];decide
   ·rw[iN h3]at h;cases h
 ·rw[iN h1]at h;cases h
theorem X9(h:MM m [] O0)(hk:k<m.R.length):∃p a b x y,RD m k p a b x y:=by
 have hp:=gEg hk;generalize m.R[k]=p at hp;obtain⟨_,⟨ka,u,e1,e2,e3⟩,⟨kb,v,f1,f2,f3⟩⟩:=h.pr p (lMo hp);simp only at e1 e3 f1 f3;have ku:qy u.K=true:=e3.elim (·.2) λq=>by cases q.1
 have kv:qy v.K=true:=f3.elim (·.2) λq=>by cases q.1
 have ou:=agf ku (h.form ka u e2 rfl);have ov:=agf kv (h.form kb v f2 rfl);have er:m.R=m.R.take k++p::m.R.drop (k+1):=by
  have h1:=gSi.1 hp;obtain⟨h1,h2⟩:=h1;rw[<-h2,<-lDc h1,List.take_append_drop]
 have h2:MI m.C m.F m.O (m.R.take k++p::m.R.drop (k+1)) [] O0:=by rw[<-er];exact h
 have h3:=MI.unredex h2;have ea:(⟨1,p.A⟩:qE)=aW ka:=by rw[e1];rfl
 have eb:(⟨1,p.B⟩:qE)=aW kb:=by rw[f1];rfl
 rw[ea,eb]at h3;have cu:za m p.A=u:=by rw[e1];exact Je e2
 have cv:za m p.B=v:=by rw[f1];exact Je f2
 cases hs:JL u v
 ·refine⟨p,ka,kb,u,v,hp,⟨⟨ka,kb,u,v,⟨e1,f1,e2,f2⟩,.inr ⟨hs,rfl,rfl,rfl,rfl⟩⟩,ou,ov⟩,ku,kv,λe=>?_,h3, ?_⟩
  ·unfold JL at hs;rw[e]at hs;cases hs
  ·unfold Wp;rw[cu,cv,hs,e1,f1];simp
 ·refine⟨p,kb,ka,v,u,hp,⟨⟨ka,kb,u,v,⟨e1,f1,e2,f2⟩,.inl ⟨hs,rfl,rfl,rfl,rfl⟩⟩,ov,ou⟩,kv,ku, ?_,MI.perm h3 (List.Perm.swap _ _ _), ?_⟩
  ·unfold JL at hs;exact qnG (by simpa using hs)
  ·unfold Wp;rw[cu,cv,hs,e1,f1];simp
theorem RD.cell(r:RD m k p a b x y):za m (a:Nat)=x/\za m (b:Nat)=y:=⟨Je r.ro.at.1,Je r.ro.at.2⟩
theorem RD.get(r:RD m k p a b x y):m.R.getD k ⟨0,0⟩=p:=by rw[lGd,r.at'];rfl
theorem RD.need(r:RD m k p a b x y):QE bk m k=zE bk x y:=by
 unfold QE;rw[r.get,r.eo,r.cell.1,r.cell.2]
theorem RD.do(r:RD m k p a b x y):doM bk m k=if (zE bk x y).2≠0 then(m,0,(zE bk x y).2)else if (nF m.C:Int)+JE (qi x y)<(zE bk x y).1 then(m,0,4)
  else(JW (zZ bk (unR m k) a b x y).1 (zZ bk (unR m k) a b x y).2,qi x y,0):=by
 unfold doM;rw[r.get,r.eo];simp only[r.cell.1,r.cell.2]
theorem qB8(h:qi x y=8):(zE bk x y).2=11:=by unfold zE;rw[iP h]
theorem RD.pl(r:RD m k p a b x y)(hb:jG bk=true)(h0:(zE bk x y).2=0)(hn:¬(nF m.C:Int)+JE (qi x y)<(zE bk x y).1):Pl bk (unR m k) a b x y [] O0:=by
 have h8:qi x y≠8:=λe=>by have:=qB8 (bk:=bk) e;omega
 exact Pl.of ⟨r.ro.ox,r.ro.oy,r.kx,r.ky,r.f,h8⟩ hb r.mm r.ro.at.1 r.ro.at.2 rfl rfl h0 (by unfold JE at hn;unfold unR;simp only;omega)
theorem RD.ok(r:RD m k p a b x y)(hb:jG bk=true)(hm:MM m [] O0):MM (doM bk m k).1 [] O0/\(doM bk m k).1.C.length=m.C.length:=by
 rw[r.do];by_cases h0:(zE bk x y).2=0
 ·rw[iN (by omega)];by_cases hn:(nF m.C:Int)+JE (qi x y)<(zE bk x y).1
  ·rw[iP hn];exact⟨hm,rfl⟩
  ·rw[iN hn];obtain⟨p1,p2⟩:=qCL (r.pl hb h0 hn);obtain⟨q1,q2,_⟩:=qBY _ p1;exact⟨q1,by rw[q2,p2];rfl⟩
 ·rw[iP h0];exact⟨hm,rfl⟩
end
section
variable {w mid cid k:Nat} {post cs:List AV} {ow ow' ow1 ow2:Nat->Nat} {h h' h1 h2 h3:List qA} {m:qH} {rv v v' dv wv:AV} {c c':qC} {P:List qE} {O:Nat->Bool} {x y a b:qE} {ws:List qE}
theorem qEB{Pr:Nat->Prop}{w:Nat}{el:List AV}{ck:List qG}{E:Ev}{l:List qG}{ks:List Fr1}{s m:qt}{Q:qn->VSt->Prop}{k id2:Nat}{c2:Bool}{x:AV}(ho:LsW Pr w h v el)(h2:h[id2]?=some (.row w [x] true))(hl:el.length<4000000000)
  (hr:∀h3,Up (λj=>Pr j/\v=sQ w j el.length) h h3->h3[h.length]?=some (.row w (el++[x]) true)->h3.length=h.length+1->ckVs ⟨(k,sQ w h.length (el.length+1))::s,m,h3⟩ ck/\R E (.ops l::ks) ⟨(k,sQ w h.length (el.length+1))::s,m,h3⟩ Q):ZT E ck w (some k) (some v) (some (.slice w id2 0 1 c2)) l ks ⟨s,m,h⟩ Q:=by
 rcases ho with⟨rfl,rfl⟩ | ⟨id,q1,rfl,q3⟩
 ·obtain⟨a1,a2⟩:=hr (h++[qA.row w [x] true]) (Up.app _) (by simp) (by simp);exact qjY (ys:=[x]) (Els.row h2 rfl) (by simp) a1 a2
 ·obtain⟨a1,a2⟩:=hr (h.set id .dead++[qA.row w (el++[x]) true]) ((Up.set (id:=id)).trans (Up.app _ (S:=λj=>j=id)) (λ_ _ q=>q) |>.w λj _ e=>⟨by rw[e];exact q1,by rw[e]⟩) (by rw[gAr (by simp)];simp) (by simp);exact qjZ (ys:=[x]) (Els.row h2 rfl) q3 rfl (by simp;omega) a1 a2
theorem MO.appW{id:Nat}{x:qE}{wv':AV}(M:MO w mid post ow h m cid cs rv)(hc:m.C[k]?=some c)(hk:cs[k]?=some (cE c dv wv))(hd:LsW (λj=>ow j=k+3) 1 h dv (c.D.map qQ))(hw:LsW (λj=>ow j=k+3) 2 h wv (c.W.map qE.enc))
  (u:Up (λj=>ow j=k+3/\wv=.slice 2 j 0 (c.W.map qE.enc).length false) h h3) (hi:h.length<=id) (hr:h3[id]?=some (.row 2 ((c.W++[x]).map qE.enc) true)) (hv:wv'=.slice 2 id 0 (c.W++[x]).length false):
  ∃ow',MO w mid post ow' (h3.set cid (.row 5 (cs.set k (cE c dv wv')) true)) {m with C:=m.C.set k {c with W:=c.W++[x]}} cid (cs.set k (cE c dv wv')) rv/\Fo ow h ow' (h3.set cid (.row 5 (cs.set k (cE c dv wv')) true)):=by
 have hcl:=qz M.c;have hne:id≠cid:=by omega
 refine⟨_,M.cell (h':=h3.set cid (.row 5 (cs.set k (cE c dv wv')) true)) (c':={c with W:=c.W++[x]}) (λj=>(j<h.length/\ow j=k+3)\/j=id) hc (gSs (nLl hcl u.1)) (by rw[lLs];exact u.1) (λj hj h0 hcj hk=>?_) (λj t=>?_) ⟨dv,wv',rfl, ?_, ?_⟩,qCI (λj hj h0 _=>?_) (by rw[lLs];exact u.1) (λj t hj=>?_)⟩
 ·rw[sne hcj,gEg hj];exact u.at (gEg hj) λq=>hk q.1
 ·rw[lLs];rcases t with⟨t1,t2⟩ | t
  ·exact⟨nLl t1 u.1,.inr (.inr t2)⟩
  ·rw[t];exact⟨qz hr,.inl hi⟩
 ·rcases hd with q | ⟨d,d1,d2,d3⟩
  ·exact .inl q
  ·refine .inr ⟨d,.inl ⟨qz d3,d1⟩,d2, ?_⟩;rw[sne λe=>by subst e;rw[M.c1]at d1;omega];refine u.at d3 λq=>?_;rcases hw with⟨e,_⟩ | ⟨i,_,e,i3⟩
   ·rw[e]at q;cases q.2
   ·have q2:=q.2;rw[e]at q2;injection q2 with _ q2;subst q2;rw[d3]at i3;cases i3
 ·exact .inr ⟨id,.inr rfl,by rw[lMp];exact hv,by rw[sne hne];exact hr⟩
 ·rw[sne (λe=>by subst e;rw[M.c1]at h0;omega),gEg hj];exact u.at (gEg hj) λq=>by have:=q.1;omega
 ·rcases t with⟨_,t⟩ | t
  ·exact t
  ·omega
theorem qoP{s m:qt}{h:List qA}{sh:Option Nat}{p:Nat}:wo (.load sh (.t p)) ⟨s,m,h⟩=Xs h sh (get s p):=by
 simp only[wo,val];have e:ev (toE s) (.t p)=get s p:=rfl;rw[e];cases get s p with
 | none=>rfl
 | some v=>
  cases v<;>try rfl
  rename_i id i j;simp only[Xs,toH];cases h[id]? with
  | none=>rfl
  | some o=>
   cases o<;>try rfl
   rename_i w el rw';simp only[ZJ];cases el[i]?<;>rfl
theorem J7{s m:qt}{h:List qA}{i d p id j k:Nat}{sh:Option Nat}{v:AV}(h1:get s d=some v)(h2:get s p=some (.ptr id j k))(h3:ZJ sh k j h[id]?=some v)(h4:v.rigid):ckV ⟨s,m,h⟩ (.mk i (some d) none (.load sh (.t p)) []):=by
 refine⟨rfl,v,h1, ?_,h4⟩;rw[qoP,h2];exact h3
end
section
variable {P:List qE} {O:Nat->Bool}
structure FanT(s:qH×List qE×List qE×List qp)(lev:Int)(ck dk f g e:Nat):Prop where
 f0:∃d,s.1.C[f]?=some d
 ff:s.1.F=(f:Int)
 g0:∃d,(qW s.1 ⟨4,lev,0,[],[]⟩).C[g]?=some d
 gf:(qW s.1 ⟨4,lev,0,[],[]⟩).F=(g:Int)
 e0:∃d,(qW (qW s.1 ⟨4,lev,0,[],[]⟩) (qg [])).C[e]?=some d
 ef:(qW (qW s.1 ⟨4,lev,0,[],[]⟩) (qg [])).F=(e:Int)
 fc:f≠ck/\f≠dk
 gc:g≠ck/\g≠dk
 ec:e≠ck/\e≠dk
 cf:(qW (qW (qW s.1 ⟨4,lev,0,[],[]⟩) (qg [])) (qg [])).C[f]?=some ⟨4,lev,0,[],[]⟩
 eq:∀w,QX lev s w=(qr (qW (qW (qW s.1 ⟨4,lev,0,[],[]⟩) (qg [])) (qg [])) (f:Int) [vW g,vW e],s.2.1++[vW g],s.2.2.1++[vW e],s.2.2.2++[⟨w,aW f⟩])
theorem qF6{m0:qH}{y:qC}{lev:Int}{ck dk i:Nat}{s:qH×List qE×List qE×List qp}(hy:qy y.K=true)(h:ZV m0 y P O ck dk s i)(hf:2<nF s.1.C):∃f g e,FanT s lev ck dk f g e:=by
 obtain⟨mm,us,vs,c1,c2,nf,len⟩:=h;obtain⟨f,f1,f2,f3⟩:=Qn (c:=⟨4,lev,0,[],[]⟩) mm (by omega) rfl;have k4:(⟨4,lev,0,[],[]⟩:qC).K≠0:=by simp
 have n1:=f2.nf k4;obtain⟨u,u1,u2,u3⟩:=YP f3 (by omega);have n2:=u2.nf (by decide);obtain⟨v,v1,v2,v3⟩:=YP u3 (by omega);have hk0:(zg y).K≠0:=by intro q;unfold zg at q;simp only at q;rw[q]at hy;cases hy
 have a1:=f2.keep c1 hk0;have a2:=f2.keep c2 hk0;have b1:=u2.keep a1.1 hk0;have b2:=u2.keep a2.1 hk0;have d1:=v2.keep b1.1 hk0;have d2:=v2.keep b2.1 hk0;obtain⟨x1,x2,_⟩:=f2.old;obtain⟨y1,y2,_⟩:=u2.old;obtain⟨z1,z2,_⟩:=v2.old;have e1:s.1.F=(f:Int):=f2.fr;have e2:(qW s.1 ⟨4,lev,0,[],[]⟩).F=(u:Int):=u2.fr;have e3:(qW (qW s.1 ⟨4,lev,0,[],[]⟩) (qg [])).F=(v:Int):=v2.fr;refine⟨f,u,v,⟨x1,x2⟩,e1,⟨y1,y2⟩,e2,⟨z1,z2⟩,e3,⟨Ne.symm a1.2,Ne.symm a2.2⟩,⟨Ne.symm b1.2,Ne.symm b2.2⟩,⟨Ne.symm d1.2,Ne.symm d2.2⟩,(v2.keep (u2.keep f2.new k4).1 k4).1,λw=>?_⟩;unfold QX;simp only[e1,e2,e3];rfl
theorem qBB{m:qH}{x y:qC}{i:Nat}(h:i<y.W.length):zR m x y (i+1)=QX x.L (zR m x y i) y.W[i]:=by
 unfold zR;rw[tA1,gEg h,Option.toList_some,List.foldl_append];rfl
theorem qF0{m:qH}{x y:qC}{ck dk:Nat}(h1:m.F=(ck:Int))(h2:(qW m (zg y)).F=(dk:Int)):wc m x y=(two (zR m x y y.W.length).1 ck dk (zR m x y y.W.length).2.1 (zR m x y y.W.length).2.2.1,(zR m x y y.W.length).2.2.2):=by
 unfold wc two;rw[h1,h2]
end
section
variable {w mid cid k:Nat} {post cs:List AV} {ow ow' ow1 ow2:Nat->Nat} {h h' h1 h2 h3:List qA} {m:qH} {rv v v' dv wv:AV} {c c':qC} {P:List qE} {O:Nat->Bool}
theorem YG(M:MH w mid post ow h m)(hf:m.F=(k:Nat))(hc:∃d,m.C[k]?=some d)(c:qC)(h1:c.D=[])(h2:c.W=[]):SCall Gm 1282 [.ptr mid 0 0,cE c .nils .nils] h (λr h'=>r=iI (k:Nat)/\∃ow',MH w mid post ow' h' (qW m c)/\Fo ow h ow' h'):=by
 obtain⟨d,hc⟩:=hc;refine SCall.mono (Wv M hf hc (c':=c) (T:=λ_=>False) (λ_ t=>t.elim) ⟨.nils,.nils,rfl,.inl ⟨rfl,by rw[h1];rfl⟩,.inl ⟨rfl,by rw[h2];rfl⟩⟩) ?_;rintro r h' ⟨e,ow',a,b,_⟩;exact⟨e,ow',a,b.fo λ_ _ _ t=>t⟩
theorem qBW:∀(xs:List Int)(n:Nat),qO (xs.map qQ) n=(xs.map qQ,[])
 |[],n=>rfl
 | x::xs,n=>by
  rw[lMc,qO];have e:lay (qQ x) n=(qQ x,[]):=rfl;rw[e];simp only[lNi,nAz,lNa,qBW xs n]
theorem Q7{xs:List Int}{n:Nat}:lay (lQ xs) n=(sQ 1 n xs.length,[.row 1 (xs.map qQ) true]):=by
 rw[lay,qBW,lMp]
theorem MH.intro{cid:Nat}{cs:List AV}{rv:AV}(M:MO w mid post ow h m cid cs rv):MH w mid post ow h m:=⟨_,_,_,M⟩
theorem qKB{cid:Nat}{cs:List AV}{dv wv:AV}{E:Ev}{l:List qG}{ks:List Fr1}{s l':qt}{Q:qn->VSt->Prop}{wv':AV}(hm:h[cid]?=some (.row 5 cs true))(hk:cs[k]?=some (cE c dv wv))(hv:wv'.cells=[wv'])(hr:R E (.ops l::ks) ⟨s,l',h.set cid (.row 5 (cs.set k (cE c dv wv')) true)⟩ Q):Sto E 1 (some (.ptr cid k 4)) (some wv') l ks ⟨s,l',h⟩ Q:=zX (by rw[hv];rfl) hm hk (qAR hv) hr
structure Bx(ow:Nat->Nat)(h:List qA)(xid:Nat)(x:qC):Prop where
 ex:∃dv wv,h[xid]?=some (.row 5 [cE x dv wv] true)/\LsW (λj=>ow j=0) 1 h dv (x.D.map qQ)/\LsW (λj=>ow j=0) 2 h wv (x.W.map qE.enc)
 o:ow xid=0
theorem Bx.fo{xid:Nat}{x:qC}(b:Bx ow h xid x)(f:Fo ow h ow' h'):Bx ow' h' xid x:=by
 obtain⟨⟨dv,wv,e1,e2,e3⟩,o⟩:=b;refine⟨⟨dv,wv,(f.at e1 o).1,e2.mono λj hj q=>?_,e3.mono λj hj q=>?_⟩,(f.at e1 o).2⟩
 ·exact f.k j hj q
 ·exact f.k j hj q
theorem LsW.two{w:Nat}{Q:Nat->Prop}{a b:AV}(x:LsW Q w h v [a,b]):∃id,Q id/\v=sQ w id 2/\h[id]?=some (.row w [a,b] true):=by
 rcases x with⟨_,q⟩ | x
 ·cases q
 ·exact x
theorem Q4{w id:Nat}{cl:Bool}{k:IntKind}:idx w (some (.slice w id 0 2 cl)) (some (.int k 0))=some (.ptr id 0 0):=Xm (by omega) (by omega)
theorem WW{w id:Nat}{cl:Bool}{k:IntKind}:idx w (some (.slice w id 0 2 cl)) (some (.int k 1))=some (.ptr id 1 0):=Xm (by omega) (by omega)
theorem Y0(M0:qH)(x y:qC):∀i:Nat,(zR M0 x y i).2.2.2.length=2+(y.W.take i).length
 | 0=>by simp[zR]
 | i+1=>by
  have ih:=Y0 M0 x y i;by_cases h:i<y.W.length
  ·rw[qBB h];simp only[QX,lAp,lCo,lNi,ih,lLt];omega
  ·have e:y.W.take (i+1)=y.W.take i:=by rw[tOl (by omega),tOl (by omega)]
   unfold zR at ih|-;rw[e];exact ih
theorem qI3(hc:m.C[k]?=some c)(hw:c.W=[]):qr m (k:Int) []=m:=by
 rw[j7 hc];have e:({c with W:=[]}:qC)=c:=by rw[<-hw]
 rw[e];refine Yp (λj=>?_) rfl rfl rfl;simp only;by_cases q:j=k
 ·subst q;rw[jT hc,hc]
 ·rw[zd q]
theorem qrS{xid yid:Nat}{x y:qC}(M:MH w mid post ow h m)(bx:Bx ow h xid x)(by_:Bx ow h yid y)(mm:MM m (x.W++y.W++P) O)(hy:qy y.K=true)(hyF:zw y)(hxw:x.W.length=2)(hyw:y.W.length<=1000)(hyd:y.D.length<=1000)(hl:inI x.L 0 8=true)(hf:2+3*y.W.length<=nF m.C):
  SCall Gm 1281 [.ptr mid 0 0,.ptr xid 0 0,.ptr yid 0 0] h (λv h'=>∃ow',MH w mid post ow' h' (wc m x y).1/\Fo ow h ow' h'/\∃id,v=.slice 4 id 0 (wc m x y).2.length false/\h'[id]?=some (.row 4 ((wc m x y).2.map qp.enc) true)/\ow' id=0):=by
 obtain⟨_,_,dup⟩:=qBC mm hy hyF hxw hl hf;obtain⟨ck,dk,hne,hck,hdk,_⟩:=dup 0 (nZl _);obtain⟨x0,x1',ex⟩:∃a b,x.W=[a,b]:=by
  match h:x.W,hxw with
  |[a,b],_=>exact⟨a,b,rfl⟩
 obtain⟨kc,dc,kc1,kc2,kc3,kc4,kc5⟩:=wW mm (by omega);obtain rfl:kc=ck:=by omega
 refine sI U0 ?_;obtain⟨⟨dvy,wvy,y1,y2,y3⟩,yo⟩:=id by_;simp only[U0,qN,go_sem,y1];refine WK (vs':=[lQ y.D]) (Cvs.cons (y2.cv (qb shI.tree _) (by decide)) .nil) (Xz y.D (by omega)) ?_;rw[Q7];simp only[go_sem];have hkc:qy (zg y).K=true:=hy;have hk0:(zg y).K≠0:=by intro q;unfold zg at q;simp only at q;rw[q]at hy;cases hy
 have o0:ow h.length=0:=M.b;refine qu (SCall.mono (Wv (M.app _) kc1 kc2 (c':=zg y) (v:=cE (zg y) (sQ 1 h.length y.D.length) .nils) (T:=λj=>j=h.length) (λj t=>by rw[t];exact⟨by simp,o0⟩) ⟨_,_,rfl,.inr ⟨h.length,rfl,by rw[lMp];rfl,ends⟩,.inl ⟨rfl,rfl⟩⟩) ?_);rintro r h1 ⟨rfl,ow1,M1,f1,_⟩;have F1:Fo ow h ow1 h1:=f1.new λj t=>by omega
 obtain⟨e1,tk1⟩:=kc5 (zg y);obtain⟨ck',t1,t2,t3⟩:=Qn (c:=zg y) mm (by omega) hkc;obtain⟨kd,dd,kd1,kd2,kd3,kd4,kd5⟩:=wW t3 (by have:=t2.nf hk0;omega);obtain rfl:kd=dk:=by omega
 have by1:=by_.fo F1;obtain⟨⟨dvy1,wvy1,z1,z2,z3⟩,zo⟩:=id by1;simp only[go_sem,z1];refine WK (vs':=[lQ y.D]) (Cvs.cons (z2.cv (qb shI.tree _) (by decide)) .nil) (Xz y.D (by omega)) ?_;rw[Q7];simp only[go_sem];have o1:ow1 h1.length=0:=M1.b;refine qu (SCall.mono (Wv (M1.app _) kd1 kd2 (c':=zg y) (v:=cE (zg y) (sQ 1 h1.length y.D.length) .nils) (T:=λj=>j=h1.length) (λj t=>by rw[t];exact⟨by simp,o1⟩) ⟨_,_,rfl,.inr ⟨h1.length,rfl,by rw[lMp];rfl,ends⟩,.inl ⟨rfl,rfl⟩⟩) ?_);rintro r h2 ⟨rfl,ow2,M2,f2,_⟩;have F2:Fo ow h ow2 h2:=F1.trans (f2.new λj t=>by omega);have bx2:=bx.fo F2;have by2:=by_.fo F2;obtain⟨⟨dvx,wvx,x1,x2,x3⟩,xo⟩:=id bx2;rw[ex]at x3;obtain⟨xw,xw1,rfl,xw3⟩:=x3.two;simp only[go_sem,x1,Q4,WW,xw3];refine qL QR ?_;simp only[go_sem];refine qL QR ?_;simp only[go_sem];have DI:∀i,i<=y.W.length->ZV m y P O kc kd (zR m x y i) i:=λi hi=>by
  obtain⟨a,b,_,q1,q2,q3⟩:=dup i hi;obtain rfl:a=kc:=by omega
  obtain rfl:b=kd:=by omega
  exact q3
 have e00:zR m x y 0=(WR m y,[],[],[⟨x0,awI (kc:Nat)⟩,⟨x1',awI (kd:Nat)⟩]):=by
  simp only[zR,List.take_zero,List.foldl_nil,ex,hck,hdk];rfl
 have D0:=DI 0 (nZl _);have M3:MH w mid post ow2 (h2++[qA.row 4 [AV.agg [iI x0.T,iI x0.I,iI (awI (kc:Nat)).T,iI (awI (kc:Nat)).I],AV.agg [iI x1'.T,iI x1'.I,iI (awI (kd:Nat)).T,iI (awI (kd:Nat)).I]] true]) (two (zR m x y 0).1 kc kd (zR m x y 0).2.1 (zR m x y 0).2.2.1):=by
  have q1:=D0.c1;have q2:=D0.c2;rw[e00]at q1 q2|-;simp only at q1 q2|-;unfold two;rw[qI3 q1 rfl,qI3 q2 rfl];exact M2.app _
 refine Sem.loop (λa:Nat×(Nat->Nat)×Nat×List qA=>a.1<=y.W.length/\MH w mid post a.2.1 a.2.2.2 (two (zR m x y a.1).1 kc kd (zR m x y a.1).2.1 (zR m x y a.1).2.2.1)/\Fo ow h a.2.1 a.2.2.2/\a.2.1 a.2.2.1=0/\a.2.2.2[a.2.2.1]?=some (.row 4 ((zR m x y a.1).2.2.2.map qp.enc) true)/\h.length<=a.2.2.1)
  (λa=>(⟨[(0,.ptr mid 0 0),(1,.ptr xid 0 0),(2,.ptr yid 0 0),(6,.nils),(7,iI (kc:Nat)),(8,iI (kd:Nat)),(9,.slice 4 a.2.2.1 0 (zR m x y a.1).2.2.2.length false),(10,iI (a.1:Nat))],[],a.2.2.2⟩:VSt)) (λa=>y.W.length-a.1)
  (0,ow2,h2.length,_) (by kernel_rfl) ⟨nZl _,M3,F2.trans (Fo.app _),M2.b,by rw[ends,e00];rfl,F2.l⟩ (Can.sub (by simp[go_sem,e00]) (by simp[go_sem])) ?_
 clear M3 M2 M1 f1 f2 F1 F2 bx2 by2 by1 z1 z2 z3 x1 x2 xw3 y1 y2 y3;rintro⟨i,ow3,id,h3⟩ ⟨hi,M3,F3,oid,hid,lid⟩;simp only at hi M3 F3 oid hid lid;have I:=DI i hi;have bx3:=bx.fo F3;have by3:=by_.fo F3;obtain⟨⟨dvy3,wvy3,y1,y2,y3⟩,yo3⟩:=by3;have hylen:=y3.len;rw[lMp]at hylen;simp only[go_sem,y1,hylen];by_cases hlt:i<y.W.length
 case neg=>
  have e:decide ((i:Int)<(y.W.length:Nat))=false:=dEf (by omega);simp only[e,go_sem];obtain rfl:i=y.W.length:=by omega
  rw[qF0 hck hdk];exact⟨ow3,M3,F3,id,rfl,hid,oid⟩
 have e:decide ((i:Int)<(y.W.length:Nat))=true:=dEt (by omega);obtain⟨⟨dvx3,wvx3,x1,x2,x3⟩,xo3⟩:=bx3;simp only[e,go_sem,x1];obtain⟨f,g,v,T⟩:=qF6 (lev:=x.L) hy I (by have:=I.nf;omega);have eS:=qBB (m:=m) (x:=x) hlt;rw[T.eq]at eS;generalize hS:zR m x y i=S at*;refine qu (SCall.mono (YG M3 T.ff (by rw[ZR T.fc.1 T.fc.2];exact T.f0) ⟨4,x.L,0,[],[]⟩ rfl rfl) ?_);rintro r h4 ⟨rfl,ow4,M4,F4⟩;rw[W2 T.ff T.fc.1 T.fc.2]at M4;simp only[go_sem];obtain⟨d4,hd4⟩:=T.g0;refine qu (SCall.mono (qCZ M4 T.gf (c:=d4) (by rw[ZR T.gc.1 T.gc.2];exact hd4)) ?_);rintro r h5 ⟨rfl,ow5,M5,F5,_⟩;rw[W2 T.gf T.gc.1 T.gc.2]at M5;simp only[go_sem];refine lsA ?_;simp only[go_sem];obtain⟨d5,hd5⟩:=T.e0;refine qu (SCall.mono (qCZ M5 T.ef (c:=d5) (by rw[ZR T.ec.1 T.ec.2];exact hd5)) ?_);rintro r h6 ⟨rfl,ow6,M6,F6,_⟩;rw[W2 T.ef T.ec.1 T.ec.2]at M6;simp only[go_sem];refine lsA ?_;obtain⟨cid,cs,rv,M6⟩:=M6;have hcf:(two (qW (qW (qW S.1 ⟨4,x.L,0,[],[]⟩) (qg [])) (qg [])) kc kd S.2.1 S.2.2.1).C[f]?=some ⟨4,x.L,0,[],[]⟩:=by rw[ZR T.fc.1 T.fc.2];exact T.cf
 obtain⟨dv,wv,v1,v2,v3⟩:=M6.words hcf;have hk:=zO hcf;simp only[go_sem,M6.o,qS hk,nZa];have M6a:=M6.app [qA.row 2 [(vwI (g:Nat)).enc,(vwI (v:Nat)).enc] true];refine M6a.stoW v1 rfl ?_;obtain⟨M7,f7⟩:=M6a.setWv (ws:=[vW g,vW v]) (wv':=sQ 2 h6.length 2) hcf v1 (v2.app _) (id:=h6.length) (MH.b ⟨_,_,_,M6⟩) ends rfl;have F7:=(F4.trans (F5.trans F6)).trans (f7.new λj e=>by omega);have I2:=DI (i+1) (by omega);rw[eS]at I2;have M7':=MH.intro M7;rw[<-j7 hcf,qKR T.fc.1 T.fc.2]at M7';generalize (owC ow6 f λj=>ow6 j=f+3\/j=h6.length)=ow7 at M7' F7;generalize (h6++[qA.row 2 [(vwI (g:Nat)).enc,(vwI (v:Nat)).enc] true]).set cid _=h7 at M7' F7|-;clear M7 f7 M6a M6 v1 v2 v3 hcf hk;obtain⟨mm2,us2,vs2,c12,c22,nf2,len2⟩:=I2;simp only at c12 c22;generalize hS2:qr (qW (qW (qW S.1 ⟨4,x.L,0,[],[]⟩) (qg [])) (qg [])) (f:Int) [vW g,vW v]=S2 at M7' c12 c22 eS;obtain⟨cid,cs,rv,M7⟩:=M7';have hc1:=qKO (us:=S.2.1) (vs:=S.2.2.1) hne c12;obtain⟨dv,wv,v1,v2,v3⟩:=M7.words hc1;have hk:=zO hc1;have hcl:0<(two S2 kc kd S.2.1 S.2.2.1).C.length:=by omega
 simp only[go_sem,M7.o,qS hk,nZa,M7.c,v1];have hus:S.2.1.length=i:=I.us;have hvs:S.2.2.1.length=i:=I.vs;have M7a:=M7.app [qA.row 2 [(vwI (g:Nat)).enc] true];refine qEB (v3.app _) ends (by rw[lMp];simp only;omega) λh8 u8 w8 l8=>?_;have m8:=u8.at M7a.o (λq=>by have:=q.1;rw[M7.m1]at this;omega);refine⟨⟨J7 (id:=mid) (j:=0) (k:=0) (v:=.slice 5 cid 0 (two S2 kc kd S.2.1 S.2.2.1).C.length false) (by simp only[go_sem]) (by simp only[go_sem]) (by rw[m8];rfl) (by simp only[AV.rigid];omega),trivial⟩, ?_⟩;have q8:=u8.at M7a.c (λq=>by have:=q.1;rw[M7.c1]at this;omega);simp only[go_sem,qS hk,nZa];refine qKB q8 v1 rfl ?_;obtain⟨ow8,M8,F8⟩:=M7a.appW (x:=vW g) hc1 v1 (v2.app _) (v3.app _) u8 (nLr _) (by rw[lMa];exact w8) (wv':=.slice 2 (h7++[qA.row 2 [(vwI (g:Nat)).enc] true]).length 0 (S.2.1.length+1) false) (by simp);have F8':=F7.trans ((Fo.app _).trans F8);have M8':=MH.intro M8;rw[<-j7 hc1,qKN hne]at M8';generalize h8.set cid _=h9 at M8' F8'|-;clear M8 F8 M7a M7 u8 w8 l8 m8 q8 v1 v2 v3 hk hcl;obtain⟨cid,cs,rv,M8⟩:=M8';have hc2:=qKQ (us:=S.2.1++[vW g]) (vs:=S.2.2.1) hne c22;obtain⟨dv,wv,v1,v2,v3⟩:=M8.words hc2;have hk:=zO hc2;have hcl:0<(two S2 kc kd (S.2.1++[vW g]) S.2.2.1).C.length:=by omega
 simp only[go_sem,M8.o,qS hk,nZa,M8.c,v1];have M8a:=M8.app [qA.row 2 [(vwI (v:Nat)).enc] true];refine qEB (v3.app _) ends (by rw[lMp];simp only;omega) λh8 u8 w8 l8=>?_;have m8:=u8.at M8a.o (λq=>by have:=q.1;rw[M8.m1]at this;omega);refine⟨⟨J7 (id:=mid) (j:=0) (k:=0) (v:=.slice 5 cid 0 (two S2 kc kd (S.2.1++[vW g]) S.2.2.1).C.length false) (by simp only[go_sem]) (by simp only[go_sem]) (by rw[m8];rfl) (by simp only[AV.rigid];omega),trivial⟩, ?_⟩;have q8:=u8.at M8a.c (λq=>by have:=q.1;rw[M8.c1]at this;omega);simp only[go_sem,qS hk,nZa];refine qKB q8 v1 rfl ?_;obtain⟨ow9,M9,F9⟩:=M8a.appW (x:=vW v) hc2 v1 (v2.app _) (v3.app _) u8 (nLr _) (by rw[lMa];exact w8) (wv':=.slice 2 (h9++[qA.row 2 [(vwI (v:Nat)).enc] true]).length 0 (S.2.2.1.length+1) false) (by simp);have F9':=F8'.trans ((Fo.app _).trans F9);have M9':=MH.intro M9;rw[<-j7 hc2,qKP]at M9';generalize h8.set cid _=h10 at M9' F9'|-;clear M9 F9 M8a M8 u8 w8 l8 m8 q8 v1 v2 v3 hk hcl;have F10:=F3.trans F9';obtain⟨⟨dvy4,wvy4,y1',y2',y3'⟩,yo4⟩:=by_.fo F10;have hyi:=gEg hlt;generalize y.W[i]=yw at hyi eS;obtain⟨yid2,yq1,rfl,yq3⟩:∃id,ow9 id=0/\wvy4=sQ 2 id y.W.length/\h10[id]?=some (.row 2 (y.W.map qE.enc) true):=by
  rcases y3' with⟨_,q⟩ | ⟨j,j1,j2,j3⟩
  ·have:=congrArg List.length q;rw[lMp,lNi]at this;omega
  ·exact⟨j,j1,by rw[j2,lMp],j3⟩
 simp only[go_sem,y1',qS hlt,nZa,yq3,gMp,hyi,oMs];refine qL QR ?_;simp only[go_sem];obtain⟨hid10,oid10⟩:=F9'.at hid oid;have hll:S.2.2.2.length<=100000:=by
  have:=Y0 m x y i;rw[hS,lLt]at this;omega
 refine ZY ends (jN hid10) (by rw[lMp]) (by omega) ?_;simp only[go_sem,wuA (n:=i)];have hidl:=qz hid10;have MA:=M9'.app [qA.row 4 [AV.agg [iI yw.T,iI yw.I,iI (awI (f:Nat)).T,iI (awI (f:Nat)).I]] true];refine qa (i+1,ow9,(h10++[qA.row 4 [AV.agg [iI yw.T,iI yw.I,iI (awI (f:Nat)).T,iI (awI (f:Nat)).I]] true]).length,(h10++[qA.row 4 [AV.agg [iI yw.T,iI yw.I,iI (awI (f:Nat)).T,iI (awI (f:Nat)).I]] true]).set id .dead++[qA.row 4 (S.2.2.2.map qp.enc++[AV.agg [iI yw.T,iI yw.I,iI (awI (f:Nat)).T,iI (awI (f:Nat)).I]]) true]) ⟨by simp only;omega, ?_, ?_, ?_, ?_, ?_⟩ (by simp only;omega) (Can.sub (by simp[go_sem,eS]) (by simp[go_sem]))
 ·simp only[eS];refine MA.heap (by simp) λj hj h0=>?_;rw[gAl (by rw[lLs];exact hj),sne (λe=>by subst e;exact h0 oid10)]
 ·refine⟨by have:=F10.l;simp;omega,λj hj q=>⟨(F10.k j hj q).1, ?_⟩⟩;have hl10:=F10.l;simp only;rw[gAl (by simp;omega),sne (by omega),gAl (by omega)];exact(F10.k j hj q).2
 ·exact MA.b
 ·simp only[eS];rw[gAr (by simp)];simp only[lLs,nSs,lMa];rfl
 ·have:=F10.l;simp;omega
end
section
variable {w mid cid k:Nat} {post cs:List AV} {ow ow' ow1 ow2:Nat->Nat} {h h' h1 h2 h3:List qA} {m:qH} {rv v v' dv wv:AV} {c c' x y:qC} {P:List qE} {O:Nat->Bool} {xid yid:Nat}
theorem Xl{w id n:Nat}{cl:Bool}{k:IntKind}(h:0<n):idx w (some (.slice w id 0 n cl)) (some (.int k 0))=some (.ptr id 0 0):=Xm (by omega) (by omega)
theorem qBP{w id n:Nat}{cl:Bool}{k:IntKind}(h:1<n):idx w (some (.slice w id 0 n cl)) (some (.int k 1))=some (.ptr id 1 0):=Xm (by omega) (by omega)
theorem MH.upf{S:Nat->Prop}(M:MH w mid post ow h m)(u:Up S h h')(hs:∀j,S j->ow j=0):MH w mid post ow h' m:=M.heap u.1 λj hj h0=>by
 rw[gEg hj];exact u.at (gEg hj) λq=>h0 (hs j q)
theorem Fo.upf{S:Nat->Prop}(f:Fo ow h ow1 h1)(u:Up S h1 h2)(hs:∀j,S j->h.length<=j):Fo ow h ow1 h2:=⟨nLt f.l u.1,λj hj q=>by
 obtain⟨a,b⟩:=f.k j hj q;refine⟨a, ?_⟩;rw[<-b];have hl:=nLl hj f.l;rw[gEg hl];exact u.at (gEg hl) λq=>by have:=hs j q;omega⟩
theorem Ls0.fo{w:Nat}{el:List AV}{n:Nat}(x:Ls0 (λj=>ow j=0/\n<=j) w h v el)(f:Fo ow h ow' h'):Ls0 (λj=>ow' j=0/\n<=j) w h' v el:=x.elim .inl λy=>.inr (y.mono λj hj q=>⟨⟨(f.k j hj q.1).1,q.2⟩,(f.k j hj q.1).2⟩)
theorem qE9{i:Nat}:(chA m x y i).1.R=m.R:=by
 induction i with
 | zero=>rfl
 | succ i ih=>rw[chA];exact ih
theorem qFC{apps:List Int}{i:Nat}:(chB x y apps m i).R=m.R:=by
 induction i with
 | zero=>rfl
 | succ i ih=>rw[chB];exact ih
theorem Bx.words(b:Bx ow h xid x):∃dv wv,h[xid]?=some (.row 5 [cE x dv wv] true)/\LsW (λj=>ow j=0) 1 h dv (x.D.map qQ)/\LsW (λj=>ow j=0) 2 h wv (x.W.map qE.enc):=b.ex
theorem qrT(M:MH w mid post ow h m)(bx:Bx ow h xid x)(by_:Bx ow h yid y)(mm:MM m (x.W++y.W++P) O)(hf:1+x.W.length<=nF m.C)(hyw:y.W.length=1)(hr:zw (JJ x y))(hl:zu 3 y.L=true)(hxw:x.W.length<=1000)
  (hD:if y.K=10 then 0<=x.V/\x.V<y.D.length else y.D.length=2) (hrx:m.R.length<=1000000-1000):
  SCall Gm 1283 [.ptr mid 0 0,.ptr xid 0 0,.ptr yid 0 0] h (λv h'=>∃ow',MH w mid post ow' h' (chM m x y).1/\Fo ow h ow' h'/\Ls0 (λj=>ow' j=0) 4 h' v ((chM m x y).2.map qp.enc)):=by
 have mm':MM m (x.W++(y.W.getD 0 w0::P)) O:=by
  have e:=Z6 hyw;rw[e]at mm;simpa using mm
 have I:=qAY mm' hr;have hdl:0<y.D.length:=by split at hD<;>omega
 obtain⟨⟨dvy,wvy,y1,y2,y3⟩,yo⟩:=id by_;obtain⟨⟨dvx,wvx,x1,x2,x3⟩,xo⟩:=id bx;obtain⟨yd,q1,rfl,q3⟩:∃id,ow id=0/\dvy=sQ 1 id y.D.length/\h[id]?=some (.row 1 (y.D.map qQ) true):=by
  rcases y2 with⟨_,q⟩ | ⟨j,j1,j2,j3⟩
  ·have:=congrArg List.length q;rw[lMp,lNi]at this;omega
  ·exact⟨j,j1,by rw[j2,lMp],j3⟩
 refine sI U5 ?_;have hd0:=gEg hdl;simp only[U5,qN,go_sem,y1,Xl hdl,q3,gMp,hd0,oMs,qQ];have hgo:∃D,chD x y=D:=⟨_,rfl⟩;obtain⟨D,hDD⟩:=hgo;have hcd:(y.K=10->∀k:Nat,x.V=k->y.D[k]?=some D)/\(y.K≠10->x.V=0->y.D[1]?=some D)/\(y.K≠10->x.V≠0->y.D[0]=D):=by
  rw[<-hDD];unfold chD;refine⟨λa k b=>?_,λa b=>?_,λa b=>?_⟩
  ·rw[iP a]at hD;rw[iP a,b,iTn,lGd,gEg (by omega)];rfl
  ·rw[iN a]at hD;rw[iN a,iP b,lGd,gEg (by omega)];rfl
  ·rw[iN a,iN b,lGd,hd0];rfl
 by_cases k10:y.K=10
 case' pos=>
  rw[iP k10]at hD;obtain⟨k,hk⟩:=eOz hD.1;have hkl:k<y.D.length:=by omega
  have e1:decide (y.K=10)=true:=dEt k10;simp only[e1,go_sem,y1,x1,hk,qS hkl,nZa,q3,gMp,hcd.1 k10 k hk,oMs,qQ];clear hk hkl
 case' neg=>
  rw[iN k10]at hD;have e1:decide (y.K=10)=false:=dEf k10;simp only[e1,go_sem,x1];by_cases k0:x.V=0
  case' pos=>
   have e2:decide (x.V=0)=true:=dEt k0;simp only[e2,go_sem,y1,qBP (show 1<y.D.length by omega),q3,gMp,hcd.2.1 k10 k0,oMs,qQ]
  case' neg=>
   have e2:decide (x.V=0)=false:=dEf k0;simp only[e2,go_sem,y1,hcd.2.2 k10 k0]
 all_goals
  subst hDD;obtain⟨r,ks0,hr0,I0⟩:=I 0 (by omega);obtain⟨kr,dr,k1,k2,k3,k4,k5⟩:=wW mm' (by omega);obtain rfl:kr=r:=by omega
  refine qu (SCall.mono (YG M k1 ⟨dr,k2⟩ (JJ x y) rfl rfl) ?_);rintro _ h1 ⟨rfl,ow1,M1,F1⟩;simp only[go_sem];refine Sem.loop (λa:Nat×(Nat->Nat)×AV×List qA=>a.1<=x.W.length/\MH w mid post a.2.1 a.2.2.2 (chA m x y a.1).1/\Fo ow h a.2.1 a.2.2.2/\Ls0 (λj=>a.2.1 j=0/\h.length<=j) 1 a.2.2.2 a.2.2.1 ((chA m x y a.1).2.map qQ))
   (λa=>(⟨[(0,.ptr mid 0 0),(1,.ptr xid 0 0),(2,.ptr yid 0 0),(6,.nils),(8,iI (kr:Nat)),(9,a.2.2.1),(10,iI (a.1:Nat))],[],a.2.2.2⟩:VSt)) (λa=>x.W.length-a.1)
   (0,ow1,.lst 1 [] true,h1) (by kernel_rfl) ⟨nZl _,M1,F1,.inl ⟨rfl,rfl⟩⟩ csA ?_
  clear M1 F1 x1 x2 x3 y1 y2 y3 k5;rintro⟨i,ow2,v,h2⟩ ⟨hi,M2,F2,L2⟩;simp only at hi M2 F2 L2;obtain⟨⟨dvx,wvx,x1,x2,x3⟩,xo⟩:=bx.fo F2;obtain⟨⟨dvy,wvy,y1,y2,y3⟩,yo⟩:=by_.fo F2;have hxl:=x3.len;rw[lMp]at hxl;simp only[go_sem,x1,hxl];by_cases hlt:i<x.W.length
  case pos=>
   have e:decide ((i:Int)<(x.W.length:Nat))=true:=dEt (by omega);simp only[e,go_sem,y1];obtain⟨r',ks,hr',J⟩:=I i (by omega);obtain⟨ka,da,a1,a2,a3,a4,a5⟩:=wW J.mm (by have:=J.nf;omega);refine qu (SCall.mono (YG M2 a1 ⟨da,a2⟩ (wM y) rfl rfl) ?_);rintro _ h3 ⟨rfl,ow3,M3,F3⟩;have L3:=L2.fo F3;have e2:chA m x y (i+1)=(qW (chA m x y i).1 (wM y),(chA m x y i).2++[(ka:Int)]):=by rw[chA,a1]
   simp only[go_sem];have hal:(chA m x y i).2.length=i:=by rw[J.ap,lMp];exact J.len
   refine qAF (L3.app _) ends (by rw[lMp];omega) λh4 u4 w4 l4=>?_;simp only[go_sem,wuA (n:=i)];have MA:=M3.app [qA.row 1 [AV.int .i64 (ka:Nat)] true];have FA:=(F2.trans F3).trans (Fo.app (h:=h3) (ow:=ow3) [qA.row 1 [AV.int .i64 (ka:Nat)] true]);have hF:=(F2.trans F3).l;refine qa (i+1,ow3,.slice 1 (h3++[qA.row 1 [AV.int .i64 (ka:Nat)] true]).length 0 (((chA m x y i).2.map qQ).length+1) false,h4) ⟨by simp only;omega, ?_, ?_, ?_⟩ (by simp only;omega) csA
   ·simp only[e2];exact MA.upf u4 λj q=>q.1.1
   ·exact FA.upf u4 λj q=>q.1.2
   ·refine .inr (.inr ⟨(h3++[qA.row 1 [AV.int .i64 (ka:Nat)] true]).length,⟨MA.b,by simp;omega⟩, ?_, ?_⟩)
    ·simp[e2]
    ·simp only[e2,lMa];exact w4
  case neg=>
   have e:decide ((i:Int)<(x.W.length:Nat))=false:=dEf (by omega);simp only[e,go_sem];obtain rfl:i=x.W.length:=by omega
   obtain⟨r',ks,hr',J⟩:=I x.W.length hf;obtain rfl:r'=kr:=by omega
   have hal:(chA m x y x.W.length).2.length=x.W.length:=by rw[J.ap,lMp];exact J.len
   obtain⟨y0,ey⟩:∃a,y.W=[a]:=⟨_,Z6 hyw⟩;simp only[L2.len,hal,go_sem];by_cases hn:x.W.length=0
   case pos=>
    have e3:decide ((x.W.length:Int)=0)=true:=dEt (by omega);rw[ey]at y3;obtain⟨wy,wy1,rfl,wy3⟩:=y3.one;simp only[e3,go_sem,y1,QA,wy3];refine qL QR ?_;simp only[go_sem];have ew:x.W=[]:=lEz hn;have ec:chM m x y=(qW m (JJ x y),[⟨y.W.getD 0 w0,awI m.F⟩]):=iP ew;rw[ec];rw[hn]at M2;refine⟨ow2,M2.app _,F2.trans (Fo.app _),.inr (.inr ⟨h2.length,M2.b,rfl, ?_⟩)⟩;rw[ends,ey,hr0];rfl
   case neg=>
    have e3:decide ((x.W.length:Int)=0)=false:=dEf (by omega);simp only[e3,go_sem];obtain⟨ida,⟨o1,o2⟩,rfl,o3⟩:∃id,(ow2 id=0/\h.length<=id)/\v=sQ 1 id x.W.length/\h2[id]?=some (.row 1 ((chA m x y x.W.length).2.map qQ) true):=by
     rcases L2 with⟨_,q⟩ | ⟨_,q⟩ | ⟨j,j1,j2,j3⟩
     ·have:=congrArg List.length q;rw[lMp,lNi]at this;omega
     ·have:=congrArg List.length q;rw[lMp,lNi]at this;omega
     ·exact⟨j,j1,by rw[j2,lMp,hal],j3⟩
    have ec:chM m x y=(Jj (chB x y (chA m x y x.W.length).2 (chA m x y x.W.length).1 x.W.length) m.F ((chA m x y x.W.length).2.getD 0 0),[]):=iN λq=>hn (by rw[q];rfl);have CB:=qFA rfl (by omega) hl J;have hap:=J.ap;have hkl:=J.len;have hrx2:∀i,(chB x y (chA m x y x.W.length).2 (chA m x y x.W.length).1 i).R.length<=1000000-1000:=λi=>by rw[qFC,qE9];exact hrx
    rw[ec];clear ec I J I0 hal;generalize (chA m x y x.W.length).2=ap at*;generalize (chA m x y x.W.length).1=m2 at*;subst hap;refine Sem.loop (λa:Nat×(Nat->Nat)×List qA=>a.1<=x.W.length/\MH w mid post a.2.1 a.2.2 (chB x y (ks.map λk:Nat=>(k:Int)) m2 a.1)/\Fo ow h a.2.1 a.2.2/\a.2.1 ida=0/\a.2.2[ida]?=some (.row 1 ((ks.map λk:Nat=>(k:Int)).map qQ) true))
     (λa=>(⟨[(0,.ptr mid 0 0),(1,.ptr xid 0 0),(2,.ptr yid 0 0),(6,.nils),(8,iI (r':Nat)),(9,sQ 1 ida x.W.length),(11,iI (a.1:Nat))],[],a.2.2⟩:VSt)) (λa=>x.W.length-a.1)
     (0,ow2,h2) (by kernel_rfl) ⟨nZl _,M2,F2,o1,o3⟩ csA ?_
    clear M2 F2 o1 o3 x1 x2 x3 y1 y2 y3;rintro⟨i,ow2,h2⟩ ⟨hi,M2,F2,o1,o3⟩;simp only at hi M2 F2 o1 o3;obtain⟨⟨dvx,wvx,x1,x2,x3⟩,xo⟩:=bx.fo F2;obtain⟨⟨dvy,wvy,y1,y2,y3⟩,yo⟩:=by_.fo F2;simp only[go_sem];by_cases hlt:i<x.W.length
    case neg=>
     have e:decide ((i:Int)<(x.W.length:Nat))=false:=dEf (by omega);obtain rfl:i=x.W.length:=by omega
     have h0k:0<ks.length:=by omega
     have hk0:=gEg h0k;simp only[e,go_sem,Xl (show 0<x.W.length by omega),o3,gMp,hk0,oMs,qQ];refine qu (SCall.mono (V4 M2 (by have:=hrx2 x.W.length;omega)) ?_);rintro _ h3 ⟨ow3,M3,F3⟩;simp only[go_sem];refine⟨ow3, ?_,F2.trans F3,.inl ⟨rfl,rfl⟩⟩;have e0:(ks.map λk:Nat=>(k:Int)).getD 0 0=(ks[0]:Nat):=by
      rw[lGd,gMp,hk0];rfl
     rw[hr',e0];exact M3
    case pos=>
     have e:decide ((i:Int)<(x.W.length:Nat))=true:=dEt (by omega);rw[ey]at y3;obtain⟨wy,wy1,rfl,wy3⟩:=y3.one;simp only[e,go_sem,y1,QA,wy3];refine lsA ?_;simp only[go_sem,wuA (n:=i)];have hki:=gEg (show i<ks.length by omega);have hxi:=gEg hlt;obtain⟨nx,hnx⟩:∃nx,nxW y (ks.map λk:Nat=>(k:Int)) i=nx:=⟨_,rfl⟩;by_cases q:i+1<x.W.length
     case' pos=>
      have e4:decide (((i+1:Nat):Int)<(x.W.length:Nat))=true:=dEt (by omega);have hk1:=gEg (show i+1<ks.length by omega);simp only[e4,go_sem,wuA (n:=i),qS q,nZa,o3,gMp,hk1,oMs,qQ];refine qL QR ?_;simp only[go_sem];refine lsA ?_;have e5:awI (ks[i+1]:Nat)=nx:=by
       rw[<-hnx];unfold nxW;rw[gMp,hk1];rfl
      rw[e5]
     case' neg=>
      have e4:decide (((i+1:Nat):Int)<(x.W.length:Nat))=false:=dEf (by omega);have e5:y0=nx:=by
       rw[<-hnx];unfold nxW;rw[gMp,gEn (by omega),ey];rfl
      simp only[e4,go_sem];rw[e5]
     all_goals
      obtain⟨wx,wx1,wx2,wx3⟩:∃id,ow2 id=0/\wvx=sQ 2 id x.W.length/\h2[id]?=some (.row 2 (x.W.map qE.enc) true):=by
       rcases x3 with⟨_,q⟩ | ⟨j,j1,j2,j3⟩
       ·have:=congrArg List.length q;rw[lMp,lNi]at this;omega
       ·exact⟨j,j1,by rw[j2,lMp],j3⟩
      subst wx2;obtain⟨cid,cs,rv,M2⟩:=M2;obtain⟨a0,_,_,hcells,_⟩:=CB i (by omega);have hcell:=hcells ks[i] (by rw[lDc (show i<ks.length by omega)];exact .head _);obtain⟨dv,wv,v1,v2,v3⟩:=M2.words hcell;have hk:=zO hcell;simp only[go_sem,M2.o,x1,qS hlt,qS hk,nZa,o3,wx3,gMp,hki,hxi,oMs,qQ];have M2a:=M2.app [qA.row 2 [x.W[i].enc,nx.enc] true];refine M2a.stoW v1 rfl ?_;obtain⟨M7,f7⟩:=M2a.setWv (ws:=[x.W[i],nx]) (wv':=sQ 2 h2.length 2) hcell v1 (v2.app _) (id:=h2.length) (MH.b ⟨_,_,_,M2⟩) ends rfl;have F7:=f7.new (ow:=ow2) λj e=>by omega
      obtain⟨o3',o1'⟩:=F7.at o3 o1;simp only[go_sem,wuA (n:=i)];refine qa (i+1,_,_) ⟨by simp only;omega, ?_,F2.trans F7,o1',o3'⟩ (by simp only;omega) csA;have eb:chB x y (ks.map λk:Nat=>(k:Int)) m2 (i+1)=qr (chB x y (ks.map λk:Nat=>(k:Int)) m2 i) (ks[i]:Nat) [x.W[i],nx]:=by
       rw[chB,hnx,lGd,gMp,hki,lGd,hxi];rfl
      simp only[eb];rw[j7 hcell];exact MH.intro M7
end
section
variable {w mid cid k:Nat} {post cs:List AV} {ow ow' ow1 ow2:Nat->Nat} {h h' h1 h2 h3:List qA} {m:qH} {rv v v' dv wv:AV} {c c':qC} {P:List qE} {O:Nat->Bool} {x y a b:qE} {ws:List qE}
theorem qJT(M:MH w mid post ow h m)(hc:m.C[k]?=some c):SCall Gm 1288 [.ptr mid 0 0,iI (k:Nat)] h (λ_ h'=>∃ow',MH w mid post ow' h' (qV m k)/\Fo ow h ow' h'/\h'.length=h.length/\∀j,j<h.length->ow j=k+3->ow' j=0/\h'[j]?=h[j]?):=by
 obtain⟨cid,cs,rv,M⟩:=M;have hk:=zO hc;refine sI XA ?_;simp only[XA,qN,go_sem,M.o,qS hk,nZa];refine M.sto5 hc rfl ⟨_,rfl⟩ ?_;have M1:=M.setC (k:=k) (c':=zq m.F) (λ_=>False) hc (λ_ t=>t.elim) CV.free;have f1:=M.setC_fo (k:=k) (T:=λ_=>False) (v':=.agg [iI 0,iI 0,iI m.F,.nils,.nils]) (λ_ t=>t.elim);simp only[go_sem];refine M1.stoF _ ?_;have M2:=M1.setF (k:Int);simp only[go_sem];refine⟨_,⟨cid,_,rv,by rw[qV,iTn];exact M2⟩,f1.trans M1.setF_fo,by simp,λj hj q=>⟨by rw[Ja (λt=>t),iP q], ?_⟩⟩;rw[sne λe=>by subst e;rw[M.m1]at q;omega,sne λe=>by subst e;rw[M.c1]at q;omega]
theorem Z0(M:MH w mid post ow h m)(hf:m.F=(k:Nat))(hc:m.C[k]?=some c){T:Nat->Prop}(hT:∀j,T j->j<h.length/\ow j=0)(hv:CV T h v c'):SCall Gm 863 [.ptr mid 0 0,v] h (λr h'=>r=iI (k:Nat)/\∃ow',MH w mid post ow' h' (qW m c')/\FoT T ow h ow' h'/\h'.length=h.length):=by
 obtain⟨cid,cs,rv,M⟩:=M;have hk:=zO hc;obtain⟨dv',wv',rfl,u2,u3⟩:=id hv;refine sI F863 ?_;simp only[F863,qN,go_sem];refine qX rfl ?_;obtain⟨v0,v1,dv,wv,rfl,v2,v3⟩:=M.e k c hc;simp only[go_sem,M.o,hf,qS hk,nZa,M.c,v1];refine M.stoF _ ?_;have M1:=M.setF c.V;have hv1:CV T (h.set mid (.row w [mE {m with F:=c.V} cid rv post] true)) (cE c' dv' wv') c':=hv.mono λj hj t=>⟨t,sne λe=>by subst e;have:=(hT j t).2;rw[M.m1]at this;cases this⟩;have hl1:∀o,(h.set mid o).length=h.length:=λo=>by simp
 have M2:=M1.setC (k:=k) (c':=c') (v':=cE c' dv' wv') T hc (λj t=>⟨by rw[hl1];exact(hT j t).1,.inl (hT j t).2⟩) hv1;simp only[go_sem,M1.o,qS hk,nZa];refine M1.sto5 hc rfl ⟨_,rfl⟩ ?_;simp only[go_sem];have et:qW m c'={m with F:=c.V,C:=m.C.set k c'}:=by rw[qW,hf,iTn,Je hc]
 refine⟨trivial,_,⟨cid,_,rv,by rw[et];exact M2⟩,⟨by simp,λj hj q n=>⟨by rw[Ja n,iN (by omega)];exact q, ?_⟩⟩,by simp⟩;rw[sne (λe=>by subst e;rw[M.c1]at q;omega),sne (λe=>by subst e;rw[M.m1]at q;omega)]
theorem QS{a:Int}:Pure Gm 1458 [iI a] (awI a).enc:=by
 refine pJ Ks ?_;simp only[Ks,qN,go_sem];refine lsA ?_;simp only[go_sem];exact qM rfl rfl
theorem qlR{a:Int}:Pure Gm 1521 [iI a] (vwI a).enc:=by
 refine pJ K6 ?_;simp only[K6,qN,go_sem];refine lsA ?_;simp only[go_sem];exact qM rfl rfl
theorem qC0(M:MH w mid post ow h m)(hf:m.F=(k:Nat))(hc:m.C[k]?=some c):SCall Gm 1457 [.ptr mid 0 0] h (λr h'=>r=(vwI (k:Nat)).enc/\∃ow',MH w mid post ow' h' (qW m (qg []))/\Fo ow h ow' h'/\h'.length=h.length):=by
 refine sI Kr ?_;simp only[Kr,qN,go_sem];refine qu (SCall.mono (Z0 M hf hc (c':=qg []) (v:=cE (qg []) .nils .nils) (T:=λ_=>False) (λ_ t=>t.elim) ⟨.nils,.nils,rfl,.inl ⟨rfl,rfl⟩,.inl ⟨rfl,rfl⟩⟩) ?_);rintro r h' ⟨rfl,ow',M',f,l⟩;simp only[go_sem];refine qL qlR ?_;simp only[go_sem];refine lsA ?_;simp only[go_sem];exact⟨trivial,ow',M',f.fo λ_ _ _ t=>t,l⟩
theorem V5{a b:Int}(M:MH w mid post ow h m)(hl:m.R.length<=1000000):SCall Gm 1295 [.ptr mid 0 0,iI a,iI b] h (λ_ h'=>∃ow',MH w mid post ow' h' (Jj m a b)/\Fo ow h ow' h'):=by
 obtain⟨cid,cs,rv,M⟩:=M;refine sI KG ?_;simp only[KG,qN,go_sem,M.o];have M1:=M.app [qA.row 2 [AV.agg [iI (min a b),iI (max a b)]] true];refine Jd M1.r ends (by rw[lMp];omega) λh3 u3 v3 l3=>?_;have hm:=u3.at M1.o (λq=>by have:=q.1;rw[M.m1]at this;omega);simp only[go_sem];have e1:(m.R.map qF.enc)++[AV.agg [iI (min a b),iI (max a b)]]=((m.R++[(⟨min a b,max a b⟩:qF)]).map qF.enc):=by
  rw[lMa];rfl
 rw[e1]at v3;refine V8 hm (m.R++[(⟨min a b,max a b⟩:qF)]) rfl ?_;simp only[go_sem];obtain⟨M2,f2⟩:=M1.redx (u3.w λj _ q=>q.1) (nLr _) v3 (rv':=.slice 2 (h++[qA.row 2 [AV.agg [iI (min a b),iI (max a b)]] true]).length 0 (m.R.length+1) false) (by simp);have f3:=(Fo.app (ow:=ow) (h:=h) _).trans f2;exact⟨_,⟨cid,cs,_,M2⟩,f3⟩
theorem qJV(M:MH w mid post ow h m)(hP:MM m (x::P) O):SCall Gm 1294 [.ptr mid 0 0,x.enc] h (λr h'=>r=(flw (nV m.C) m x).2.enc/\∃ow',MH w mid post ow' h' (flw (nV m.C) m x).1/\Fo ow h ow' h'):=by
 refine sI KF ?_;simp only[KF,qN,go_sem];refine qX rfl ?_;simp only[go_sem];generalize hR:flw (nV m.C) m x=R;refine Sem.loop (λa:qH×qE×(Nat->Nat)×List qA=>MH w mid post a.2.2.1 a.2.2.2 a.1/\MM a.1 (a.2.1::P) O/\flw (nV a.1.C) a.1 a.2.1=R/\Fo ow h a.2.2.1 a.2.2.2) (λa=>(⟨[(0,.ptr mid 0 0)],[(3,a.2.1.enc),(4,.agg [iI 0,iI 0])],a.2.2.2⟩:VSt)) (λa=>nV a.1.C) (m,x,ow,h) (by kernel_rfl) ⟨M,hP,hR,Fo.refl⟩ csA ?_;rintro⟨m1,x1,ow1,h1⟩ ⟨M1,P1,R1,f1⟩;simp only at M1 P1 R1 f1;simp only[go_sem];have done:R1=R1->flw (nV m1.C) m1 x1=(m1,x1)->x1.enc=R.2.enc/\∃ow',MH w mid post ow' h1 R.1/\Fo ow h ow' h1:=λ_ q=>by
  rw[R1]at q;subst q;exact⟨rfl,ow1,M1,f1⟩
 rcases qGG P1 with⟨ht,hf⟩ | ⟨k,rfl,⟨hc,hf⟩ | ⟨y,hc,hf,hP1,hn⟩⟩
 ·have e:decide (x1.T=2)=false:=dEf (by omega);simp only[e,go_sem];refine lsA ?_;simp only[go_sem];exact done rfl (hf _)
 ·obtain⟨cid,cs,rv,M1⟩:=M1;have hk:=zO hc;obtain⟨dv,wv,v1,v2,v3⟩:=M1.words hc;have hlen:=v3.len;have e:decide ((vW k).T=2)=true:=rfl;simp only[e,go_sem,M1.o,show (vW k).I=(k:Int)from rfl,qS hk,nZa,M1.c,v1,hlen];have e2:decide ((0:Int)<((qg []).W.length:Nat))=false:=rfl;simp only[e2,go_sem];refine lsA ?_;simp only[go_sem];exact done rfl (hf _)
 ·have M1':=M1;obtain⟨cid,cs,rv,M1⟩:=M1;have hk:=zO hc;obtain⟨dv,wv,v1,v2,v3⟩:=M1.words hc;have hlen:=v3.len;obtain⟨id,i1,rfl,i3⟩:=v3.one;have e:decide ((vW k).T=2)=true:=rfl;have e2:decide ((0:Int)<((1:Nat):Int))=true:=rfl;simp only[e,go_sem,M1.o,show (vW k).I=(k:Int)from rfl,qS hk,nZa,M1.c,v1,Int.natCast_one,show decide ((0:Int)<1)=true from rfl,QA,i3];refine lsA ?_;simp only[go_sem,show (vW k).I=(k:Int)from rfl];refine qu (SCall.mono (qJT M1' hc) ?_);rintro r h2 ⟨ow2,M2,f2,l2,-⟩;simp only[go_sem];refine lsA ?_;simp only[go_sem];refine qa (qV m1 (k:Int),y,ow2,h2) ⟨M2,hP1, ?_,f1.trans f2⟩ (by simp only;omega) csA;rw[<-hn,hf]at R1;exact R1
theorem s976(M:MH w mid post ow h m)(hP:MM m (a::b::P) O)(hl:m.R.length<=1000000):SCall Gm 976 [.ptr mid 0 0,a.enc,b.enc] h (λ_ h'=>∃ow',MH w mid post ow' h' (wQ m a b)/\Fo ow h ow' h'):=by
 refine sI F976 ?_;simp only[F976,qN,go_sem];refine qX rfl ?_;simp only[go_sem];refine qX rfl ?_;simp only[go_sem];refine qu (SCall.mono (qJV M hP) ?_);obtain⟨g1,g2⟩:=Ze (nV m.C) hP (nLr _);have hL:wQ m a b=wQ m a b:=rfl
 conv at hL=>rhs;unfold wQ
 simp only at hL;generalize wQ m a b=L at hL|-;generalize flw (nV m.C) m a=r at g1 g2 hL|-;obtain⟨m1,a1⟩:=r;have g3:MM m1 (b::a1::P) O:=MI.perm g1 (List.Perm.swap _ _ _);obtain⟨k1,k2⟩:=Ze (nV m1.C) g3 (nLr _);simp only at g1 g2 k1 k2 hL|-;rintro r h1 ⟨rfl,ow1,M1,f1⟩;simp only[go_sem];refine lsA ?_;simp only[go_sem];refine qu (SCall.mono (qJV M1 g3) ?_);generalize flw (nV m1.C) m1 b=s at k1 k2 hL|-;obtain⟨m2,b1⟩:=s;simp only at k1 k2 hL|-;rintro r h2 ⟨rfl,ow2,M2,f2⟩;simp only[go_sem];refine lsA ?_;simp only[go_sem];have k3:MM m2 (a1::b1::P) O:=MI.perm k1 (List.Perm.swap _ _ _);have hrx:m2.R=m.R:=by rw[k2.rx,g2.rx]
 have ha:a1.T=1\/∃k:Nat,a1=vW k/\m2.C[k]?=some (qg []):=by
  rcases g2.stop with q | ⟨k,q1,q2⟩
  ·exact .inl q
  ·exact .inr ⟨k,q1,k2.keep k _ q2 (.inr rfl)⟩
 have hb:=k2.stop;by_cases q1:a1.T=1
 ·have e1:decide (a1.T=1)=true:=dEt q1;simp only[e1,go_sem];by_cases q2:b1.T=1
  ·have e2:decide (b1.T=1)=true:=dEt q2;simp only[e2,go_sem];refine qu (SCall.mono (V5 M2 (by rw[hrx];exact hl)) ?_);rintro r h3 ⟨ow3,M3,f3⟩;simp only[go_sem];rw[iP ⟨q1,q2⟩]at hL;exact⟨ow3,by rw[hL];exact M3,(f1.trans f2).trans f3⟩
  ·have e2:decide (b1.T=1)=false:=dEf q2;simp only[e2,go_sem];rw[iN (λq=>q2 q.2)]at hL;have n3:¬a1=b1:=λq=>q2 (by rw[<-q];exact q1);have e3:decide (a1=b1)=false:=dEf n3;have e4:decide (a1.T=2)=false:=dEf (by omega);simp only[e3,e4,go_sem];rw[iN n3,iN (by omega)]at hL;obtain⟨k,rfl,hck⟩:∃k:Nat,b1=vW k/\m2.C[k]?=some (qg []):=by
    rcases hb with q | q
    ·exact absurd q q2
    ·exact q
   rw[US,j7 hck]at hL;obtain⟨cid,cs,rv,M2'⟩:=M2;obtain⟨dv,wv,v1,v2,v3⟩:=M2'.words hck;have hk:=zO hck;simp only[M2'.o,show (vW k).I=(k:Int)from rfl,qS hk,nZa,go_sem];have M3:=M2'.app [qA.row 2 [a1.enc] true];refine M3.stoW v1 rfl ?_;simp only[go_sem];obtain⟨M4,f4⟩:=M3.setWv (ws:=[a1]) hck v1 (v2.app _) (id:=h2.length) (by have:=MH.b ⟨_,_,_,M2'⟩;exact this) ends rfl;refine⟨_,⟨cid,_,rv,by rw[hL];exact M4⟩,(f1.trans f2).trans (f4.new λj e=>by omega)⟩
 ·have e1:decide (a1.T=1)=false:=dEf q1;simp only[e1,go_sem];rw[iN (λq=>q1 q.1)]at hL;obtain⟨k,rfl,hck⟩:∃k:Nat,a1=vW k/\m2.C[k]?=some (qg []):=by
   rcases ha with q | q
   ·exact absurd q q1
   ·exact q
  by_cases n3:vW k=b1
  ·have e3:decide (vW k=b1)=true:=dEt n3;simp only[e3,go_sem];rw[iP n3]at hL;refine qu (SCall.mono (qJT M2 hck) ?_);rintro r h3 ⟨ow3,M3,f3,-⟩;simp only[go_sem];exact⟨ow3,by rw[hL];exact M3,(f1.trans f2).trans f3⟩
  ·have e3:decide (vW k=b1)=false:=dEf n3;have e4:decide ((vW k).T=2)=true:=rfl;simp only[e3,e4,go_sem];rw[iN n3,iP (show (vW k).T=2 from rfl),US,j7 hck]at hL;obtain⟨cid,cs,rv,M2'⟩:=M2;obtain⟨dv,wv,v1,v2,v3⟩:=M2'.words hck;have hk:=zO hck;simp only[M2'.o,show (vW k).I=(k:Int)from rfl,qS hk,nZa,go_sem];have M3:=M2'.app [qA.row 2 [b1.enc] true];refine M3.stoW v1 rfl ?_;simp only[go_sem];obtain⟨M4,f4⟩:=M3.setWv (ws:=[b1]) hck v1 (v2.app _) (id:=h2.length) (by have:=MH.b ⟨_,_,_,M2'⟩;exact this) ends rfl;refine⟨_,⟨cid,_,rv,by rw[hL];exact M4⟩,(f1.trans f2).trans (f4.new λj e=>by omega)⟩
theorem qC1(M:MH w mid post ow h m)(hf:m.F=(k:Nat))(hc:∃d,m.C[k]?=some d)(c:qC)(h1:c.D=[])(h2:c.W=[]):SCall Gm 863 [.ptr mid 0 0,cE c .nils .nils] h (λr h'=>r=iI (k:Nat)/\∃ow',MH w mid post ow' h' (qW m c)/\Fo ow h ow' h'):=by
 obtain⟨d,hc⟩:=hc;refine SCall.mono (Z0 M hf hc (c':=c) (T:=λ_=>False) (λ_ t=>t.elim) ⟨.nils,.nils,rfl,.inl ⟨rfl,by rw[h1];rfl⟩,.inl ⟨rfl,by rw[h2];rfl⟩⟩) ?_;rintro r h' ⟨e,ow',a,b,_⟩;exact⟨e,ow',a,b.fo λ_ _ _ t=>t⟩
end
section
variable {w mid cid k:Nat} {post cs:List AV} {ow ow' ow1 ow2:Nat->Nat} {h h' h1 h2 h3:List qA} {m:qH} {rv v v' dv wv:AV} {c c' x y:qC} {P:List qE} {O:Nat->Bool} {n:Nat}
theorem LsW.fo{w:Nat}{el:List AV}(x:LsW (λj=>ow j=0/\n<=j) w h v el)(f:Fo ow h ow' h'):LsW (λj=>ow' j=0/\n<=j) w h' v el:=x.mono λj hj q=>⟨⟨(f.k j hj q.1).1,q.2⟩,(f.k j hj q.1).2⟩
theorem LsW.fo0{w:Nat}{el:List AV}(x:LsW (λj=>ow j=0) w h v el)(f:Fo ow h ow' h'):LsW (λj=>ow' j=0) w h' v el:=x.mono λj hj q=>f.k j hj q
theorem LsW.full{w:Nat}{el:List AV}{Q:Nat->Prop}(x:LsW Q w h v el)(h0:0<el.length):∃id,Q id/\v=sQ w id el.length/\h[id]?=some (.row w el true):=by
 rcases x with⟨_,q⟩ | x
 ·rw[q]at h0;cases h0
 ·exact x
theorem Xe{i:Nat}{a:qE}(h:y.W[i]?=some a):zr m y (i+1)=QW (zr m y i) a:=by
 unfold zr;rw[tA1,h,Option.toList_some,List.foldl_append];rfl
theorem qrX(M:MH w mid post ow h m)(cy:LsW (λj=>ow j=0) 2 h wv (y.W.map qE.enc))(mm:MM m (y.W++P) O)(hf:y.W.length<=nF m.C)(hyw:y.W.length<=1000):
  SCall Gm 1291 [.ptr mid 0 0,cE y dv wv] h (λv h'=>∃ow',MH w mid post ow' h' (zr m y y.W.length).1/\Fo ow h ow' h'/\LsW (λj=>ow' j=0) 4 h' v ((zr m y y.W.length).2.map qp.enc)):=by
 refine sI KC ?_;have hcl:=cy.len;rw[lMp]at hcl;simp only[KC,qN,go_sem];refine qX rfl ?_;simp only[go_sem,hcl];refine Sem.loop (λa:Nat×(Nat->Nat)×AV×List qA=>a.1<=y.W.length/\MH w mid post a.2.1 a.2.2.2 (zr m y a.1).1/\Fo ow h a.2.1 a.2.2.2/\LsW (λj=>a.2.1 j=0/\h.length<=j) 4 a.2.2.2 a.2.2.1 ((zr m y a.1).2.map qp.enc))
  (λa=>(⟨[(0,.ptr mid 0 0),(4,.nils),(5,a.2.2.1),(9,wv),(10,iI (y.W.length:Nat)),(11,iI (a.1:Nat))],[],a.2.2.2⟩:VSt)) (λa=>y.W.length-a.1)
  (0,ow,.nils,h) (by kernel_rfl) ⟨nZl _,M,Fo.refl,.inl ⟨rfl,rfl⟩⟩ csA ?_
 rintro⟨i,ow2,v,h2⟩ ⟨hi,M2,F2,L2⟩;simp only at hi M2 F2 L2;simp only[go_sem];by_cases hlt:i<y.W.length
 case neg=>
  have e:decide ((i:Int)<(y.W.length:Nat))=false:=dEf (by omega);obtain rfl:i=y.W.length:=by omega
  simp only[e,go_sem];exact⟨ow2,M2,F2,L2.mono λj _ q=>⟨q.1,rfl⟩⟩
 have e:decide ((i:Int)<(y.W.length:Nat))=true:=dEt (by omega);have hyi:=gEg hlt;generalize y.W[i]=yw at hyi;obtain⟨E1,E2,E3⟩:=qBE mm hf i (by omega);obtain⟨ka,da,a1,a2,a3,a4,a5⟩:=wW E1 (by omega);obtain⟨idy,y1,y2,y3⟩:=(cy.fo0 F2).full (by rw[lMp];omega);rw[lMp]at y2;subst y2;simp only[e,go_sem,qS hlt,nZa,y3,gMp,hyi,oMs];refine lsA ?_;simp only[go_sem];refine qu (SCall.mono (qC1 M2 a1 ⟨da,a2⟩ ⟨5,0,0,[],[]⟩ rfl rfl) ?_);rintro _ h3 ⟨rfl,ow3,M3,F3⟩;have L3:=L2.fo F3;simp only[go_sem];refine qL QS ?_;simp only[go_sem];have e2:zr m y (i+1)=(qW (zr m y i).1 ⟨5,0,0,[],[]⟩,(zr m y i).2++[⟨yw,awI (ka:Nat)⟩]):=by rw[Xe hyi,QW,a1]
 have hal:(zr m y i).2.length<=1000:=by
  have:∀i,i<=y.W.length->(zr m y i).2.length=i:=by
   intro i
   induction i with
   | zero=>intro _;rfl
   | succ i ih=>
    intro hi;rw[Xe (gEg (show i<y.W.length by omega)),QW];simp[ih (by omega)]
  rw[this i (by omega)];omega
 refine Jd (L3.app _) ends (by rw[lMp];omega) λh4 u4 w4 l4=>?_;simp only[go_sem,wuA (n:=i)];have MA:=M3.app [qA.row 4 [AV.agg [iI yw.T,iI yw.I,iI (awI (ka:Nat)).T,iI (awI (ka:Nat)).I]] true];have FA:=(F2.trans F3).trans (Fo.app (h:=h3) (ow:=ow3) [qA.row 4 [AV.agg [iI yw.T,iI yw.I,iI (awI (ka:Nat)).T,iI (awI (ka:Nat)).I]] true]);have hF:=(F2.trans F3).l;refine qa (i+1,ow3,.slice 4 (h3++[qA.row 4 [AV.agg [iI yw.T,iI yw.I,iI (awI (ka:Nat)).T,iI (awI (ka:Nat)).I]] true]).length 0 (((zr m y i).2.map qp.enc).length+1) false,h4) ⟨by simp only;omega, ?_, ?_, ?_⟩ (by simp only;omega) csA
 ·simp only[e2];exact MA.upf u4 λj q=>q.1.1
 ·exact FA.upf u4 λj q=>q.1.2
 ·refine .inr ⟨(h3++[qA.row 4 [AV.agg [iI yw.T,iI yw.I,iI (awI (ka:Nat)).T,iI (awI (ka:Nat)).I]] true]).length,⟨MA.b,by simp;omega⟩, ?_, ?_⟩
  ·simp[e2]
  ·simp only[e2,lMa];exact w4
end
section
variable {w mid cid k:Nat} {post cs:List AV} {ow ow' ow1 ow2:Nat->Nat} {h h' h1 h2 h3:List qA} {m:qH} {rv v v' dv wv dvx wvx dvy wvy:AV} {c c' x y:qC} {P:List qE} {O:Nat->Bool} {n:Nat}
theorem qrY(M:MH w mid post ow h m)(dy:LsW (λj=>ow j=0) 1 h dvy (y.D.map qQ))(cy:LsW (λj=>ow j=0) 2 h wvy (y.W.map qE.enc))(hf:m.F=(k:Nat))(hc:∃d,m.C[k]?=some d)
  (hy:y.K=7/\y.W.length=2\/y.K=8/\y.W.length=1/\y.D.length=1):
  SCall Gm 1292 [.ptr mid 0 0,cE x dvx wvx,cE y dvy wvy] h (λv h'=>∃ow',MH w mid post ow' h' (j5 m x y).1/\Fo ow h ow' h'/\LsW (λj=>ow' j=0) 4 h' v ((j5 m x y).2.map qp.enc)):=by
 refine sI KD ?_;simp only[KD,qN,go_sem];refine qX rfl ?_;simp only[go_sem];refine qX rfl ?_;simp only[go_sem];refine lsA ?_;simp only[go_sem];rcases hy with⟨k7,hw⟩ | ⟨k8,hw,hd⟩
 ·obtain⟨y0,y1,ey⟩:∃a b,y.W=[a,b]:=by
   match h:y.W,hw with
   |[a,b],_=>exact⟨a,b,rfl⟩
  rw[ey]at cy;obtain⟨idy,q1,rfl,q3⟩:=cy.two;have e:decide (y.K=7)=true:=dEt k7;simp only[e,go_sem,Q4,WW,q3];refine lsA ?_;have q4:=jN (o:=[qA.row 2 [y1.enc] true]) (jN (o:=[qA.row 1 [AV.int .i64 x.V] true]) q3);have hl:=qz q3;have eo:opC x y=⟨8,y.L,y.V,[x.V],[y1]⟩:=by unfold opC;rw[iP k7,ey];rfl
  have MA:=(M.app [qA.row 1 [AV.int .i64 x.V] true]).app [qA.row 2 [y1.enc] true];have o0:ow h.length=0:=M.b;have o1:ow (h.length+1)=0:=by have:=(M.app [qA.row 1 [AV.int .i64 x.V] true]).b;simpa using this
  simp only[go_sem,Q4,q4];refine XT (SCall.mono (Z0 MA hf hc.choose_spec (c':=⟨8,y.L,y.V,[x.V],[y1]⟩) (v:=cE ⟨8,y.L,y.V,[x.V],[y1]⟩ (sQ 1 h.length 1) (.slice 2 (h++[qA.row 1 [AV.int .i64 x.V] true]).length 0 1 false)) (T:=λj=>j=h.length\/j=h.length+1) (λj t=>by rcases t with t | t<;>rw[t]<;>simp[o0,o1]) ?_) ?_)
  ·exact⟨_,_,rfl,.inr ⟨h.length,.inl rfl,rfl,jN ends⟩,.inr ⟨(h++[qA.row 1 [AV.int .i64 x.V] true]).length,.inr (by simp),rfl,ends⟩⟩
  rintro r h1 ⟨rfl,ow1,M1,f1,_⟩;rw[<-eo]at M1;have F1:Fo ow h ow1 h1:=⟨by have:=f1.l;simp at this;omega,λj hj q=>by
   obtain⟨a,b⟩:=f1.k j (by simp;omega) q (by omega);refine⟨a,b.trans ?_⟩;rw[gAl (by simp;omega),gAl hj]⟩
  obtain⟨q5,q6⟩:=F1.at q3 q1;refine⟨⟨J7 (id:=idy) (j:=0) (k:=0) (v:=y0.enc) (by simp only[go_sem]) (by simp only[go_sem]) (by rw[q5];rfl) (by unfold qE.enc;exact trivial),trivial⟩, ?_⟩;simp only[go_sem];refine qL QS ?_;simp only[go_sem];have eM:j5 m x y=(qW m (opC x y),[⟨y0,awI (k:Nat)⟩]):=by unfold j5;rw[ey,hf];rfl
  rw[eM];exact⟨ow1,M1.app _,F1.trans (Fo.app _),.inr ⟨h1.length,M1.b,rfl,ends⟩⟩
 ·obtain⟨y0,ey⟩:∃a,y.W=[a]:=⟨_,Z6 hw⟩;obtain⟨d0,ed⟩:∃a,y.D=[a]:=by
   match h:y.D,hd with
   |[a],_=>exact⟨a,rfl⟩
  rw[ey]at cy;rw[ed]at dy;obtain⟨idy,q1,rfl,q3⟩:=cy.one;obtain⟨idd,p1,rfl,p3⟩:=dy.one;have e:decide (y.K=7)=false:=dEf (by omega);simp only[e,go_sem,QA,p3,qQ];refine qL qkK ?_;have eo:opC x y=⟨6,0,opI y.V d0 x.V,[],[]⟩:=by unfold opC;rw[iN (by omega),ed];rfl
  simp only[go_sem,j8,QA,q3,List.set_cons_succ,lSz];refine XT (SCall.mono (qC1 M hf hc ⟨6,0,opI y.V d0 x.V,[],[]⟩ rfl rfl) ?_);rintro r h1 ⟨rfl,ow1,M1,F1⟩;rw[<-eo]at M1;obtain⟨q5,q6⟩:=F1.at q3 q1;refine⟨⟨J7 (id:=idy) (j:=0) (k:=0) (v:=y0.enc) (by simp only[go_sem]) (by simp only[go_sem]) (by rw[q5];rfl) (by unfold qE.enc;exact trivial),trivial⟩, ?_⟩;simp only[go_sem];refine qL QS ?_;simp only[go_sem];have eM:j5 m x y=(qW m (opC x y),[⟨y0,awI (k:Nat)⟩]):=by unfold j5;rw[ey,hf];rfl
  rw[eM];exact⟨ow1,M1.app _,F1.trans (Fo.app _),.inr ⟨h1.length,M1.b,rfl,ends⟩⟩
end
section
variable {h:List qA} {dv pv:AV} {x:qB}
theorem s864(d1:Cv h dv (lQ x.D))(p1:Qd (some pv)=some (iI (x.P.length:Nat)))(hp:0<x.P.length)(hp2:x.P.length<=1000)(hd:x.D.length<=1000000):
  SCall Gm 864 [.agg [iI x.K,iI x.L,iI x.V,dv,pv]] h (λv h'=>Up (λ_=>False) h h'/\CV (λj=>h.length<=j) h' v ⟨x.K,x.L,x.V,x.D,List.replicate (x.P.length-1) w0⟩):=by
 refine sI F864 ?_;simp only[F864,qN,go_sem];refine qX rfl ?_;have ew:IntKind.i64.wrap ((x.P.length:Int)-1)=((x.P.length-1:Nat):Int):=by rw[wsA];omega
 simp only[go_sem,p1,ew];refine WK (vs':=[lQ x.D]) (Cvs.cons d1 .nil) (Vb x.D (by omega)) ?_;rw[Q7];simp only[go_sem];refine Jx (by unfold LIM;omega) ?_;simp only[go_sem];refine lsA ?_;simp only[go_sem];refine⟨(Up.app _).trans (Up.app _) (λj _ q=>q),_,_,rfl,.inr ⟨h.length,nLr _,by rw[lMp],jN ends⟩,.inr ⟨(h++[qA.row 1 (x.D.map qQ) true]).length,by simp,by simp, ?_⟩⟩;rw[ends,List.map_replicate];rfl
end
section
variable {w mid cid k s:Nat} {post cs:List AV} {ow:Nat->Nat} {h h':List qA} {m:qH} {rv dv:AV} {c:qC} {x:qE}
theorem MO.setWel{id:Nat}(M:MO w mid post ow h m cid cs rv)(hc:m.C[k]?=some c)(hk:cs[k]?=some (cE c dv (sQ 2 id c.W.length)))(hd:LsW (λj=>ow j=k+3) 1 h dv (c.D.map qQ))(hid:ow id=k+3)(hrow:h[id]?=some (.row 2 (c.W.map qE.enc) true)):
  ∃ow',MO w mid post ow' (h.set id (.row 2 ((c.W.set s x).map qE.enc) true)) {m with C:=m.C.set k {c with W:=c.W.set s x}} cid cs rv/\Fo ow h ow' (h.set id (.row 2 ((c.W.set s x).map qE.enc) true)):=by
 have ecs:cs.set k (cE c dv (sQ 2 id c.W.length))=cs:=by
  refine List.ext_getElem? λj=>?_;by_cases e:j=k
  ·subst e;rw[gSs (qz hk),hk]
  ·rw[gSn (Ne.symm e)]
 have hne:cid≠id:=λe=>by subst e;rw[M.c1]at hid;omega
 have M1:=M.cell (h':=h.set id (.row 2 ((c.W.set s x).map qE.enc) true)) (v':=cE c dv (sQ 2 id c.W.length)) (c':={c with W:=c.W.set s x}) (λj=>ow j=k+3) hc (by rw[ecs,sne hne];exact M.c) (by simp) (λj hj h0 hcj hn=>sne λe=>hn (by rw[e];exact hid)) (λj t=>⟨by rw[lLs];exact M.b j (by omega),.inr (.inr t)⟩) ⟨dv,_,rfl,hd.imp (λq=>q) (λ⟨d,a1,a2,a3⟩=>⟨d,a1,a2,by rw[sne λe=>by subst e;rw[hrow]at a3;cases a3];exact a3⟩),.inr ⟨id,hid,by simp,gSs (qz hrow)⟩⟩;rw[ecs]at M1;exact⟨_,M1,qCI (λj hj h0 _=>sne λe=>by subst e;omega) (by simp) (λj t _=>t)⟩
theorem s866{tid a n:Nat}{kl:List Nat}(M:MH w mid post ow h m)(hc:m.C[k]?=some c)(hs:s<c.W.length)(hcl:c.W.length<=1000000)(hk:kl[a]?=some k)(ht:h[tid]?=some (.row 1 (kl.map λk:Nat=>AV.int .i64 (k:Nat)) true))(ot:ow tid=0):
  SCall Gm 866 [.ptr mid 0 0,(pt a (s+1)).enc,x.enc,sQ 1 tid kl.length] h (λ_ h'=>∃ow',MH w mid post ow' h' (qr m (k:Int) (c.W.set s x))/\Fo ow h ow' h'):=by
 obtain⟨cid,cs,rv,M⟩:=M;have hkl:=zO hc;obtain⟨dv,wv,v1,v2,v3⟩:=M.words hc;obtain⟨id,i1,rfl,i3⟩:=v3.full (by rw[lMp];omega);rw[lMp]at v1;refine sI F866 ?_;simp only[F866,qN,go_sem];refine qX rfl ?_;simp only[go_sem];refine qX rfl ?_;have e:decide ((pt a (s+1)).S=0)=false:=dEf (by simp only[pt];omega);have ew:IntKind.i64.wrap ((pt a (s+1)).S-1)=(s:Nat):=by rw[jc (by simp only[pt];omega) (by simp only[pt];omega)];simp only[pt];omega
 simp only[go_sem,e,M.o,show (pt a (s+1)).N=(a:Int)from rfl,qS (qz hk),ht,gMp,hk,oMs,qS hkl,nZa,M.c,v1,ew,qS hs];refine zX rfl i3 (by rw[gMp,gEg hs];rfl) (Qh (k:=2) rfl rfl ⟨λ_=>⟨_,rfl⟩,λ_=>⟨_,rfl⟩⟩ (by decide)) ?_;obtain⟨ow',M1,F1⟩:=M.setWel (s:=s) (x:=x) hc v1 v2 i1 i3;simp only[go_sem];rw[j7 hc];rw[List.map_set]at M1 F1;exact⟨ow',MH.intro M1,F1⟩
end
section
variable {w mid cid k:Nat} {post cs:List AV} {ow ow' ow1 ow2:Nat->Nat} {h h' h1 h2 h3:List qA} {m:qH} {rv v v' dv wv:AV} {c c' x y:qC}
theorem s924(hd:c.D.length<=1000000)(hw:c.W.length<=1000000):SCall Gm 924 [.ept c.enc 0] h (λv h'=>Up (λ_=>False) h h'/\CV (λj=>h.length<=j) h' v c):=by
 refine sI XG ?_;simp only[XG,qN,go_sem];refine jY (Xz c.D (by omega)) ?_;rw[Q7];simp only[go_sem];refine Yi (ys:=c.W.map qE.enc) Els.lst (by rw[lMp];omega) ?_;simp only[go_sem];refine lsA ?_;simp only[go_sem];refine⟨(Up.app _).trans (Up.app _) (λj _ q=>q),_,_,rfl,.inr ⟨h.length,nLr _,by rw[lMp],jN ends⟩,.inr ⟨_, ?_,by rw[lMp],ends⟩⟩;simp
theorem qJY{id i:Nat}{el:List AV}(ho:h[id]?=some (.row 5 el true))(he:el[i]?=some (cE c dv wv))(d1:LsW (λ_=>True) 1 h dv (c.D.map qQ))(w1:LsW (λ_=>True) 2 h wv (c.W.map qE.enc))(hd:c.D.length<=1000000)(hw:c.W.length<=1000000):SCall Gm 924 [.ptr id i 0] h (λv h'=>Up (λ_=>False) h h'/\CV (λj=>h.length<=j) h' v c):=by
 refine sI XG ?_;simp only[XG,qN,go_sem,ho,he];refine WK (vs':=[lQ c.D]) (Cvs.cons (d1.cv (qb shI.tree _) (by decide)) .nil) (Xz c.D (by omega)) ?_;rw[Q7];simp only[go_sem];have el2:Els (h++[qA.row 1 (c.D.map qQ) true]) 2 wv (c.W.map qE.enc):=by
  rcases w1 with⟨rfl,q⟩ | ⟨j,_,rfl,q3⟩
  ·rw[q];exact⟨trivial,rfl⟩
  ·exact Els.row (jN q3) rfl
 refine Yi (ys:=c.W.map qE.enc) el2 (by rw[lMp];omega) ?_;simp only[go_sem];refine lsA ?_;simp only[go_sem];refine⟨(Up.app _).trans (Up.app _) (λj _ q=>q),_,_,rfl,.inr ⟨h.length,nLr _,by rw[lMp],jN ends⟩,.inr ⟨_, ?_,by rw[lMp],ends⟩⟩;simp
end
section
variable {w mid cid k:Nat} {post cs:List AV} {ow ow' ow1 ow2:Nat->Nat} {h h' h1 h2 h3:List qA} {m:qH} {rv v v' dv wv:AV} {c c' x y:qC}
theorem qF8{s:qt}:fil (toE s) 5 [AV.agg [AV.int IntKind.i64 0,AV.int IntKind.i64 0,AV.int IntKind.i64 0,AV.nils,AV.nils]] 0 (some (cE c dv wv)) []=some [cE c dv wv]:=rfl
structure MC(ow:Nat->Nat)(h:List qA)(m:qH)(cid:Nat)(cs:List AV)(rv:AV):Prop where
 c:h[cid]?=some (.row 5 cs true)
 l:cs.length=m.C.length
 e:∀(k:Nat)(c:qC),m.C[k]?=some c->∃v,cs[k]?=some v/\CV (λj=>ow j=k+3) h v c
 r:LsW (λj=>ow j=2) 2 h rv (m.R.map qF.enc)
 c1:ow cid=1
 b:∀j,ow j≠0->j<h.length
theorem MC.mo(M:MC ow h m cid cs rv)(ho:h[mid]?=some (.row w [mE m cid rv post] true))(h0:ow mid=0):MO w mid post (λj=>if j=mid then 1 else ow j) h m cid cs rv where
 o:=ho
 c:=M.c
 l:=M.l
 e:=λk d hd=>by
  obtain⟨u,u1,u2⟩:=M.e k d hd;exact⟨u,u1,u2.mono λj _ q=>⟨by rw[iN (λe=>by subst e;omega)];exact q,rfl⟩⟩
 r:=M.r.mono λj _ q=>⟨by rw[iN (λe=>by subst e;omega)];exact q,rfl⟩
 m1:=iP rfl
 c1:=by rw[iN (λe=>by subst e;have:=M.c1;omega)];exact M.c1
 ne:=λe=>by subst e;have:=M.c1;omega
 b:=λj hj=>by
  by_cases e:j=mid
  ·rw[e];exact qz ho
  ·rw[iN e]at hj;exact M.b j hj
theorem MC.heap(M:MC ow h m cid cs rv)(hlen:h.length<=h'.length)(hh:∀j,j<h.length->ow j≠0->h'[j]?=h[j]?):MC ow h' m cid cs rv where
 c:=by rw[hh cid (qz M.c) (by rw[M.c1];decide)];exact M.c
 l:=M.l
 e:=λk d hd=>by
  obtain⟨u,u1,u2⟩:=M.e k d hd;exact⟨u,u1,u2.mono λj hj q=>⟨q,hh j hj (by omega)⟩⟩
 r:=M.r.mono λj hj q=>⟨q,hh j hj (by omega)⟩
 c1:=M.c1
 b:=λj hj=>nLl (M.b j hj) hlen
theorem Up.eq{S:Nat->Prop}{j:Nat}(u:Up S h h1)(hj:j<h.length)(n:¬S j):h1[j]?=h[j]?:=by
 rw[gEg hj];exact u.at (gEg hj) n
def owN(ow:Nat->Nat)(lo hi id k:Nat)(j:Nat):Nat:=if j=id then 1 else if lo<=j/\j<hi then k+3 else if ow j=1 then 0 else ow j
theorem s545{h0:List qA}(hz:m.sz<=1000000)(h1n:0<m.C.length):SCall Gm 545 [.ept m.enc 0] h0 (λv h'=>∃cid cs rv ow,v=mE m cid rv []/\MC ow h' m cid cs rv/\Up (λ_=>False) h0 h'/\∀j,j<h0.length->ow j=0):=by
 have hsz:m.C.length+qJ qC.sz m.C+m.R.length<=1000000:=by unfold qH.sz at hz;exact hz
 refine sI kR ?_;simp only[kR,qN,go_sem];refine Yi (ys:=m.R.map qF.enc) Els.lst (by rw[lMp];omega) ?_;simp only[go_sem];refine lsA ?_;simp only[go_sem];refine Sem.loop (λa:Nat×(Nat->Nat)×List AV×AV×List qA=>a.1<=m.C.length/\Up (λ_=>False) h0 a.2.2.2.2/\(∀j,j<h0.length->a.2.1 j=0)/\LsW (λj=>a.2.1 j=2) 2 a.2.2.2.2 (sQ 2 h0.length m.R.length) (m.R.map qF.enc)/\LsW (λj=>a.2.1 j=1) 5 a.2.2.2.2 a.2.2.2.1 a.2.2.1/\a.2.2.1.length=a.1/\(∀(k:Nat)(c:qC),k<a.1->m.C[k]?=some c->∃v,a.2.2.1[k]?=some v/\CV (λj=>a.2.1 j=k+3) a.2.2.2.2 v c)/\(∀j,a.2.1 j≠0->j<a.2.2.2.2.length))
  (λa=>(⟨[(0,.ept m.enc 0),(4,iI (a.1:Nat))],[(3,.agg [a.2.2.2.1,iI m.F,iI m.O.T,iI m.O.I,sQ 2 h0.length m.R.length]),(2,.agg [.nils,iI 0,iI 0,iI 0,.nils])],a.2.2.2.2⟩:VSt)) (λa=>m.C.length-a.1)
  (0,(λj=>if j=h0.length then 2 else 0),[],.nils,_) (by kernel_rfl) ⟨nZl _,Up.app _,λj hj=>iN (by omega),.inr ⟨h0.length,iP rfl,by rw[lMp],ends⟩,.inl ⟨rfl,rfl⟩,rfl,λk c hk=>by omega,λj hj=>by
   by_cases e:j=h0.length
   ·rw[e];simp
   ·simp only[iN e]at hj;exact absurd rfl hj⟩ csA ?_
 rintro⟨i,ow,cs,v,h⟩ ⟨hi,u0,o0,rr,cc,cl,ce,ob⟩;simp only at hi u0 o0 rr cc cl ce ob;simp only[go_sem];by_cases hlt:i<m.C.length
 case neg=>
  have e:decide ((i:Int)<(m.C.length:Nat))=false:=dEf (by omega);obtain rfl:i=m.C.length:=by omega
  simp only[e,go_sem];refine lsA ?_;simp only[go_sem];obtain⟨cid,c1,rfl,c3⟩:∃id,ow id=1/\v=sQ 5 id m.C.length/\h[id]?=some (.row 5 cs true):=by
   rcases cc with⟨_,q⟩ | ⟨j,j1,j2,j3⟩
   ·rw[q]at cl;simp at cl;omega
   ·exact⟨j,j1,by rw[j2,cl],j3⟩
  exact⟨cid,cs,_,ow,rfl,⟨c3,cl,λk c hc=>ce k c (zO hc) hc,rr,c1,ob⟩,u0,o0⟩
 have e:decide ((i:Int)<(m.C.length:Nat))=true:=dEt (by omega);have hc:=gEg hlt;generalize m.C[i]=c at hc;have hcz:c.sz<=1000000:=by have:=z5 (f:=qC.sz) (lMo hc);omega
 unfold qC.sz at hcz;simp only[e,gMp,hc,oMs,go_sem];refine qu (SCall.mono (s924 (c:=c) (by omega) (by omega)) ?_);rintro v1 h1 ⟨u1,dv,wv,rfl,d1,w1⟩;simp only[go_sem,qF8];have cc1:LsW (λj=>ow j=1) 5 h1 v cs:=cc.mono λj hj q=>⟨q,u1.eq hj id⟩;refine Jd (cc1.app _) ends (by omega) λh3 u3 w3 l3=>?_;simp only[go_sem,wuA (n:=i)];have hl1:=u1.1;have hl0:=u0.1;have l3':h3.length=h1.length+2:=by rw[l3];simp
 have old:∀j,j<h.length->ow j≠1->h3[j]?=h[j]?:=λj hj n=>by
  rw[u3.eq (by simp;omega) (λq=>n q.1),gAl (by omega)];exact u1.eq hj id
 have onew:∀j,j<h.length->ow j≠1->owN ow h.length h1.length (h1++[qA.row 5 [cE c dv wv] true]).length i j=ow j:=λj hj n=>by
  unfold owN;rw[iN (by simp;omega),iN (by omega),iN n]
 refine qa (i+1,owN ow h.length h1.length (h1++[qA.row 5 [cE c dv wv] true]).length i,cs++[cE c dv wv],.slice 5 (h1++[qA.row 5 [cE c dv wv] true]).length 0 (cs.length+1) false,h3) ⟨by simp only;omega, ?_,λj hj=>?_, ?_,.inr ⟨(h1++[qA.row 5 [cE c dv wv] true]).length,iP rfl,by simp,w3⟩,by simp[cl],λk d hk hd=>?_,λj hj=>?_⟩ (by simp only;omega) csA
 ·exact((u0.trans u1 (λ_ _ q=>q)).trans (Up.app _ (S:=λ_=>False)) (λ_ _ q=>q)).trans u3 λj hj q=>by have:=o0 j hj;omega
 ·simp only;have:=o0 j hj;rw[onew j (by omega) (by omega)];exact this
 ·refine rr.mono λj hj q=>⟨?_,old j hj (by omega)⟩;simp only;rw[onew j hj (by omega)];exact q
 ·by_cases e:k<i
  ·obtain⟨u,x1,x2⟩:=ce k d e hd;refine⟨u,by simp only;rw[gAl (by omega)];exact x1,x2.mono λj hj q=>⟨?_,old j hj (by omega)⟩⟩;simp only;rw[onew j hj (by omega)];exact q
  ·obtain rfl:k=i:=by simp only at hk;omega
   rw[hc]at hd;cases hd;refine⟨cE c dv wv,by simp only;rw[gAr (by omega),cl,nSs];rfl,CV.mono (P:=λj=>h.length<=j) (h:=h1) ⟨dv,wv,rfl,d1,w1⟩ λj hj q=>⟨?_, ?_⟩⟩
   ·simp only[owN];rw[iN (by simp;omega),iP ⟨q,hj⟩]
   ·rw[u3.eq (by simp;omega) (λz=>by have:=ob j (by omega);omega),gAl hj]
 ·simp only at hj|-;unfold owN at hj;by_cases e1:j=(h1++[qA.row 5 [cE c dv wv] true]).length
  ·rw[e1,l3];simp
  ·rw[iN e1]at hj;by_cases e2:h.length<=j/\j<h1.length
   ·omega
   ·rw[iN e2]at hj;split at hj
    ·exact absurd rfl hj
    ·have:=ob j hj;omega
end
section
variable {w mid cid k s b:Nat} {post cs:List AV} {ow:Nat->Nat} {h h':List qA} {m:qH} {rv dv:AV} {c:qC} {x:qE} {lev:Int} {n:qD} {P:List qE} {O:Nat->Bool} {ks vs:List Nat}
theorem MO.stoWe{E:Ev}{l:List qG}{fs:List Fr1}{s' l':qt}{Q:qn->VSt->Prop}{id:Nat}(M:MO w mid post ow h m cid cs rv)(hc:m.C[k]?=some c)(hs:s<c.W.length)(v1:cs[k]?=some (cE c dv (sQ 2 id c.W.length)))
  (v2:LsW (λj=>ow j=k+3) 1 h dv (c.D.map qQ)) (i1:ow id=k+3) (i3:h[id]?=some (.row 2 (c.W.map qE.enc) true))
  (hr:∀ow' h',MH w mid post ow' h' (qr m (k:Int) (c.W.set s x))->Fo ow h ow' h'->R E (.ops l::fs) ⟨s',l',h'⟩ Q):Sto E 2 (some (.ptr id s 0)) (some x.enc) l fs ⟨s',l',h⟩ Q:=by
 refine zX rfl i3 (by rw[gMp,gEg hs];rfl) (Qh (k:=2) rfl rfl ⟨λ_=>⟨_,rfl⟩,λ_=>⟨_,rfl⟩⟩ (by decide)) ?_;obtain⟨ow',M1,F1⟩:=M.setWel (s:=s) (x:=x) hc v1 v2 i1 i3;rw[List.map_set]at M1 F1;refine hr ow' _ ?_ F1;rw[j7 hc];exact MH.intro M1
theorem FoT.up{T:Nat->Prop}{ow':Nat->Nat}{h1 h2:List qA}(u:Up (λ_=>False) h h1)(f:FoT T ow h1 ow' h2)(n:∀j,T j->h.length<=j):Fo ow h ow' h2:=⟨nLt u.1 f.l,λj hj q=>by
 obtain⟨a,b⟩:=f.k j (nLl hj u.1) q λt=>by have:=n j t;omega
 exact⟨a,b.trans (u.eq hj id)⟩⟩
theorem YN{N:List qB}{T:qI->qE}{D:qI->Bool}{i:Nat}{x:qB}{Mv:qH}(M:MH w mid post ow h (ovM Mv (gkw ks (dW N T D))))(nd:ks.Nodup)(hk:ks[i]?=some k)(hc:Mv.C[k]?=some c)(hx:N[i+1]?=some x)(hs:s+1<x.P.length):
  ∃cid cs rv dv id,h[mid]?=some (.row w [mE (ovM Mv (gkw ks (dW N T D))) cid rv post] true)/\h[cid]?=some (.row 5 cs true)/\cs[k]?=some (cE c dv (sQ 2 id (x.P.length-1)))/\k<(ovM Mv (gkw ks (dW N T D))).C.length/\
   ∀(E:Ev)(l:List qG)(fs:List Fr1)(s' l':qt)(Q:qn->VSt->Prop),(∀ow' h',MH w mid post ow' h' (ovM Mv (gkw ks (dW N T (jW D (pt (i+1) (s+1))))))->Fo ow h ow' h'->R E (.ops l::fs) ⟨s',l',h'⟩ Q)->Sto E 2 (some (.ptr id s 0)) (some (T (pt (i+1) (s+1))).enc) l fs ⟨s',l',h⟩ Q:=by
 obtain⟨cid,cs,rv,M⟩:=M;have hat:=qCF (f:=dW N T D) nd hk hc;have hl:=qFV (T:=T) (D:=D) hx;obtain⟨dv,wv,v1,v2,v3⟩:=M.words hat;obtain⟨id,i1,rfl,i3⟩:=v3.full (by rw[lMp];simp only;omega);rw[lMp]at v1;refine⟨cid,cs,rv,dv,id,M.o,M.c,by rw[<-hl];exact v1,zO hat,λE l fs s' l' Q hr=>?_⟩;refine M.stoWe hat (s:=s) (by simp only;omega) v1 v2 i1 i3 λow' h' M' F'=>hr ow' h' ?_ F';have:=qI0 (T:=T) (D:=D) nd hk hc hx hs;rw[<-this];exact M'
theorem MH.b'{j:Nat}(M:MH w mid post ow h m)(q:ow j≠0):j<h.length:=by
 obtain⟨cid,cs,rv,M⟩:=M;exact M.b j q
def Qo(N:List qB)(b:Nat)(ks:List Nat):qE:=if (qR N (pt 0 0)).S=0 then aW (atF b ks (qR N (pt 0 0)).N.toNat)else aW b
theorem qj8{a s c t:Nat}:bef (pt a s) (pt c t)=true↔a<c\/(a=c/\s<t):=by
 simp only[bef,pt,Bool.or_eq_true,bAt,dTe];omega
theorem qrR(M:MH w mid post ow h m)(hz:n.sz<=1048576)(ok:zM n=true)(hl:0<=lev/\lev<=8)(mm:MM m (aW b::P) O)(hC:∀(i:Nat)(x:qB),n.G[i+1]?=some x->qy x.K=true/\∀ws:List qE,ws.length=x.P.length-1->zw {agC lev x with W:=ws})
  (hf:n.G.length-1+(qq n.G).length<=nF m.C) (X:WB n lev m b P O ks vs) (hrx:m.R.length+n.G.length<=1000000):
  SCall Gm 1176 [.ptr mid 0 0,.ept n.enc 0,iI lev,(aW b).enc] h (λv h'=>v=(Qo n.G b ks).enc/\∃ow',MH w mid post ow' h' (wV (ovM (tkV (tkA lev n.G m (n.G.length-1)).1 (qq n.G).length).1 (gkw ks (fW n.G (tW n.G b ks vs)))) (jV n.G b ks))/\Fo ow h ow' h'):=by
 obtain⟨I,J,-⟩:=X;have hn:=ZH ok;refine sI Un ?_;simp only[Un,qN,go_sem];refine qX rfl ?_;simp only[go_sem];have hcell:∀(i:Nat)(x:qB),n.G[i+1]?=some x->qy x.K=true:=λi x hx=>(hC i x hx).1;have hnz:n.G.length<=1048576:=by unfold qD.sz at hz;omega
 refine Sem.loop (λa:Nat×(Nat->Nat)×AV×List qA=>a.1+1<=n.G.length/\MH w mid post a.2.1 a.2.2.2 (tkA lev n.G m a.1).1/\Fo ow h a.2.1 a.2.2.2/\LsW (λj=>a.2.1 j=0/\h.length<=j) 1 a.2.2.2 a.2.2.1 ((-1::(tkA lev n.G m a.1).2).map qQ))
  (λa=>(⟨[(0,.ptr mid 0 0),(1,.ept n.enc 0),(2,iI lev),(9,a.2.2.1),(10,iI (a.1+1:Nat))],[(7,(aW b).enc),(8,.agg [iI 0,iI 0])],a.2.2.2⟩:VSt)) (λa=>n.G.length-a.1)
  (0,ow,sQ 1 h.length 1,h++[.row 1 [iI (-1)] true]) (by kernel_rfl) ⟨by simp only;omega,M.app _,Fo.app _,.inr ⟨h.length,⟨M.b,nLr _⟩,rfl,ends⟩⟩ csA ?_
 rintro⟨i,ow2,v,h2⟩ ⟨hi,M2,F2,L2⟩;simp only at hi M2 F2 L2;simp only[go_sem];by_cases hlt:i+1<n.G.length
 case neg=>
  have e:decide (((i+1:Nat):Int)<(n.G.length:Nat))=false:=dEf (by omega);obtain rfl:i=n.G.length-1:=by omega
  simp only[e,go_sem];rw[I.at']at L2;obtain⟨tid,⟨t1,t2⟩,rfl,t3⟩:=L2.full (by simp);have hkl:=I.len;have el:((-1::nI2 ks).map qQ).length=n.G.length:=by simp[nI2];omega
  rw[el];refine lsA ?_;simp only[go_sem];refine qL (c569 hz ok) ?_;simp only[go_sem];have Ic:=I.cell;have Inf:=I.nf;have Ix:=I.rx;have Jl:=J.len;have Imm:=I.mm;generalize hsA:(tkA lev n.G m (n.G.length-1)).1=sA at*;generalize hT:tW n.G b ks vs=T at*;have hwl:=YY hz;refine Sem.loop (λa:Nat×(Nat->Nat)×qE×List qA=>a.1<=(zJ n.G).length/\MH w mid post a.2.1 a.2.2.2 (ovM (tkV sA (((zJ n.G).take a.1).countP z8)).1 (gkw ks (dW n.G T (onW ((zJ n.G).take a.1)))))/\Fo ow h a.2.1 a.2.2.2/\a.2.2.2[tid]?=some (.row 1 ((-1::nI2 ks).map qQ) true)/\a.2.1 tid=0/\(onW ((zJ n.G).take a.1) (pt 0 0)=true->a.2.2.1=Qo n.G b ks))
   (λa=>(⟨[(0,.ptr mid 0 0),(1,.ept n.enc 0),(9,sQ 1 tid n.G.length),(15,.lst 4 ((zJ n.G).map zV.enc) false),(16,iI (a.1:Nat))],[(14,a.2.2.1.enc),(7,(aW b).enc),(8,.agg [iI 0,iI 0])],a.2.2.2⟩:VSt)) (λa=>(zJ n.G).length-a.1)
   (0,ow2,w0,h2) (by kernel_rfl) ⟨nZl _, ?_,F2,t3,t1,λz=>by cases z⟩ (Can.sub (by simp[go_sem]) (by simp[go_sem];rfl)) ?_
  ·simp only[List.take_zero,List.countP_nil,qH8,tkV];rw[qIH (lev:=lev) I.nd (by omega) Ic];exact M2
  rintro⟨j,ow3,r,h3⟩ ⟨hj,M3,F3,r3,o3,z3⟩;simp only at hj M3 F3 r3 o3 z3;simp only[go_sem];by_cases hjl:j<(zJ n.G).length
  case neg=>
   have e2:decide ((j:Int)<((zJ n.G).length:Nat))=false:=dEf (by omega);simp only[e2,go_sem];have hW:=Zo ok;have epr:dW n.G T (onW (zJ n.G))=fW n.G T:=qFU λa s h1 _ _=>qH7 hW (JO.2 ⟨a,s,rfl,h1⟩);have enn:(zJ n.G).countP z8=(qq n.G).length:=by unfold qq;rw[<-List.countP_eq_length_filter]
   obtain rfl:j=(zJ n.G).length:=by omega
   rw[lTl]at M3 z3;rw[epr,enn]at M3;have hr:=z3 (qH7 hW (JO.2 ⟨0,0,rfl,by obtain⟨_,_,_,e,_⟩:=YB ok;exact⟨_,e⟩⟩));subst hr;refine qL (c742 hz λx hx h0=>by obtain⟨k,hk⟩:=List.getElem?_of_mem hx;exact(QG (Zp ok hk)).2) ?_;simp only[go_sem];generalize hM:ovM (tkV sA (qq n.G).length).1 (gkw ks (fW n.G T))=MV at*;have hrx2:MV.R=m.R:=by rw[<-hM];exact J.rx.trans Ix
   have hpl:=Wr n.G (n.G.length-1);have hpt:(jV n.G b ks).length=(zI n.G (n.G.length-1)).length:=by simp[jV]
   refine Sem.loop (λa:Nat×(Nat->Nat)×List qA=>a.1<=(zI n.G (n.G.length-1)).length/\MH w mid post a.2.1 a.2.2 (wV MV ((jV n.G b ks).take a.1))/\Fo ow h a.2.1 a.2.2/\a.2.2[tid]?=some (.row 1 ((-1::nI2 ks).map qQ) true)/\a.2.1 tid=0)
    (λa=>(⟨[(0,.ptr mid 0 0),(9,sQ 1 tid n.G.length),(21,.lst 2 ((zI n.G (n.G.length-1)).map qF.enc) false),(22,iI (a.1:Nat))],[(14,(Qo n.G b ks).enc),(8,.agg [iI 0,iI 0])],a.2.2⟩:VSt)) (λa=>(zI n.G (n.G.length-1)).length-a.1)
    (0,ow3,h3) (by kernel_rfl) ⟨nZl _,M3,F3,r3,o3⟩ csA ?_
   rintro⟨i,ow4,h4⟩ ⟨hi,M4,F4,r4,o4⟩;simp only at hi M4 F4 r4 o4;simp only[go_sem];by_cases hil:i<(zI n.G (n.G.length-1)).length
   case neg=>
    have e3:decide ((i:Int)<((zI n.G (n.G.length-1)).length:Nat))=false:=dEf (by omega);simp only[e3,go_sem];refine lsA ?_;simp only[go_sem];rw[tOl (by omega)]at M4;exact⟨trivial,ow4,M4,F4⟩
   have e3:decide ((i:Int)<((zI n.G (n.G.length-1)).length:Nat))=true:=dEt (by omega);have hx:=gEg hil;generalize (zI n.G (n.G.length-1))[i]=p at hx;obtain⟨a,c,rfl,ha,hc⟩:=qIK ok (lMo hx);have ha2:=gEg (show a<ks.length by omega);generalize ks[a]=ka at ha2;have hc2:=gEg (show c<ks.length by omega);generalize ks[c]=kc at hc2;have a2:((-1::nI2 ks).map qQ)[a+1]?=some (iI (ka:Nat)):=by simp[nI2,ha2,qQ]
   have c2:((-1::nI2 ks).map qQ)[c+1]?=some (iI (kc:Nat)):=by simp[nI2,hc2,qQ]
   have et:(jV n.G b ks).take (i+1)=(jV n.G b ks).take i++[(ka,kc)]:=by
    rw[tA1,jV,gMp,hx];simp only[oMs,Option.toList_some,iTn,J5 ha2,J5 hc2]
   simp only[e3,gMp,hx,oMs,go_sem,qS ha,qS hc,nZa,r4,a2,c2];refine qu (SCall.mono (V4 M4 (by rw[X8,lLt,hrx2];omega)) ?_);rintro _ h5 ⟨ow5,M5,F5⟩;simp only[go_sem,wuA (n:=i)];rw[<-Vy,<-et]at M5;exact qa (i+1,ow5,h5) ⟨by simp only;omega,M5,F4.trans F5,(F5.at r4 o4).1,(F5.at r4 o4).2⟩ (by simp only;omega) csA
  have e2:decide ((j:Int)<((zJ n.G).length:Nat))=true:=dEt (by omega);have hx:=gEg hjl;generalize (zJ n.G)[j]=x at hx;have et:(zJ n.G).take (j+1)=(zJ n.G).take j++[x]:=by rw[tA1,hx];rfl
  have ec:=qA3 (p:=z8) hx;obtain⟨x1,x2,x3⟩:=qDG.1 (lMo hx);have hW:=Zo ok;obtain⟨q1,q2,q3⟩:=jq hW x1;rw[<-x2]at q1 q2 q3;obtain⟨A,B⟩:=x;simp only at x1 x2 x3 q1 q2 q3 ec;obtain⟨a,s,rfl,hs⟩:=JO.1 x1;obtain⟨c,t,rfl,ht⟩:=JO.1 q1;obtain⟨y,y1,y2⟩:=wD.1 hs;obtain⟨z,z1,z2⟩:=wD.1 ht;obtain⟨c,rfl⟩:∃c',c=c'+1:=by
   refine⟨c-1, ?_⟩;have h1:=qj8.1 x3;by_cases h0:c=0
   ·subst h0;have:=Zx ok z1;omega
   ·omega
  have hk:∀(i:Nat)(x:qB),n.G[i+1]?=some x->∃k,ks[i]?=some k/\((-1::nI2 ks).map qQ)[i+1]?=some (iI (k:Nat))/\∀q,q<=(qq n.G).length->(tkV sA q).1.C[k]?=some (agC lev x):=λi x h1=>by
   have h2:=qz h1;have h3:=gEg (show i<ks.length by omega);refine⟨_,h3,by simp[nI2,h3,qQ],λq hq=>?_⟩;exact qKI Imm (by omega) (Ic i _ x h3 h1) (Jt (hcell i x h1))
  have hpl:∀(i:Nat)(x:qB),n.G[i]?=some x->x.P.length<=1048576:=λi x h1=>by
   have h2:x.sz<=1048576:=by have:=z5 (f:=qB.sz) (lMo h1);unfold qD.sz at hz;omega
   unfold qB.sz at h2;omega
  have hzl:=hpl _ z z1;have hyl:=hpl _ y y1;have hcl:=qz z1;have hal:=qz y1;obtain⟨kc,c1,c2,c3⟩:=hk c z z1;have nz:∀k:Nat,decide (((k+1:Nat):Int)=0)=false:=λk=>dEf (by omega);have pz:∀k:Nat,decide (0<((k+1:Nat):Int))=true:=λk=>dEt (by omega);have z0:decide (((0:Nat):Int)=0)=true:=rfl;have z1':decide (0<((0:Nat):Int))=false:=rfl;have sw:∀t:Nat,t<1048576->IntKind.i64.wrap (((t+1:Nat):Int)-1)=(t:Nat):=λt ht=>by rw[wsA];omega
  simp only[e2,gMp,hx,oMs,go_sem];refine lsA ?_;simp only[gMp,hx,oMs,go_sem];refine lsA ?_;simp only[go_sem];refine lsA ?_;simp only[go_sem];refine lsA ?_;simp only[go_sem];have TO:TOk n.G b ks vs T:=by rw[<-hT];exact qDC hW Jl
  have hA:=x1;have hB:=q1;have eo:onW ((zJ n.G).take (j+1))=jW (jW (onW ((zJ n.G).take j)) (pt a s)) (pt (c+1) t):=by rw[et,qH9]
  have hvn:((zJ n.G).take j).countP z8<=(qq n.G).length:=by
   unfold qq;rw[<-List.countP_eq_length_filter];exact List.Sublist.countP_le (List.take_sublist _ _)
  have e0:∀a:Nat,onW ((zJ n.G).take j) (pt 0 0)=jW (jW (onW ((zJ n.G).take j)) (pt (a+1) s)) (pt (c+1) t) (pt 0 0):=λa=>by
   have h1:pt 0 0≠pt (a+1) s:=λq=>by have:=(ZK.1 q).1;omega
   have h2:pt 0 0≠pt (c+1) t:=λq=>by have:=(ZK.1 q).1;omega
   simp[jW,h1,h2]
  generalize hD:onW ((zJ n.G).take j)=D at*;generalize hq:((zJ n.G).take j).countP z8=q at*;rcases a with _ | a
  ·have hs0:s=0:=by have:=Zx ok y1;omega
   subst hs0;rcases t with _ | t
   ·simp only[nz,pz,z0,z1',go_sem,qS hcl,nZa,r3,c2];refine lsA ?_;simp only[go_sem,wuA (n:=j)];have ec2:((zJ n.G).take (j+1)).countP z8=q:=by rw[ec];simp[z8,pt]
    refine qa (j+1,ow3,aW kc,h3) ⟨by simp only;omega, ?_,F3,r3,o3,λ_=>?_⟩ (by simp only;omega) (Can.sub (by simp[go_sem]) (by simp[go_sem];rfl))
    ·simp only[eo,ec2];rw[XZ (.inr rfl),XZ (.inl rfl)];exact M3
    ·simp only;unfold Qo;rw[<-x2,iP (show (pt (c+1) 0).S=0 from rfl),show (pt (c+1) 0).N.toNat=c+1 from rfl,J5 c1]
   ·simp only[nz,pz,z0,z1',go_sem,qS hcl,nZa,r3,c2];refine lsA ?_;have tg:decide ((aW b).T=0)=false:=rfl;have hTc:T (pt (c+1) (t+1))=aW b:=by
     rw[TO.t1 _ q1 (by simp only[pt];omega) (by rw[q2];rfl),q2];rfl
    obtain⟨cid,cs,rv,dv,id,s1,s2,s3,s4,st⟩:=YN M3 I.nd c1 (c3 q hvn) z1 z2;rw[hTc]at st;simp only[tg,nz,pz,z0,z1',go_sem,s1,s2,s3,qS hcl,r3,c2,nZa,qS s4,sw t (by omega),qS (show t<z.P.length-1 by omega)];refine st _ _ _ _ _ _ λow4 h4 M4 F4=>?_;simp only[go_sem,wuA (n:=j)];have ec2:((zJ n.G).take (j+1)).countP z8=q:=by rw[ec];simp[z8,pt]
    refine qa (j+1,ow4,aW b,h4) ⟨by simp only;omega, ?_,F3.trans F4,(F4.at r3 o3).1,(F4.at r3 o3).2,λ_=>?_⟩ (by simp only;omega) csA
    ·simp only[eo,ec2];rw[qFW (.inl rfl)];exact M4
    ·unfold Qo;rw[<-x2,iN (by simp only[pt];omega)]
  obtain⟨ka,a1,a2,a3⟩:=hk a y y1;rcases s with _ | s
  ·rcases t with _ | t
   ·simp only[nz,pz,z0,z1',go_sem,qS hcl,qS hal,nZa,r3,c2,a2];simp only[go_sem,wuA (n:=j)];have ec2:((zJ n.G).take (j+1)).countP z8=q:=by rw[ec];simp[z8,pt]
    refine qa (j+1,ow3,r,h3) ⟨by simp only;omega, ?_,F3,r3,o3,λz=>z3 ?_⟩ (by simp only;omega) csA
    ·simp only[eo,ec2];rw[XZ (.inr rfl),XZ (.inr rfl)];exact M3
    ·simp only[eo]at z;rw[e0 a];exact z
   ·simp only[nz,pz,z0,z1',go_sem,qS hcl,qS hal,nZa,r3,c2,a2];refine lsA ?_;have hTc:T (pt (c+1) (t+1))=aW ka:=by
     rw[TO.t1 _ q1 (by simp only[pt];omega) (by rw[q2];rfl),q2,show (pt (a+1) 0).N.toNat=a+1 from rfl,J5 a1]
    obtain⟨cid,cs,rv,dv,id,s1,s2,s3,s4,st⟩:=YN M3 I.nd c1 (c3 q hvn) z1 z2;rw[hTc]at st;simp only[nz,pz,z0,z1',go_sem,s1,s2,s3,qS hcl,r3,c2,nZa,qS s4,sw t (by omega),qS (show t<z.P.length-1 by omega)];refine st _ _ _ _ _ _ λow4 h4 M4 F4=>?_;simp only[go_sem,wuA (n:=j)];have ec2:((zJ n.G).take (j+1)).countP z8=q:=by rw[ec];simp[z8,pt]
    refine qa (j+1,ow4,r,h4) ⟨by simp only;omega, ?_,F3.trans F4,(F4.at r3 o3).1,(F4.at r3 o3).2,λz=>z3 ?_⟩ (by simp only;omega) csA
    ·simp only[eo,ec2];rw[qFW (.inr rfl)];exact M4
    ·simp only[eo]at z;rw[e0 a];exact z
  ·rcases t with _ | t
   ·simp only[nz,pz,z0,z1',go_sem,qS hcl,qS hal,nZa,r3,c2,a2];refine lsA ?_;have hTa:T (pt (a+1) (s+1))=aW kc:=by
     rw[TO.t1 _ hA (by simp only[pt];omega) (by rw[<-x2];rfl),<-x2,show (pt (c+1) 0).N.toNat=c+1 from rfl,J5 c1]
    obtain⟨cid,cs,rv,dv,id,s1,s2,s3,s4,st⟩:=YN M3 I.nd a1 (a3 q hvn) y1 y2;rw[hTa]at st;simp only[nz,pz,z0,z1',go_sem,s1,s2,s3,qS hal,r3,a2,nZa,qS s4,sw s (by omega),qS (show s<y.P.length-1 by omega)];refine st _ _ _ _ _ _ λow4 h4 M4 F4=>?_;simp only[nz,pz,z0,z1',go_sem,wuA (n:=j)];have ec2:((zJ n.G).take (j+1)).countP z8=q:=by rw[ec];simp[z8,pt]
    refine qa (j+1,ow4,r,h4) ⟨by simp only;omega, ?_,F3.trans F4,(F4.at r3 o3).1,(F4.at r3 o3).2,λz=>z3 ?_⟩ (by simp only;omega) csA
    ·simp only[eo,ec2];rw[XZ (.inr rfl)];exact M4
    ·simp only[eo]at z;rw[e0 a];exact z
   ·simp only[nz,pz,z0,z1',go_sem,qS hcl,qS hal,nZa,r3,c2,a2];have ei:z8 ⟨pt (a+1) (s+1),pt (c+1) (t+1)⟩=true:=by simp only[z8,pt,bAt,dTe];omega
    have hi1:(qq n.G)[q]?=some ⟨pt (a+1) (s+1),pt (c+1) (t+1)⟩:=by rw[<-hq];exact qGF hx ei
    have hqn:=qz hi1;obtain⟨v,v1,v2,⟨d,v3⟩,v4⟩:=qKJ (f:=dW n.G T D) Imm J (by omega) hqn;obtain⟨hTa,hTc⟩:=TO.t2 q _ v hi1 v1;simp only at hTa hTc;refine qu (SCall.mono (qCZ M3 v2 v3) ?_);rintro _ h4 ⟨rfl,ow4,M4,F4,l4⟩;rw[v4]at M4;obtain⟨r4,o4⟩:=F4.at r3 o3;simp only[go_sem];refine lsA ?_;simp only[go_sem];refine lsA ?_;obtain⟨cid,cs,rv,dv,id,s1,s2,s3,s4,st⟩:=YN M4 I.nd a1 (a3 (q+1) hqn) y1 y2;rw[hTa]at st;simp only[nz,pz,z0,z1',go_sem,s1,s2,s3,qS hal,r4,a2,nZa,qS s4,sw s (by omega),qS (show s<y.P.length-1 by omega)];refine st _ _ _ _ _ _ λow5 h5 M5 F5=>?_;obtain⟨r5,o5⟩:=F5.at r4 o4;clear st s1 s2 s3 s4;obtain⟨cid,cs,rv,dv,id,s1,s2,s3,s4,st⟩:=YN M5 I.nd c1 (c3 (q+1) hqn) z1 z2;rw[hTc]at st;simp only[nz,pz,z0,z1',go_sem,s1,s2,s3,qS hcl,r5,c2,nZa,qS s4,sw t (by omega),qS (show t<z.P.length-1 by omega)];refine st _ _ _ _ _ _ λow6 h6 M6 F6=>?_;simp only[nz,pz,z0,z1',go_sem,wuA (n:=j)];have ec2:((zJ n.G).take (j+1)).countP z8=q+1:=by rw[ec,iP ei]
    refine qa (j+1,ow6,r,h6) ⟨by simp only;omega, ?_,((F3.trans F4).trans F5).trans F6,(F6.at r5 o5).1,(F6.at r5 o5).2,λz=>z3 ?_⟩ (by simp only;omega) csA
    ·simp only[eo,ec2];exact M6
    ·simp only[eo]at z;rw[e0 a];exact z
 have e:decide (((i+1:Nat):Int)<(n.G.length:Nat))=true:=dEt (by omega);have hx:=gEg hlt;generalize n.G[i+1]=x at hx;have ox:=Zp ok hx;have hxz:x.sz<=1048576:=by have:=z5 (f:=qB.sz) (lMo hx);unfold qD.sz at hz;omega
 unfold qB.sz at hxz;have hpp:=(QG ox).2;obtain⟨hx8,hx0⟩:=QF ox;obtain⟨ks',K⟩:=UJ (lev:=lev) mm hcell i (by omega) (by omega);obtain⟨f,d,a1,a2,a3,a4,a5⟩:=wW K.mm (by have:=K.nf;omega);simp only[e,gMp,hx,oMs,go_sem];refine jY (Xz x.D (by omega)) ?_;rw[Q7];simp only[go_sem];refine lsA ?_;simp only[go_sem];refine qL qAM ?_;simp only[go_sem];have hw:IntKind.i64.wrap (x.L+lev)=x.L+lev:=wsA;apply qT<;>intro hlv<;>simp only[hlv,go_sem]
 all_goals
  refine Sem.loop (λa:Nat×AV×List qA=>a.1+1<=x.P.length/\Up (λ_=>False) (h2++[qA.row 1 (x.D.map qQ) true]) a.2.2/\LsW (λj=>h2.length+1<=j) 2 a.2.2 a.2.1 ((List.replicate a.1 w0).map qE.enc))
   (λa=>(⟨[(0,.ptr mid 0 0),(1,.ept n.enc 0),(2,iI lev),(9,v),(10,iI (i+1:Nat)),(11,.ept x.enc 0),(13,iI (a.1+1:Nat))],[(12,cE (agC lev x) (sQ 1 h2.length x.D.length) a.2.1),(7,(aW b).enc),(8,.agg [iI 0,iI 0])],a.2.2⟩:VSt)) (λa=>x.P.length-a.1)
   (0,.nils,h2++[qA.row 1 (x.D.map qQ) true]) (by kernel_rfl) ⟨by simp only;omega,Up.refl,.inl ⟨rfl,rfl⟩⟩ (Can.sub (by simp[go_sem]) (by simp[go_sem,cE,agC,hlv,hw])) ?_
  rintro⟨j,wv,h3⟩ ⟨hj,U3,W3⟩;simp only at hj U3 W3;have hU3:=U3.1;rw[lAp,List.length_singleton]at hU3;simp only[go_sem];by_cases hjl:j+1<x.P.length
  case pos=>
   have e2:decide (((j+1:Nat):Int)<(x.P.length:Nat))=true:=dEt (by omega);simp only[e2,go_sem];refine Jd (W3.app _) ends (by rw[lMp,lLr];omega) λh4 u4 w4 l4=>?_;simp only[go_sem];refine Wg rfl (qAR rfl) ?_;simp only[go_sem,wuA (n:=j+1)];refine qa (j+1,.slice 2 (h3++[qA.row 2 [AV.agg [AV.int IntKind.i64 0,AV.int IntKind.i64 0]] true]).length 0 ((List.replicate j w0).length+1) false,h4) ⟨by simp only;omega, ?_,.inr ⟨(h3++[qA.row 2 [AV.agg [AV.int IntKind.i64 0,AV.int IntKind.i64 0]] true]).length, ?_,by simp, ?_⟩⟩ (by simp only;omega) csA
   ·refine(U3.trans (Up.app _ (S:=λ_=>False)) (λ_ _ q=>q)).trans u4 λq hq z=>?_;simp only[lAp,List.length_singleton]at hq;have:=z.1;omega
   ·simp;omega
   ·simp only[List.replicate_succ',lMa];exact w4
  have e2:decide (((j+1:Nat):Int)<(x.P.length:Nat))=false:=dEf (by omega);simp only[e2,go_sem];have M3:MH w mid post ow2 h3 (tkA lev n.G m i).1:=(M2.app [qA.row 1 (x.D.map qQ) true]).upf U3 λ_ q=>q.elim;have hb:=λj q=>M2.b' (j:=j) q;have U2:Up (λ_=>False) h2 h3:=(Up.app _).trans U3 λ_ _ q=>q;refine qu (SCall.mono (Wv M3 a1 a2 (c':=agC lev x) (T:=λq=>h2.length<=q/\q<h3.length) (λq z=>⟨z.2,Classical.byContradiction λy=>by have:=hb q y;omega⟩) ⟨_,_,rfl,.inr ⟨h2.length,⟨nLr _,by omega⟩,by rw[lMp];rfl,U3.at ends id⟩, ?_⟩) ?_)
  ·have e3:j=x.P.length-1:=by omega
   subst e3;exact W3.mono λq h5 z=>⟨⟨by omega,h5⟩,rfl⟩
  rintro _ h5 ⟨rfl,ow5,M5,F5,l5⟩;have F6:Fo ow2 h2 ow5 h5:=F5.up U2 λq z=>z.1;have L5:=L2.fo F6;simp only[go_sem];have e4:tkA lev n.G m (i+1)=(qW (tkA lev n.G m i).1 (agC lev x),(tkA lev n.G m i).2++[(f:Int)]):=by rw[tkA,hx];simp only[a1]
  have l6:((-1:Int)::(tkA lev n.G m i).2).length=i+1:=by rw[K.at'];simp[nI2,K.len]
  refine Jd (L5.app _) ends (by rw[lMp];omega) λh6 u6 w6 l7=>?_;simp only[go_sem,wuA (n:=i+1)];refine qa (i+1,ow5,.slice 1 (h5++[qA.row 1 [AV.int .i64 (f:Nat)] true]).length 0 (((-1::(tkA lev n.G m i).2).map qQ).length+1) false,h6) ⟨by simp only;omega, ?_, ?_,.inr ⟨(h5++[qA.row 1 [AV.int .i64 (f:Nat)] true]).length,⟨(M5.app _).b,by simp;have:=(F2.trans F6).l;omega⟩, ?_, ?_⟩⟩ (by simp only;omega) csA
  ·simp only[e4];exact(M5.app _).upf u6 λj q=>q.1.1
  ·exact((F2.trans F6).trans (Fo.app _)).upf u6 λj q=>q.1.2
  ·simp[e4]
  ·simp only[e4];rw[<-lCa,lMa];exact w6
end
section
variable {w mid cid k a b:Nat} {post cs:List AV} {ow:Nat->Nat} {h h':List qA} {m:qH} {rv dv:AV} {c x y:qC} {P:List qE} {O:Nat->Bool} {bk:List qD}
theorem qKC{E:Ev}{l:List qG}{fs:List Fr1}{s l':qt}{Q:qn->VSt->Prop}{dva wva:AV}{z:List AV}(hz:z.length=5)(hr:R E (.ops l::fs) ⟨s,l',h++[.row 5 [cE x dva wva] true]⟩ Q):Sto E 5 (some (.ptr h.length 0 0)) (some (cE x dva wva)) l fs ⟨s,l',h++[.row 5 [.agg z] true]⟩ Q:=
 zX rfl ends rfl (Qh hz rfl ⟨λ_=>⟨_,rfl⟩,λ_=>⟨_,rfl⟩⟩ (by decide)) (by simpa using hr)
theorem Bx.up{xid:Nat}{h1:List qA}(bx:Bx ow h xid x)(u:Up (λ_=>False) h h1):Bx ow h1 xid x:=by
 obtain⟨⟨dv,wv,a1,a2,a3⟩,o⟩:=bx;exact⟨⟨dv,wv,u.at a1 id,a2.mono λj hj q=>⟨q,u.eq hj id⟩,a3.mono λj hj q=>⟨q,u.eq hj id⟩⟩,o⟩
theorem Bx.new{h1:List qA}{dva wva:AV}(hb:∀j,ow j≠0->j<h.length)(u:Up (λ_=>False) h h1)(da:LsW (λj=>h.length<=j) 1 h1 dva (x.D.map qQ))(wa:LsW (λj=>h.length<=j) 2 h1 wva (x.W.map qE.enc)):Bx ow (h1++[.row 5 [cE x dva wva] true]) h1.length x:=by
 have z:∀j,h.length<=j->ow j=0:=λj hj=>Classical.byContradiction λq=>by have:=hb j q;omega
 exact⟨⟨dva,wva,ends,da.mono λj hj q=>⟨z j q,gAl hj⟩,wa.mono λj hj q=>⟨z j q,gAl hj⟩⟩,z _ u.1⟩
theorem s972(M:MH w mid post ow h m)(p:Pl bk m a b x y P O)(hdx:x.D.length<=1000)(hdy:y.D.length<=1000)(hrx:m.R.length<=990000):
  SCall Gm 972 [.lst 1 (bk.map qD.enc) false,.ptr mid 0 0,iI (qi x y),iI (a:Nat),iI (b:Nat)] h (λv h'=>∃ow',MH w mid post ow' h' (zZ bk m a b x y).1/\Fo ow h ow' h'/\Ls0 (λj=>ow' j=0) 4 h' v ((zZ bk m a b x y).2.map qp.enc)):=by
 refine sI F972 ?_;obtain⟨wx,wy⟩:=p.o.wl;have hy0:m.C[b]?=some y:=by
  have:=p.hy;unfold qV at this;simp only[iTn]at this;rwa[zd (Ne.symm p.ne)]at this
 have hka:=zO p.ha;have hkb:=zO hy0;obtain⟨cid,cs,rv,M⟩:=M;obtain⟨dv,wv,v1,v2,v3⟩:=M.words p.ha;obtain⟨dv',wv',v1',v2',v3'⟩:=M.words hy0;simp only[F972,qN,go_sem,M.o,qS hka,nZa];refine qu (SCall.mono (qJY M.c v1 (v2.mono λj _ q=>⟨trivial,rfl⟩) (v3.mono λj _ q=>⟨trivial,rfl⟩) (by omega) (by omega)) ?_);rintro _ h1 ⟨u1,dva,wva,rfl,da,wa⟩;simp only[go_sem];refine qKC rfl ?_;have B1:=Bx.new (x:=x) M.b u1 da wa;have UA:Up (λ_=>False) h (h1++[.row 5 [cE x dva wva] true]):=u1.trans (Up.app _) λ_ _ q=>q;have MA:MO w mid post ow (h1++[.row 5 [cE x dva wva] true]) m cid cs rv:=M.heap UA.1 λj hj _=>UA.eq hj id;have mo':=M.b;clear M;generalize h1++[.row 5 [cE x dva wva] true]=hA at*;generalize h1.length=xid at*;clear u1 da wa;obtain⟨dv',wv',v1',v2',v3'⟩:=MA.words hy0;simp only[go_sem,MA.o,qS hkb,nZa];refine qu (SCall.mono (qJY MA.c v1' (v2'.mono λj _ q=>⟨trivial,rfl⟩) (v3'.mono λj _ q=>⟨trivial,rfl⟩) (by omega) (by omega)) ?_);rintro _ h2 ⟨u2,dvb,wvb,rfl,db,wb⟩;simp only[go_sem];refine qKC rfl ?_;have B2:=Bx.new (x:=y) MA.b u2 db wb;have UB:Up (λ_=>False) hA (h2++[.row 5 [cE y dvb wvb] true]):=u2.trans (Up.app _) λ_ _ q=>q;have MB:MO w mid post ow (h2++[.row 5 [cE y dvb wvb] true]) m cid cs rv:=MA.heap UB.1 λj hj _=>UB.eq hj id;replace B1:=B1.up UB;replace UA:=UA.trans UB λ_ _ q=>q;clear MA;generalize h2++[.row 5 [cE y dvb wvb] true]=hB at*;generalize h2.length=yid at*;clear u2 db wb UB;simp only[go_sem];refine qu (SCall.mono (V3 (MH.intro MB) p.ha) ?_);rintro _ h3 ⟨ow3,M3,F3,l3,-⟩;clear MB;replace B1:=B1.fo F3;replace B2:=B2.fo F3;replace F3:Fo ow h ow3 h3:=⟨nLt UA.1 F3.l,λj hj q=>by
  obtain⟨q1,q2⟩:=F3.k j (nLl hj UA.1) q;exact⟨q1,q2.trans (UA.eq hj id)⟩⟩
 obtain⟨dx,wx',bx1,bx2,bx3⟩:=B1.words;obtain⟨dy,wy',by1,by2,by3⟩:=B2.words;simp only[go_sem];have hcls:=p.o.cls;generalize hC:qi x y=C at*;by_cases c7:C=7
 ·subst c7;obtain⟨v0,v1,ot,n9,hf⟩:=p.need7 hC;obtain⟨ks,vs,X⟩:=p.exp hC;simp only[go_sem,bx1,Xk v0 v1];refine qL QR ?_;simp only[go_sem];have tz:=ZI ot;have hl:=QF p.o.ox;have p1:=p.h1;rw[(p.o.f7 hC).1,lNa]at p1;have hta:(qw bk x.V).G.length<=1048576:=by unfold qD.sz at tz;omega
  refine qu (SCall.mono (qrR M3 (by omega) ot hl p1 (qDD ot hl n9) (by rw[p.f1];exact hf) X (by have:(qV m a).R=m.R:=rfl;rw[this];omega)) ?_);rintro _ h4 ⟨rfl,ow4,M4,F4⟩;simp only[go_sem];refine lsA ?_;simp only[go_sem];have ep:zZ bk m a b x y=(wV (ovM (tkV (tkA x.L (qw bk x.V).G (qV m a) ((qw bk x.V).G.length-1)).1 (qq (qw bk x.V).G).length).1 (gkw ks (fW (qw bk x.V).G (tW (qw bk x.V).G b ks vs)))) (jV (qw bk x.V).G b ks++j6 (qw bk x.V).G b ks),[]):=by
   unfold zZ;rw[iP hC,X.mem]
  rw[ep];clear ep;obtain⟨c0,r0,e1,e2,e3,e4⟩:=YB ot;have hkl:=X.i.len;have hc0:=gEg (show c0<ks.length by omega);generalize ks[c0]=kc at hc0;have hkc:kc≠b:=λe=>(X.i.keep b y p.hy (Jt p.o.ky)).2 (by rw[<-e];exact lMo hc0);have hpl:=Wr (qw bk x.V).G ((qw bk x.V).G.length-1);have hr4:(wV (ovM (tkV (tkA x.L (qw bk x.V).G (qV m a) ((qw bk x.V).G.length-1)).1 (qq (qw bk x.V).G).length).1 (gkw ks (fW (qw bk x.V).G (tW (qw bk x.V).G b ks vs)))) (jV (qw bk x.V).G b ks)).R.length<=1000000:=by
   rw[X8,show (ovM (tkV (tkA x.L (qw bk x.V).G (qV m a) ((qw bk x.V).G.length-1)).1 (qq (qw bk x.V).G).length).1 (gkw ks (fW (qw bk x.V).G (tW (qw bk x.V).G b ks vs)))).R=m.R from X.j.rx.trans X.i.rx];simp only[jV,lMp];omega
  rcases r0 with _ | r0
  ·have et:Qo (qw bk x.V).G b ks=aW kc:=by
    unfold Qo;rw[e1,iP (show (pt (c0+1) 0).S=0 from rfl),show (pt (c0+1) 0).N.toNat=c0+1 from rfl,J5 hc0]
   have er:j6 (qw bk x.V).G b ks=[(b,kc)]:=by
    unfold j6;rw[e1,iP (show (pt (c0+1) 0).S=0 from rfl),show (pt (c0+1) 0).N.toNat=c0+1 from rfl,J5 hc0]
   have hne:decide ((aW kc).I=(b:Int))=false:=dEf (by simp only[aW];omega);rw[et,er,Vy];simp only[hne,go_sem];refine qu (SCall.mono (V4 M4 hr4) ?_);rintro _ h5 ⟨ow5,M5,F5⟩;simp only[go_sem];exact⟨ow5,M5,(F3.trans F4).trans F5,.inl ⟨rfl,rfl⟩⟩
  ·have et:Qo (qw bk x.V).G b ks=aW b:=by
    unfold Qo;rw[e1,iN (by simp only[pt];omega)]
   have er:j6 (qw bk x.V).G b ks=[]:=by
    unfold j6;rw[e1,iN (by simp only[pt];omega)]
   have hne:decide ((aW b).I=(b:Int))=true:=dEt rfl;rw[et,er,lAn];simp only[hne,go_sem];exact⟨ow4,M4,F3.trans F4,.inl ⟨rfl,rfl⟩⟩
 simp only[c7,decide_false,go_sem];refine qu (SCall.mono (V3 M3 p.hy) ?_);rintro _ h4 ⟨ow4,M4,F4,l4,-⟩;replace B1:=B1.fo F4;replace B2:=B2.fo F4;replace F4:=F3.trans F4;clear F3 M3 bx1 bx2 bx3 by1 by2 by3;obtain⟨dx,wx',bx1,bx2,bx3⟩:=B1.words;obtain⟨dy,wy',by1,by2,by3⟩:=B2.words;simp only[go_sem];by_cases c12:C=1\/C=2
 ·have ep:zZ bk m a b x y=(qV (qV m a) b,[⟨x.W.getD 0 w0,y.W.getD 0 w0⟩,⟨x.W.getD 1 w0,y.W.getD 1 w0⟩]):=by
   unfold zZ;rw[iN (by rw[hC];exact c7),iP (by rw[hC];exact c12)]
  rw[ep];obtain⟨w1,w2⟩:=p.o.f12 (by rw[hC];exact c12);have ex:=Qq w1;have ey:=Qq w2;generalize x.W.getD 0 w0=x0 at*;generalize x.W.getD 1 w0=x1 at*;generalize y.W.getD 0 w0=y0 at*;generalize y.W.getD 1 w0=y1 at*;rw[ex,lMc,lMc,List.map_nil]at bx3;rw[ey,lMc,lMc,List.map_nil]at by3;obtain⟨ix,i1,rfl,i3⟩:=bx3.two;obtain⟨iy,j1,rfl,j3⟩:=by3.two;have tl:∀Cd:Bool,Cd=decide (C=1)->(Cd=true\/(Cd=false/\C=2)):=λCd e=>by
   rcases c12 with c | c
   ·exact .inl (by rw[e];simpa using c)
   ·exact .inr ⟨by rw[e];simp;omega,c⟩
  rcases tl _ rfl with e | ⟨e,rfl⟩
  all_goals
   simp only[e,go_sem,bx1,by1,Q4,WW,i3,j3];refine Qu (ys:=[qp.enc ⟨x0,y0⟩,qp.enc ⟨x1,y1⟩]) (Els.row ends rfl) (by simp) ?_;simp only[go_sem];exact⟨ow4,(M4.app _).app _,F4.trans ((Fo.app _).trans (Fo.app _)),.inr (.inr ⟨_,((M4.app _).b),rfl,ends⟩)⟩
 have c1:C≠1:=λe=>c12 (.inl e);have c2:C≠2:=λe=>c12 (.inr e);simp only[c1,c2,decide_false,go_sem];by_cases c3:C=3
 ·subst c3;have ep:zZ bk m a b x y=wc (qV (qV m a) b) x y:=by
   unfold zZ;rw[iN (by omega),iN (by omega),iP hC]
  rw[ep];simp only[go_sem];obtain⟨w1,w2⟩:=p.o.f3 hC;refine qu (SCall.mono (qrS M4 B1 B2 p.h2 p.o.ky (.inl ⟨p.o.ky,p.o.oy⟩) w1 (by omega) hdy w2 (by rw[p.f2];exact p.need3 hC)) ?_);rintro _ h5 ⟨ow5,M5,F5,id,rfl,i2,i3⟩;simp only[go_sem];exact⟨ow5,M5,F4.trans F5,.inr (.inr ⟨id,i3,by rw[lMp],i2⟩)⟩
 simp only[c3,decide_false,go_sem];by_cases c4:C=4
 ·subst c4;have ep:zZ bk m a b x y=zr (qV (qV m a) b) y y.W.length:=by
   unfold zZ;rw[iN (by omega),iN (by omega),iN (by omega),iP hC]
  rw[ep];simp only[go_sem];have h2:=p.h2;rw[p.o.f4 hC,lNa]at h2;have hf:=p.need4 hC;refine Sem.loop (λa':Nat×(Nat->Nat)×AV×List qA=>a'.1<=y.W.length/\MH w mid post a'.2.1 a'.2.2.2 (zr (qV (qV m a) b) y a'.1).1/\Fo ow4 h4 a'.2.1 a'.2.2.2/\Ls0 (λj=>a'.2.1 j=0/\h4.length<=j) 4 a'.2.2.2 a'.2.2.1 ((zr (qV (qV m a) b) y a'.1).2.map qp.enc))
   (λa'=>(⟨[(1,.ptr mid 0 0),(12,.ptr yid 0 0),(14,a'.2.2.1),(15,iI (a'.1:Nat))],[],a'.2.2.2⟩:VSt)) (λa'=>y.W.length-a'.1)
   (0,ow4,.lst 4 [] true,h4) (by kernel_rfl) ⟨nZl _,M4,Fo.refl,.inl ⟨rfl,rfl⟩⟩ csA ?_
  rintro⟨i,ow5,v,h5⟩ ⟨hi,M5,F5,L5⟩;simp only at hi M5 F5 L5;have B5:=B2.fo F5;obtain⟨dy,wy,b1,b2,b3⟩:=B5.words;have hcl:=b3.len;rw[lMp]at hcl;simp only[go_sem,b1,hcl];by_cases hlt:i<y.W.length
  case neg=>
   have e:decide ((i:Int)<(y.W.length:Nat))=false:=dEf (by omega);obtain rfl:i=y.W.length:=by omega
   simp only[e,go_sem];refine⟨ow5,M5,F4.trans F5, ?_⟩;rcases L5 with L5 | L5
   ·exact .inl L5
   ·exact .inr (L5.mono λj _ q=>⟨q.1,rfl⟩)
  have e:decide ((i:Int)<(y.W.length:Nat))=true:=dEt (by omega);have hyi:=gEg hlt;generalize y.W[i]=yw at hyi;obtain⟨E1,E2,E3⟩:=qBE h2 (by rw[p.f2];exact hf) i (by omega);obtain⟨ka,da,a1,a2,a3,a4,a5⟩:=wW E1 (by rw[p.f2]at E2;omega);obtain⟨idy,y1,rfl,y3⟩:=b3.full (by rw[lMp];omega);simp only[e,go_sem,b1,qS hlt,nZa,y3,gMp,hyi,oMs];refine XT (SCall.mono (YG M5 a1 ⟨da,a2⟩ ⟨5,0,0,[],[]⟩ rfl rfl) ?_);rintro _ h6 ⟨rfl,ow6,M6,F6⟩;have L6:=L5.fo F6;obtain⟨c1',c2'⟩:=F6.at b1 B5.o;obtain⟨c3',c4'⟩:=F6.at y3 y1;refine⟨⟨J7 (id:=yid) (j:=0) (k:=4) (v:=.slice 2 idy 0 (y.W.map qE.enc).length false) (by simp only[go_sem]) (by simp only[go_sem]) (by rw[c1'];rfl) (by simp only[AV.rigid,lMp];omega),J7 (id:=idy) (j:=i) (k:=0) (v:=yw.enc) (by simp only[go_sem]) (by simp only[go_sem]) (by rw[c3'];simp only[ZJ,gMp,hyi,oMs];rfl) (by unfold qE.enc;exact trivial),trivial⟩, ?_⟩;simp only[go_sem];refine qL QR ?_;simp only[go_sem];have e2:zr (qV (qV m a) b) y (i+1)=(qW (zr (qV (qV m a) b) y i).1 ⟨5,0,0,[],[]⟩,(zr (qV (qV m a) b) y i).2++[⟨yw,awI (ka:Nat)⟩]):=by rw[Xe hyi,QW,a1]
  have hal:∀i,i<=y.W.length->(zr (qV (qV m a) b) y i).2.length=i:=by
   intro i
   induction i with
   | zero=>intro _;rfl
   | succ i ih=>
    intro hi;rw[Xe (gEg (show i<y.W.length by omega)),QW];simp[ih (by omega)]
  refine qAF (L6.app _) ends (by rw[lMp,hal i (by omega)];omega) λh7 u7 w7 l7=>?_;simp only[go_sem,wuA (n:=i)];have MA:=M6.app [qA.row 4 [AV.agg [iI yw.T,iI yw.I,iI (awI (ka:Nat)).T,iI (awI (ka:Nat)).I]] true];have FA:=(F5.trans F6).trans (Fo.app (h:=h6) (ow:=ow6) [qA.row 4 [AV.agg [iI yw.T,iI yw.I,iI (awI (ka:Nat)).T,iI (awI (ka:Nat)).I]] true]);have hF:=(F5.trans F6).l;refine qa (i+1,ow6,.slice 4 (h6++[qA.row 4 [AV.agg [iI yw.T,iI yw.I,iI (awI (ka:Nat)).T,iI (awI (ka:Nat)).I]] true]).length 0 (((zr (qV (qV m a) b) y i).2.map qp.enc).length+1) false,h7) ⟨by simp only;omega, ?_, ?_, ?_⟩ (by simp only;omega) csA
  ·simp only[e2];exact MA.upf u7 λj q=>q.1.1
  ·exact FA.upf u7 λj q=>q.1.2
  ·refine .inr (.inr ⟨(h6++[qA.row 4 [AV.agg [iI yw.T,iI yw.I,iI (awI (ka:Nat)).T,iI (awI (ka:Nat)).I]] true]).length,⟨MA.b,by simp;omega⟩, ?_, ?_⟩)
   ·simp[e2]
   ·simp only[e2,lMa];exact w7
 simp only[c4,decide_false,go_sem];by_cases c5:C=5
 ·subst c5;have ep:zZ bk m a b x y=j5 (qV (qV m a) b) x y:=by
   unfold zZ;rw[iN (by omega),iN (by omega),iN (by omega),iN (by omega),iP hC]
  rw[ep];simp only[go_sem];obtain⟨w1,w2,w3⟩:=p.o.f5 hC;have h2:=p.h2;obtain⟨ka,da,a1,a2,a3,a4,a5⟩:=wW h2 (by rw[p.f2];omega);refine lsA ?_;simp only[go_sem,by1];rcases w2 with⟨k7,q2⟩ | ⟨k8,q2,q3⟩
  ·obtain⟨y0,y1,ey⟩:∃y0 y1,y.W=[y0,y1]:=⟨_,_,Qq q2⟩;rw[ey,lMc,lMc,List.map_nil]at by3;obtain⟨iy,j1,rfl,j3⟩:=by3.two;simp only[k7,show decide ((7:Int)=8)=false from rfl,go_sem,bx1,by1,Q4,WW,j3];refine lsA ?_;have eo:opC x y=⟨8,y.L,y.V,[x.V],[y1]⟩:=by unfold opC;rw[iP k7,ey];rfl
   have MA:=(M4.app [qA.row 1 [AV.int .i64 x.V] true]).app [qA.row 2 [y1.enc] true];have o0:ow4 h4.length=0:=M4.b;have o1:ow4 (h4.length+1)=0:=by have:=(M4.app [qA.row 1 [AV.int .i64 x.V] true]).b;simpa using this
   have q1:((h4++[qA.row 1 [AV.int .i64 x.V] true])++[qA.row 2 [y1.enc] true])[iy]?=_:=jN (jN j3);have q2:((h4++[qA.row 1 [AV.int .i64 x.V] true])++[qA.row 2 [y1.enc] true])[yid]?=_:=jN (jN by1);simp only[go_sem,q2,Q4,q1];refine XT (SCall.mono (Wv MA a1 a2 (c':=⟨8,y.L,y.V,[x.V],[y1]⟩) (v:=cE ⟨8,y.L,y.V,[x.V],[y1]⟩ (sQ 1 h4.length 1) (.slice 2 (h4++[qA.row 1 [AV.int .i64 x.V] true]).length 0 1 false)) (T:=λj=>j=h4.length\/j=h4.length+1) (λj t=>by rcases t with t | t<;>rw[t]<;>simp[o0,o1]) ?_) ?_)
   ·exact⟨_,_,rfl,.inr ⟨h4.length,.inl rfl,rfl,jN ends⟩,.inr ⟨(h4++[qA.row 1 [AV.int .i64 x.V] true]).length,.inr (by simp),rfl,ends⟩⟩
   rintro r h5 ⟨rfl,ow5,M5,f5,_⟩;rw[<-eo]at M5;have F5:Fo ow4 h4 ow5 h5:=⟨by have:=f5.l;simp at this;omega,λj hj q=>by
    obtain⟨a,b⟩:=f5.k j (by simp;omega) q (by omega);refine⟨a,b.trans ?_⟩;rw[gAl (by simp;omega),gAl hj]⟩
   obtain⟨q5,q6⟩:=F5.at j3 j1;obtain⟨q7,q8⟩:=F5.at by1 B2.o;refine⟨⟨J7 (id:=yid) (j:=0) (k:=4) (v:=sQ 2 iy 2) (by simp only[go_sem]) (by simp only[go_sem]) (by rw[q7];rfl) (by simp[AV.rigid]),J7 (id:=iy) (j:=0) (k:=0) (v:=y0.enc) (by simp only[go_sem]) (by simp only[go_sem]) (by rw[q5];rfl) (by unfold qE.enc;exact trivial),trivial⟩, ?_⟩;simp only[go_sem];refine qL QR ?_;simp only[go_sem];have eM:j5 (qV (qV m a) b) x y=(qW (qV (qV m a) b) (opC x y),[⟨y0,awI (ka:Nat)⟩]):=by unfold j5;rw[ey,a1];rfl
   rw[eM];refine Qu (ys:=[qp.enc ⟨y0,awI (ka:Nat)⟩]) (Els.row ends rfl) (by simp) ?_;simp only[go_sem];exact⟨ow5,(M5.app _).app _,F4.trans (F5.trans ((Fo.app _).trans (Fo.app _))),.inr (.inr ⟨_,(M5.app _).b,rfl,ends⟩)⟩
  ·obtain⟨y0,ey⟩:∃y0,y.W=[y0]:=⟨_,Z6 q2⟩;obtain⟨d0,ed⟩:∃d0,y.D=[d0]:=by
    match y.D,q3 with
    |[d0],_=>exact⟨d0,rfl⟩
   rw[ey,lMc,List.map_nil]at by3;rw[ed,lMc,List.map_nil]at by2;obtain⟨iy,j1,rfl,j3⟩:=by3.one;obtain⟨id,l1,rfl,l3⟩:=by2.one;simp only[k8,go_sem,bx1,by1,QA,j3,l3,qQ];refine qL c762 ?_;simp only[go_sem,j8,List.set_cons_succ,lSz];have eo:opC x y=⟨6,0,opI y.V d0 x.V,[],[]⟩:=by unfold opC;rw[iN (by omega),ed];rfl
   simp only[by1,go_sem,QA,j3];refine XT (SCall.mono (YG M4 a1 ⟨da,a2⟩ ⟨6,0,opI y.V d0 x.V,[],[]⟩ rfl rfl) ?_);rintro r h5 ⟨rfl,ow5,M5,F5⟩;rw[<-eo]at M5;obtain⟨q5,q6⟩:=F5.at j3 j1;obtain⟨q7,q8⟩:=F5.at by1 B2.o;refine⟨⟨J7 (id:=yid) (j:=0) (k:=4) (v:=sQ 2 iy 1) (by simp only[go_sem]) (by simp only[go_sem]) (by rw[q7];rfl) (by simp[AV.rigid]),J7 (id:=iy) (j:=0) (k:=0) (v:=y0.enc) (by simp only[go_sem]) (by simp only[go_sem]) (by rw[q5];rfl) (by unfold qE.enc;exact trivial),trivial⟩, ?_⟩;simp only[go_sem];refine qL QR ?_;simp only[go_sem];have eM:j5 (qV (qV m a) b) x y=(qW (qV (qV m a) b) (opC x y),[⟨y0,awI (ka:Nat)⟩]):=by unfold j5;rw[ey,a1];rfl
   rw[eM];refine Qu (ys:=[qp.enc ⟨y0,awI (ka:Nat)⟩]) (Els.row ends rfl) (by simp) ?_;simp only[go_sem];exact⟨ow5,(M5.app _).app _,F4.trans (F5.trans ((Fo.app _).trans (Fo.app _))),.inr (.inr ⟨_,(M5.app _).b,rfl,ends⟩)⟩
 simp only[c5,decide_false,go_sem];obtain rfl:C=6:=by omega
 have ep:zZ bk m a b x y=chM (qV (qV m a) b) x y:=by
  unfold zZ;rw[iN (by omega),iN (by omega),iN (by omega),iN (by omega),iN (by omega),iP hC]
 rw[ep];simp only[go_sem];obtain⟨w1,w2,w3,w4⟩:=p.o.f6 hC;refine qu (SCall.mono (qrT M4 B1 B2 p.h2 (by rw[p.f2];exact p.need6 hC) w1 w2 w3 (by omega) w4 (by have:(qV (qV m a) b).R=m.R:=rfl;rw[this];omega)) ?_);rintro _ h5 ⟨ow5,M5,F5,L5⟩;simp only[go_sem];exact⟨ow5,M5,F4.trans F5,L5⟩
end
section
variable {w mid cid k a b:Nat} {post cs:List AV} {ow:Nat->Nat} {h h':List qA} {m:qH} {rv dv:AV} {c x y:qC} {P:List qE} {O:Nat->Bool} {bk:List qD} {p:qF}
def xM(m:qH)(post:List AV):AV:=.agg (.lst 5 (m.C.map qC.enc) false::iI m.F::iI m.O.T::iI m.O.I::.lst 2 (m.R.map qF.enc) false::post)
theorem UV:(xM m post).part 0 (some 5)=some m.enc:=by
 simp[xM,qH.enc,AV.part,AV.cells,qE.enc]
theorem YZ(hp:AV.trees post=true):(xM m post).tree=true:=by
 simp[xM,AV.tree,AV.trees,qb qC.isSh.tree,qb qF.isSh.tree,hp]
theorem Cvs.tr:∀{ts:List AV},AV.trees ts=true->Cvs h ts ts
 |[],_=>Cvs.nil
 | t::ts,q=>by
  simp only[AV.trees,bAt]at q;exact Cvs.cons (.refl q.1) (Cvs.tr q.2)
theorem MO.cvx(M:MO w mid post ow h m cid cs rv)(hp:AV.trees post=true):Cv h (mE m cid rv post) (xM m post):=by
 have hd:∀p∈cs.zip (m.C.map qC.enc),Cv h p.1 p.2:=λp hp=>by
  obtain⟨k,hk⟩:=List.getElem?_of_mem hp;obtain⟨h1,h2⟩:=List.getElem?_zip_eq_some.1 hk;rw[gMp,oMi]at h2;obtain⟨c,c1,c2⟩:=h2;obtain⟨v,v1,dv,wv,v2,v3,v4⟩:=M.e k c c1;rw[h1]at v1;cases v1;rw[v2,<-c2];have:=Cvs.cons (Cv.ints (h:=h) (x:=c.K)) (Cvs.cons (Cv.ints (x:=c.L)) (Cvs.cons (Cv.ints (x:=c.V)) (Cvs.cons (v3.cv (qb shI.tree _) (by decide)) (Cvs.cons (v4.cv (qb qE.isSh.tree _) (by decide)) Cvs.nil))));exact .agg this.1 this.2
 have hs:Cv h (sQ 5 cid m.C.length) (.lst 5 (m.C.map qC.enc) false):=by
  refine .slc M.c (by rw[M.l];omega) (by decide) (by rw[List.drop_zero,lLt,M.l,lMp];omega) ?_;rw[List.drop_zero,tOl (by rw[M.l];omega)];exact hd
 have:=Cvs.cons hs (Cvs.cons (Cv.ints (x:=m.F)) (Cvs.cons (Cv.ints (x:=m.O.T)) (Cvs.cons (Cv.ints (x:=m.O.I)) (Cvs.cons (M.r.cv (qb qF.isSh.tree _) (by decide)) (Cvs.tr hp)))));exact .agg this.1 this.2
theorem MH.cvp(M:MH w mid post ow h m)(hp:AV.trees post=true)(hw:0<w):Cv h (.ptr mid 0 0) (.ept (xM m post) 0):=by
 obtain⟨cid,cs,rv,M⟩:=M;exact .ptr M.o hw rfl (M.cvx hp)
theorem MH.lend{g e:Nat}{E:Ev}{ck l:List qG}{fs:List Fr1}{s l':qt}{Q:qn->VSt->Prop}{bs:List AV}{v:AV}(M:MH w mid post ow h m)(hp:AV.trees post=true)(hw:0<w)(hb:AV.trees bs=true)(hf:Pure E.Γ g (.ept m.enc 0::bs) v)(hl:v.leaf=true)
  (hr:R E (.ops l::fs) ⟨(e,v)::s,l',h⟩ Q):jz E (some (g,.ptr mid 0 0::bs)) ck (some e) l fs ⟨s,l',h⟩ Q:=
 wC (Cvs.cons (M.cvp hp hw) (Cvs.tr hb)) (Pure.lk0 (YZ hp) UV (Nat.succ_pos 4) hf) hl hr
theorem MH.lend1{g e:Nat}{E:Ev}{ck l:List qG}{fs:List Fr1}{s l':qt}{Q:qn->VSt->Prop}{bs:List AV}{v a:AV}(M:MH w mid post ow h m)(hp:AV.trees post=true)(hw:0<w)(ha:a.tree=true)(hb:AV.trees bs=true)(hf:Pure E.Γ g (a::.ept m.enc 0::bs) v)(hl:v.leaf=true)
  (hr:R E (.ops l::fs) ⟨(e,v)::s,l',h⟩ Q):jz E (some (g,a::.ptr mid 0 0::bs)) ck (some e) l fs ⟨s,l',h⟩ Q:=
 wC (Cvs.cons (.refl ha) (Cvs.cons (M.cvp hp hw) (Cvs.tr hb))) (Pure.lk1 (YZ hp) UV (Nat.succ_pos 4) hf) hl hr
theorem slcH{w id n m:Nat}{s l:Env}{h:AH}{x y:Ao}{k:IntKind}(hx:ev s x=some (sQ w id n))(hy:ev s y=some (.int k (m:Nat)))(hm:m<=n):val (.slc w x none (some y) none) s l h=some (sQ w id m):=by
 simp only[val,hx,bnd,hy];rw[iP ⟨by omega,by omega⟩];simp
theorem slcL{w id n m:Nat}{s l:Env}{h:AH}{x y:Ao}{k:IntKind}(hx:ev s x=some (sQ w id n))(hy:ev s y=some (.int k (m:Nat)))(hm:m<=n):val (.slc w x (some y) none none) s l h=some (.slice w id m (n-m) false):=by
 simp only[val,hx,bnd,hy];rw[iP ⟨by omega,by omega⟩];simp
theorem qHE{ls:List qp}{l:qp}:JW m (ls++[l])=wQ (JW m ls) l.A l.B:=by simp[JW]
theorem qHF{ls:List qp}{i:Nat}(h:MM m (lws ls++P) O):MM (JW m (ls.take i)) (lws (ls.drop i)++P) O/\(JW m (ls.take i)).C.length=m.C.length:=by
 rw[<-List.take_append_drop i ls,VV,lAa]at h;obtain⟨h1,h2,_⟩:=qBY (ls.take i) h;exact⟨h1,h2⟩
theorem Ls0.rowat{w:Nat}{Pr:Nat->Prop}{v:AV}{el:List AV}(x:Ls0 Pr w h v el)(h0:0<el.length):∃id,Pr id/\v=sQ w id el.length/\h[id]?=some (.row w el true):=by
 rcases x with⟨_,q⟩ | x
 ·rw[q]at h0;simp at h0
 ·exact x.full h0
theorem Ls0.fo0{w:Nat}{ow':Nat->Nat}{v:AV}{el:List AV}(x:Ls0 (λj=>ow j=0) w h v el)(f:Fo ow h ow' h'):Ls0 (λj=>ow' j=0) w h' v el:=x.imp id λx=>x.fo0 f
theorem qIU(p:Pl bk m a b x y P O):(zZ bk m a b x y).2.length<=1000:=by
 obtain⟨w1,w2⟩:=p.o.wl;unfold zZ
 repeat' split
 ·simp
 ·simp
 ·unfold wc;simp only;rw[Y0,lLt];omega
 ·have hal:∀i,i<=y.W.length->(zr (qV (qV m a) b) y i).2.length=i:=by
   intro i
   induction i with
   | zero=>intro _;rfl
   | succ i ih=>
    intro hi;rw[Xe (gEg (show i<y.W.length by omega)),QW];simp[ih (by omega)]
  rw[hal _ (nLr _)];omega
 ·simp[j5]
 ·unfold chM;split<;>simp
 ·simp
theorem s600(M:MH w mid [] ow h m)(hw:0<w)(mm:MM m [] O0)(hk:k<m.R.length)(hb:jG bk=true)(hcl:m.C.length<=1500):
  SCall Gm 600 [.lst 1 (bk.map qD.enc) false,.ptr mid 0 0,iI (k:Nat)] h (λv h'=>v=.tup [iI (doM bk m k).2.1,iI (doM bk m k).2.2]/\∃ow',MH w mid [] ow' h' (doM bk m k).1/\Fo ow h ow' h'):=by
 obtain⟨p,a,b,x,y,r⟩:=X9 mm hk;have hrl:=YF mm;refine sI F600 ?_;obtain⟨cid,cs,rv,M⟩:=M;obtain⟨rid,i1,rfl,i3⟩:=M.r.full (by rw[lMp];omega);rw[lMp]at M;simp only[F600,qN,go_sem,M.o,qS hk,nZa,i3,gMp,r.at',oMs];refine lsA ?_;simp only[go_sem];obtain⟨ka,kb,u,v,h1,hc,h2⟩:=r.ro.cls;have wu:u.W.length<=3/\v.W.length<=3/\x.W.length<=3/\y.W.length<=3:=by
  have w1:=JZ r.ro.ox;have w2:=JZ r.ro.oy;rw[agp]at w1 w2;rcases h2 with⟨_,_,_,rfl,rfl⟩ | ⟨_,_,_,rfl,rfl⟩<;>omega
 have MM1:=MH.intro M;refine MM1.lend rfl hw (by simp[AV.trees,go_sem]) (c969 h1 (by omega) (by omega)) rfl ?_;rw[show zb (qZ u) (qZ v)=qi x y from hc];simp only[go_sem];have hl8:=QF r.ro.ox;have hv:qi x y=7->0<=x.V:=λc=>by
  have h8:qi x y≠8:=by omega
  exact(Ord.f7 ⟨r.ro.ox,r.ro.oy,r.kx,r.ky,r.f,h8⟩ c).2
 refine MM1.lend1 rfl hw (by simp[AV.tree,qb qD.isSh.tree]) (by simp[AV.trees,go_sem]) (c855 r.ro hb (by omega) (by omega) hv hl8) rfl ?_;simp only[go_sem];have er:=r.do (bk:=bk);have hrs:2<=2:=nLr _;by_cases h0:(zE bk x y).2=0
 case neg=>
  rw[iP h0]at er;simp only[h0,decide_false,go_sem];rw[er];exact⟨rfl,ow,MM1,Fo.refl⟩
 simp only[h0,go_sem];obtain⟨L,hL⟩:=mm.fre;refine MM1.lend rfl hw rfl (c970 (by omega) hL) rfl ?_;simp only[go_sem];refine qL c857 ?_;simp only[go_sem];have hnF:nF m.C<=m.C.length:=List.countP_le_length;have ew:IntKind.i64.wrap ((nF m.C:Nat)+(if qi x y=7 then 1 else 2:Int))=(nF m.C:Int)+JE (qi x y):=by unfold JE;split<;>rw[wsA]
 rw[iN (by omega)]at er;simp only[ew];by_cases hn:(nF m.C:Int)+JE (qi x y)<(zE bk x y).1
 ·rw[iP hn]at er;simp only[hn,go_sem];rw[er];exact⟨rfl,ow,MM1,Fo.refl⟩
 rw[iN hn]at er;simp only[hn,decide_false,go_sem];refine MM1.lend rfl hw (by simp[AV.trees,go_sem]) (c971 h1) (by split<;>rfl) ?_;have e2:(if JL u v=true then AV.tup [iI (kb:Nat),iI (ka:Nat)]else .tup [iI (ka:Nat),iI (kb:Nat)])=.tup [iI (a:Nat),iI (b:Nat)]:=by
  rcases h2 with⟨hs,rfl,rfl,_,_⟩ | ⟨hs,rfl,rfl,_,_⟩<;>rw[hs]<;>rfl
 rw[e2];simp only[go_sem,M.o];refine X7 (slcH (k:=.i64) (id:=rid) (n:=m.R.length) (m:=k) (by simp only[go_sem]) (by simp only[go_sem]) (by omega)) ?_;simp only[go_sem,M.o,wuA (n:=k)];refine X7 (slcL (k:=.i64) (id:=rid) (n:=m.R.length) (m:=k+1) (by simp only[go_sem]) (by simp only[go_sem]) (by omega)) ?_;simp only[go_sem];have et:(m.R.take k).length=k:=by rw[lLt];omega
 refine Yi (ys:=(m.R.take k).map qF.enc) (by have:=Els.part (off:=0) (n:=k) (c:=false) i3 (by rw[lMp];omega);rwa[List.drop_zero,<-List.map_take]at this) (by rw[lMp];omega) ?_;have ey:(((m.R.map qF.enc).drop (k+1)).take (m.R.length-(k+1)))=(m.R.drop (k+1)).map qF.enc:=by
  rw[<-List.map_drop,<-List.map_take,tOl (by rw[List.length_drop];omega)]
 rw[lMp,et];simp only[go_sem];refine WG (id:=h.length) (el:=(m.R.take k).map qF.enc) (ys:=(m.R.drop (k+1)).map qF.enc) (by have:=Els.part (off:=k+1) (n:=m.R.length-(k+1)) (c:=false) (jN (o:=[qA.row 2 ((m.R.take k).map qF.enc) true]) i3) (by rw[lMp];omega);rwa[ey]at this) ends (by rw[lMp];exact et) (by rw[lMp,List.length_drop];omega) ?_;simp only[go_sem];have lm:=qz M.o;have U1:Up (λj=>ow j=2) h ((h++[qA.row 2 ((m.R.take k).map qF.enc) true]).set h.length .dead++[qA.row 2 ((m.R.take k).map qF.enc++(m.R.drop (k+1)).map qF.enc) true]):=by
  refine((Up.app _ (S:=λ_=>False)).trans (Up.set (id:=h.length)) (T:=λj=>j=h.length) λj hj q=>by omega) |>.trans (Up.app _ (S:=λ_=>False)) (λ_ _ q=>q) |>.w λj _ q=>q.elim
 have hid:((h++[qA.row 2 ((m.R.take k).map qF.enc) true]).set h.length .dead++[qA.row 2 ((m.R.take k).map qF.enc++(m.R.drop (k+1)).map qF.enc) true])[h.length+1]?=some (.row 2 ((unR m k).R.map qF.enc) true):=by
  rw[gAr (by simp)];simp[unR]
 have hM1:=U1.at M.o (λq=>by rw[M.m1]at q;cases q);have el:(h++[qA.row 2 ((m.R.take k).map qF.enc) true]).length=h.length+1:=by simp
 obtain⟨M2,F2⟩:=M.redx (rx:=(unR m k).R) (rv':=.slice 2 (h.length+1) 0 (k+(m.R.drop (k+1)).length) false) U1 (by omega) hid (by simp only[unR,lAp,et]);rw[el];generalize (h++[qA.row 2 ((m.R.take k).map qF.enc) true]).set h.length .dead++[qA.row 2 ((m.R.take k).map qF.enc++(m.R.drop (k+1)).map qF.enc) true]=hA at*;refine V8 (rv':=.slice 2 (h.length+1) 0 (k+(m.R.drop (k+1)).length) false) hM1 (unR m k).R rfl ?_;have pl:=r.pl hb h0 hn;generalize owR ow (h.length+1)=ow2 at*;generalize hA.set mid _=hB at*;have M3:MH w mid [] ow2 hB (unR m k):=MH.intro M2;simp only[go_sem];have hxd:=WP r.ro.ox;have hyd:=WP r.ro.oy;refine qu (SCall.mono (s972 M3 pl (by have:x.D.length<=4:=hxd;omega) (by have:y.D.length<=4:=hyd;omega) (by simp only[unR,lAp,lLt,List.length_drop];omega)) ?_);rintro v4 h4 ⟨ow4,M4,F4,L4⟩;simp only[go_sem];obtain⟨p1,p2⟩:=qCL pl;generalize hq:zZ bk (unR m k) a b x y=q at*;have p2':q.1.C.length=m.C.length:=p2;have hql:q.2.length<=1000:=by rw[<-hq];exact qIU pl
 have hv4:Qd (some v4)=some (iI (q.2.length:Nat)):=by have:=L4.len;rwa[lMp]at this
 rw[er];refine Sem.loop (λa':Nat×(Nat->Nat)×List qA=>a'.1<=q.2.length/\MH w mid [] a'.2.1 a'.2.2 (JW q.1 (q.2.take a'.1))/\Fo ow4 h4 a'.2.1 a'.2.2)
  (λa'=>(⟨[(1,.ptr mid 0 0),(9,iI (qi x y)),(14,v4),(15,iI (a'.1:Nat))],[],a'.2.2⟩:VSt)) (λa'=>q.2.length-a'.1)
  (0,ow4,h4) (by kernel_rfl) ⟨nZl _,M4,Fo.refl⟩ csA ?_
 rintro⟨i,ow5,h5⟩ ⟨hi,M5,F5⟩;simp only at hi M5 F5;simp only[go_sem,hv4];by_cases hlt:i<q.2.length
 case neg=>
  have e:decide ((i:Int)<(q.2.length:Nat))=false:=dEf (by omega);simp only[e,go_sem];rw[tOl (by omega)]at M5;exact⟨trivial,ow5,M5,(F2.trans F4).trans F5⟩
 have e:decide ((i:Int)<(q.2.length:Nat))=true:=dEt (by omega);have hli:=gEg hlt;generalize hlk:q.2[i]=lk at hli;obtain⟨id,j1,rfl,j3⟩:=(L4.fo0 F5).rowat (by rw[lMp];omega);simp only[e,go_sem,qS hlt,nZa,j3,gMp,hli,oMs];obtain⟨m1,m2⟩:=qHF (i:=i) p1;have ed:q.2.drop i=lk::q.2.drop (i+1):=by rw[lDc hlt,hlk]
 rw[ed,lAn]at m1;have hr5:=YF m1;refine qu (SCall.mono (s973 M5 m1 (by omega)) ?_);rintro _ h6 ⟨ow6,M6,F6⟩;simp only[go_sem,wuA (n:=i)];have et2:q.2.take (i+1)=q.2.take i++[lk]:=by rw[tA1,hli];rfl
 rw[<-qHE,<-et2]at M6;exact qa (i+1,ow6,h6) ⟨by simp only;omega,M6,F5.trans F6⟩ (by simp only;omega) csA
end
def Zh(N:List qB)(ps:List qI):List zV:=(wrs N ps).filter z8
theorem qn3{N:List qB}{ps:List qI}{p:qI}:Zh N (ps++[p])=Zh N ps++if bef p (qR N p)=true/\z8 ⟨p,qR N p⟩=true then [⟨p,qR N p⟩]else []:=by
 unfold Zh;rw[qK4,List.filter_append,qK5];congr 1;by_cases h:bef p (qR N p)=true
 ·rw[iP h];by_cases q:z8 ⟨p,qR N p⟩=true
  ·rw[iP ⟨h,q⟩,List.filter_cons_of_pos q];rfl
  ·rw[iN (λz=>q z.2),List.filter_cons_of_neg q];rfl
 ·rw[iN h,iN (λz=>h z.1)];rfl
theorem qEZ{n:qD}(hz:n.sz<=1048576)(ok:zM n=true):Pure Gm 1421 [.ept n.enc 0] (.lst 4 ((qq n.G).map zV.enc) false):=by
 refine pI Kn (by simp[AV.trees,AV.tree,go_sem]) (qb zV.isSh.tree _) ?_;simp only[Kn,qN,go_sem];refine qL (c554 hz) ?_;simp only[go_sem];have hpl:=Zt n.G n.G.length (nLr _);rw[lTl]at hpl;have hW:=Zo ok;unfold qD.sz at hz;change Sem _ _ ⟨(10,iI 0)::(9,iI ((qo n.G).length:Nat))::(8,.lst 2 ((qo n.G).map qI.enc) false)::_,_,_⟩ _;have hpl2:(qo n.G).length<=1048576:=by unfold qo;omega
 refine Sem.loop (λa:Nat×AV×List qA=>a.1<=(qo n.G).length/\LsW (λ_=>True) 4 a.2.2 a.2.1 ((Zh n.G ((qo n.G).take a.1)).map zV.enc))
  (λa=>(⟨[(0,.ept n.enc 0),(2,.nils),(3,a.2.1),(8,.lst 2 ((qo n.G).map qI.enc) false),(9,iI ((qo n.G).length:Nat)),(10,iI (a.1:Nat))],[],a.2.2⟩:VSt)) (λa=>(qo n.G).length-a.1)
  (0,.nils,[]) (by kernel_rfl) ⟨nZl _,.inl ⟨rfl,rfl⟩⟩ csA ?_
 rintro⟨i,v,h⟩ ⟨hi,I⟩;simp only at hi I;simp only[go_sem];by_cases hlt:i<(qo n.G).length
 case neg=>
  have e:decide ((i:Int)<((qo n.G).length:Nat))=false:=dEf (by omega);simp only[e,go_sem];rw[tOl (by omega)]at I;exact J8 (I.cv (qb zV.isSh.tree _) (by decide))
 have e:decide ((i:Int)<((qo n.G).length:Nat))=true:=dEt (by omega);have hc:=gEg hlt;generalize (qo n.G)[i]=p at hc;have hm:=lMo hc;obtain⟨a,s,rfl,hs⟩:=JO.1 hm;obtain⟨z,hz1,hz2⟩:=wD.1 hs;have ha:=qz hz1;have hs2:s<n.G[a].P.length:=by
  rw[gEg ha]at hz1;rw[Option.some.inj hz1];exact hz2
 have hpe:qR n.G (pt a s)=n.G[a].P[s]:=Ws (Qv.2 ⟨n.G[a],gEg ha,gEg hs2⟩);simp only[e,gMp,hc,oMs,go_sem];refine lsA ?_;simp only[go_sem];refine qL (Yn ha hs2) ?_;rw[<-hpe];have hs3:=qn3 (N:=n.G) (ps:=(qo n.G).take i) (p:=pt a s);have et:(qo n.G).take (i+1)=(qo n.G).take i++[pt a s]:=by rw[tA1,hc];rfl
 generalize hq:qR n.G (pt a s)=q at*;simp only[go_sem];refine lsA ?_;simp only[go_sem];refine qL c556 ?_;simp only[go_sem];cases hb:bef (pt a s) q
 ·simp only[go_sem,wuA (n:=i)];refine qa (i+1,v,h) ⟨by simp only;omega, ?_⟩ (by simp only;omega) csA;simp only[et];rw[hs3,iN (λz=>by have:=z.1;rw[hb]at this;cases this),lAn];exact I
 simp only[go_sem];by_cases hA:0<(pt a s).S
 case neg=>
  have eA:decide (0<(pt a s).S)=false:=dEf hA;simp only[eA,go_sem];simp only[go_sem,wuA (n:=i)];refine qa (i+1,v,h) ⟨by simp only;omega, ?_⟩ (by simp only;omega) csA;simp only[et];rw[hs3,iN (λz=>hA (by have:=z.2;simp only[z8,bAt,dTe]at this;exact this.1)),lAn];exact I
 have eA:decide (0<(pt a s).S)=true:=dEt hA;simp only[eA,go_sem];by_cases hB:0<q.S
 case neg=>
  have eB:decide (0<q.S)=false:=dEf hB;simp only[eB,go_sem];simp only[go_sem,wuA (n:=i)];refine qa (i+1,v,h) ⟨by simp only;omega, ?_⟩ (by simp only;omega) csA;simp only[et];rw[hs3,iN (λz=>hB (by have:=z.2;simp only[z8,bAt,dTe]at this;exact this.2)),lAn];exact I
 have eB:decide (0<q.S)=true:=dEt hB;simp only[eB,go_sem];have hwl:(Zh n.G ((qo n.G).take i)).length<=1048576:=by
  have h1:(Zh n.G ((qo n.G).take i)).length<=(wrs n.G ((qo n.G).take i)).length:=List.length_filter_le ..;have h2:=qDJ (xs:=n.G) (a:=(qo n.G).take i);rw[lLt]at h2;omega
 refine Jd (I.app _) ends (by rw[lMp];omega) λh3 u3 w3 l3=>?_;simp only[go_sem,wuA (n:=i)];rw[iP ⟨hb,by simp only[z8,eA,eB,Bool.and_self]⟩]at hs3;refine qa (i+1,.slice 4 (h++[qA.row 4 [AV.agg [iI (pt a s).N,iI (pt a s).S,iI q.N,iI q.S]] true]).length 0 (((Zh n.G ((qo n.G).take i)).map zV.enc).length+1) false,h3) ⟨by simp only;omega, ?_⟩ (by simp only;omega) csA;refine .inr ⟨(h++[qA.row 4 [AV.agg [iI (pt a s).N,iI (pt a s).S,iI q.N,iI q.S]] true]).length,trivial, ?_, ?_⟩
 ·simp only[et,hs3];simp
 ·simp only[et,hs3,lMa];exact w3
section
variable {w mid cid k s b bid a0:Nat} {post cs:List AV} {ow ow':Nat->Nat} {h h':List qA} {m:qH} {rv dv:AV} {c y:qC} {lev:Int} {n:qD} {P:List qE} {O:Nat->Bool} {ks vs:List Nat} {bk:List qD}
theorem qoZ:(mE m cid rv [.lst 1 (bk.map qD.enc) false]).part 5 none=some (.lst 1 (bk.map qD.enc) false):=rfl
theorem VK{a0:Nat}:lay n.enc a0=(.agg [sQ 5 a0 n.G.length],.row 5 (qO (n.G.map qB.enc) (a0+1)).1 true::(qO (n.G.map qB.enc) (a0+1)).2):=by simp[qD.layE,lay]
theorem qpO{a0:Nat}{H:List qA}(hn:0<n.G.length)(hr:∀i o,(lay n.enc a0).2[i]?=some o->H[a0+i]?=some o):Cv H (.agg [sQ 5 a0 n.G.length]) n.enc/\Cv H (.slice 5 a0 1 (n.G.length-1) false) (.lst 5 ((n.G.drop 1).map qB.enc) false):=by
 have h1:=qBT n.enc a0 (qD.plx n) (qD.cnx n) hr;rw[VK]at h1;refine⟨h1, ?_⟩;have r0:=hr 0 (.row 5 (qO (n.G.map qB.enc) (a0+1)).1 true) (by rw[VK];rfl);have ll:(qO (n.G.map qB.enc) (a0+1)).1.length=n.G.length:=by rw[jk,lMp]
 have lc:=Xq (h:=H) (n.G.map qB.enc) (a0+1) (zN qB.plx _) (jg qB.cnx _) λi o q=>by
  have:=hr (i+1) o (by rw[VK];exact q);rw[show a0+1+i=a0+(i+1) by omega];exact this
 rw[nAz]at r0;refine .slc r0 (by omega) (by decide) (by simp[ll]) λp hp=>?_;obtain⟨k,hk⟩:=List.getElem?_of_mem hp;obtain⟨k1,k2⟩:=List.getElem?_zip_eq_some.1 hk;rw[tOl (by rw[List.length_drop,ll];omega),gDr]at k1;rw[List.map_drop,gDr]at k2;exact lc p (lMo (List.getElem?_zip_eq_some.2 ⟨k1,k2⟩))
theorem qC2{N:List qB}{T:qI->qE}{D:qI->Bool}{i k0 tid:Nat}{x:qB}{Mv:qH}{q:qE}(M:MH w mid post ow h (ovM Mv (gkw ks (dW N T D))))(nd:ks.Nodup)(hk:ks[i]?=some k)(hc:Mv.C[k]?=some c)(hx:N[i+1]?=some x)(hs:s+1<x.P.length)(hp:x.P.length<=1000)
  (ht:h[tid]?=some (.row 1 ((k0::ks).map λk:Nat=>AV.int .i64 (k:Nat)) true)) (ot:ow tid=0) (hl:ks.length+1=N.length) (hq:T (pt (i+1) (s+1))=q):SCall Gm 866 [.ptr mid 0 0,(pt (i+1) (s+1)).enc,q.enc,sQ 1 tid N.length] h (λ_ h'=>∃ow',MH w mid post ow' h' (ovM Mv (gkw ks (dW N T (jW D (pt (i+1) (s+1))))))/\Fo ow h ow' h'):=by
 have l:=qFV (T:=T) (D:=D) hx;have e:(k0::ks).length=N.length:=by simp;exact hl
 have:=s866 (n:=0) (x:=q) (s:=s) (a:=i+1) (kl:=k0::ks) M (qCF (f:=dW N T D) nd hk hc) (by simp only;omega) (by simp only;omega) (by simpa using hk) ht ot;rw[e]at this;refine SCall.mono this ?_;rintro v h' ⟨ow',M',F'⟩;refine⟨ow', ?_,F'⟩;rw[<-hq]at M';rwa[qI0 nd hk hc hx hs]at M'
theorem qn7{w:zV}(ok:zM n=true)(h:w∈qq n.G):∃(a s c t:Nat)(y z:qB),w=⟨pt (a+1) (s+1),pt (c+1) (t+1)⟩/\n.G[a+1]?=some y/\s+1<y.P.length/\n.G[c+1]?=some z/\t+1<z.P.length:=by
 obtain⟨A,B⟩:=w;obtain⟨x1,x2,x3,x4,x5⟩:=WX.1 h;simp only at x1 x2 x3 x4 x5;obtain⟨q1,-,-⟩:=jq (Zo ok) x1;rw[<-x2]at q1;obtain⟨a,s,rfl,hs⟩:=JO.1 x1;obtain⟨c,t,rfl,ht⟩:=JO.1 q1;obtain⟨y,y1,y2⟩:=wD.1 hs;obtain⟨z,z1,z2⟩:=wD.1 ht;simp only[pt]at x4 x5;have ha:a≠0:=λe=>by subst e;have:=Zx ok y1;omega
 have hc:c≠0:=λe=>by subst e;have:=Zx ok z1;omega
 obtain⟨a,rfl⟩:∃a',a=a'+1:=⟨a-1,by omega⟩;obtain⟨c,rfl⟩:∃a',c=a'+1:=⟨c-1,by omega⟩;obtain⟨s,rfl⟩:∃a',s=a'+1:=⟨s-1,by omega⟩;obtain⟨t,rfl⟩:∃a',t=a'+1:=⟨t-1,by omega⟩;exact⟨a,s,c,t,y,z,rfl,y1,y2,z1,z2⟩
theorem qkV:Pure Gm 1257 [] (pt 0 0).enc:=by
 refine pI Uv rfl qI.tr ?_;simp only[Uv,qN,go_sem];refine lsA ?_;simp only[go_sem];exact qM rfl rfl
theorem qE3{xs:Ags}{a s:Nat}(h:Has xs a s)(mp:∀q,qR xs q=qR n.G q):Pure Gm 555 [.ept (qD.enc ⟨xs⟩) 0,(pt a s).enc] (qR n.G (pt a s)).enc:=by
 obtain⟨z,z1,z2⟩:=wD.1 h;have ha:=qz z1;have hs:s<xs[a].P.length:=by rw[gEg ha]at z1;rw[Option.some.inj z1];exact z2
 have:=Yn (n:=⟨xs⟩) ha hs;have hpe:qR xs (pt a s)=xs[a].P[s]:=Ws (Qv.2 ⟨xs[a],gEg ha,gEg hs⟩);rw[<-mp,hpe];exact this
theorem qrV{x:qC}{dvx wvx:AV}(M:MH w mid [.lst 1 (bk.map qD.enc) false] ow h m)(hv:0<=x.V/\x.V<bk.length)(hn:qw bk x.V=n)(hz:n.sz<=1048576)(ok:zM n=true)(hl:0<=x.L/\x.L<=8)(n9:¬8<IntKind.i64.wrap (hiI n.G+x.L))(mm:MM m (aW b::P) O)
  (hf:n.G.length-1+(qq n.G).length<=nF m.C) (X:WB n x.L m b P O ks vs) (hrx:m.R.length+n.G.length<=1000000):
  SCall Gm 1289 [.ptr mid 0 0,cE x dvx wvx,iI (b:Nat)] h (λ_ h'=>∃ow',MH w mid [.lst 1 (bk.map qD.enc) false] ow' h' (Xf n x.L m b)/\Fo ow h ow' h'):=by
 have hn0:=ZH ok;have hC:=qDD ok hl n9;rw[X.mem];obtain⟨I,J,-⟩:=X;refine sI KA ?_;obtain⟨cid,cs,rv,M0⟩:=id M;simp only[KA,qN,go_sem];refine qX rfl ?_;simp only[go_sem,M0.o,qoZ,Xk hv.1 hv.2,hn];refine jY (qHT n x.L (by omega) hl λz hz=>QF (J4 (Qg ok) z hz)) ?_;rw[qoY ok hl n9];have okT:=qoX ok hl n9;have mpT:=qpD (xs:=n.G) (ZG (lev:=x.L));have mpP:=qB6 (xs:=n.G) (ZG (lev:=x.L));have mpQ:=qHR (xs:=n.G) (ZG (lev:=x.L));have mpE:∀q,qR (n.G.map (lvA x.L)) q=qR n.G q:=λq=>qHS ZG;have hT:(n.G.map (lvA x.L)).length=n.G.length:=by simp
 have hT0:∀(k:Nat)(z:qB),n.G[k]?=some z->(n.G.map (lvA x.L))[k]?=some (lvA x.L z):=λk z hz=>by rw[gMp,hz];rfl
 generalize hTT:n.G.map (lvA x.L)=T at*;have eL:lay (QH (⟨T⟩,true)) h.length=(.tup [(lay (qD.enc ⟨T⟩) h.length).1,.bool true],(lay (qD.enc ⟨T⟩) h.length).2):=by simp[QH,lay,qO]
 rw[eL];have hcv:=λH=>qpO (n:=⟨T⟩) (a0:=h.length) (H:=H) (by simp only;omega);have eL1:(lay (qD.enc ⟨T⟩) h.length).1=.agg [sQ 5 h.length T.length]:=by rw[VK]
 rw[eL1];generalize (lay (qD.enc ⟨T⟩) h.length).2=HR at*;simp only[go_sem];refine zX (e':=.agg [sQ 5 h.length T.length]) rfl List.getElem?_concat_length rfl rfl ?_;have es:(h++HR++[qA.row 1 [AV.agg [AV.nils]] true]).set (h++HR).length (qA.row 1 (List.set [AV.agg [AV.nils]] 0 (AV.agg [AV.slice 5 h.length 0 T.length false])) true)=h++HR++[qA.row 1 [AV.agg [AV.slice 5 h.length 0 T.length false]] true]:=by
  rw[lSr _ _ (nLr _),nSs];rfl
 rw[es];have hb:(h++HR++[qA.row 1 [AV.agg [AV.slice 5 h.length 0 T.length false]] true])[(h++HR).length]?=some (qA.row 1 [AV.agg [AV.slice 5 h.length 0 T.length false]] true):=ends;have hR:∀i o,HR[i]?=some o->(h++HR++[qA.row 1 [AV.agg [AV.slice 5 h.length 0 T.length false]] true])[h.length+i]?=some o:=λi o q=>by
  rw[gAl (by have:=qz q;simp;omega),gAr (by omega),Nat.add_sub_cancel_left];exact q
 have MB:MH w mid [.lst 1 (bk.map qD.enc) false] ow (h++HR++[qA.row 1 [AV.agg [AV.slice 5 h.length 0 T.length false]] true]) m:=(M.app HR).app _;have FB:Fo ow h ow (h++HR++[qA.row 1 [AV.agg [AV.slice 5 h.length 0 T.length false]] true]):=(Fo.app _).trans (Fo.app _);have lB:(h++HR++[qA.row 1 [AV.agg [AV.slice 5 h.length 0 T.length false]] true]).length=(h++HR).length+1:=by simp;omega
 have hbl:(h++HR).length=h.length+HR.length:=lAp;clear es;generalize h++HR++[qA.row 1 [AV.agg [AV.slice 5 h.length 0 T.length false]] true]=HB at*;generalize (h++HR).length=bid at*;have hnz:n.G.length<=1048576:=by unfold qD.sz at hz;omega
 have ob:∀j,h.length<=j->ow j=0:=λj hj=>Classical.byContradiction λq=>by have:=M.b' q;omega
 simp only[go_sem,hb];refine Jx (by unfold LIM;omega) ?_;simp only[go_sem];have hb2:(HB++[qA.row 1 (List.replicate T.length (AV.int .i64 0)) true])[bid]?=_:=jN hb;simp only[hb2,go_sem];refine X7 (slcL (k:=.i64) (id:=h.length) (n:=T.length) (m:=1) (by simp only[go_sem]) (by simp only[go_sem];rfl) (by omega)) ?_;simp only[go_sem];have ext:∀i o,HR[i]?=some o->(only (List.range' h.length (HR.length+1)) (HB++[qA.row 1 (List.replicate T.length (AV.int .i64 0)) true]))[h.length+i]?=some o:=λi o q=>by
  rw[qIE (by rw[List.mem_range'_1];have:=qz q;omega)];exact jN (hR i o q)
 have exb:(only (List.range' h.length (HR.length+1)) (HB++[qA.row 1 (List.replicate T.length (AV.int .i64 0)) true]))[bid]?=_:=(qIE (by rw[List.mem_range'_1];omega)).trans hb2;obtain⟨cv1,cv2⟩:=hcv _ ext;refine Sem.can (Can.give (s':=[(0,.ptr mid 0 0),(2,iI (b:Nat)),(6,.ept (qD.enc ⟨T⟩) 0),(8,sQ 1 HB.length T.length),(40,.lst 5 ((T.drop 1).map qB.enc) false),(41,iI (T.length-1:Nat)),(42,iI 0)]) (m':=[]) (List.range' h.length (HR.length+1))
  (GvS.same (by simp only[go_sem]) (GvS.same (by simp only[go_sem]) (GvS.cons (v:=.ptr bid 0 0) (by simp only[go_sem]) (.ptr exb (by decide) rfl cv1) (by simp only[AV.tree];exact qD.tr) (GvS.same (by simp only[go_sem]) (GvS.cons (v:=.slice 5 h.length 1 (T.length-1) false) (by simp only[go_sem]) cv2 (by simp only[AV.tree];exact qb qB.isSh.tree _) (GvS.same (by simp only[go_sem]) (GvS.same (by simp only[go_sem]) .nil))))))) .nil) ?_
 have ht:(without (List.range' h.length (HR.length+1)) (HB++[qA.row 1 (List.replicate T.length (AV.int .i64 0)) true]))[HB.length]?=some (.row 1 (List.replicate T.length (AV.int .i64 0)) true):=by
  rw[qDI (by rw[List.mem_range'_1];omega)];exact ends
 have FC:Fo ow h ow (without (List.range' h.length (HR.length+1)) (HB++[qA.row 1 (List.replicate T.length (AV.int .i64 0)) true])):=⟨by rw[qK0];simp;omega,λj hj q=>⟨q,by
  rw[qDI (by rw[List.mem_range'_1];omega),gAl (by omega)];exact(FB.k j hj q).2⟩⟩
 have MC':MH w mid [.lst 1 (bk.map qD.enc) false] ow (without (List.range' h.length (HR.length+1)) (HB++[qA.row 1 (List.replicate T.length (AV.int .i64 0)) true])) m:=(MB.app _).heap (by rw[qK0];exact nLr _) λj _ q=>qDI λz=>by rw[List.mem_range'_1]at z;exact q (ob j z.1)
 have ot:ow HB.length=0:=ob _ (by omega);clear exb ext cv1 cv2 hcv hb2 hb hR MB FB;have tidl:h.length<=HB.length:=by omega
 generalize without (List.range' h.length (HR.length+1)) (HB++[qA.row 1 (List.replicate T.length (AV.int .i64 0)) true])=HC at*;generalize HB.length=tid at*;have hcell:∀(i:Nat)(x:qB),n.G[i+1]?=some x->qy x.K=true:=λi x hx=>(hC i x hx).1;have r0:List.replicate T.length (AV.int .i64 0)=((0:Int)::([]++List.replicate (n.G.length-1-0) 0)).map qQ:=by
  rw[show T.length=(n.G.length-1-0)+1 by omega,List.replicate_succ,lNa,lMc,List.map_replicate];rfl
 rw[r0]at ht;refine Sem.loop (λa:Nat×(Nat->Nat)×List qA=>a.1+1<=n.G.length/\MH w mid [.lst 1 (bk.map qD.enc) false] a.2.1 a.2.2 (tkA x.L n.G m a.1).1/\Fo ow h a.2.1 a.2.2/\a.2.2[tid]?=some (.row 1 (((0:Int)::((tkA x.L n.G m a.1).2++List.replicate (n.G.length-1-a.1) 0)).map qQ) true)/\a.2.1 tid=0)
  (λa=>(⟨[(0,.ptr mid 0 0),(2,iI (b:Nat)),(6,.ept (qD.enc ⟨T⟩) 0),(8,sQ 1 tid n.G.length),(40,.lst 5 ((T.drop 1).map qB.enc) false),(41,iI (n.G.length-1:Nat)),(42,iI (a.1:Nat))],[],a.2.2⟩:VSt)) (λa=>n.G.length-a.1)
  (0,ow,HC) (by kernel_rfl) ⟨by simp only;omega,MC',FC,ht,ot⟩ (Can.sub (by simp[go_sem,hT]) (by simp[go_sem])) ?_
 rintro⟨i,ow2,h2⟩ ⟨hi,M2,F2,t2,o2⟩;simp only at hi M2 F2 t2 o2;simp only[go_sem];by_cases hlt:i+1<n.G.length
 case neg=>
  have e:decide ((i:Int)<((n.G.length-1:Nat):Int))=false:=dEf (by omega);obtain rfl:i=n.G.length-1:=by omega
  simp only[e,go_sem];have hW:=Zo ok;have hkl:=I.len;rw[I.at',nSs,List.replicate_zero,lAn]at t2;have t3:h2[tid]?=some (.row 1 ((0::ks).map λk:Nat=>AV.int .i64 (k:Nat)) true):=by rw[t2];simp[nI2,qQ]
  clear t2;refine qL (qEZ (n:=⟨T⟩) (by have:=ZI okT;omega) okT) ?_;simp only[go_sem];rw[show qq (qD.mk T).G=qq n.G from mpT];have Ic:=I.cell;have Inf:=I.nf;have Ix:=I.rx;have Imm:=I.mm;have TO:=qDC (b:=b) (ks:=ks) hW J.len;generalize hsA:(tkA x.L n.G m (n.G.length-1)).1=sA at*;generalize hWW:tW n.G b ks vs=T0 at*;have hk:∀(i:Nat)(z:qB),n.G[i+1]?=some z->∃k,ks[i]?=some k/\∀q,q<=(qq n.G).length->(tkV sA q).1.C[k]?=some (agC x.L z):=λi z h1=>by
   have h2:=qz h1;have h3:=gEg (show i<ks.length by omega);refine⟨_,h3,λq hq=>?_⟩;exact qKI Imm (by omega) (Ic i _ z h3 h1) (Jt (hcell i z h1))
  have hp4:∀(i:Nat)(z:qB),n.G[i]?=some z->z.P.length<=1000:=λi z h1=>by have:=JZ (Zp ok h1);omega
  have hil:(qq n.G).length<=1048576:=nLt (List.length_filter_le ..) (YY hz);refine Sem.loop (λa:Nat×(Nat->Nat)×List qA=>a.1<=(qq n.G).length/\MH w mid [.lst 1 (bk.map qD.enc) false] a.2.1 a.2.2 (ovM (tkV sA a.1).1 (gkw ks (dW n.G T0 (onW ((qq n.G).take a.1)))))/\Fo ow h a.2.1 a.2.2/\a.2.2[tid]?=some (.row 1 ((0::ks).map λk:Nat=>AV.int .i64 (k:Nat)) true)/\a.2.1 tid=0)
   (λa=>(⟨[(0,.ptr mid 0 0),(2,iI (b:Nat)),(6,.ept (qD.enc ⟨T⟩) 0),(8,sQ 1 tid n.G.length),(58,.lst 4 ((qq n.G).map zV.enc) false),(59,iI ((qq n.G).length:Nat)),(60,iI (a.1:Nat))],[],a.2.2⟩:VSt)) (λa=>(qq n.G).length-a.1)
   (0,ow2,h2) (by kernel_rfl) ⟨nZl _, ?_,F2,t3,o2⟩ csA ?_
  ·simp only[List.take_zero,qH8,tkV];rw[qIH (lev:=x.L) I.nd (by omega) Ic];exact M2
  rintro⟨j,ow3,h3⟩ ⟨hj,M3,F3,t4,o3⟩;simp only at hj M3 F3 t4 o3;simp only[go_sem];by_cases hjl:j<(qq n.G).length
  case neg=>
   have e2:decide ((j:Int)<((qq n.G).length:Nat))=false:=dEf (by omega);simp only[e2,go_sem];simp only[Xl hn0,go_sem];refine zX (e':=iI (b:Nat)) rfl t4 rfl rfl ?_;have rb:((0::ks).map λk:Nat=>AV.int .i64 (k:Nat)).set 0 (iI (b:Nat))=(b::ks).map λk:Nat=>AV.int .i64 (k:Nat):=rfl;rw[rb];have t5:(h3.set tid (.row 1 ((b::ks).map λk:Nat=>AV.int .i64 (k:Nat)) true))[tid]?=some (.row 1 ((b::ks).map λk:Nat=>AV.int .i64 (k:Nat)) true):=gSs (qz t4);have M5:=M3.upf (h':=h3.set tid (.row 1 ((b::ks).map λk:Nat=>AV.int .i64 (k:Nat)) true)) Up.set λj q=>by rw[q];exact o3
   have F5:=F3.upf (h2:=h3.set tid (.row 1 ((b::ks).map λk:Nat=>AV.int .i64 (k:Nat)) true)) Up.set λj q=>by rw[q];exact tidl
   generalize h3.set tid (.row 1 ((b::ks).map λk:Nat=>AV.int .i64 (k:Nat)) true)=h5 at*;clear M3 F3 t4;obtain rfl:j=(qq n.G).length:=by omega
   rw[lTl]at M5;simp only[go_sem];refine qL (c554 (n:=⟨T⟩) (by have:=ZI okT;omega)) ?_;rw[show (zB (qD.mk T).G (qD.mk T).G.length)=qo n.G by rw[show (qD.mk T).G=T from rfl,mpP,hT];rfl];simp only[go_sem];have hal:(qo n.G).length<=1048576:=by
    have h1:=Zt n.G n.G.length (nLr _);rw[lTl]at h1;unfold qD.sz at hz;unfold qo;omega
   have nz:∀k:Nat,decide (((k+1:Nat):Int)=0)=false:=λk=>dEf (by omega);have pz:∀k:Nat,decide (0<((k+1:Nat):Int))=true:=λk=>dEt (by omega);have z0:decide (((0:Nat):Int)=0)=true:=rfl;have z1':decide (0<((0:Nat):Int))=false:=rfl;refine Sem.loop (λa:Nat×(Nat->Nat)×List qA=>a.1<=(qo n.G).length/\MH w mid [.lst 1 (bk.map qD.enc) false] a.2.1 a.2.2 (ovM (tkV sA (qq n.G).length).1 (gkw ks (dW n.G T0 (dP n.G a.1))))/\Fo ow h a.2.1 a.2.2/\a.2.2[tid]?=some (.row 1 ((b::ks).map λk:Nat=>AV.int .i64 (k:Nat)) true)/\a.2.1 tid=0)
    (λa=>(⟨[(0,.ptr mid 0 0),(2,iI (b:Nat)),(6,.ept (qD.enc ⟨T⟩) 0),(8,sQ 1 tid n.G.length),(88,.lst 2 ((qo n.G).map qI.enc) false),(89,iI ((qo n.G).length:Nat)),(90,iI (a.1:Nat))],[],a.2.2⟩:VSt)) (λa=>(qo n.G).length-a.1)
    (0,ow3,h5) (by kernel_rfl) ⟨nZl _,by simp only[qmN];exact M5,F5,t5,o3⟩ csA ?_
   rintro⟨i,ow6,h6⟩ ⟨hi,M6,F6,t6,o6⟩;simp only at hi M6 F6 t6 o6;simp only[go_sem];by_cases hil2:i<(qo n.G).length
   case neg=>
    have e3:decide ((i:Int)<((qo n.G).length:Nat))=false:=dEf (by omega);obtain rfl:i=(qo n.G).length:=by omega
    rw[qFU λa s h1 _ h3=>qmK hW h1 h3]at M6;simp only[e3,go_sem];refine qL (c376 (n:=⟨T⟩) (by have:=ZI okT;omega) okT) ?_;have enp:Vc ⟨T⟩=zI n.G (n.G.length-1):=by unfold Vc;simp only[mpQ,hT]
    rw[enp];simp only[go_sem];generalize hM:ovM (tkV sA (qq n.G).length).1 (gkw ks (fW n.G T0))=MV at*;have hrx2:MV.R=m.R:=by rw[<-hM];exact J.rx.trans Ix
    have hpl:=Wr n.G (n.G.length-1);have hpt:(jV n.G b ks).length=(zI n.G (n.G.length-1)).length:=by simp[jV]
    refine Sem.loop (λa:Nat×(Nat->Nat)×List qA=>a.1<=(zI n.G (n.G.length-1)).length/\MH w mid [.lst 1 (bk.map qD.enc) false] a.2.1 a.2.2 (wV MV ((jV n.G b ks).take a.1))/\Fo ow h a.2.1 a.2.2/\a.2.2[tid]?=some (.row 1 ((b::ks).map λk:Nat=>AV.int .i64 (k:Nat)) true)/\a.2.1 tid=0)
     (λa=>(⟨[(0,.ptr mid 0 0),(2,iI (b:Nat)),(6,.ept (qD.enc ⟨T⟩) 0),(8,sQ 1 tid n.G.length),(117,.lst 2 ((zI n.G (n.G.length-1)).map qF.enc) false),(118,iI ((zI n.G (n.G.length-1)).length:Nat)),(119,iI (a.1:Nat))],[],a.2.2⟩:VSt)) (λa=>(zI n.G (n.G.length-1)).length-a.1)
     (0,ow6,h6) (by kernel_rfl) ⟨nZl _,M6,F6,t6,o6⟩ csA ?_
    rintro⟨i,ow7,h7⟩ ⟨hi,M7,F7,t7,o7⟩;simp only at hi M7 F7 t7 o7;simp only[go_sem];by_cases hil:i<(zI n.G (n.G.length-1)).length
    case neg=>
     have e4:decide ((i:Int)<((zI n.G (n.G.length-1)).length:Nat))=false:=dEf (by omega);simp only[e4,go_sem];rw[tOl (by omega)]at M7;refine qL qkV ?_;simp only[go_sem];obtain⟨c0,r0,p1,p2,p3,p4⟩:=YB ok;have h00:Has T 0 0:=by
      have hh:Has n.G 0 0:=⟨_,p2⟩;obtain⟨z,z1,z2⟩:=wD.1 hh;exact wD.2 ⟨_,hT0 0 z z1,by rw[ZG.p];exact z2⟩
     have hpe:=qE3 (n:=n) h00 mpE;rw[p1]at hpe;refine qL hpe ?_;simp only[go_sem];refine lsA ?_;have hc0:=gEg (show c0<ks.length by omega);generalize ks[c0]=kc at hc0;have hc2:(b::ks)[c0+1]?=some kc:=by simpa using hc0
     rcases r0 with _ | r0
     ·have er:j6 n.G b ks=[(b,kc)]:=by
       unfold j6;rw[p1,iP (show (pt (c0+1) 0).S=0 from rfl),show (pt (c0+1) 0).N.toNat=c0+1 from rfl,J5 hc0]
      rw[er,Vy];simp only[go_sem,z0,qS p4,nZa,t7,gMp,hc2,oMs];refine qu (SCall.mono (V5 M7 (by rw[X8,hpt,hrx2];omega)) ?_);rintro _ h8 ⟨ow8,M8,F8⟩;simp only[go_sem];exact⟨ow8,M8,F7.trans F8⟩
     ·have er:j6 n.G b ks=[]:=by
       unfold j6;rw[p1,iN (by simp only[pt];omega)]
      rw[er,lAn];simp only[go_sem,nz];exact⟨ow7,M7,F7⟩
    have e4:decide ((i:Int)<((zI n.G (n.G.length-1)).length:Nat))=true:=dEt (by omega);have hx:=gEg hil;generalize (zI n.G (n.G.length-1))[i]=p at hx;obtain⟨a,c,rfl,ha,hc⟩:=qIK ok (lMo hx);have ha2:=gEg (show a<ks.length by omega);generalize ks[a]=ka at ha2;have hc2:=gEg (show c<ks.length by omega);generalize ks[c]=kc at hc2;have a2:(b::ks)[a+1]?=some ka:=by simpa using ha2
    have c2:(b::ks)[c+1]?=some kc:=by simpa using hc2
    have et:(jV n.G b ks).take (i+1)=(jV n.G b ks).take i++[(ka,kc)]:=by
     rw[tA1,jV,gMp,hx];simp only[oMs,Option.toList_some,iTn,J5 ha2,J5 hc2]
    simp only[e4,gMp,hx,oMs,go_sem];refine lsA ?_;simp only[go_sem,qS ha,qS hc,nZa,t7,gMp,a2,c2,oMs];refine qu (SCall.mono (V5 M7 (by rw[X8,lLt,hrx2];omega)) ?_);rintro _ h8 ⟨ow8,M8,F8⟩;simp only[go_sem,wuA (n:=i)];rw[<-Vy,<-et]at M8;exact qa (i+1,ow8,h8) ⟨by simp only;omega,M8,F7.trans F8,(F8.at t7 o7).1,(F8.at t7 o7).2⟩ (by simp only;omega) csA
   have e3:decide ((i:Int)<((qo n.G).length:Nat))=true:=dEt (by omega);have hx:=gEg hil2;generalize (qo n.G)[i]=p at hx;have hpm:=lMo hx;obtain⟨a,s,rfl,hs⟩:=JO.1 hpm;obtain⟨q1,q2,-⟩:=jq hW hpm;have hs2:Has T a s:=by
    obtain⟨z,z1,z2⟩:=wD.1 hs;exact wD.2 ⟨_,hT0 a z z1,by rw[ZG.p];exact z2⟩
   obtain⟨c,t,hq,ht⟩:=JO.1 q1;obtain⟨y,y1,y2⟩:=wD.1 hs;obtain⟨z,z1,z2⟩:=wD.1 ht;have hcl:=qz z1;have hpe:=qE3 (n:=n) hs2 mpE;rw[hq]at hpe q2;have hno:¬(0<s/\t=0)->∀ow6 h6,MH w mid [.lst 1 (bk.map qD.enc) false] ow6 h6 (ovM (tkV sA (qq n.G).length).1 (gkw ks (dW n.G T0 (dP n.G i))))->MH w mid [.lst 1 (bk.map qD.enc) false] ow6 h6 (ovM (tkV sA (qq n.G).length).1 (gkw ks (dW n.G T0 (dP n.G (i+1))))):=λhn ow6 h6 M=>by
    rw[qmL hx (by rw[hq];simp only[pt];omega)];exact M
   simp only[e3,gMp,hx,oMs,go_sem];refine lsA ?_;simp only[go_sem];refine qL hpe ?_;simp only[go_sem];refine lsA ?_;rcases s with _ | s
   ·simp only[go_sem,nz,pz,z0,z1',wuA (n:=i)];exact qa (i+1,ow6,h6) ⟨by simp only;omega,hno (by omega) _ _ M6,F6,t6,o6⟩ (by simp only;omega) csA
   rcases t with _ | t
   case succ=>
    simp only[go_sem,nz,pz,z0,z1',wuA (n:=i)];exact qa (i+1,ow6,h6) ⟨by simp only;omega,hno (by omega) _ _ M6,F6,t6,o6⟩ (by simp only;omega) csA
   have ha0:a≠0:=λe=>by subst e;have:=Zx ok y1;omega
   obtain⟨a,rfl⟩:∃a',a=a'+1:=⟨a-1,by omega⟩;obtain⟨ka,a1,a3⟩:=hk a y y1;obtain⟨kc,hc2⟩:∃kc,(b::ks)[c]?=some kc:=⟨_,gEg (show c<(b::ks).length by simp;omega)⟩;have hTa:T0 (pt (a+1) (s+1))=aW kc:=by
    rw[TO.t1 _ hpm (by simp only[pt];omega) (by rw[hq];rfl),hq,show (pt c 0).N.toNat=c from rfl];unfold atF;rw[lGd,hc2];rfl
   simp only[go_sem,nz,pz,z0,z1',qS hcl,nZa,t6,gMp,hc2,oMs];refine qL QS ?_;simp only[go_sem];refine qu (SCall.mono (qC2 (q:=aW kc) M6 I.nd a1 (a3 _ (nLr _)) y1 y2 (hp4 _ _ y1) t6 o6 (by omega) hTa) ?_);rintro _ h7 ⟨ow7,M7,F7⟩;obtain⟨t7,o7⟩:=F7.at t6 o6;simp only[go_sem,wuA (n:=i)];refine qa (i+1,ow7,h7) ⟨by simp only;omega, ?_,F6.trans F7,t7,o7⟩ (by simp only;omega) csA;simp only;rw[qmM hx (by simp only[pt];omega) (by rw[hq];rfl)];exact M7
  have e2:decide ((j:Int)<((qq n.G).length:Nat))=true:=dEt (by omega);have hx:=gEg hjl;generalize (qq n.G)[j]=xw at hx;have et:(qq n.G).take (j+1)=(qq n.G).take j++[xw]:=by rw[tA1,hx];rfl
  obtain⟨a,s,c,t,y,z,rfl,y1,y2,z1,z2⟩:=qn7 ok (lMo hx);obtain⟨v,v1,v2,⟨d,v3⟩,v4⟩:=qKJ (f:=dW n.G T0 (onW ((qq n.G).take j))) Imm J (by omega) hjl;obtain⟨hTa,hTc⟩:=TO.t2 j _ v hx v1;simp only at hTa hTc;obtain⟨ka,a1,a3⟩:=hk a y y1;obtain⟨kc,c1,c3⟩:=hk c z z1;simp only[e2,gMp,hx,oMs,go_sem];refine lsA ?_;simp only[go_sem];refine qu (SCall.mono (qC0 M3 v2 v3) ?_);rintro _ h4 ⟨rfl,ow4,M4,F4,l4⟩;rw[v4]at M4;obtain⟨r4,o4⟩:=F4.at t4 o3;simp only[go_sem];refine lsA ?_;simp only[go_sem];refine qu (SCall.mono (qC2 M4 I.nd a1 (a3 (j+1) hjl) y1 y2 (hp4 _ _ y1) r4 o4 (by omega) hTa) ?_);rintro _ h5 ⟨ow5,M5,F5⟩;obtain⟨r5,o5⟩:=F5.at r4 o4;simp only[go_sem];refine qu (SCall.mono (qC2 M5 I.nd c1 (c3 (j+1) hjl) z1 z2 (hp4 _ _ z1) r5 o5 (by omega) hTc) ?_);rintro _ h6 ⟨ow6,M6,F6⟩;obtain⟨r6,o6⟩:=F6.at r5 o5;simp only[go_sem,wuA (n:=j)];refine qa (j+1,ow6,h6) ⟨by simp only;omega, ?_,((F3.trans F4).trans F5).trans F6,r6,o6⟩ (by simp only;omega) csA;simp only[et,qH9];exact M6
 have e:decide ((i:Int)<((n.G.length-1:Nat):Int))=true:=dEt (by omega);have hx:=gEg hlt;generalize n.G[i+1]=z at hx;have oz:=Zp ok hx;have hpp:=(QG oz).2;have hp4:=JZ oz;have hzd:=WP oz;obtain⟨ks',K⟩:=UJ (lev:=x.L) mm hcell i (by omega) (by omega);obtain⟨f,d,a1,a2,a3,a4,a5⟩:=wW K.mm (by have:=K.nf;omega);have hd1:(T.drop 1)[i]?=some (lvA x.L z):=by rw[gDr,Nat.add_comm];exact hT0 _ _ hx
 have lvp:(lvA x.L z).P=z.P:=ZG.p z;have lvd:(lvA x.L z).D=z.D:=by unfold lvA;split<;>rfl
 simp only[e,gMp,hd1,oMs,go_sem];refine lsA ?_;simp only[go_sem,wuA (n:=i)];refine qu (SCall.mono (s864 (x:=lvA x.L z) (dv:=.lst 1 ((lvA x.L z).D.map qQ) false) (pv:=.lst 2 ((lvA x.L z).P.map qI.enc) false) (.refl (by simp only[AV.tree];exact qb shI.tree _)) (by simp only[Qd,lMp]) (by rw[lvp];exact hpp) (by rw[lvp];omega) (by rw[lvd];omega)) ?_);rintro v h3 ⟨U3,cv3⟩;rw[qoW]at cv3;simp only[go_sem];have M3:=M2.upf U3 λ_ q=>q.elim;have hb2:=λj q=>M2.b' (j:=j) q;refine qu (SCall.mono (Z0 M3 a1 a2 (c':=agC x.L z) (T:=λq=>h2.length<=q/\q<h3.length) (λq y=>⟨y.2,Classical.byContradiction λu=>by have:=hb2 q u;omega⟩) (cv3.mono λj hj q=>⟨⟨q,hj⟩,rfl⟩)) ?_);rintro _ h5 ⟨rfl,ow5,M5,F5,l5⟩;have F6:Fo ow2 h2 ow5 h5:=F5.up U3 λq z=>z.1;obtain⟨t5,o5⟩:=F6.at t2 o2;have K2:(tkA x.L n.G m i).2.length=i:=by rw[K.at'];simp[nI2,K.len]
 simp only[go_sem,qS hlt,nZa];refine zX (e':=iI (f:Nat)) rfl t5 (by rw[gMp,List.getElem?_cons_succ,gAr (by omega),K2,nSs,List.getElem?_replicate,iP (by omega)];rfl) rfl ?_;have e4:tkA x.L n.G m (i+1)=(qW (tkA x.L n.G m i).1 (agC x.L z),(tkA x.L n.G m i).2++[(f:Int)]):=by rw[tkA,hx];simp only[a1]
 have er:((((0:Int)::((tkA x.L n.G m i).2++List.replicate (n.G.length-1-i) 0)).map qQ).set (i+1) (iI (f:Nat)))=(((0:Int)::((tkA x.L n.G m (i+1)).2++List.replicate (n.G.length-1-(i+1)) 0)).map qQ):=by
  rw[e4,show n.G.length-1-i=(n.G.length-1-(i+1))+1 by omega,List.replicate_succ];rw[show (iI (f:Nat))=qQ (f:Int)from rfl,<-List.map_set,List.set_cons_succ,lSr _ _ (by omega),K2,nSs,lSz];simp
 rw[er];have g5:=qz t5;simp only[go_sem,wuA (n:=i)];refine qa (i+1,ow5,h5.set tid (.row 1 (((0:Int)::((tkA x.L n.G m (i+1)).2++List.replicate (n.G.length-1-(i+1)) 0)).map qQ) true)) ⟨by simp only;omega, ?_, ?_,gSs g5,o5⟩ (by simp only;omega) csA
 ·simp only[e4];exact M5.upf Up.set λj q=>by rw[q];exact o5
 ·exact(F2.trans F6).upf Up.set λj q=>by rw[q];exact tidl
end
section
variable {w mid cid k xid yid p3 p7:Nat} {post cs:List AV} {ow ow':Nat->Nat} {h h':List qA} {m:qH} {rv dvx wvx dvy wvy:AV} {c x y:qC} {P:List qE} {O:Nat->Bool} {ws us vs:List qE}
theorem UI(hf:m.F=(k:Int)):qW m {c with W:=ws}=qr (qW m c) (k:Int) ws:=by
 by_cases hk:k<m.C.length
 ·have e:za (qW m c) (k:Int)=c:=by
   unfold za qW;simp only[hf,iTn,gSs hk];rfl
  unfold qr;rw[e];unfold qW;simp only[hf,iTn,List.set_set]
 ·have e:∀z:qC,m.C.set k z=m.C:=λz=>List.set_eq_of_length_le (by omega);unfold qr qW;simp only[hf,iTn,e]
def pd(n:Nat)(us:List qE):List qE:=us++List.replicate (n-us.length) w0
theorem qIR{n:Nat}(h:us.length<=n):(pd n us).length=n:=by simp[pd];omega
theorem qIS{n:Nat}{u:qE}(h:us.length<n):(pd n us).set us.length u=pd n (us++[u]):=by
 unfold pd;rw[lSr _ _ (nLr _),nSs,show n-us.length=(n-(us.length+1))+1 by omega,List.replicate_succ,lSz];simp
theorem qIQ{n:Nat}(h:us.length=n):pd n us=us:=by simp[pd,h]
theorem qsO(hf:m.F=(k:Int)){j:Nat}(h:j≠k):(qW m c).C[j]?=m.C[j]?:=by
 unfold qW;simp only[hf,iTn];exact zd h
theorem qKG(hf:m.F=(k:Int)){d:qC}(h:(qW m c).C[k]?=some d):d=c:=by
 unfold qW at h;simp only[hf,iTn]at h;have:=zO h;rw[lLs]at this;rw[gSs this]at h;exact(Option.some.inj h).symm
theorem FanT.ne{s:qH×List qE×List qE×List qp}{lev:Int}{ck dk f g e:Nat}(T:FanT s lev ck dk f g e):g≠f/\e≠f:=by
 have hcf:=T.cf;have he:e≠f:=λq=>by
  subst q;have:=qKG T.ef hcf;cases this
 rw[qsO T.ef (Ne.symm he)]at hcf;refine⟨λq=>?_,he⟩;subst q;have:=qKG T.gf hcf;cases this
theorem qJX(M:MH w mid post ow h m)(hf:m.F=(k:Nat))(hc:m.C[k]?=some c)(b3:h[p3]?=some (.row 1 [.ptr mid 0 0] true))(by_:Bx ow h yid y)(b7:h[p7]?=some (.row 1 [iI (y.W.length:Nat)] true))(hyw:y.W.length<=1000)(hyd:y.D.length<=1000)(hcl:0<m.C.length):
  SCall Gm 1459 [.ptr p3 0 0,.ptr yid 0 0,.ptr p7 0 0] h (λv h'=>v=iI (k:Nat)/\∃ow',MH w mid post ow' h' (qW m {zg y with W:=List.replicate y.W.length w0})/\Fo ow h ow' h'):=by
 obtain⟨⟨dvy,wvy,y1,y2,y3⟩,yo⟩:=id by_;refine sI Kt ?_;simp only[Kt,qN,go_sem,b3,y1,b7];refine WK (vs':=[lQ y.D]) (Cvs.cons (y2.cv (qb shI.tree _) (by decide)) .nil) (Vb y.D (by omega)) ?_;rw[Q7];simp only[go_sem];refine Jx (by unfold LIM;omega) ?_;simp only[go_sem];have o0:ow h.length=0:=M.b;have o1:ow (h.length+1)=0:=by have:=(M.app [qA.row 1 (y.D.map qQ) true]).b;simpa using this
 refine qu (SCall.mono (Z0 ((M.app _).app _) hf hc (c':={zg y with W:=List.replicate y.W.length w0}) (v:=cE (zg y) (sQ 1 h.length y.D.length) (.slice 2 (h++[qA.row 1 (y.D.map qQ) true]).length 0 y.W.length false)) (T:=λj=>j=h.length\/j=h.length+1) (λj t=>by rcases t with t | t<;>rw[t]<;>simp[o0,o1]) ?_) ?_)
 ·refine⟨_,_,rfl,.inr ⟨h.length,.inl rfl,by rw[lMp];rfl,jN ends⟩,.inr ⟨(h++[qA.row 1 (y.D.map qQ) true]).length,.inr (by simp),by simp, ?_⟩⟩;rw[ends,List.map_replicate];rfl
 rintro _ h5 ⟨rfl,ow5,M5,f5,_⟩;simp only[go_sem];refine⟨trivial,ow5,M5,⟨by have:=f5.l;simp at this;omega,λj hj q=>?_⟩⟩;obtain⟨a,b⟩:=f5.k j (by simp;omega) q (by omega);refine⟨a,b.trans ?_⟩;rw[gAl (by simp;omega),gAl hj]
theorem qrW(M:MH w mid post ow h m)(dx:LsW (λj=>ow j=0) 1 h dvx (x.D.map qQ))(cx:LsW (λj=>ow j=0) 2 h wvx (x.W.map qE.enc))(dy:LsW (λj=>ow j=0) 1 h dvy (y.D.map qQ))(cy:LsW (λj=>ow j=0) 2 h wvy (y.W.map qE.enc))(mm:MM m (x.W++y.W++P) O)(hy:qy y.K=true)(hyF:zw y)(hxw:x.W.length=2)(hyw:y.W.length<=1000)(hyd:y.D.length<=1000)(hl:inI x.L 0 8=true)(hf:2+3*y.W.length<=nF m.C):
  SCall Gm 1290 [.ptr mid 0 0,cE x dvx wvx,cE y dvy wvy] h (λv h'=>∃ow',MH w mid post ow' h' (wc m x y).1/\Fo ow h ow' h'/\LsW (λj=>ow' j=0) 4 h' v ((wc m x y).2.map qp.enc)):=by
 obtain⟨_,_,dup⟩:=qBC mm hy hyF hxw hl hf;obtain⟨ck,dk,hne,hck,hdk,_⟩:=dup 0 (nZl _);obtain⟨x0,x1',ex⟩:∃a b,x.W=[a,b]:=⟨_,_,Qq hxw⟩;obtain⟨kc,dc,kc1,kc2,kc3,kc4,kc5⟩:=wW mm (by omega);obtain rfl:kc=ck:=by omega
 have hkc:qy (zg y).K=true:=hy;have hk0:(zg y).K≠0:=Jt hy;refine sI KB ?_;simp only[KB,qN,go_sem];refine Qb rfl ?_;simp only[go_sem];refine qX rfl ?_;simp only[go_sem];refine Qb rfl ?_;simp only[go_sem];have ol:∀j,h.length<=j->ow j=0:=λj hj=>Classical.byContradiction λq=>by have:=M.b' q;omega
 have b3:(h++[qA.row 1 [.ptr mid 0 0] true]++[qA.row 5 [cE y dvy wvy] true])[h.length]?=some (.row 1 [.ptr mid 0 0] true):=jN ends;have b5:(h++[qA.row 1 [.ptr mid 0 0] true]++[qA.row 5 [cE y dvy wvy] true])[(h++[qA.row 1 [.ptr mid 0 0] true]).length]?=some (.row 5 [cE y dvy wvy] true):=ends;have yl:h.length<(h++[qA.row 1 [.ptr mid 0 0] true]).length:=by simp
 have UB:Up (λ_=>False) h (h++[qA.row 1 [.ptr mid 0 0] true]++[qA.row 5 [cE y dvy wvy] true]):=(Up.app _).trans (Up.app _) λ_ _ q=>q;have MB:MH w mid post ow (h++[qA.row 1 [.ptr mid 0 0] true]++[qA.row 5 [cE y dvy wvy] true]) m:=(M.app _).app _;generalize hyid:(h++[qA.row 1 [AV.ptr mid 0 0] true]).length=yid at*;generalize hHB:h++[qA.row 1 [AV.ptr mid 0 0] true]++[qA.row 5 [cE y dvy wvy] true]=HB at*;clear hyid hHB;have lv:∀{w:Nat}{v:AV}{el:List AV},LsW (λj=>ow j=0) w h v el->LsW (λj=>ow j=0) w HB v el:=λq=>q.mono λj hj z=>⟨z,UB.eq hj id⟩;have By:Bx ow HB yid y:=⟨⟨dvy,wvy,b5,lv dy,lv cy⟩,ol _ (by omega)⟩;have cx1:=lv cx;have hylen:=(lv cy).len;rw[lMp]at hylen;have FB:Fo ow h ow HB:=⟨UB.1,λj hj q=>⟨q,UB.eq hj id⟩⟩;simp only[go_sem,b5,hylen];refine zX (e:=iI 0) (e':=iI (y.W.length:Nat)) rfl ends rfl rfl ?_;rw[lSr _ _ (nLr _),nSs];simp only[lSz];have b7:(HB++[qA.row 1 [iI (y.W.length:Nat)] true])[HB.length]?=some (.row 1 [iI (y.W.length:Nat)] true):=ends;have hBl:=UB.1;have MC':=MB.app [qA.row 1 [iI (y.W.length:Nat)] true];have b3':(HB++[qA.row 1 [iI (y.W.length:Nat)] true])[h.length]?=_:=jN b3;have b5':(HB++[qA.row 1 [iI (y.W.length:Nat)] true])[yid]?=_:=jN b5;have By':Bx ow (HB++[qA.row 1 [iI (y.W.length:Nat)] true]) yid y:=By.up (Up.app _);have cx2:LsW (λj=>ow j=0) 2 (HB++[qA.row 1 [iI (y.W.length:Nat)] true]) wvx (x.W.map qE.enc):=cx1.app _;have FC:Fo ow h ow (HB++[qA.row 1 [iI (y.W.length:Nat)] true]):=FB.trans (Fo.app _);have p7o:ow HB.length=0:=ol _ (by omega);generalize HB++[qA.row 1 [iI (y.W.length:Nat)] true]=HC at*;generalize HB.length=p7 at*;clear MB By cx1 FB b5 b3 UB lv;have p3o:ow h.length=0:=ol _ (nLr _);simp only[go_sem];have hcl:=zO kc2;refine qu (SCall.mono (qJX MC' kc1 kc2 b3' By' b7 hyw hyd (by omega)) ?_);rintro _ h1 ⟨rfl,ow1,M1,F1⟩;obtain⟨c3,o3⟩:=F1.at b3' p3o;obtain⟨c7,o7⟩:=F1.at b7 p7o;have By1:=By'.fo F1;have cx3:=cx2.fo0 F1;rw[UI kc1]at M1;obtain⟨e1,tk1⟩:=kc5 (zg y);obtain⟨ck',t1,t2,t3⟩:=Qn (c:=zg y) mm (by omega) hkc;obtain⟨kd,dd,kd1,kd2,kd3,kd4,kd5⟩:=wW t3 (by have:=t2.nf hk0;omega);obtain rfl:kd=dk:=by omega
 simp only[go_sem];refine qu (SCall.mono (qJX M1 (k:=kd) (by rw[X4];exact kd1) (by rw[Zu (Ne.symm hne)];exact kd2) c3 By1 c7 hyw hyd (by rw[qqR,t2.len];omega)) ?_);rintro _ h2 ⟨rfl,ow2,M2,F2⟩;rw[UI (by rw[X4];exact kd1),YQ (by rw[kd1];simpa using Ne.symm hne)]at M2;have F12:=F1.trans F2;obtain⟨d3,q3⟩:=F12.at b3' p3o;have By2:=By'.fo F12;have cx4:=cx2.fo0 F12;rw[ex,lMc,lMc,List.map_nil]at cx4;obtain⟨xw,xw1,rfl,xw3⟩:=cx4.two;simp only[go_sem,Q4,WW,xw3];refine qL QS ?_;simp only[go_sem];refine qL QS ?_;simp only[go_sem];have DI:∀i,i<=y.W.length->ZV m y P O kc kd (zR m x y i) i:=λi hi=>by
  obtain⟨a,b,_,q1,q2,q3⟩:=dup i hi;obtain rfl:a=kc:=by omega
  obtain rfl:b=kd:=by omega
  exact q3
 have e00:zR m x y 0=(WR m y,[],[],[⟨x0,awI (kc:Nat)⟩,⟨x1',awI (kd:Nat)⟩]):=by
  simp only[zR,List.take_zero,List.foldl_nil,ex,hck,hdk];rfl
 have M3:MH w mid post ow2 (h2++[qA.row 4 [AV.agg [iI x0.T,iI x0.I,iI (awI (kc:Nat)).T,iI (awI (kc:Nat)).I],AV.agg [iI x1'.T,iI x1'.I,iI (awI (kd:Nat)).T,iI (awI (kd:Nat)).I]] true]) (two (zR m x y 0).1 kc kd (pd y.W.length (zR m x y 0).2.1) (pd y.W.length (zR m x y 0).2.2.1)):=by
  rw[e00];simp only[pd,lNa,lNi,Nat.sub_zero];exact M2.app _
 have F0:=F12.trans (Fo.app (ow:=ow2) (h:=h2) [qA.row 4 [AV.agg [iI x0.T,iI x0.I,iI (awI (kc:Nat)).T,iI (awI (kc:Nat)).I],AV.agg [iI x1'.T,iI x1'.I,iI (awI (kd:Nat)).T,iI (awI (kd:Nat)).I]] true]);have L0:LsW (λj=>ow2 j=0/\h.length<j) 4 (h2++[qA.row 4 [AV.agg [iI x0.T,iI x0.I,iI (awI (kc:Nat)).T,iI (awI (kc:Nat)).I],AV.agg [iI x1'.T,iI x1'.I,iI (awI (kd:Nat)).T,iI (awI (kd:Nat)).I]] true]) (sQ 4 h2.length 2) ((zR m x y 0).2.2.2.map qp.enc):=by
  refine .inr ⟨h2.length,⟨M2.b,by have:=qz b3';have:=F12.l;omega⟩,by rw[e00];rfl,by rw[ends,e00];rfl⟩
 obtain⟨z1,-⟩:=F0.at b5' By'.o;simp only[z1,go_sem,hylen];generalize h2++[qA.row 4 [AV.agg [iI x0.T,iI x0.I,iI (awI (kc:Nat)).T,iI (awI (kc:Nat)).I],AV.agg [iI x1'.T,iI x1'.I,iI (awI (kd:Nat)).T,iI (awI (kd:Nat)).I]] true]=H0 at*;obtain⟨g3,go3⟩:=F0.at b3' p3o;clear M2 M1 F1 F2 F12 xw3 d3 c3 c7 cx4 cx3 By1 By2;refine Sem.loop (λa:Nat×(Nat->Nat)×AV×List qA=>a.1<=y.W.length/\MH w mid post a.2.1 a.2.2.2 (two (zR m x y a.1).1 kc kd (pd y.W.length (zR m x y a.1).2.1) (pd y.W.length (zR m x y a.1).2.2.1))/\Fo ow h a.2.1 a.2.2.2/\LsW (λj=>a.2.1 j=0/\h.length<j) 4 a.2.2.2 a.2.2.1 ((zR m x y a.1).2.2.2.map qp.enc)/\a.2.2.2[h.length]?=some (.row 1 [.ptr mid 0 0] true)/\a.2.1 h.length=0)
  (λa=>(⟨[(3,.ptr h.length 0 0),(9,iI (kc:Nat)),(10,iI (kd:Nat)),(11,a.2.2.1),(41,wvy),(42,iI (y.W.length:Nat)),(43,iI (a.1:Nat))],[(4,cE x dvx (sQ 2 xw 2))],a.2.2.2⟩:VSt)) (λa=>y.W.length-a.1)
  (0,ow2,sQ 4 h2.length 2,H0) (by kernel_rfl) ⟨nZl _,M3,FC.trans F0,L0,g3,go3⟩ csA ?_
 rintro⟨i,ow3,lv3,h3⟩ ⟨hi,M3,F3,L3,q3,qo3⟩;simp only at hi M3 F3 L3 q3 qo3;have I:=DI i hi;simp only[go_sem];by_cases hlt:i<y.W.length
 case neg=>
  have e:decide ((i:Int)<(y.W.length:Nat))=false:=dEf (by omega);simp only[e,go_sem];obtain rfl:i=y.W.length:=by omega
  rw[qF0 hck hdk];rw[qIQ I.us,qIQ I.vs]at M3;exact⟨ow3,M3,F3,L3.mono λj _ q=>⟨q.1,rfl⟩⟩
 have e:decide ((i:Int)<(y.W.length:Nat))=true:=dEt (by omega);have hyi:=gEg hlt;obtain⟨f,g,v,T⟩:=qF6 (lev:=x.L) hy I (by have:=I.nf;omega);obtain⟨ngf,nvf⟩:=T.ne;have eS:=qBB (m:=m) (x:=x) hlt;rw[T.eq]at eS;generalize y.W[i]=yw at hyi eS;obtain⟨iy,j1,rfl,j3⟩:=(cy.fo0 F3).full (by rw[lMp];omega);simp only[e,go_sem,qS hlt,nZa,j3,gMp,hyi,oMs];refine lsA ?_;simp only[go_sem,q3];refine Jx (n:=2) (by decide) ?_;simp only[go_sem];have o3:ow3 h3.length=0:=M3.b;generalize hS:zR m x y i=S at*;refine qu (SCall.mono (Z0 (M3.app _) T.ff (c:=(two S.1 kc kd (pd y.W.length S.2.1) (pd y.W.length S.2.2.1)).C[f]'(by have:=T.f0;obtain⟨d,hd⟩:=this;exact zO (by rw[ZR T.fc.1 T.fc.2];exact hd))) (gEg _) (c':={(⟨4,x.L,0,[],[]⟩:qC)with W:=[w0,w0]}) (v:=cE ⟨4,x.L,0,[],[]⟩ .nils (sQ 2 h3.length 2)) (T:=λj=>j=h3.length) (λj t=>by rw[t];exact⟨by simp,o3⟩) ⟨_,_,rfl,.inl ⟨rfl,rfl⟩,.inr ⟨h3.length,rfl,rfl,ends⟩⟩) ?_);rintro _ h4 ⟨rfl,ow4,M4,f4,_⟩;have F4:Fo ow3 h3 ow4 h4:=f4.new λj t=>by omega
 rw[W2 T.ff T.fc.1 T.fc.2,UI T.ff]at M4;obtain⟨r4,s4⟩:=F4.at q3 qo3;simp only[go_sem,r4];obtain⟨d4,hd4⟩:=T.g0;refine qu (SCall.mono (qC0 M4 (k:=g) T.gf (c:=d4) (by rw[ZR T.gc.1 T.gc.2,Zu ngf];exact hd4)) ?_);rintro _ h5 ⟨rfl,ow5,M5,F5,_⟩;rw[W2 (f:=g) (by rw[X4];exact T.gf) T.gc.1 T.gc.2,YQ (by rw[T.gf];simpa using ngf)]at M5;obtain⟨r5,s5⟩:=F5.at r4 s4;simp only[go_sem];refine lsA ?_;simp only[go_sem,r5];obtain⟨d5,hd5⟩:=T.e0;refine qu (SCall.mono (qC0 M5 (k:=v) T.ef (c:=d5) (by rw[ZR T.ec.1 T.ec.2,Zu nvf];exact hd5)) ?_);rintro _ h6 ⟨rfl,ow6,M6,F6,_⟩;rw[W2 (f:=v) (by rw[X4];exact T.ef) T.ec.1 T.ec.2,YQ (by rw[T.ef];simpa using nvf)]at M6;obtain⟨r6,s6⟩:=F6.at r5 s5;simp only[go_sem];refine lsA ?_;obtain⟨cid,cs,rv,M6⟩:=M6;have hcf0:(qr (qW (qW (qW S.1 ⟨4,x.L,0,[],[]⟩) (qg [])) (qg [])) (f:Int) [w0,w0]).C[f]?=some {(⟨4,x.L,0,[],[]⟩:qC)with W:=[w0,w0]}:=qCQ T.cf;have hcf:(two (qr (qW (qW (qW S.1 ⟨4,x.L,0,[],[]⟩) (qg [])) (qg [])) (f:Int) [w0,w0]) kc kd (pd y.W.length S.2.1) (pd y.W.length S.2.2.1)).C[f]?=some {(⟨4,x.L,0,[],[]⟩:qC)with W:=[w0,w0]}:=by rw[ZR T.fc.1 T.fc.2];exact hcf0
 obtain⟨dv,wv,v1,v2,v3⟩:=M6.words hcf;have hk:=zO hcf;simp only[go_sem,r6,M6.o,qS hk,nZa];have M6a:=M6.app [qA.row 2 [(vwI (g:Nat)).enc,(vwI (v:Nat)).enc] true];refine M6a.stoW v1 rfl ?_;obtain⟨M7,f7⟩:=M6a.setWv (ws:=[vW g,vW v]) (wv':=sQ 2 h6.length 2) hcf v1 (v2.app _) (id:=h6.length) (MH.b ⟨_,_,_,M6⟩) ends rfl;have F7:=(F4.trans (F5.trans F6)).trans (f7.new λj e=>by omega);have I2:=DI (i+1) (by omega);rw[eS]at I2;have M7':=MH.intro M7;rw[<-j7 hcf,qKR T.fc.1 T.fc.2,qCP]at M7';generalize (owC ow6 f λj=>ow6 j=f+3\/j=h6.length)=ow7 at M7' F7;generalize (h6++[qA.row 2 [(vwI (g:Nat)).enc,(vwI (v:Nat)).enc] true]).set cid _=h7 at M7' F7|-;clear M7 f7 M6a M6 v1 v2 v3 hcf hcf0 hk;obtain⟨mm2,us2,vs2,c12,c22,nf2,len2⟩:=I2;simp only at c12 c22;generalize hS2:qr (qW (qW (qW S.1 ⟨4,x.L,0,[],[]⟩) (qg [])) (qg [])) (f:Int) [vW g,vW v]=S2 at M7' c12 c22 eS;have hus:S.2.1.length=i:=I.us;have hvs:S.2.2.1.length=i:=I.vs;have lus:=qIR (us:=S.2.1) (n:=y.W.length) (by omega);have lvs:=qIR (us:=S.2.2.1) (n:=y.W.length) (by omega);obtain⟨r7,s7⟩:=F7.at q3 qo3;obtain⟨cid,cs,rv,M7⟩:=M7';have hc1:=qKO (us:=pd y.W.length S.2.1) (vs:=pd y.W.length S.2.2.1) hne c12;obtain⟨dv,wv,v1,v2,v3⟩:=M7.words hc1;obtain⟨id1,i1,rfl,i3⟩:=v3.full (by rw[lMp];simp only;omega);rw[lMp]at v1;have hk:=zO hc1;simp only[go_sem,r7,M7.o,qS hk,nZa,M7.c,v1,lus,qS hlt];refine M7.stoWe hc1 (s:=i) (by simp only;omega) v1 v2 i1 i3 λow8 h8 M8 F8=>?_;simp only at M8;rw[qKN hne]at M8;have es1:=qIS (us:=S.2.1) (n:=y.W.length) (u:=vwI (g:Nat)) (by omega);rw[hus]at es1;rw[es1]at M8;have F8':=F7.trans F8;clear M7 v1 v2 v3 i3 hk;obtain⟨r8,s8⟩:=F8'.at q3 qo3;obtain⟨cid,cs,rv,M8⟩:=M8;have hc2:=qKQ (us:=pd y.W.length (S.2.1++[vwI (g:Nat)])) (vs:=pd y.W.length S.2.2.1) hne c22;obtain⟨dv,wv,v1,v2,v3⟩:=M8.words hc2;obtain⟨id2,i2,rfl,i4⟩:=v3.full (by rw[lMp];simp only;omega);rw[lMp]at v1;have hk:=zO hc2;simp only[go_sem,r8,M8.o,qS hk,nZa,M8.c,v1,lvs,qS hlt];refine M8.stoWe hc2 (s:=i) (by simp only;omega) v1 v2 i2 i4 λow9 h9 M9 F9=>?_;simp only at M9;rw[qKP]at M9;have es2:=qIS (us:=S.2.2.1) (n:=y.W.length) (u:=vwI (v:Nat)) (by omega);rw[hvs]at es2;rw[es2]at M9;have F9':=F8'.trans F9;clear M8 v1 v2 v3 i4 hk;simp only[go_sem];refine qL QS ?_;simp only[go_sem];have hll:S.2.2.2.length<=100000:=by
  have:=Y0 m x y i;rw[hS,lLt]at this;omega
 have L9:LsW (λj=>ow9 j=0/\h.length<j) 4 h9 lv3 (S.2.2.2.map qp.enc):=L3.mono λj hj q=>⟨⟨(F9'.k j hj q.1).1,q.2⟩,(F9'.k j hj q.1).2⟩;refine Jd (L9.app _) ends (by rw[lMp];omega) λh10 u10 w10 l10=>?_;simp only[go_sem,wuA (n:=i)];have MA:=M9.app [qA.row 4 [AV.agg [iI yw.T,iI yw.I,iI (awI (f:Nat)).T,iI (awI (f:Nat)).I]] true];have FA:=(F3.trans F9').trans (Fo.app (h:=h9) (ow:=ow9) [qA.row 4 [AV.agg [iI yw.T,iI yw.I,iI (awI (f:Nat)).T,iI (awI (f:Nat)).I]] true]);obtain⟨r9,s9⟩:=F9'.at q3 qo3;have hlh:=qz r9;refine qa (i+1,ow9,.slice 4 (h9++[qA.row 4 [AV.agg [iI yw.T,iI yw.I,iI (awI (f:Nat)).T,iI (awI (f:Nat)).I]] true]).length 0 ((S.2.2.2.map qp.enc).length+1) false,h10) ⟨by simp only;omega, ?_, ?_,.inr ⟨(h9++[qA.row 4 [AV.agg [iI yw.T,iI yw.I,iI (awI (f:Nat)).T,iI (awI (f:Nat)).I]] true]).length,⟨MA.b,by simp;omega⟩, ?_, ?_⟩,u10.at (jN r9) λz=>by have:=z.1.2;omega,s9⟩ (by simp only;omega) csA
 ·simp only[eS];exact MA.upf u10 λj q=>q.1.1
 ·exact FA.upf u10 λj q=>by have:=q.1.2;omega
 ·simp only[eS];simp
 ·simp only[eS,lMa];exact w10
end
section
variable {w mid cid k:Nat} {post cs:List AV} {ow ow':Nat->Nat} {h h':List qA} {m:qH} {rv dvx wvx dvy wvy:AV} {c x y:qC} {P:List qE} {O:Nat->Bool} {ks:List Nat} {f:Nat->List qE}
theorem qGO{l:List Int}{i k:Nat}(h:l[i]?=some (k:Int)):l.getD i 0=(k:Int):=by rw[lGd,h];rfl
theorem qFB{apps:List Int}{n:Nat}(nd:ks.Nodup)(ha:apps=nI2 ks)(hc:∀k∈ks,m.C[k]?=some (wM y)):∀i,i<=ks.length->chB x y apps m i=ovM m (gkw (ks.take i) λj=>[x.W.getD j w0,nxW y apps j])
 | 0,_=>by
  have e:gkw (ks.take 0) (λj=>[x.W.getD j w0,nxW y apps j])=λ_=>none:=by funext q;exact Zf (by simp)
  rw[e,qCH];rfl
 | i+1,hi=>by
  have hk:=gEg (show i<ks.length by omega);generalize ks[i]=k at hk;have hap:apps.getD i 0=(k:Int):=qGO (by rw[ha,nI2,gMp,hk];rfl);rw[chB,qFB (n:=n) nd ha hc i (by omega),hap,Wq (hc k (lMo hk)),<-VD (f:=λj=>[x.W.getD j w0,nxW y apps j]) nd hk]
theorem qqE{d:qC}(nd:(ks++[k]).Nodup)(hf:m.F=(k:Int))(hc:(qW m c).C[k]?=some d):qW (ovM m (gkw ks f)) {c with W:=f ks.length}=ovM (qW m c) (gkw (ks++[k]) f):=by
 have hn:k∉ks:=by
  rw[List.nodup_append]at nd;exact λq=>nd.2.2 k q k (by simp) rfl
 rw[UI (m:=ovM m (gkw ks f)) hf,qII hf (Zf hn),Wq hc];have e1:(ks++[k]).take ks.length=ks:=by simp
 have e2:(ks++[k]).take (ks.length+1)=ks++[k]:=by rw[tOl (by simp)]
 have:=VD (ks:=ks++[k]) (j:=ks.length) (k:=k) (f:=f) nd (by simp);rw[e1,e2]at this;rw[this]
theorem qrZ(M:MH w mid post ow h m)(dx:LsW (λj=>ow j=0) 1 h dvx (x.D.map qQ))(cx:LsW (λj=>ow j=0) 2 h wvx (x.W.map qE.enc))(dy:LsW (λj=>ow j=0) 1 h dvy (y.D.map qQ))(cy:LsW (λj=>ow j=0) 2 h wvy (y.W.map qE.enc))(mm:MM m (x.W++y.W++P) O)(hf:1+x.W.length<=nF m.C)(hyw:y.W.length=1)(hr:zw (JJ x y))(hl:zu 3 y.L=true)(hxw:x.W.length<=1000)
  (hD:if y.K=10 then 0<=x.V/\x.V<y.D.length else y.D.length=2) (hrx:m.R.length<=1000000-1000):
  SCall Gm 1293 [.ptr mid 0 0,cE x dvx wvx,cE y dvy wvy] h (λv h'=>∃ow',MH w mid post ow' h' (chM m x y).1/\Fo ow h ow' h'/\LsW (λj=>ow' j=0) 4 h' v ((chM m x y).2.map qp.enc)):=by
 obtain⟨y0,ey⟩:∃y0,y.W=[y0]:=⟨_,Z6 hyw⟩;have mm':=mm;have I:=qAY (x:=x) (y:=y) mm' hr;have hdl:0<y.D.length:=by split at hD<;>omega
 obtain⟨yd,q1,rfl,q3⟩:=dy.full (by rw[lMp];omega);rw[ey,lMc,List.map_nil]at cy;obtain⟨iy,j1,rfl,j3⟩:=cy.one;have hxl:=cx.len;rw[lMp]at hxl;refine sI KE ?_;have hd0:=gEg hdl;simp only[KE,qN,go_sem];refine qX rfl ?_;simp only[go_sem];refine qX rfl ?_;simp only[go_sem,Xl hdl,q3,gMp,hd0,oMs,qQ];have hgo:∃D,chD x y=D:=⟨_,rfl⟩;obtain⟨D,hDD⟩:=hgo;have hcd:(y.K=10->∀k:Nat,x.V=k->y.D[k]?=some D)/\(y.K≠10->x.V=0->y.D[1]?=some D)/\(y.K≠10->x.V≠0->y.D[0]=D):=by
  rw[<-hDD];unfold chD;refine⟨λa k b=>?_,λa b=>?_,λa b=>?_⟩
  ·rw[iP a]at hD;rw[iP a,b,iTn,lGd,gEg (by omega)];rfl
  ·rw[iN a]at hD;rw[iN a,iP b,lGd,gEg (by omega)];rfl
  ·rw[iN a,iN b,lGd,hd0];rfl
 by_cases k10:y.K=10
 case' pos=>
  rw[iP k10]at hD;obtain⟨k,hk⟩:=eOz hD.1;have hkl:k<y.D.length:=by omega
  have e1:decide (y.K=10)=true:=dEt k10;simp only[e1,go_sem,hk,qS hkl,nZa,q3,gMp,hcd.1 k10 k hk,oMs,qQ];clear hk hkl
 case' neg=>
  rw[iN k10]at hD;have e1:decide (y.K=10)=false:=dEf k10;simp only[e1,go_sem];by_cases k0:x.V=0
  case' pos=>
   have e2:decide (x.V=0)=true:=dEt k0;simp only[e2,go_sem,qBP (show 1<y.D.length by omega),q3,gMp,hcd.2.1 k10 k0,oMs,qQ]
  case' neg=>
   have e2:decide (x.V=0)=false:=dEf k0;simp only[e2,go_sem,hcd.2.2 k10 k0]
 all_goals
  subst hDD;obtain⟨r,ks0,hr0,I0⟩:=I 0 (by omega);obtain⟨kr,dr,k1,k2,k3,k4,k5⟩:=wW mm' (by omega);obtain rfl:kr=r:=by omega
  refine qu (SCall.mono (qC1 M k1 ⟨dr,k2⟩ (JJ x y) rfl rfl) ?_);rintro _ h1 ⟨rfl,ow1,M1,F1⟩;obtain⟨y3,yo⟩:=F1.at j3 j1;simp only[go_sem,hxl];have hxlen:x.W.length=0↔x.W=[]:=List.length_eq_zero_iff;by_cases hx0:x.W=[]
  case pos=>
   have e:decide (((x.W.length:Nat):Int)=0)=true:=by rw[hx0];rfl
   have ec:chM m x y=(qW m (JJ x y),[⟨y0,awI m.F⟩]):=by unfold chM;rw[iP hx0,ey];rfl
   simp only[e,go_sem,QA,y3];refine qL QS ?_;simp only[go_sem];rw[ec,k1];exact⟨ow1,M1.app _,F1.trans (Fo.app _),.inr ⟨h1.length,M1.b,rfl,ends⟩⟩
  have hxp:0<x.W.length:=List.length_pos_iff.2 hx0;have e:decide (((x.W.length:Nat):Int)=0)=false:=dEf (by omega);simp only[e,go_sem,hxl];have M1':MH w mid post ow1 h1 (ovM (chA m x y 0).1 (gkw ((chA m x y 0).2.map Int.toNat) λj=>[x.W.getD j w0,y0])):=by
   have eg:gkw ((chA m x y 0).2.map Int.toNat) (λj=>[x.W.getD j w0,y0])=λ_=>none:=by funext q;exact Zf (by simp[chA])
   rw[eg,qCH];exact M1
  refine Sem.loop (λa:Nat×(Nat->Nat)×AV×List qA=>a.1<=x.W.length/\MH w mid post a.2.1 a.2.2.2 (ovM (chA m x y a.1).1 (gkw ((chA m x y a.1).2.map Int.toNat) λj=>[x.W.getD j w0,y0]))/\Fo ow h a.2.1 a.2.2.2/\LsW (λj=>a.2.1 j=0/\h.length<=j) 1 a.2.2.2 a.2.2.1 ((chA m x y a.1).2.map qQ))
   (λa=>(⟨[(0,.ptr mid 0 0),(6,.nils),(8,iI (kr:Nat)),(9,a.2.2.1),(54,wvx),(55,iI (x.W.length:Nat)),(56,iI (a.1:Nat))],[(5,cE y (sQ 1 yd y.D.length) (sQ 2 iy 1)),(4,cE x dvx wvx)],a.2.2.2⟩:VSt)) (λa=>x.W.length-a.1)
   (0,ow1,.nils,h1) (by kernel_rfl) ⟨nZl _,M1',F1,.inl ⟨rfl,rfl⟩⟩ csA ?_
  clear M1 M1' F1 k5 y3 yo;rintro⟨i,ow2,v,h2⟩ ⟨hi,M2,F2,L2⟩;simp only at hi M2 F2 L2;obtain⟨y3,yo⟩:=F2.at j3 j1;obtain⟨r',ks,hr',J⟩:=I i (by omega);have ek:(chA m x y i).2.map Int.toNat=ks:=by rw[J.ap];exact qB7
  simp only[go_sem];by_cases hlt:i<x.W.length
  case pos=>
   have e:decide ((i:Int)<(x.W.length:Nat))=true:=dEt (by omega);have hxi:=gEg hlt;generalize hxw':x.W[i]=xw at hxi;obtain⟨ix,i1,rfl,i3⟩:=(cx.fo0 F2).full (by rw[lMp];omega);obtain⟨ka,da,a1,a2,a3,a4,a5⟩:=wW J.mm (by have:=J.nf;omega);obtain⟨r2,ks2,hr2,J2⟩:=I (i+1) (by omega);have e2:(chA m x y (i+1))=(qW (chA m x y i).1 (wM y),(chA m x y i).2++[(ka:Int)]):=by rw[chA,a1]
   have ek2:(chA m x y (i+1)).2.map Int.toNat=ks++[ka]:=by rw[e2,lMa,ek];rfl
   have ek3:ks2=ks++[ka]:=by rw[<-ek2,J2.ap];exact qB7.symm
   have nd2:=J2.nd;rw[ek3]at nd2;have o2:ow2 h2.length=0:=M2.b;rw[ek]at M2;have eo:=qqE (f:=λj=>[x.W.getD j w0,y0]) nd2 a1 (a5 (wM y)).2.new;have ex2:x.W.getD ks.length w0=xw:=by rw[J.len,lGd,hxi];rfl
   simp only[ex2]at eo;simp only[e,go_sem,qS hlt,nZa,i3,gMp,hxi,oMs];refine lsA ?_;simp only[go_sem,QA,y3];refine qu (SCall.mono (Z0 (M2.app _) (k:=ka) a1 (c:=ovC (gkw ks λj=>[x.W.getD j w0,y0]) ka da) (by rw[Jz,a2];rfl) (c':={wM y with W:=[xw,y0]}) (v:=cE (wM y) .nils (sQ 2 h2.length 2)) (T:=λj=>j=h2.length) (λj t=>by rw[t];exact⟨by simp,o2⟩) ⟨_,_,rfl,.inl ⟨rfl,rfl⟩,.inr ⟨h2.length,rfl,rfl,ends⟩⟩) ?_);rintro _ h3 ⟨rfl,ow3,M3,f3,_⟩;have F3:Fo ow2 h2 ow3 h3:=f3.new λj t=>by omega
   rw[eo]at M3;have L3:=L2.fo F3;simp only[go_sem];have hal:(chA m x y i).2.length=i:=by rw[J.ap,lMp,J.len]
   refine Jd (L3.app _) ends (by rw[lMp];omega) λh4 u4 w4 l4=>?_;simp only[go_sem,wuA (n:=i)];have MA:=M3.app [qA.row 1 [AV.int .i64 (ka:Nat)] true];have FA:=(F2.trans F3).trans (Fo.app (h:=h3) (ow:=ow3) [qA.row 1 [AV.int .i64 (ka:Nat)] true]);have hF:=(F2.trans F3).l;refine qa (i+1,ow3,.slice 1 (h3++[qA.row 1 [AV.int .i64 (ka:Nat)] true]).length 0 (((chA m x y i).2.map qQ).length+1) false,h4) ⟨by simp only;omega, ?_, ?_,.inr ⟨(h3++[qA.row 1 [AV.int .i64 (ka:Nat)] true]).length,⟨MA.b,by simp;omega⟩, ?_, ?_⟩⟩ (by simp only;omega) csA
   ·simp only[ek2];rw[e2];exact MA.upf u4 λj q=>q.1.1
   ·exact FA.upf u4 λj q=>q.1.2
   ·simp[e2]
   ·simp only[e2,lMa];exact w4
  have e:decide ((i:Int)<(x.W.length:Nat))=false:=dEf (by omega);obtain rfl:i=x.W.length:=by omega
  simp only[e,go_sem];have hal:(chA m x y x.W.length).2.length=x.W.length:=by rw[J.ap,lMp,J.len]
  have hkl:=J.len;rw[ek]at M2;obtain⟨tid,⟨t1,t2⟩,rfl,t3⟩:=L2.full (by rw[lMp];omega);rw[lMp,hal];have ew:IntKind.i64.wrap (((x.W.length:Nat):Int)-1)=((x.W.length-1:Nat):Int):=by rw[wsA];omega
  simp only[go_sem,Qd,ew];have hap:(chA m x y x.W.length).2=nI2 ks:=J.ap;have hcl:∀k∈ks,(chA m x y x.W.length).1.C[k]?=some (wM y):=J.at';have nd:=J.nd;have M3:MH w mid post ow2 h2 (ovM (chA m x y x.W.length).1 (gkw ks λj=>if j<0 then [x.W.getD j w0,nxW y (chA m x y x.W.length).2 j]else [x.W.getD j w0,y0])):=by simpa using M2
  generalize hB:chA m x y x.W.length=B at*;have hrxB:B.1.R=m.R:=by rw[<-hB];exact qE9
  have hnx:∀i,i+1<ks.length->∃q:Nat,ks[i+1]?=some q/\nxW y B.2 i=awI (q:Nat):=λi hi=>by
   have h1:=gEg hi;refine⟨_,h1, ?_⟩;unfold nxW;rw[hap,nI2,gMp,h1];rfl
  have hap2:∀(i k:Nat),ks[i]?=some k->(B.2.map qQ)[i]?=some (iI (k:Nat)):=λi k h1=>by rw[hap,gMp,nI2,gMp,h1];rfl
  refine Sem.loop (λa:Nat×(Nat->Nat)×List qA=>a.1+1<=x.W.length/\MH w mid post a.2.1 a.2.2 (ovM B.1 (gkw ks λj=>if j<a.1 then [x.W.getD j w0,nxW y B.2 j]else [x.W.getD j w0,y0]))/\Fo ow h a.2.1 a.2.2/\a.2.2[tid]?=some (.row 1 (B.2.map qQ) true)/\a.2.1 tid=0)
   (λa=>(⟨[(0,.ptr mid 0 0),(6,.nils),(8,iI (kr:Nat)),(9,sQ 1 tid x.W.length),(79,iI (x.W.length-1:Nat)),(80,iI (a.1:Nat))],[],a.2.2⟩:VSt)) (λa=>x.W.length-a.1)
   (0,ow2,h2) (by kernel_rfl) ⟨by simp only;omega,M3,F2,t3,t1⟩ csA ?_
  clear M2 M3 L2 F2 t3 y3 yo;rintro⟨i,ow3,h3⟩ ⟨hi2,M3,F3,t4,o4⟩;simp only at hi2 M3 F3 t4 o4;simp only[go_sem];by_cases hlt2:i<x.W.length-1
  case pos=>
   have e5:decide ((i:Int)<((x.W.length-1:Nat):Int))=true:=dEt (by omega);have hk:=gEg (show i<ks.length by omega);generalize ks[i]=k at hk;obtain⟨q,hq1,hq2⟩:=hnx i (by omega);have hat:=qCF (m:=B.1) (f:=λj=>if j<i then [x.W.getD j w0,nxW y B.2 j]else [x.W.getD j w0,y0]) nd hk (hcl k (lMo hk));simp only[Nat.lt_irrefl,if_false]at hat;have eput:qr (ovM B.1 (gkw ks λj=>if j<i then [x.W.getD j w0,nxW y B.2 j]else [x.W.getD j w0,y0])) (k:Int) ([x.W.getD i w0,y0].set 1 (awI (q:Nat)))=ovM B.1 (gkw ks λj=>if j<i+1 then [x.W.getD j w0,nxW y B.2 j]else [x.W.getD j w0,y0]):=by
    rw[Wq (hcl k (lMo hk)),qGP nd hk];congr 1;refine qBN λj _=>?_;by_cases ej:j=i
    ·subst ej;rw[iP rfl,iP (by omega),hq2];rfl
    ·rw[iN ej];by_cases ej2:j<i
     ·rw[iP ej2,iP (by omega)]
     ·rw[iN ej2,iN (by omega)]
   obtain⟨cid,cs,rv,MO3⟩:=M3;obtain⟨dv,wv,v1,v2,v3⟩:=MO3.words hat;obtain⟨id1,i1,rfl,i3⟩:=v3.full (by simp);have hkk:=zO hat;simp only[e5,go_sem,MO3.o,qS (show i<x.W.length by omega),nZa,t4,hap2 i k hk,qS hkk,MO3.c,v1,wuA (n:=i),qS (show i+1<x.W.length by omega),hap2 (i+1) q hq1];refine qL QS ?_;simp only[go_sem,qBP (show 1<0+1+1 by omega)];refine MO3.stoWe hat (s:=1) (by simp) v1 v2 i1 i3 λow4 h4 M4 F4=>?_;simp only at M4;rw[eput]at M4;obtain⟨t5,o5⟩:=F4.at t4 o4;simp only[go_sem,wuA (n:=i)];exact qa (i+1,ow4,h4) ⟨by simp only;omega,M4,F3.trans F4,t5,o5⟩ (by simp only;omega) csA
  have e5:decide ((i:Int)<((x.W.length-1:Nat):Int))=false:=dEf (by omega);obtain rfl:i=x.W.length-1:=by omega
  have hk0:=gEg (show 0<ks.length by omega);generalize ks[0]=kz at hk0;have eov:ovM B.1 (gkw ks λj=>if j<x.W.length-1 then [x.W.getD j w0,nxW y B.2 j]else [x.W.getD j w0,y0])=chB x y B.2 B.1 x.W.length:=by
   rw[qFB (n:=0) nd hap hcl _ (by omega),tOl (by omega)];congr 1;refine qBN λj hj=>?_;by_cases ej:j<x.W.length-1
   ·rw[iP ej]
   ·rw[iN ej];have:nxW y B.2 j=y0:=by
     unfold nxW;rw[gEn (by omega)];simp only[ey];rfl
    rw[this]
  rw[eov]at M3;have hrx3:(chB x y B.2 B.1 x.W.length).R=m.R:=qFC.trans hrxB;simp only[e5,go_sem,Xl hxp,t4,hap2 0 kz hk0];refine qu (SCall.mono (V5 M3 (by rw[hrx3];omega)) ?_);rintro _ h5 ⟨ow5,M5,F5⟩;simp only[go_sem];have ec:chM m x y=(Jj (chB x y B.2 B.1 x.W.length) (kr:Nat) (kz:Nat),[]):=by
   unfold chM;rw[iN hx0,hB,k1,qGO (k:=kz) (by rw[hap,nI2,gMp,hk0];rfl)]
  rw[ec];exact⟨ow5,M5,F3.trans F5,.inl ⟨rfl,rfl⟩⟩
end
def W5(m:qH):Int:=(m.C.length:Int)-(nF m.C:Nat)
structure Run where
 m:qH
 tr:List Int
 pk:Int
 ls:Int
def Run.go(bk:List qD)(r:Run):Run:=
 let d:=doM bk r.m (r.m.R.length-1)
 ⟨d.1,r.tr++[d.2.1],max r.pk (W5 d.1),max r.ls (W5 r.m+(QE bk r.m (r.m.R.length-1)).1-JE d.2.1)⟩
section
variable {bk:List qD} {r:Run} {f:Nat}
theorem qsT{m:qH}:0<=W5 m/\W5 m<=m.C.length:=by
 have:nF m.C<=m.C.length:=List.countP_le_length;unfold W5;omega
structure RJ(n:Nat)(r:Run):Prop where
 mm:MM r.m [] O0
 cl:r.m.C.length=n
 pk:0<=r.pk/\r.pk<=n
 ls:0<=r.ls/\r.ls<=n
theorem qm5{m:qH}{k:Nat}(hb:jG bk=true)(mm:MM m [] O0)(hk:k<m.R.length)(h0:(doM bk m k).2.2=0):1<=(doM bk m k).2.1/\(doM bk m k).2.1<=7/\(QE bk m k).2=0/\0<=(QE bk m k).1/\(QE bk m k).1<=(nF m.C:Int)+JE (doM bk m k).2.1:=by
 obtain⟨p,a,b,x,y,r⟩:=X9 mm hk;rw[r.do]at h0|-;rw[r.need];by_cases q:(zE bk x y).2=0
 ·rw[iN (by omega)]at h0|-;by_cases hn:(nF m.C:Int)+JE (qi x y)<(zE bk x y).1
  ·rw[iP hn]at h0;cases h0
  ·rw[iN hn]at h0|-;have p:=r.pl hb q hn;have:=p.o.cls;refine⟨this.1,this.2,q, ?_,by simp only;omega⟩;unfold zE
   repeat' split
   all_goals try simp only
   all_goals try omega
   have:=ZH (YR hb (p.o.f7 (by assumption)).2 (by omega));omega
 ·rw[iP q]at h0;exact absurd h0 q
theorem RJ.go{n:Nat}(i:RJ n r)(hb:jG bk=true)(hne:r.m.R≠[])(h0:(doM bk r.m (r.m.R.length-1)).2.2=0):RJ n (r.go bk):=by
 have hl:0<r.m.R.length:=List.length_pos_iff.2 hne;obtain⟨p,a,b,x,y,d⟩:=X9 i.mm (show r.m.R.length-1<r.m.R.length by omega);obtain⟨q1,q2⟩:=d.ok hb i.mm;obtain⟨c1,c2,c3,c4,c5⟩:=qm5 hb i.mm (show r.m.R.length-1<r.m.R.length by omega) h0;have:=qsT (m:=(doM bk r.m (r.m.R.length-1)).1);have u2:W5 r.m=(r.m.C.length:Int)-(nF r.m.C:Nat):=rfl;have:=i.pk;have:=i.ls;have:=i.cl;refine⟨q1,by rw[<-i.cl];exact q2, ?_, ?_⟩
 ·simp only[Run.go];omega
 ·simp only[Run.go];omega
end
def nA(C:List qC):Nat:=C.countP λc=>qy c.K
theorem qkW{m:qH}(hs:m.C.length<=1000000):Pure Gm 1286 [.ept m.enc 0] (.tup [iI (nA m.C:Nat),iI (nV m.C:Nat),iI (nF m.C:Nat)]):=by
 refine pJ U8 ?_;simp only[U8,qN,go_sem];refine Sem.loop (λi:Nat=>i<=m.C.length)
  (λi=>(⟨[(10,.lst 5 (m.C.map qC.enc) false),(11,iI (m.C.length:Nat)),(2,iI (nA (m.C.take i):Nat)),(3,iI (nV (m.C.take i):Nat)),(4,iI (nF (m.C.take i):Nat)),(12,iI (i:Nat))],[],[]⟩:VSt)) (λi=>m.C.length-i)
  0 (by kernel_rfl) (nZl _) (Can.sub (by simp[go_sem,nA,nV,nF]) (by simp[go_sem])) ?_
 rintro i hi;simp only[go_sem];by_cases hlt:i<m.C.length
 ·have e:decide ((i:Int)<(m.C.length:Nat))=true:=dEt (by omega);have hc:=gEg hlt;generalize m.C[i]=c at hc;simp only[e,gMp,hc,oMs,go_sem];refine Jv (k:=5) rfl (by simp[go_sem]) ⟨_,rfl⟩ (by decide) ?_;simp only[go_sem];have w1:∀(p:qC->Bool),(m.C.take (i+1)).countP p=(m.C.take i).countP p+if p c=true then 1 else 0:=λp=>qA3 hc;have w2:∀(p:qC->Bool),(m.C.take i).countP p<=i:=λp=>nLt (List.countP_le_length ..) (by simp;omega);have ew:∀(p:qC->Bool),IntKind.i64.wrap ((((m.C.take i).countP p:Nat):Int)+(if p c=true then 1 else 0))=(((m.C.take (i+1)).countP p:Nat):Int):=λp=>by
   have h1:=w1 p;have h2:=w2 p;cases hp:p c
   ·simp only[hp,bFt,if_false]at h1|-;rw[wsA];omega
   ·simp only[hp,if_true]at h1|-;rw[wsA];omega
  have ea:=ew λc=>qy c.K;have ev:=ew λc=>decide (c.K=13);have ef:=ew λc=>decide (c.K=0);refine qL XP ?_;simp only[go_sem];refine qL Za ?_;simp only[go_sem];refine qL XQ ?_;simp only[go_sem];refine qL Za ?_;simp only[go_sem];refine qL XR ?_;simp only[go_sem];refine qL Za ?_;simp only[go_sem,wuA (n:=i)];refine qa (i+1) (by omega) (by omega) (Can.sub (by simp only[go_sem,nA,nV,nF];simp only[ea,ev,ef];simp[go_sem]) (by simp[go_sem]))
 ·have e:decide ((i:Int)<(m.C.length:Nat))=false:=dEf (by omega);simp only[e,go_sem];rw[tOl (by omega)];exact zj (by rfl) (by rfl)
section
variable {w mid cid k a b:Nat} {post cs:List AV} {ow:Nat->Nat} {h h':List qA} {m:qH} {rv dv:AV} {c x y:qC} {P:List qE} {O:Nat->Bool} {bk:List qD} {p:qF}
def rE(tv:AV)(r:Run):AV:=.agg [tv,iI r.pk,iI r.ls]
@[go_sem] theorem rE_0{tv:AV}{r:Run}:(rE tv r).part 0 none=some tv:=rfl
@[go_sem] theorem rE_1{tv:AV}{r:Run}:(rE tv r).part 1 none=some (iI r.pk):=rfl
@[go_sem] theorem rE_2{tv:AV}{r:Run}:(rE tv r).part 2 none=some (iI r.ls):=rfl
structure RG(w mid:Nat)(ow:Nat->Nat)(h:List qA)(rid:Nat)(r:Run):Prop where
 m:MH w mid [] ow h r.m
 e:∃tv,h[rid]?=some (.row 3 [rE tv r] true)/\LsW (λj=>ow j=0/\rid<j) 1 h tv (r.tr.map qQ)
 o:ow rid=0
theorem RD.c855(d:RD m k p a b x y)(hb:jG bk=true):Pure Gm 855 [.lst 1 (bk.map qD.enc) false,.ept m.enc 0,p.enc] (.tup [iI (QE bk m k).1,iI (QE bk m k).2]):=by
 have w1:=JZ d.ro.ox;have w2:=JZ d.ro.oy;rw[agp]at w1 w2;have hv:qi x y=7->0<=x.V:=λc=>by
  have h8:qi x y≠8:=by omega
  exact(Ord.f7 ⟨d.ro.ox,d.ro.oy,d.kx,d.ky,d.f,h8⟩ c).2
 rw[d.need];exact Go.Ab.c855 d.ro hb (by omega) (by omega) hv (QF d.ro.ox)
end
section
variable {m:qH} {k:Nat} {c x y:qC} {p:qF} {ka kb:Nat}
theorem qE2(hc:m.C[k]?=some c)(hw:c.W.length<=1000000):Pure Gm 1509 [.ept m.enc 0,iI (k:Nat)] (qZ c).enc:=by
 refine pI K5 (by simp[AV.trees,AV.tree,go_sem]) qB.tr ?_;simp only[K5,qN,go_sem,gMp,hc,oMs];refine Jv (k:=5) rfl (by simp[go_sem]) ⟨_,rfl⟩ (by decide) ?_;simp only[go_sem];simp only[jO (show c.W.length<4611686018427387904 by omega)];refine Jx (by unfold LIM;omega) ?_;simp only[go_sem];refine lsA ?_;simp only[go_sem];refine J8 (.agg rfl ?_);intro p hp;have e:List.map qI.enc (qZ c).P=List.replicate (c.W.length+1) (AV.agg [AV.int .i64 0,AV.int .i64 0]):=by simp[qZ];rfl
 rw[e]at hp;simp only[List.zip_cons_cons,List.zip_nil_left,mCo,List.not_mem_nil,or_false]at hp;rcases hp with rfl | rfl | rfl | rfl | rfl
 ·exact .refl rfl
 ·exact .refl rfl
 ·exact .refl rfl
 ·exact .refl (qb shI.tree _)
 ·exact Cv.row (c:=false) rfl (by simp) (by rw[<-e];exact qb qI.isSh.tree _) (by decide)
theorem qEY(r:RX m p ka kb x y)(hx:x.W.length<=1000000)(hy:y.W.length<=1000000):Pure Gm 1420 [.ept m.enc 0,p.enc] (qD.enc ⟨[qZ x,qZ y]⟩):=by
 refine pI Km (by simp[AV.trees,AV.tree,go_sem]) qD.tr ?_;simp only[Km,qN,go_sem];refine qX rfl ?_;simp only[go_sem,r.a,r.b];refine qL (qE2 r.ha hx) ?_;simp only[go_sem];refine qL (qE2 r.hb hy) ?_;simp only[go_sem];refine J8 (.agg rfl ?_);intro q hq;simp only[List.zip_cons_cons,List.zip_nil_left,mCo,List.not_mem_nil,or_false,lMc,List.map_nil]at hq;rw[hq];exact Cv.row (c:=false) rfl rfl (by simp[AV.trees,go_sem]) (by decide)
end
theorem qE4{n:qD}{a b:Nat}(ha:a<n.G.length)(hb:b<n.G.length)(oa:qk n.G[a]=true)(ob:qk n.G[b]=true):Pure Gm 751 [.ept n.enc 0,qF.enc ⟨(a:Int),(b:Int)⟩] (.tup [iI (wi n.G[a] n.G[b]),.bool (jR n.G[a] n.G[b]&& !decide (wi n.G[a] n.G[b]=8))]):=by
 refine pI F751 (by simp[AV.trees,AV.tree,qD.tr,qF.tr]) rfl ?_;simp only[F751,qN,go_sem];refine qX rfl ?_;simp only[go_sem];simp only[gMp,gEg ha,oMs,go_sem];simp only[gEg hb,oMs,go_sem];have key:=qqA oa ob;obtain⟨x,hx⟩:∃x,x=n.G[a]:=⟨_,rfl⟩;obtain⟨y,hy⟩:∃y,y=n.G[b]:=⟨_,rfl⟩;rw[<-hx,<-hy]at key;rw[<-hx,<-hy];refine lsA ?_;simp only[go_sem];refine lsA ?_;simp only[go_sem];refine qL qkJ ?_;simp only[go_sem];have c8:jH x.K x.L y.K y.L=8->zt x.K x.L y.K y.L=2->False:=by
  intro h1 h2;simp only[jH,zt]at h1 h2;split at h1
  ·rename_i hp;simp only[hp,if_true]at h2;split at h1
   ·exact qJL h1
   ·split at h1
    ·exact qJL h1
    ·rename_i q1 q2;rw[iN q1,iN q2]at h2;omega
  ·omega
 have k8:jH x.K x.L y.K y.L=6->(if jR x y then x.K=10/\(x.D.length:Int)<=y.V else y.K=10/\(y.D.length:Int)<=x.V)->wi x y=8:=λh1 h2=>by rw[key,iP ⟨h1,h2⟩]
 have kn:¬(jH x.K x.L y.K y.L=6/\(if jR x y then x.K=10/\(x.D.length:Int)<=y.V else y.K=10/\(y.D.length:Int)<=x.V))->wi x y=jH x.K x.L y.K y.L:=λh1=>by rw[key,iN h1]
 clear key hx hy oa ob;have hs:jR x y=decide (zt x.K x.L y.K y.L=2):=rfl;generalize jR x y=S at*;generalize wi x y=O at*;generalize jH x.K x.L y.K y.L=C at*;generalize zt x.K x.L y.K y.L=F at*;subst hs
 repeat' (first | (first | (apply zH<;>intro hc<;>simp only[hc,go_sem]) | (apply qT<;>intro hc<;>simp only[hc,go_sem])) | (refine lsA ?_;simp only[go_sem]) | refine zj rfl ?_)
 all_goals simp only[Bool.not_true,dTe,decide_eq_false_iff_not]at*
 all_goals first
  | (have e:=k8 (by assumption) (by simp[*];done);simp[e];done)
  | (have e:=kn (by simp[*];try omega);simp only[e];simp[*];try first | omega | (intro h8;exact c8 h8 (by assumption)))
section
variable {m:qH} {x y:qC} {p:qF} {a b:Nat}
theorem qEV(r:RO m p a b x y)(hx:x.W.length<=1000000)(hy:y.W.length<=1000000)(h8:qi x y≠8):Pure Gm 1285 [.ept m.enc 0,p.enc] (.tup [iI (qi x y),iI (a:Nat),iI (b:Nat)]):=by
 obtain⟨ka,kb,u,v,h1,hc,h2⟩:=r.cls;have hw:u.W.length<=1000000/\v.W.length<=1000000/\qk (qZ u)=true/\qk (qZ v)=true:=by
  have:=r.ox;have:=r.oy;rcases h2 with⟨hs,_,_,rfl,rfl⟩ | ⟨hs,_,_,rfl,rfl⟩
  ·exact⟨hy,hx,r.oy,r.ox⟩
  ·exact⟨hx,hy,r.ox,r.oy⟩
 refine pJ U7 ?_;simp only[U7,qN,go_sem];refine qX rfl ?_;simp only[go_sem];refine qL (qEY h1 hw.1 hw.2.1) ?_;simp only[go_sem];refine zX (e':=qD.enc ⟨[qZ u,qZ v]⟩) rfl rfl rfl rfl ?_;simp only[go_sem];refine wC (vs':=[.ept (qD.enc ⟨[qZ u,qZ v]⟩) 0,qF.enc ⟨((0:Nat):Int),((1:Nat):Int)⟩]) (Cvs.cons (.ptr rfl (by decide) rfl (.refl qD.tr)) (Cvs.cons (.refl rfl) .nil)) (qE4 (n:=⟨[qZ u,qZ v]⟩) (a:=0) (b:=1) (by simp) (by simp) hw.2.2.1 hw.2.2.2) rfl ?_;simp only[go_sem,List.getElem_cons_zero,List.getElem_cons_succ];have h8':∀{A:Int},A=qi x y->decide (A=8)=false:=λq=>dEf (by rw[q];exact h8);rcases h2 with⟨hs,ea,eb,ex,ey⟩ | ⟨hs,ea,eb,ex,ey⟩
 ·have eo:wi (qZ u) (qZ v)=qi x y:=by
   unfold wi;rw[iP (show jR (qZ u) (qZ v)=true from hs),ex,ey];rfl
  have eb2:(jR (qZ u) (qZ v)&& !decide (wi (qZ u) (qZ v)=8))=true:=by rw[show jR (qZ u) (qZ v)=true from hs,h8' eo];rfl
  rw[eb2,eo];simp only[go_sem,h1.a,h1.b];exact zj (by rfl) (by rw[ea,eb])
 ·have eo:wi (qZ u) (qZ v)=qi x y:=by
   unfold wi;rw[iN (by rw[show jR (qZ u) (qZ v)=false from hs];decide),ex,ey];rfl
  have eb2:(jR (qZ u) (qZ v)&& !decide (wi (qZ u) (qZ v)=8))=false:=by rw[show jR (qZ u) (qZ v)=false from hs];rfl
  rw[eb2,eo];simp only[go_sem,h1.a,h1.b];exact zj (by rfl) (by rw[ea,eb])
end
section
variable {bk:List qD} {m:qH} {k a b:Nat} {p:qF} {x y:qC} {u v z t:qB}
def rwT(bk:List qD)(u v:qB):AV:=.agg [.lst 5 ([u,v].map qB.enc) false,.lst 1 (bk.map qD.enc) false,.nilm]
theorem qCY:(rwT bk u v).tree=true:=by simp[rwT,AV.tree,AV.trees,qb qD.isSh.tree,qB.tr]
theorem qrQ:(rwT bk u v).part 0 (some 1)=some (qD.enc ⟨[u,v]⟩):=rfl
@[go_sem] theorem qxQ:(rwT bk u v).part 0 none=some (.lst 5 ([u,v].map qB.enc) false):=rfl
@[go_sem] theorem qxR:(rwT bk u v).part 1 none=some (.lst 1 (bk.map qD.enc) false):=rfl
theorem qkX(ou:qk u=true)(ov:qk v=true)(hbk:jG bk=true)(ho:(jR u v=true/\a=1/\b=0/\z=v/\t=u)\/(jR u v=false/\a=0/\b=1/\z=u/\t=v))(h7:zb z t=7->0<=z.V):
  Pure Gm 1305 [.ept (rwT bk u v) 0,qF.enc ⟨((0:Nat):Int),((1:Nat):Int)⟩] (wT bk z t a b):=by
 have eo:wi u v=zb z t:=by unfold wi;rcases ho with⟨e,_,_,rfl,rfl⟩ | ⟨e,_,_,rfl,rfl⟩<;>rw[e]<;>rfl
 have xok0:qk z=true:=by rcases ho with⟨_,_,_,rfl,_⟩ | ⟨_,_,_,rfl,_⟩<;>assumption
 have xok:=QF xok0;have hz:([u,v].map qB.enc)[a]?=some z.enc:=by rcases ho with⟨_,rfl,_,rfl,_⟩ | ⟨_,rfl,_,rfl,_⟩<;>rfl
 have la:a<2:=by rcases ho with⟨_,rfl,_⟩ | ⟨_,rfl,_⟩<;>omega
 refine pI KH (by simp[AV.trees,AV.tree,qCY,qF.tr]) (by unfold wT;split<;>rfl) ?_;simp only[KH,qN,go_sem];refine qX rfl ?_;simp only[go_sem];refine qL (Pure.lk0 qCY qrQ (Nat.succ_pos 0) (qE4 (n:=⟨[u,v]⟩) (a:=0) (b:=1) (by simp) (by simp) ou ov)) ?_;simp only[List.getElem_cons_zero,List.getElem_cons_succ,eo];by_cases c8:zb z t=8
 ·have eC:wT bk z t a b=.tup [iI 0,iI 0,iI 0,iI 11]:=by unfold wT;rw[qnP c8,iN (by decide)]
  have eb:(jR u v&& !decide (zb z t=8))=false:=by simp[c8]
  rw[eC,eb,c8];simp only[go_sem];exact zj (by rfl) rfl
 ·have eb:(jR u v&& !decide (zb z t=8))=jR u v:=by simp[c8]
  rw[eb];rcases ho with⟨hs,ha,hb,h1,h2⟩ | ⟨hs,ha,hb,h1,h2⟩<;>subst ha hb<;>rw[hs]<;>simp only[go_sem,qF.enc]
  all_goals
   simp only[show decide (zb z t=8)=false from dEf c8,go_sem];apply qT<;>intro hc<;>simp only[hc,go_sem]
   ·have c7:zb z t=7:=by simpa using hc
    clear hc;have v0:=h7 c7;subst h1 h2;simp only[hz,oMs,go_sem];refine lsA ?_;simp only[go_sem];apply qT<;>intro hc<;>simp only[hc,go_sem]
    ·have q3:(bk.length:Int)<=z.V:=by simpa using hc
     have eC:∀a b,wT bk z t a b=.tup [iI 0,iI 0,iI 0,iI 3]:=λa b=>by unfold wT;rw[qnO c7 q3,iN (by decide)]
     rw[eC];exact zj (by rfl) rfl
    ·have q3:¬(bk.length:Int)<=z.V:=by simpa using hc
     clear hc;have ot:=YR hbk v0 (show z.V<bk.length by omega);simp only[Xk v0 (show z.V<bk.length by omega),go_sem];refine jY (qHT (qw bk z.V) z.L (by have:=ZI ot;omega) xok λz hz=>QF (J4 (Qg ot) z hz)) ?_;have sh:=V7 ot xok;have eL:∀n,(lay (QH (JK (qw bk z.V) z.L)) n).1=.tup [.agg [.slice 5 n 0 (JK (qw bk z.V) z.L).1.G.length false],.bool (JK (qw bk z.V) z.L).2]:=λn=>by simp[QH,lay,qO,qD.layE]
     rw[eL];simp only[go_sem];by_cases q9:8<IntKind.i64.wrap (hiI (qw bk z.V).G+z.L)
     ·have e9:(JK (qw bk z.V) z.L).2=false:=by unfold JK;rw[iN (λe=>sh.1 e q9)]
      have eC:∀a b,wT bk z t a b=.tup [iI 0,iI 0,iI 0,iI 9]:=λa b=>by unfold wT;rw[qnQ c7 q3 q9,iN (by decide)]
      rw[e9,eC];simp only[go_sem];exact zj (by rfl) rfl
     ·have e9:(JK (qw bk z.V) z.L).2=true:=by unfold JK;rw[iP (sh.2 q9)]
      have eC:∀a b,wT bk z t a b=.tup [iI (zb z t),iI (a:Nat),iI (b:Nat),iI 0]:=λa b=>by unfold wT;rw[iP (qGT c8 λ_=>⟨q3,q9⟩)]
      rw[e9,eC];simp only[go_sem];exact zj (by rfl) rfl
   ·have n7:zb z t≠7:=by simpa using hc
    have eC:∀a b,wT bk z t a b=.tup [iI (zb z t),iI (a:Nat),iI (b:Nat),iI 0]:=λa b=>by unfold wT;rw[iP (qGT c8 λe=>absurd e n7)]
    rw[eC];exact zj (by rfl) rfl
theorem qGU:(Jg bk (qZ x) (qZ y)).2=(zE bk x y).2:=by
 unfold Jg zE;change (if qi x y=8 then((0:Int),(11:Int))else if qi x y=7/\(bk.length:Int)<=x.V then(0,3)else if qi x y=7/\8<IntKind.i64.wrap (hiI (qw bk x.V).G+x.L)then(0,9)else((qGR (qi x y) (qGS bk (qZ x) (qZ y) (qi x y))).1,0)).2=_;generalize qi x y=C;by_cases h8:C=8
 ·rw[iP h8,iP h8]
 rw[iN h8,iN h8];by_cases h7:C=7
 ·subst h7;by_cases q:(bk.length:Int)<=x.V
  ·simp[q]
  ·by_cases q2:8<IntKind.i64.wrap (hiI (qw bk x.V).G+x.L)
   ·simp[q,q2]
   ·simp[q,q2]
 ·rw[iN (λz=>h7 z.1),iN (λz=>h7 z.1)]
  repeat' split
  all_goals first | rfl | omega
theorem qpN(h:(zE bk x y).2≠0):(zE bk x y).1=0:=by
 unfold zE at h|-
 repeat' split
 all_goals simp_all
theorem qK6:(xM m [.lst 1 (bk.map qD.enc) false]).part 5 none=some (.lst 1 (bk.map qD.enc) false):=rfl
theorem qDK:(xM m [.lst 1 (bk.map qD.enc) false]).part 0 none=some (.lst 5 (m.C.map qC.enc) false):=rfl
theorem qkP(d:RD m k p a b x y)(hb:jG bk=true):Pure Gm 1183 [.ept (xM m [.lst 1 (bk.map qD.enc) false]) 0,p.enc] (.tup [iI (QE bk m k).1,iI (QE bk m k).2]):=by
 have hbt:AV.trees [AV.lst 1 (bk.map qD.enc) false]=true:=by simp[AV.trees,AV.tree,qb qD.isSh.tree]
 obtain⟨ka,kb,u,v,h1,hc,h2⟩:=d.ro.cls;obtain⟨ra,rb⟩:=d.ro.at;have w1:=JZ d.ro.ox;have w2:=JZ d.ro.oy;rw[agp]at w1 w2;have hw:u.W.length<=1000000/\v.W.length<=1000000/\qk (qZ u)=true/\qk (qZ v)=true:=by
  rcases h2 with⟨hs,_,_,rfl,rfl⟩ | ⟨hs,_,_,rfl,rfl⟩
  ·exact⟨by omega,by omega,d.ro.oy,d.ro.ox⟩
  ·exact⟨by omega,by omega,d.ro.ox,d.ro.oy⟩
 have hv:qi x y=7->0<=x.V:=λc=>by
  have h8:qi x y≠8:=by omega
  exact(Ord.f7 ⟨d.ro.ox,d.ro.oy,d.kx,d.ky,d.f,h8⟩ c).2
 rw[d.need];refine Pure.intro [15] [] (gk _ Ur) (by kernel_rfl) rfl (by simp[AV.trees,AV.tree,YZ hbt,qF.tr]) rfl ?_;simp only[Ur,qN,go_sem];refine qX rfl ?_;simp only[go_sem];simp only[qK6,go_sem];refine qL (Pure.lk0 (YZ hbt) UV (Nat.succ_pos 4) (qEY h1 hw.1 hw.2.1)) ?_;simp only[go_sem];refine Qb rfl ?_;simp only[go_sem];have hsw:jR (qZ u) (qZ v)=JL u v:=rfl;have ho:∃A B:Nat,(jR (qZ u) (qZ v)=true/\A=1/\B=0/\qZ x=qZ v/\qZ y=qZ u)\/(jR (qZ u) (qZ v)=false/\A=0/\B=1/\qZ x=qZ u/\qZ y=qZ v):=by
  rcases h2 with⟨hs,_,_,rfl,rfl⟩ | ⟨hs,_,_,rfl,rfl⟩
  ·exact⟨1,0,.inl ⟨hs,rfl,rfl,rfl,rfl⟩⟩
  ·exact⟨0,1,.inr ⟨hs,rfl,rfl,rfl,rfl⟩⟩
 obtain⟨A,B,ho⟩:=ho;have hcall:=qkX (bk:=bk) hw.2.2.1 hw.2.2.2 hb ho hv;refine wC (Cvs.cons (.ptr (t:=rwT bk (qZ u) (qZ v)) rfl (by decide) rfl (.refl qCY)) (Cvs.cons (.refl (by simp[AV.tree,AV.trees])) .nil)) hcall (by unfold wT;split<;>rfl) ?_;by_cases h0:(zE bk x y).2=0
 case neg=>
  have eC:wT bk (qZ x) (qZ y) A B=.tup [iI 0,iI 0,iI 0,iI (zE bk x y).2]:=by unfold wT;rw[qGU,iN h0]
  rw[eC,qpN h0];simp only[go_sem,h0,decide_false];exact zj (by rfl) rfl
 have eC:wT bk (qZ x) (qZ y) A B=.tup [iI (qi x y),iI (A:Nat),iI (B:Nat),iI 0]:=by unfold wT;rw[qGU,iP h0];rfl
 have h8:qi x y≠8:=λe=>by have:=qB8 (bk:=bk) e;omega
 rw[eC,h0];simp only[go_sem];refine qL (Pure.lk0 (YZ hbt) UV (Nat.succ_pos 4) (qEV d.ro (by omega) (by omega) h8)) ?_;simp only[go_sem,qDK,gMp,ra,rb,oMs];generalize hC:qi x y=C at*;have nv:∀{q:Int},zE bk x y=(q,0)->AV.tup [iI q,iI 0]=.tup [iI (zE bk x y).1,iI 0]:=λe=>by rw[e]
 by_cases c3:C=3
 ·subst c3;simp only[go_sem,jc (show-9223372036854775808<=3*(y.W.length:Int) by omega) (by omega),jc (show-9223372036854775808<=2+3*(y.W.length:Int) by omega) (by omega)];exact zj (by rfl) (nv (by rw[zE,hC];rfl))
 simp only[c3,decide_false,go_sem];by_cases c4:C=4
 ·subst c4;simp only[go_sem];exact zj (by rfl) (nv (by rw[zE,hC];rfl))
 simp only[c4,decide_false,go_sem];by_cases c5:C=5
 ·subst c5;simp only[go_sem];exact zj (by rfl) (nv (by rw[zE,hC];rfl))
 simp only[c5,decide_false,go_sem];by_cases c6:C=6
 ·subst c6;simp only[go_sem,qDK,gMp,ra,oMs,jc (show-9223372036854775808<=1+(x.W.length:Int) by omega) (by omega)];exact zj (by rfl) (nv (by rw[zE,hC];rfl))
 simp only[c6,decide_false,go_sem];by_cases c7:C=7
 ·subst c7;have v0:=hv rfl;have q3:¬(bk.length:Int)<=x.V:=λq=>by unfold zE at h0;rw[hC]at h0;simp[q]at h0
  have q9:¬8<IntKind.i64.wrap (hiI (qw bk x.V).G+x.L):=λq=>by unfold zE at h0;rw[hC]at h0;simp[q3,q]at h0
  have v1:x.V<bk.length:=by omega
  simp only[go_sem,qDK,qK6,gMp,ra,oMs,Xk v0 v1];generalize ([]:List qA)++[qA.row 3 [AV.agg [AV.lst 5 (List.map qB.enc [qZ u,qZ v]) false,AV.lst 1 (List.map qD.enc bk) false,AV.nilm]] true]=HB;have ot:=YR hb v0 v1;have tz:=ZI ot;refine zX (e':=(qw bk x.V).enc) rfl ends rfl rfl ?_;rw[lSr _ _ (nLr _),nSs];simp only[lSz];have hbb:(HB++[qA.row 1 [(qw bk x.V).enc] true])[HB.length]?=some (qA.row 1 [(qw bk x.V).enc] true):=ends;simp only[go_sem,hbb];refine qL (qEZ (n:=qw bk x.V) (by omega) ot) ?_;have hil:(qq (qw bk x.V).G).length<=1048576:=nLt (List.length_filter_le ..) (YY (by omega));have np:=ZH ot;simp only[go_sem];rw[jc (show-9223372036854775808<=((qw bk x.V).G.length:Int)-1 by omega) (by omega),wsA];exact zj (by rfl) (nv (q:=((qw bk x.V).G.length:Int)-1+((qq (qw bk x.V).G).length:Nat)) (by rw[zE,hC];simp[q3,q9,qKT]))
 simp only[c7,decide_false,go_sem];exact zj (by rfl) (nv (by rw[zE,hC,iN h8,iN c3,iN c4,iN c5,iN c6,iN c7]))
end
def rdL(xs:List qF)(k:Nat):List qF:=xs.take k++xs.drop (k+1)
theorem qC5{A:List qA}{x y:qA}{n:Nat}(h:A.length=n):(A++[x]).set n y=A++[y]:=by
 subst h;simp
theorem qrU{xs:List qF}{h:List qA}{id k:Nat}{K:AV->List qA->Prop}(ho:h[id]?=some (.row 2 (xs.map qF.enc) true))(hz:xs.length<=1048576)(hk:k<xs.length)
  (hK:K (sQ 2 h.length (xs.length-1)) (h.set id .dead++[.row 2 ((rdL xs k).map qF.enc) true])):SCall Gm 1287 [sQ 2 id xs.length,iI (k:Int),iI ((k:Int)+1)] h K:=by
 refine SCall.cut h.length (xs.length-1) 2 ?_;refine sI U9 ?_;simp only[U9,qN,go_sem];have hid:id<h.length:=(gSi.1 ho).1;refine qsD ho (by simp;omega) (c:=xs.length) (b:=k+1) (a:=k) (by simp[bnd,go_sem]) (by simp[bnd,go_sem];omega) (by simp[bnd,go_sem];omega) ?_;simp only[go_sem];have hne:decide ((k:Int)=(k:Int)+1)=false:=dEf (by omega);simp only[hne,go_sem];refine X7 (v:=sQ 2 id k) (by simp[val,bnd,go_sem,show k<=xs.length by omega]) ?_;simp only[go_sem];refine X7 (v:=.slice 2 id (k+1) (xs.length-(k+1)) false) (by simp[val,bnd,go_sem,show (0:Int)<=(k:Int)+1/\(k:Int)+1<=(xs.length:Int) by omega]) ?_;simp only[go_sem];refine qj1 (el:=xs.map qF.enc) (ys:=(xs.map qF.enc).drop (k+1)) ?_ ho (by simp;omega) (by simp;omega) ?_
 ·have:=Els.part (h:=h) (w:=2) (id:=id) (off:=k+1) (n:=xs.length-(k+1)) (c:=false) ho (by simp;omega);rwa[tOl (by simp)]at this
 simp only[go_sem];have e1:k+(List.drop (k+1) (xs.map qF.enc)).length=xs.length-1:=by simp;omega
 simp only[e1];generalize hrow:(((xs.map qF.enc).drop 0).take k)++(List.drop (k+1) (xs.map qF.enc)++List.drop (0+k+(List.drop (k+1) (xs.map qF.enc)).length) (xs.map qF.enc))=row;have hl:row.length=xs.length:=by rw[<-hrow];simp;omega
 have htk:row.take (xs.length-1)=(rdL xs k).map qF.enc:=by
  rw[<-hrow,<-lAa,List.take_append_of_le_length (by simp;omega),tOl (by simp;omega)];simp[rdL]
 have hA:(h.set id .dead).length=h.length:=by simp
 have hat:(h.set id .dead++[qA.row 2 row true])[h.length]?=some (qA.row 2 row true):=by
  rw[gAr (by simp)];simp
 refine qsE hat (by omega) (b:=xs.length) (a:=xs.length-1) (by simp only[bnd,go_sem,hl];simp) (by simp only[bnd,go_sem];simp) ?_;simp only[go_sem];refine ql4 hat (by omega) (by omega) ?_;simp only[go_sem];refine⟨_,by rw[qC5 hA,gAr (by omega),hA,nSs,List.getElem?_cons_zero], ?_⟩;rw[qC5 hA,qC5 hA];have e2:∀r:List AV,List.take (xs.length-1) (List.take (0+(xs.length-1)) row++r)=(rdL xs k).map qF.enc:=by
  intro r;rw[nZa,List.take_append_of_le_length (by simp;omega),List.take_take,Nat.min_self,htk]
 rw[e2];exact hK
section
variable {w mid cid k a b:Nat} {post cs:List AV} {ow:Nat->Nat} {h h':List qA} {m:qH} {rv dv:AV} {c x y:qC} {P:List qE} {O:Nat->Bool} {bk:List qD} {p:qF}
abbrev bkP(bk:List qD):List AV:=[.lst 1 (bk.map qD.enc) false]
theorem qAI:AV.trees (bkP bk)=true:=by simp[AV.trees,AV.tree,qb qD.isSh.tree]
theorem MH.lendX{g e:Nat}{E:Ev}{ck l:List qG}{fs:List Fr1}{s l':qt}{Q:qn->VSt->Prop}{bs:List AV}{v:AV}(M:MH w mid post ow h m)(hp:AV.trees post=true)(hw:0<w)(hb:AV.trees bs=true)(hf:Pure E.Γ g (.ept (xM m post) 0::bs) v)(hl:v.leaf=true)
  (hr:R E (.ops l::fs) ⟨(e,v)::s,l',h⟩ Q):jz E (some (g,.ptr mid 0 0::bs)) ck (some e) l fs ⟨s,l',h⟩ Q:=
 wC (Cvs.cons (M.cvp hp hw) (Cvs.tr hb)) hf hl hr
structure Beg(w mid:Nat)(post:List AV)(ow:Nat->Nat)(h:List qA)(lv:AV)(q:qH×List qp)(m m':qH):Prop where
 mh:MH w mid post ow h q.1
 l:LsW (λj=>ow j=0) 4 h lv (q.2.map qp.enc)
 mm:MM q.1 (lws q.2++[]) O0
 e:JW q.1 q.2=m'
 n:q.2.length<=1000
 c:q.1.C.length=m.C.length
theorem qJU(M:MH w mid post ow h m)(hc:m.C[k]?=some c):SCall Gm 1288 [.ptr mid 0 0,iI (k:Nat)] h (λ_ h'=>∃ow',MH w mid post ow' h' (qV m k)/\Fo ow h ow' h'/\(∀j,j<h.length->ow j=k+3->ow' j=0/\h'[j]?=h[j]?)/\∀j,j<h.length->2<=ow j->ow j≠k+3->ow' j=ow j/\h'[j]?=h[j]?):=by
 obtain⟨cid,cs,rv,M⟩:=M;have hk:=zO hc;refine sI XA ?_;simp only[XA,qN,go_sem,M.o,qS hk,nZa];refine M.sto5 hc rfl ⟨_,rfl⟩ ?_;have M1:=M.setC (k:=k) (c':=zq m.F) (λ_=>False) hc (λ_ t=>t.elim) CV.free;have f1:=M.setC_fo (k:=k) (T:=λ_=>False) (v':=.agg [iI 0,iI 0,iI m.F,.nils,.nils]) (λ_ t=>t.elim);simp only[go_sem];refine M1.stoF _ ?_;have M2:=M1.setF (k:Int);simp only[go_sem];refine⟨_,⟨cid,_,rv,by rw[qV,iTn];exact M2⟩,f1.trans M1.setF_fo,λj hj q=>⟨by rw[Ja (λt=>t),iP q], ?_⟩,λj hj q q2=>⟨by rw[Ja (λt=>t),iN q2], ?_⟩⟩
 ·rw[sne λe=>by subst e;rw[M.m1]at q;omega,sne λe=>by subst e;rw[M.c1]at q;omega]
 ·rw[sne λe=>by subst e;rw[M.m1]at q;omega,sne λe=>by subst e;rw[M.c1]at q;omega]
theorem s975(M:MH w mid (bkP bk) ow h m)(hw:0<w)(mm:MM m [] O0)(hk:k<m.R.length)(hb:jG bk=true)(hcl:m.C.length<=1500):
  SCall Gm 975 [.ptr mid 0 0,iI (k:Nat)] h (λv h'=>∃ow' lv q,v=.tup [iI (doM bk m k).2.1,lv,iI (doM bk m k).2.2]/\Beg w mid (bkP bk) ow' h' lv q m (doM bk m k).1/\Fo ow h ow' h'):=by
 obtain⟨p,a,b,x,y,r⟩:=X9 mm hk;have hrl:=YF mm;refine sI F975 ?_;have MM1:=M;obtain⟨cid,cs,rv,M⟩:=M;obtain⟨rid,i1,rfl,i3⟩:=M.r.full (by rw[lMp];omega);rw[lMp]at M;simp only[F975,qN,go_sem,M.o,qS hk,nZa,i3,gMp,r.at',oMs];refine lsA ?_;simp only[go_sem];refine MM1.lendX qAI hw (by simp[AV.trees,qF.tr]) (qkP r hb) rfl ?_;simp only[go_sem];have er:=r.do (bk:=bk);rw[r.need];have mm0:MM m (lws []++[]) O0:=mm;by_cases h0:(zE bk x y).2=0
 case neg=>
  rw[iP h0]at er;simp only[h0,decide_false,go_sem];rw[er];exact⟨ow,.nils,(m,[]),rfl,⟨MM1,.inl ⟨rfl,rfl⟩,mm0,rfl,by simp,rfl⟩,Fo.refl⟩
 have h8:qi x y≠8:=λe=>by have:=qB8 (bk:=bk) e;omega
 have w1:=JZ r.ro.ox;have w2:=JZ r.ro.oy;rw[agp]at w1 w2;simp only[h0,go_sem];refine MM1.lend qAI hw (by simp[AV.trees,qF.tr]) (qEV r.ro (by omega) (by omega) h8) rfl ?_;simp only[go_sem];refine MM1.lend qAI hw rfl (qkW (by omega)) rfl ?_;simp only[go_sem];refine qL Za ?_;simp only[go_sem];have hnF:nF m.C<=m.C.length:=List.countP_le_length;have ew:IntKind.i64.wrap (IntKind.i64.wrap ((nF m.C:Nat)+2)-(if decide (qi x y=7)=true then 1 else 0:Int))=(nF m.C:Int)+JE (qi x y):=by
  have e2:IntKind.i64.wrap ((nF m.C:Nat)+2:Int)=(nF m.C:Nat)+2:=wsA;rw[e2];unfold JE;by_cases q:qi x y=7
  ·simp only[q,decide_true,if_true];rw[wsA];omega
  ·simp only[q,decide_false,bFt,if_false];rw[wsA];omega
 rw[iN (by omega)]at er;simp only[ew];by_cases hn:(nF m.C:Int)+JE (qi x y)<(zE bk x y).1
 ·rw[iP hn]at er;simp only[hn,go_sem];rw[er];exact⟨ow,.nils,(m,[]),rfl,⟨MM1,.inl ⟨rfl,rfl⟩,mm0,rfl,by simp,rfl⟩,Fo.refl⟩
 rw[iN hn]at er;simp only[hn,decide_false,go_sem,M.o];have lm:=qz M.o;have hrd:(unR m k).R=rdL m.R k:=rfl;have ew2:IntKind.i64.wrap ((k:Int)+1)=(k:Int)+1:=wsA;rw[ew2];refine qu (qrU (xs:=m.R) (id:=rid) i3 (by omega) hk ?_);simp only[go_sem];have hlr:(rdL m.R k).length=m.R.length-1:=by simp[rdL];omega
 have U1:Up (λj=>ow j=2) h (h.set rid .dead++[qA.row 2 ((rdL m.R k).map qF.enc) true]):=by
  refine(Up.set (id:=rid)).trans (Up.app _ (S:=λ_=>False)) (λ_ _ q=>q.elim) |>.w λj _ q=>by rw[q];exact i1
 have hid:(h.set rid .dead++[qA.row 2 ((rdL m.R k).map qF.enc) true])[h.length]?=some (.row 2 ((unR m k).R.map qF.enc) true):=by
  rw[gAr (by simp)];simp[hrd]
 have hM1:=U1.at M.o (λq=>by rw[M.m1]at q;cases q);obtain⟨M2,F2⟩:=M.redx (rx:=(unR m k).R) (rv':=sQ 2 h.length (m.R.length-1)) U1 (nLr _) hid (by rw[hrd,hlr]);generalize h.set rid .dead++[qA.row 2 ((rdL m.R k).map qF.enc) true]=hA at*;refine V8 (rv':=sQ 2 h.length (m.R.length-1)) hM1 (unR m k).R rfl ?_;have pl:=r.pl hb h0 hn;generalize owR ow h.length=ow2 at*;generalize hA.set mid _=hB at*;obtain⟨ra,rb⟩:=r.ro.at;have hka:=zO ra;have hkb:=zO rb;have ra':(unR m k).C[a]?=some x:=ra;have rb':(unR m k).C[b]?=some y:=rb;obtain⟨dvx,wvx,v1,v2,v3⟩:=M2.words ra';obtain⟨dvy,wvy,y1,y2,y3⟩:=M2.words rb';have M3:MH w mid (bkP bk) ow2 hB (unR m k):=MH.intro M2;have M2o:=M2.o;have M2c:=M2.c;clear M2 hM1 U1 hid;simp only[go_sem,M2o,qS hka,qS hkb,nZa,M2c,v1,y1];refine lsA ?_;simp only[go_sem];refine lsA ?_;simp only[go_sem];refine qu (SCall.mono (qJU M3 ra') ?_);rintro _ h3 ⟨ow3,M4,F3,g3,g4⟩;have lx:∀{w:Nat}{v:AV}{el:List AV},LsW (λj=>ow2 j=a+3) w hB v el->LsW (λj=>ow3 j=0) w h3 v el:=λq=>q.mono λj hj z=>g3 j hj z;have vx2:=lx v2;have vx3:=lx v3;have F23:=F2.trans F3;simp only[go_sem];have hcls:=pl.o.cls;obtain⟨p1,p2⟩:=qCL pl;have pll:=qIU pl;have fin:∀ow' h' lv,MH w mid (bkP bk) ow' h' (zZ bk (unR m k) a b x y).1->LsW (λj=>ow' j=0) 4 h' lv ((zZ bk (unR m k) a b x y).2.map qp.enc)->Beg w mid (bkP bk) ow' h' lv (zZ bk (unR m k) a b x y) m (doM bk m k).1:=λow' h' lv q1 q2=>⟨q1,q2,p1,by rw[er],pll,p2⟩;rw[er]at fin|-;generalize hC:qi x y=C at*;by_cases c7:C=7
 ·subst c7;obtain⟨v0,v1',ot,n9,hf⟩:=pl.need7 hC;obtain⟨ks,vs,X⟩:=pl.exp hC;have tz:=ZI ot;have hl:=QF pl.o.ox;have p1':=pl.h1;rw[(pl.o.f7 hC).1,lNa]at p1';have ep:zZ bk (unR m k) a b x y=(Xf (qw bk x.V) x.L (qV (unR m k) a) b,[]):=by unfold zZ;rw[iP hC]
  rw[ep]at fin|-;simp only[go_sem];refine qu (SCall.mono (qrV M4 ⟨v0,v1'⟩ rfl (by omega) ot hl n9 p1' (by rw[pl.f1];exact hf) X (by have:(qV (unR m k) a).R=rdL m.R k:=rfl;rw[this,hlr];omega)) ?_);rintro _ h5 ⟨ow5,M5,F5⟩;simp only[go_sem];exact⟨ow5,.nils,_,rfl,fin ow5 h5 .nils M5 (.inl ⟨rfl,rfl⟩),F23.trans F5⟩
 simp only[c7,decide_false,go_sem];have rb4:(qV (unR m k) a).C[b]?=some y:=pl.hy;refine qu (SCall.mono (qJU M4 rb4) ?_);rintro _ h4 ⟨ow4,M5,F4,g5,-⟩;have hnab:b+3≠a+3:=by have:=pl.ne;omega
 have ly:∀{w:Nat}{v:AV}{el:List AV},LsW (λj=>ow2 j=b+3) w hB v el->LsW (λj=>ow4 j=0) w h4 v el:=λq=>q.mono λj hj z=>by
  obtain⟨z1,z2⟩:=g4 j hj (by omega) (by omega);have hj3:j<h3.length:=nLl hj F3.l;obtain⟨z3,z4⟩:=g5 j hj3 (by omega);exact⟨z3,z4.trans z2⟩
 have wy2:=ly y2;have wy3:=ly y3;have wx2:=vx2.fo0 F4;have wx3:=vx3.fo0 F4;have WC:=F23.trans F4;clear lx ly g3 g4 g5 v1 v2 v3 y1 y2 y3 vx2 vx3;simp only[go_sem];have hxd:=WP pl.o.ox;have hyd:=WP pl.o.oy;have hyd':y.D.length<=1000:=by have:y.D.length<=4:=hyd;omega
 obtain⟨wl1,wl2⟩:=pl.o.wl;by_cases c12:C=1\/C=2
 ·have ep:zZ bk (unR m k) a b x y=(qV (qV (unR m k) a) b,[⟨x.W.getD 0 w0,y.W.getD 0 w0⟩,⟨x.W.getD 1 w0,y.W.getD 1 w0⟩]):=by
   unfold zZ;rw[iN (by rw[hC];exact c7),iP (by rw[hC];exact c12)]
  rw[ep]at fin|-;obtain⟨w1,w2⟩:=pl.o.f12 (by rw[hC];exact c12);have ex:=Qq w1;have ey:=Qq w2;generalize x.W.getD 0 w0=x0 at*;generalize x.W.getD 1 w0=x1 at*;generalize y.W.getD 0 w0=y0 at*;generalize y.W.getD 1 w0=y1 at*;rw[ex,lMc,lMc,List.map_nil]at wx3;rw[ey,lMc,lMc,List.map_nil]at wy3;obtain⟨ix,i1,rfl,i3⟩:=wx3.two;obtain⟨iy,j1,rfl,j3⟩:=wy3.two;have tl:∀Cd:Bool,Cd=decide (C=1)->(Cd=true\/(Cd=false/\C=2)):=λCd e=>by
   rcases c12 with c | c
   ·exact .inl (by rw[e];simpa using c)
   ·exact .inr ⟨by rw[e];simp;omega,c⟩
  rcases tl _ rfl with e | ⟨e,rfl⟩
  all_goals
   simp only[e,go_sem,Q4,WW,i3,j3];exact⟨ow4,_,_,rfl,fin ow4 _ _ (M5.app _) (.inr ⟨h4.length,M5.b,rfl,ends⟩),WC.trans (Fo.app _)⟩
 have c1:C≠1:=λe=>c12 (.inl e);have c2:C≠2:=λe=>c12 (.inr e);simp only[c1,c2,decide_false,go_sem];by_cases c3:C=3
 ·subst c3;have ep:zZ bk (unR m k) a b x y=wc (qV (qV (unR m k) a) b) x y:=by
   unfold zZ;rw[iN (by omega),iN (by omega),iP hC]
  rw[ep]at fin|-;obtain⟨w1,w2⟩:=pl.o.f3 hC;simp only[go_sem];refine qu (SCall.mono (qrW M5 wx2 wx3 wy2 wy3 pl.h2 pl.o.ky (.inl ⟨pl.o.ky,pl.o.oy⟩) w1 (by omega) hyd' w2 (by rw[pl.f2];exact pl.need3 hC)) ?_);rintro lv h5 ⟨ow5,M6,F5,L5⟩;simp only[go_sem];exact⟨ow5,lv,_,rfl,fin ow5 h5 lv M6 L5,WC.trans F5⟩
 simp only[c3,decide_false,go_sem];by_cases c4:C=4
 ·subst c4;have ep:zZ bk (unR m k) a b x y=zr (qV (qV (unR m k) a) b) y y.W.length:=by
   unfold zZ;rw[iN (by omega),iN (by omega),iN (by omega),iP hC]
  rw[ep]at fin|-;have h2:=pl.h2;rw[pl.o.f4 hC,lNa]at h2;simp only[go_sem];refine qu (SCall.mono (qrX M5 wy3 h2 (by rw[pl.f2];exact pl.need4 hC) (by omega)) ?_);rintro lv h5 ⟨ow5,M6,F5,L5⟩;simp only[go_sem];exact⟨ow5,lv,_,rfl,fin ow5 h5 lv M6 L5,WC.trans F5⟩
 simp only[c4,decide_false,go_sem];by_cases c5:C=5
 ·subst c5;have ep:zZ bk (unR m k) a b x y=j5 (qV (qV (unR m k) a) b) x y:=by
   unfold zZ;rw[iN (by omega),iN (by omega),iN (by omega),iN (by omega),iP hC]
  rw[ep]at fin|-;obtain⟨w1,w2,w3⟩:=pl.o.f5 hC;obtain⟨kf,df,f1,f2,-⟩:=wW pl.h2 (by rw[pl.f2];omega);simp only[go_sem];refine qu (SCall.mono (qrY M5 wy2 wy3 f1 ⟨df,f2⟩ w2) ?_);rintro lv h5 ⟨ow5,M6,F5,L5⟩;simp only[go_sem];exact⟨ow5,lv,_,rfl,fin ow5 h5 lv M6 L5,WC.trans F5⟩
 simp only[c5,decide_false,go_sem];obtain rfl:C=6:=by omega
 have ep:zZ bk (unR m k) a b x y=chM (qV (qV (unR m k) a) b) x y:=by
  unfold zZ;rw[iN (by omega),iN (by omega),iN (by omega),iN (by omega),iN (by omega),iP hC]
 rw[ep]at fin|-;obtain⟨w1,w2,w3,w4⟩:=pl.o.f6 hC;simp only[go_sem];refine qu (SCall.mono (qrZ M5 wx2 wx3 wy2 wy3 pl.h2 (by rw[pl.f2];exact pl.need6 hC) w1 w2 w3 (by omega) w4 (by have:(qV (qV (unR m k) a) b).R=rdL m.R k:=rfl;rw[this,hlr];omega)) ?_);rintro lv h5 ⟨ow5,M6,F5,L5⟩;simp only[go_sem];exact⟨ow5,lv,_,rfl,fin ow5 h5 lv M6 L5,WC.trans F5⟩
end
section
variable {w mid cid k a b:Nat} {post cs:List AV} {ow:Nat->Nat} {h h':List qA} {m:qH} {rv dv:AV} {c x y:qC} {P:List qE} {O:Nat->Bool} {bk:List qD} {p:qF}
theorem s602(M:MH w mid (bkP bk) ow h m)(hw:0<w)(mm:MM m [] O0)(hk:k<m.R.length)(hb:jG bk=true)(hcl:m.C.length<=1500):
  SCall Gm 602 [.ptr mid 0 0,iI (k:Nat)] h (λv h'=>v=.tup [iI (doM bk m k).2.1,iI (doM bk m k).2.2]/\∃ow',MH w mid (bkP bk) ow' h' (doM bk m k).1/\Fo ow h ow' h'):=by
 refine sI F602 ?_;simp only[F602,qN,go_sem];refine qu (SCall.mono (s975 M hw mm hk hb hcl) ?_);rintro _ h4 ⟨ow4,lv,q,rfl,⟨M4,L4,p1,er,hql,p2⟩,F4⟩;have hv4:=L4.len;rw[lMp]at hv4;simp only[go_sem,hv4];refine Sem.loop (λa':Nat×(Nat->Nat)×List qA=>a'.1<=q.2.length/\MH w mid (bkP bk) a'.2.1 a'.2.2 (JW q.1 (q.2.take a'.1))/\Fo ow4 h4 a'.2.1 a'.2.2)
  (λa'=>(⟨[(0,.ptr mid 0 0),(6,iI (doM bk m k).2.1),(8,iI (doM bk m k).2.2),(18,lv),(19,iI (q.2.length:Nat)),(20,iI (a'.1:Nat))],[],a'.2.2⟩:VSt)) (λa'=>q.2.length-a'.1)
  (0,ow4,h4) (by kernel_rfl) ⟨nZl _,M4,Fo.refl⟩ csA ?_
 rintro⟨i,ow5,h5⟩ ⟨hi,M5,F5⟩;simp only at hi M5 F5;simp only[go_sem];by_cases hlt:i<q.2.length
 case neg=>
  have e:decide ((i:Int)<(q.2.length:Nat))=false:=dEf (by omega);simp only[e,go_sem];rw[tOl (by omega),er]at M5;exact⟨trivial,ow5,M5,F4.trans F5⟩
 have e:decide ((i:Int)<(q.2.length:Nat))=true:=dEt (by omega);have hli:=gEg hlt;generalize hlk:q.2[i]=lk at hli;obtain⟨id,j1,rfl,j3⟩:=(L4.fo0 F5).full (by rw[lMp];omega);simp only[e,go_sem,qS hlt,nZa,j3,gMp,hli,oMs];refine lsA ?_;obtain⟨m1,m2⟩:=qHF (i:=i) p1;have ed:q.2.drop i=lk::q.2.drop (i+1):=by rw[lDc hlt,hlk]
 rw[ed,lAn]at m1;have hr5:=YF m1;simp only[go_sem];refine qu (SCall.mono (s976 M5 m1 (by omega)) ?_);rintro _ h6 ⟨ow6,M6,F6⟩;simp only[go_sem,wuA (n:=i)];have et2:q.2.take (i+1)=q.2.take i++[lk]:=by rw[tA1,hli];rfl
 rw[<-qHE,<-et2]at M6;exact qa (i+1,ow6,h6) ⟨by simp only;omega,M6,F5.trans F6⟩ (by simp only;omega) csA
end
end Go.Ab
