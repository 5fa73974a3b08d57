/- Texts Mi16 .. Mi26: the abstract machine, its laws and contracts of functions: lemmas for the statement. No condition. -/
import Derived.Test.YtmjjilcgafiafaaGreatP8
set_option linter.unusedSimpArgs false
set_option linter.unusedVariables false
namespace Go.Ab
open Go
set_option maxRecDepth 10000
set_option maxHeartbeats 4000000
section
variable {w mid cid k:Nat} {post cs:List AV} {ow:Nat->Nat} {h h' h1:List qA} {m:qH} {rv dv wv:AV} {c:qC}
theorem UU:∀(xs:List qE)(n:Nat),qO (xs.map qE.enc) n=(xs.map qE.enc,[])
 |[],_=>rfl
 | x::xs,n=>by
  simp[qO,qE.enc,lay,UU xs]
theorem Vs:∀(xs:List qF)(n:Nat),qO (xs.map qF.enc) n=(xs.map qF.enc,[])
 |[],_=>rfl
 | x::xs,n=>by
  simp[qO,qF.enc,lay,Vs xs]
theorem qK3(x:qE):x.enc.pl=true:=by simp[qE.enc,AV.pl,AV.pls]
theorem qIL(x:qF):x.enc.pl=true:=by simp[qF.enc,AV.pl,AV.pls]
theorem qpG(xs:List qF)(hz:xs.length<=4194304):Fresh Gm 1070 [.lst 2 (xs.map qF.enc) false] (.lst 2 (xs.map qF.enc) false):=
 Ys (w:=2) (gk _ qDR) (Vs xs) (zN qIL xs) (qb qF.isSh.tree xs) (by simpa using hz)
theorem qpJ(xs:List qE)(hz:xs.length<=4194304):Fresh Gm 1181 [.lst 2 (xs.map qE.enc) false] (.lst 2 (xs.map qE.enc) false):=
 Ys (w:=2) (gk _ qDV) (UU xs) (zN qK3 xs) (qb qE.isSh.tree xs) (by simpa using hz)
theorem qoK{xs:List qE}{n:Nat}:lay (.lst 2 (xs.map qE.enc) false) n=(sQ 2 n xs.length,[.row 2 (xs.map qE.enc) true]):=by simp[lay,UU]
theorem qoJ{xs:List qF}{n:Nat}:lay (.lst 2 (xs.map qF.enc) false) n=(sQ 2 n xs.length,[.row 2 (xs.map qF.enc) true]):=by simp[lay,Vs]
theorem s868{h0:List qA}(hz:m.sz<=1000000)(h1n:0<m.C.length):SCall Gm 868 [m.enc] h0 (λv h'=>∃cid cs rv ow,v=mE m cid rv []/\MC ow h' m cid cs rv/\Up (λ_=>False) h0 h'/\∀j,j<h0.length->ow j=0):=by
 have hsz:m.C.length+qJ qC.sz m.C+m.R.length<=1000000:=by unfold qH.sz at hz;exact hz
 refine sI F868 ?_;simp only[F868,qN,go_sem];refine qX rfl ?_;simp only[go_sem];refine jY (qpG m.R (by omega)) ?_;rw[qoJ];simp only[go_sem];refine qHO (n:=0) (by omega) (by omega) ?_;simp only[go_sem];refine lsA ?_;simp only[go_sem];refine Sem.loop (λa:Nat×(Nat->Nat)×List AV×AV×List qA=>a.1<=m.C.length/\Up (λ_=>False) h0 a.2.2.2.2/\(∀j,j<h0.length->a.2.1 j=0)/\LsW (λj=>a.2.1 j=2) 2 a.2.2.2.2 (sQ 2 h0.length m.R.length) (m.R.map qF.enc)/\LsW (λj=>a.2.1 j=1) 5 a.2.2.2.2 a.2.2.2.1 a.2.2.1/\a.2.2.1.length=a.1/\(∀(k:Nat)(c:qC),k<a.1->m.C[k]?=some c->∃v,a.2.2.1[k]?=some v/\CV (λj=>a.2.1 j=k+3) a.2.2.2.2 v c)/\(∀j,a.2.1 j≠0->j<a.2.2.2.2.length))
  (λa=>(⟨[(19,.lst 5 (m.C.map qC.enc) false),(20,iI (m.C.length:Nat)),(21,iI (a.1:Nat))],[(3,.agg [a.2.2.2.1,iI m.F,iI m.O.T,iI m.O.I,sQ 2 h0.length m.R.length]),(2,.agg [.nils,iI 0,iI 0,iI 0,.nils])],a.2.2.2.2⟩:VSt)) (λa=>m.C.length-a.1)
  (0,(λj=>if j=h0.length then 2 else if j=h0.length+1 then 1 else 0),[],.slice 5 (h0++[qA.row 2 (List.map qF.enc m.R) true]).length 0 0 false,_) (by kernel_rfl) ⟨nZl _,(Up.app _).trans (Up.app _) (λ_ _ q=>q),λj hj=>by simp only;rw[iN (by omega),iN (by omega)],.inr ⟨h0.length,iP rfl,by rw[lMp],jN ends⟩,.inr ⟨(h0++[qA.row 2 (List.map qF.enc m.R) true]).length,by simp,rfl,ends⟩,rfl,λk c hk=>by omega,λj hj=>by
   by_cases e:j=h0.length
   ·rw[e];simp
   ·by_cases e2:j=h0.length+1
    ·rw[e2];simp
    ·simp only[iN e,iN e2]at hj;exact absurd rfl hj⟩ csA ?_
 rintro⟨i,ow,cs,v,h⟩ ⟨hi,u0,o0,rr,cc,cl,ce,ob⟩;simp only at hi u0 o0 rr cc cl ce ob;simp only[go_sem];by_cases hlt:i<m.C.length
 case neg=>
  have e:decide ((i:Int)<(m.C.length:Nat))=false:=dEf (by omega);obtain rfl:i=m.C.length:=by omega
  simp only[e,go_sem];refine lsA ?_;simp only[go_sem];obtain⟨cid,c1,rfl,c3⟩:∃id,ow id=1/\v=sQ 5 id m.C.length/\h[id]?=some (.row 5 cs true):=by
   rcases cc with⟨_,q⟩ | ⟨j,j1,j2,j3⟩
   ·rw[q]at cl;simp at cl;omega
   ·exact⟨j,j1,by rw[j2,cl],j3⟩
  exact⟨cid,cs,_,ow,rfl,⟨c3,cl,λk c hc=>ce k c (zO hc) hc,rr,c1,ob⟩,u0,o0⟩
 have e:decide ((i:Int)<(m.C.length:Nat))=true:=dEt (by omega);have hc:=gEg hlt;generalize m.C[i]=c at hc;have hcz:c.sz<=1000000:=by have:=z5 (f:=qC.sz) (lMo hc);omega
 unfold qC.sz at hcz;simp only[e,gMp,hc,oMs,go_sem];refine lsA ?_;simp only[go_sem];refine jY (Vb c.D (by omega)) ?_;rw[Q7];simp only[go_sem];refine jY (qpJ c.W (by omega)) ?_;rw[qoK];simp only[go_sem];refine Wg (c':=cE c (sQ 1 h.length c.D.length) (.lst 2 (c.W.map qE.enc) false)) rfl (X5 rfl rfl) ?_;simp only[go_sem];refine Wg (c':=cE c (sQ 1 h.length c.D.length) (.slice 2 (h++[qA.row 1 (c.D.map qQ) true]).length 0 c.W.length false)) rfl (X5 rfl rfl) ?_;simp only[go_sem];have u1:Up (λ_=>False) h (h++[qA.row 1 (c.D.map qQ) true]++[qA.row 2 (c.W.map qE.enc) true]):=(Up.app _).trans (Up.app _) λ_ _ q=>q;have hh1:(h++[qA.row 1 (c.D.map qQ) true]++[qA.row 2 (c.W.map qE.enc) true]).length=h.length+2:=by simp
 have d1:LsW (λj=>h.length<=j) 1 (h++[qA.row 1 (c.D.map qQ) true]++[qA.row 2 (c.W.map qE.enc) true]) (sQ 1 h.length c.D.length) (c.D.map qQ):=.inr ⟨h.length,nLr _,by rw[lMp],jN ends⟩;have w1:LsW (λj=>h.length<=j) 2 (h++[qA.row 1 (c.D.map qQ) true]++[qA.row 2 (c.W.map qE.enc) true]) (.slice 2 (h++[qA.row 1 (c.D.map qQ) true]).length 0 c.W.length false) (c.W.map qE.enc):=.inr ⟨_,by simp,by rw[lMp],ends⟩
 try delta sQ at*
 generalize AV.slice 1 h.length 0 c.D.length false=dv at*;generalize AV.slice 2 (h++[qA.row 1 (c.D.map qQ) true]).length 0 c.W.length false=wv at*;generalize h++[qA.row 1 (c.D.map qQ) true]++[qA.row 2 (c.W.map qE.enc) true]=h1 at*;simp only[qF8,go_sem];have cc1:LsW (λj=>ow j=1) 5 h1 v cs:=cc.mono λj hj q=>⟨q,u1.eq hj id⟩;refine Jd (cc1.app _) ends (by omega) λh3 u3 w3 l3=>?_;simp only[go_sem,wuA (n:=i)];have hl1:=u1.1;have hl0:=u0.1;have l3':h3.length=h1.length+2:=by rw[l3];simp
 have old:∀j,j<h.length->ow j≠1->h3[j]?=h[j]?:=λj hj n=>by
  rw[u3.eq (by simp;omega) (λq=>n q.1),gAl (by omega)];exact u1.eq hj id
 have onew:∀j,j<h.length->ow j≠1->owN ow h.length h1.length (h1++[qA.row 5 [cE c dv wv] true]).length i j=ow j:=λj hj n=>by
  unfold owN;rw[iN (by simp;omega),iN (by omega),iN n]
 refine qa (i+1,owN ow h.length h1.length (h1++[qA.row 5 [cE c dv wv] true]).length i,cs++[cE c dv wv],.slice 5 (h1++[qA.row 5 [cE c dv wv] true]).length 0 (cs.length+1) false,h3) ⟨by simp only;omega, ?_,λj hj=>?_, ?_,.inr ⟨(h1++[qA.row 5 [cE c dv wv] true]).length,iP rfl,by simp,w3⟩,by simp[cl],λk d hk hd=>?_,λj hj=>?_⟩ (by simp only;omega) csA
 ·exact((u0.trans u1 (λ_ _ q=>q)).trans (Up.app _ (S:=λ_=>False)) (λ_ _ q=>q)).trans u3 λj hj q=>by have:=o0 j hj;omega
 ·simp only;have:=o0 j hj;rw[onew j (by omega) (by omega)];exact this
 ·refine rr.mono λj hj q=>⟨?_,old j hj (by omega)⟩;simp only;rw[onew j hj (by omega)];exact q
 ·by_cases e:k<i
  ·obtain⟨u,x1,x2⟩:=ce k d e hd;refine⟨u,by simp only;rw[gAl (by omega)];exact x1,x2.mono λj hj q=>⟨?_,old j hj (by omega)⟩⟩;simp only;rw[onew j hj (by omega)];exact q
  ·obtain rfl:k=i:=by simp only at hk;omega
   rw[hc]at hd;cases hd;refine⟨cE c dv wv,by simp only;rw[gAr (by omega),cl,nSs];rfl,CV.mono (P:=λj=>h.length<=j) (h:=h1) ⟨dv,wv,rfl,d1,w1⟩ λj hj q=>⟨?_, ?_⟩⟩
   ·simp only[owN];rw[iN (by simp;omega),iP ⟨q,hj⟩]
   ·rw[u3.eq (by simp;omega) (λz=>by have:=ob j (by omega);omega),gAl hj]
 ·simp only at hj|-;unfold owN at hj;by_cases e1:j=(h1++[qA.row 5 [cE c dv wv] true]).length
  ·rw[e1,l3];simp
  ·rw[iN e1]at hj;by_cases e2:h.length<=j/\j<h1.length
   ·omega
   ·rw[iN e2]at hj;split at hj
    ·exact absurd rfl hj
    ·have:=ob j hj;omega
end
section
variable {w mid cid rid ctid k a b:Nat} {post cs:List AV} {ow:Nat->Nat} {h h':List qA} {m:qH} {rv dv:AV} {c x y:qC} {P:List qE} {O:Nat->Bool} {bk:List qD} {p:qF}
structure RH(w mid rid ctid:Nat)(bk:List qD)(ow:Nat->Nat)(h:List qA)(tv:AV)(r:Run):Prop where
 mh:MH w mid (bkP bk) ow h r.m
 e:h[rid]?=some (.row 5 [.agg [.ptr mid 0 0,sQ 1 ctid 7,tv,iI r.pk,iI r.ls]] true)
 t:LsW (λj=>ow j=0/\rid<j) 1 h tv (r.tr.map qQ)
 o:ow rid=0
 c:h[ctid]?=some (.row 1 ((cntF r.tr).map qQ) true)
 co:ow ctid=0
theorem qpC(mm:MM m [] O0):∀c∈m.C,zw c:=λc hc=>by
 obtain⟨k,hk⟩:=List.getElem?_of_mem hc;exact mm.form k c hk rfl
end
theorem VM.len{m:qH}(h:VM m):0<m.C.length/\m.C.length<=1500:=by
 have:=h.sz;unfold inI at this;rw[bAt,dTe,dTe]at this;omega
theorem qE6{c:qC}(h:zw c):c.sz<=8:=by
 rcases h with⟨_,h⟩ | ⟨_,_,_,h1,h2⟩ | ⟨_,_,h1,h2⟩
 ·have:=qH6 h;unfold qB.sz at this;unfold qC.sz;simp only[qZ,lLr]at this;omega
 ·unfold qC.sz;rw[h1];simp only[lNi];omega
 ·unfold qC.sz;rw[h1,h2];simp
theorem VM.szs{m:qH}(h:VM m):m.sz<=1000000:=by
 have h1:=h.len;have h2:=h.rs;have h3:=V9 (f:=qC.sz) (k:=8) λc hc=>qE6 (qAU (h.cell c hc));unfold qH.sz;omega
section
variable {bk:List qD} {m:qH} {bu:Int} {h0:List qA}
end
set_option maxHeartbeats 2000000
theorem qE.plx(x:qE):x.enc.pl=true:=by simp[qE.enc,AV.pl,AV.pls]
theorem qE.cnx(x:qE):x.enc.cn=true:=by simp[qE.enc,AV.cn,AV.cns]
theorem qE.layE(x:qE)(n:Nat):lay x.enc n=(.agg [iI x.T,iI x.I],[]):=by
 simp[qE.enc,lay,qO,zx,AV.rows,Nat.add_assoc,Nat.add_comm,Nat.add_left_comm]
theorem qE.rowsE(x:qE):x.enc.rows=0:=by simp[qE.enc,AV.rows,AV.rowss,Nat.add_assoc]
def qE.mrk(x:qE)(k:Int):qE:={T:=k,I:=k+1}
def qE.ct(x:qE):Nat:=1+1
def qE.mkV(x:qE)(k:Int):qE:={T:=x.T,I:=x.I}
def qE.ctV(x:qE):Nat:=0
theorem qE.rowsM(x:qE)(k:Int):(x.mrk k).enc.rows=x.enc.rows:=by simp[qE.rowsE,qE.mrk,AV.rows]
theorem qE.rowsV(x:qE)(k:Int):(x.mkV k).enc.rows=x.enc.rows:=by simp[qE.rowsE,qE.mkV,AV.rows]
theorem qE.ctle(x:qE):x.ct<=16:=by simp[qE.ct]
theorem qC.plx(x:qC):x.enc.pl=true:=by simp[qC.enc,AV.pl,AV.pls,zN (enc:=qQ) (λ_=>rfl),zN qE.plx]
theorem qC.cnx(x:qC):x.enc.cn=true:=by simp[qC.enc,AV.cn,AV.cns,jg (enc:=qQ) (λ_=>rfl),jg qE.cnx]
theorem qC.layE(x:qC)(n:Nat):lay x.enc n=(.agg [iI x.K,iI x.L,iI x.V,sQ 1 (n) x.D.length,.slice 2 (n+AV.rows (lQ x.D)) 0 x.W.length false],(lay (lQ x.D) (n)).2++((lay (.lst 2 (x.W.map qE.enc) false) (n+AV.rows (lQ x.D))).2++[])):=by
 simp[qC.enc,lay,qO,zx,AV.rows,Nat.add_assoc,Nat.add_comm,Nat.add_left_comm]
theorem qC.rowsE(x:qC):x.enc.rows=AV.rows (lQ x.D)+AV.rows (.lst 2 (x.W.map qE.enc) false):=by simp[qC.enc,AV.rows,AV.rowss,Nat.add_assoc]
def qC.mrk(x:qC)(k:Int):qC:={K:=k,L:=k+1,V:=k+1+1,D:=mkL mkI ctI x.D (k+1+1+1),W:=mkL qE.mrk qE.ct x.W (k+1+1+1+((qJ ctI x.D:Nat):Int))}
def qC.ct(x:qC):Nat:=1+1+1+qJ ctI x.D+qJ qE.ct x.W
def qC.mkV(x:qC)(k:Int):qC:={K:=x.K,L:=x.L,V:=x.V,D:=mkL mkI ctI x.D (k),W:=mkL qE.mrk qE.ct x.W (k+((qJ ctI x.D:Nat):Int))}
def qC.ctV(x:qC):Nat:=qJ ctI x.D+qJ qE.ct x.W
theorem qC.rowsM(x:qC)(k:Int):(x.mrk k).enc.rows=x.enc.rows:=by simp[qC.rowsE,qC.mrk,AV.rows,qv qE.mrk qE.ct (enc:=qE.enc) qE.rowsM,qv mkI ctI (enc:=qQ) (λ_ _=>rfl)]
theorem qC.rowsV(x:qC)(k:Int):(x.mkV k).enc.rows=x.enc.rows:=by simp[qC.rowsE,qC.mkV,AV.rows,qv qE.mrk qE.ct (enc:=qE.enc) qE.rowsM,qv mkI ctI (enc:=qQ) (λ_ _=>rfl)]
theorem qC.ctle(x:qC):x.ct<=16+16*x.sz:=by
 have h0:=jb (c:=ctI) (λ_=>by simp[ctI]) x.D;have h1:=jb (c:=qE.ct) (λy=>by have:=qE.ctle y;simpa using this) x.W;simp only[qC.ct,qC.sz];omega
theorem qC.ctVle(x:qC):x.ctV<=16*x.sz:=by
 have h0:=jb (c:=ctI) (λ_=>by simp[ctI]) x.D;have h1:=jb (c:=qE.ct) (λy=>by have:=qE.ctle y;simpa using this) x.W;simp only[qC.ctV,qC.sz];omega
theorem qF.plx(x:qF):x.enc.pl=true:=by simp[qF.enc,AV.pl,AV.pls]
theorem qF.cnx(x:qF):x.enc.cn=true:=by simp[qF.enc,AV.cn,AV.cns]
theorem qF.layE(x:qF)(n:Nat):lay x.enc n=(.agg [iI x.A,iI x.B],[]):=by
 simp[qF.enc,lay,qO,zx,AV.rows,Nat.add_assoc,Nat.add_comm,Nat.add_left_comm]
theorem qF.rowsE(x:qF):x.enc.rows=0:=by simp[qF.enc,AV.rows,AV.rowss,Nat.add_assoc]
def qF.mrk(x:qF)(k:Int):qF:={A:=k,B:=k+1}
def qF.ct(x:qF):Nat:=1+1
def qF.mkV(x:qF)(k:Int):qF:={A:=x.A,B:=x.B}
def qF.ctV(x:qF):Nat:=0
theorem qF.rowsM(x:qF)(k:Int):(x.mrk k).enc.rows=x.enc.rows:=by simp[qF.rowsE,qF.mrk,AV.rows]
theorem qF.rowsV(x:qF)(k:Int):(x.mkV k).enc.rows=x.enc.rows:=by simp[qF.rowsE,qF.mkV,AV.rows]
theorem qF.ctle(x:qF):x.ct<=16:=by simp[qF.ct]
theorem qH.plx(x:qH):x.enc.pl=true:=by simp[qH.enc,AV.pl,AV.pls,zN qC.plx,zN qF.plx]
theorem qH.cnx(x:qH):x.enc.cn=true:=by simp[qH.enc,AV.cn,AV.cns,jg qC.cnx,jg qF.cnx]
theorem qH.layE(x:qH)(n:Nat):lay x.enc n=(.agg [sQ 5 (n) x.C.length,iI x.F,iI x.O.T,iI x.O.I,.slice 2 (n+AV.rows (.lst 5 (x.C.map qC.enc) false)) 0 x.R.length false],(lay (.lst 5 (x.C.map qC.enc) false) (n)).2++((lay (.lst 2 (x.R.map qF.enc) false) (n+AV.rows (.lst 5 (x.C.map qC.enc) false))).2++[])):=by
 simp[qH.enc,lay,qO,zx,AV.rows,Nat.add_assoc,Nat.add_comm,Nat.add_left_comm]
theorem qH.rowsE(x:qH):x.enc.rows=AV.rows (.lst 5 (x.C.map qC.enc) false)+AV.rows (.lst 2 (x.R.map qF.enc) false):=by simp[qH.enc,AV.rows,AV.rowss,Nat.add_assoc]
def qH.mrk(x:qH)(k:Int):qH:={C:=mkL qC.mrk qC.ct x.C (k),F:=k+((qJ qC.ct x.C:Nat):Int),O:={T:=k+((qJ qC.ct x.C:Nat):Int)+1,I:=k+((qJ qC.ct x.C:Nat):Int)+1+1},R:=mkL qF.mrk qF.ct x.R (k+((qJ qC.ct x.C:Nat):Int)+1+1+1)}
def qH.ct(x:qH):Nat:=qJ qC.ct x.C+1+1+1+qJ qF.ct x.R
def qH.mkV(x:qH)(k:Int):qH:={C:=mkL qC.mrk qC.ct x.C (k),F:=x.F,O:={T:=x.O.T,I:=x.O.I},R:=mkL qF.mrk qF.ct x.R (k+((qJ qC.ct x.C:Nat):Int))}
def qH.ctV(x:qH):Nat:=qJ qC.ct x.C+qJ qF.ct x.R
theorem qH.rowsM(x:qH)(k:Int):(x.mrk k).enc.rows=x.enc.rows:=by simp[qH.rowsE,qH.mrk,AV.rows,qv qC.mrk qC.ct (enc:=qC.enc) qC.rowsM,qv qF.mrk qF.ct (enc:=qF.enc) qF.rowsM]
theorem qH.rowsV(x:qH)(k:Int):(x.mkV k).enc.rows=x.enc.rows:=by simp[qH.rowsE,qH.mkV,AV.rows,qv qC.mrk qC.ct (enc:=qC.enc) qC.rowsM,qv qF.mrk qF.ct (enc:=qF.enc) qF.rowsM]
theorem qH.ctle(x:qH):x.ct<=16+16*x.sz:=by
 have h0:=j9 (c:=qC.ct) (z:=qC.sz) qC.ctle x.C;have h1:=jb (c:=qF.ct) (λy=>by have:=qF.ctle y;simpa using this) x.R;simp only[qH.ct,qH.sz];omega
theorem qH.ctVle(x:qH):x.ctV<=16*x.sz:=by
 have h0:=j9 (c:=qC.ct) (z:=qC.sz) qC.ctle x.C;have h1:=jb (c:=qF.ct) (λy=>by have:=qF.ctle y;simpa using this) x.R;simp only[qH.ctV,qH.sz];omega
theorem n547(x:qE):Fresh Gm 547 [x.enc] x.enc:=by
 refine fI XE (by simp[AV.trees,AV.tree,qE.tr]) (qE.plx x) ?_;simp only[XE,qN,go_sem];refine qX rfl ?_;simp only[go_sem];refine lsA ?_;simp only[go_sem];exact JG (pre:=[]) (post:=[]) (qE.plx x) (by simp[zk,qE.layE,qx,Nat.add_assoc]) (by simp[qE.layE,qx,Nat.add_assoc])
theorem qpK(xs:List qE)(hl:xs.length<=1048576):Fresh Gm 1243 [.lst 2 (xs.map qE.enc) false] (.lst 2 (xs.map qE.enc) false):=
 W0 qE.isSh qE.plx rfl rfl (by simp) (gk _ Us) xs (λx hm=>n547 x) (by omega)
theorem n925(x:qC)(hz:x.sz<=1048576):Fresh Gm 925 [x.enc] x.enc:=by
 refine fI XH (by simp[AV.trees,AV.tree,qC.tr]) (qC.plx x) ?_;simp only[XH,qN,go_sem];refine qX rfl ?_;simp only[go_sem];unfold qC.sz at hz;refine jY (n147 _ (by omega)) ?_;simp only[go_sem,jU];refine jY (qpK _ (by omega)) ?_;simp only[go_sem,jU];refine lsA ?_;simp only[go_sem];exact JG (pre:=[]) (post:=[]) (qC.plx x) (by simp[zk,qC.layE,qx,Nat.add_assoc]) (by simp[qC.layE,qx,Nat.add_assoc])
theorem n546(xs:List qC)(hl:xs.length+qJ qC.sz xs<=1048576):Fresh Gm 546 [.lst 5 (xs.map qC.enc) false] (.lst 5 (xs.map qC.enc) false):=
 W0 qC.isSh qC.plx rfl rfl (by simp) (gk _ kS) xs (λx hm=>n925 x (by have:=z5 (f:=qC.sz) hm;omega)) (by omega)
theorem n926(x:qF):Fresh Gm 926 [x.enc] x.enc:=by
 refine fI XI (by simp[AV.trees,AV.tree,qF.tr]) (qF.plx x) ?_;simp only[XI,qN,go_sem];refine qX rfl ?_;simp only[go_sem];refine lsA ?_;simp only[go_sem];exact JG (pre:=[]) (post:=[]) (qF.plx x) (by simp[zk,qF.layE,qx,Nat.add_assoc]) (by simp[qF.layE,qx,Nat.add_assoc])
theorem n548(xs:List qF)(hl:xs.length<=1048576):Fresh Gm 548 [.lst 2 (xs.map qF.enc) false] (.lst 2 (xs.map qF.enc) false):=
 W0 qF.isSh qF.plx rfl rfl (by simp) (gk _ kT) xs (λx hm=>n926 x) (by omega)
theorem n211(x:qH)(hz:x.sz<=1048576):Fresh Gm 211 [x.enc] x.enc:=by
 refine fI XD (by simp[AV.trees,AV.tree,qH.tr]) (qH.plx x) ?_;simp only[XD,qN,go_sem];refine qX rfl ?_;simp only[go_sem];unfold qH.sz at hz;refine jY (n546 _ (by omega)) ?_;simp only[go_sem,jU];refine jY (n547 _) ?_;simp only[go_sem,jU,qE.layE];refine Wg (c':=.agg [sQ 5 0 x.C.length,iI x.F,iI x.O.T,iI x.O.I,.nils]) rfl rfl ?_;simp only[go_sem,jU,qE.layE];refine jY (n548 _ (by omega)) ?_;simp only[go_sem,jU];refine lsA ?_;simp only[go_sem];exact JG (pre:=[]) (post:=[]) (qH.plx x) (by simp[zk,qH.layE,qx,Nat.add_assoc,qE.layE,qE.rowsE]) (by simp[qH.layE,qx,Nat.add_assoc,qE.layE,qE.rowsE])
theorem k968(xs:List qE)(k:Int)(h0:0<=k)(hk:k+(qJ qE.ct xs:Nat)<=4611686018427387904)(hz:xs.length<=4194304):Mark Gm 968 (.lst 2 (xs.map qE.enc) false) (.lst 2 ((mkL qE.mrk qE.ct xs k).map qE.enc) false) k (k+(qJ qE.ct xs:Nat)):=by
 refine Mark.intro (gk _ F968) (by kernel_rfl) rfl (zN qE.plx xs) (zN qE.plx _) (by simp only[AV.rows,qv qE.mrk qE.ct (enc:=qE.enc) qE.rowsM]) ?_;simp only[F968,qN,jU,go_sem,nZa];refine Sem.loop (λi:Nat=>i<=xs.length) (λi=>(⟨[(0,sQ 2 0 xs.length),(1,iI (k+((qJ qE.ct (xs.take i):Nat):Int))),(5,iI (i:Nat))],[],(lay (.lst 2 ((mkL qE.mrk qE.ct (xs.take i) k++xs.drop i).map qE.enc) false) 0).2⟩:VSt)) (λi=>xs.length-i) 0 (by kernel_rfl) (nZl _) (by simp only[List.take_zero,mkL,lNa,List.drop_zero,qJ,Int.ofNat_zero,Int.natCast_zero,Int.add_zero];exact csA) ?_;intro i hi;simp only[go_sem,nZa];apply qT<;>intro hc<;>simp only[hc,go_sem,nZa]
 ·have hlt:i<xs.length:=by have:=odT hc;omega
  have hct:=Qm qE.ct hlt;have hcl:=Ql qE.ct xs (i+1);have hrow:=qE.rowsM;rw[lDc hlt,Jh];obtain⟨K,hK⟩:∃K:Int,K=k+((qJ qE.ct (xs.take i):Nat):Int):=⟨_,rfl⟩;have hend:k+((qJ qE.ct (xs.take (i+1)):Nat):Int)=K+((qE.ct xs[i]:Nat):Int):=by rw[hct,hK];omega
  have hKb:0<=K/\K+((qE.ct xs[i]:Nat):Int)<=4611686018427387904:=by rw[<-hend];omega
  have hmk:(mkL qE.mrk qE.ct (xs.take (i+1)) k++xs.drop (i+1))=mkL qE.mrk qE.ct (xs.take i) k++qE.mrk xs[i] K::xs.drop (i+1):=by rw[Zm qE.mrk qE.ct hlt,<-hK,lAa];rfl
  have hrx:=hrow xs[i] K;rw[<-hK];obtain⟨y,hy⟩:∃y,y=xs[i]:=⟨_,rfl⟩;rw[<-hy]at hmk hend hKb hrx|-;have hcy:qE.ct y=1+1:=rfl;rw[hcy]at hend hKb;have hA:(qO ((mkL qE.mrk qE.ct (xs.take i) k).map qE.enc) 1).1.length=i:=by rw[jk,lMp,jy];simp;omega
  have hoA:=zx ((mkL qE.mrk qE.ct (xs.take i) k).map qE.enc) 1;have e2:=Jh (enc:=qE.enc) (w:=2) (c:=false) (A:=mkL qE.mrk qE.ct (xs.take i) k) (B:=xs.drop (i+1)) (z:=qE.mrk y K);rw[hrx]at e2;rw[qE.layE]at e2|-;obtain⟨p,hp⟩:∃p,p=1+AV.rowss ((mkL qE.mrk qE.ct (xs.take i) k).map qE.enc):=⟨_,rfl⟩;rw[<-hp]at e2|-;generalize (qO ((xs.drop (i+1)).map qE.enc) (p+y.enc.rows)).1=vB at e2|-;generalize (qO ((xs.drop (i+1)).map qE.enc) (p+y.enc.rows)).2=oB at e2|-;generalize (qO ((mkL qE.mrk qE.ct (xs.take i) k).map qE.enc) 1).1=vA at e2 hA|-;generalize (qO ((mkL qE.mrk qE.ct (xs.take i) k).map qE.enc) 1).2=oA at e2 hoA|-;simp only[zi hA,jJ hA,qS hlt,lSz,go_sem,nZa];refine zX (e':=.agg [iI (K),iI y.I]) (by rfl) (by rfl) (zi hA) (by rfl) ?_;simp only[zi hA,jJ hA,qS hlt,lSz,go_sem,nZa];rw[wsA (n:=K+1)]
  try simp only[zi hA,jJ hA,qS hlt,lSz,go_sem,nZa]
  refine zX (e':=.agg [iI (K),iI (K+1)]) (by rfl) (by rfl) (zi hA) (by rfl) ?_;simp only[zi hA,jJ hA,qS hlt,lSz,go_sem,nZa];rw[wsA (n:=K+1+1)];simp only[wuA (n:=i)];refine qa (i+1) (by omega) (by omega) ?_;have e3:K+1+1=k+((qJ qE.ct (xs.take (i+1)):Nat):Int):=by first | (rw[hend];done) | (rw[hend];omega)
  rw[e3];rw[hmk,e2];simp only[qE.mrk,jy,AV.rows,lAa,lNa,lAn,lCa];exact csA
 ·have hge:i=xs.length:=by have:=odF hc;omega
  subst hge;refine Q3 (by rw[lTl]) ?_;rw[lTl,List.drop_length,lAn]
theorem k595(xs:List qC)(k:Int)(h0:0<=k)(hk:k+(qJ qC.ct xs:Nat)<=4611686018427387904)(hz:xs.length+qJ qC.sz xs<=4194304):Mark Gm 595 (.lst 5 (xs.map qC.enc) false) (.lst 5 ((mkL qC.mrk qC.ct xs k).map qC.enc) false) k (k+(qJ qC.ct xs:Nat)):=by
 refine Mark.intro (gk _ ke) (by kernel_rfl) rfl (zN qC.plx xs) (zN qC.plx _) (by simp only[AV.rows,qv qC.mrk qC.ct (enc:=qC.enc) qC.rowsM]) ?_;simp only[ke,qN,jU,go_sem,nZa];refine Sem.loop (λi:Nat=>i<=xs.length) (λi=>(⟨[(0,sQ 5 0 xs.length),(1,iI (k+((qJ qC.ct (xs.take i):Nat):Int))),(5,iI (i:Nat))],[],(lay (.lst 5 ((mkL qC.mrk qC.ct (xs.take i) k++xs.drop i).map qC.enc) false) 0).2⟩:VSt)) (λi=>xs.length-i) 0 (by kernel_rfl) (nZl _) (by simp only[List.take_zero,mkL,lNa,List.drop_zero,qJ,Int.ofNat_zero,Int.natCast_zero,Int.add_zero];exact csA) ?_;intro i hi;simp only[go_sem,nZa];apply qT<;>intro hc<;>simp only[hc,go_sem,nZa]
 ·have hlt:i<xs.length:=by have:=odT hc;omega
  have hct:=Qm qC.ct hlt;have hcl:=Ql qC.ct xs (i+1);have hrow:=qC.rowsM;rw[lDc hlt,Jh];have hsz:qC.sz xs[i]<=qJ qC.sz xs:=z5 (f:=qC.sz) (gMm hlt);obtain⟨K,hK⟩:∃K:Int,K=k+((qJ qC.ct (xs.take i):Nat):Int):=⟨_,rfl⟩;have hend:k+((qJ qC.ct (xs.take (i+1)):Nat):Int)=K+((qC.ct xs[i]:Nat):Int):=by rw[hct,hK];omega
  have hKb:0<=K/\K+((qC.ct xs[i]:Nat):Int)<=4611686018427387904:=by rw[<-hend];omega
  have hmk:(mkL qC.mrk qC.ct (xs.take (i+1)) k++xs.drop (i+1))=mkL qC.mrk qC.ct (xs.take i) k++qC.mrk xs[i] K::xs.drop (i+1):=by rw[Zm qC.mrk qC.ct hlt,<-hK,lAa];rfl
  have hrx:=hrow xs[i] K;rw[<-hK];obtain⟨y,hy⟩:∃y,y=xs[i]:=⟨_,rfl⟩;rw[<-hy]at hmk hend hKb hrx hsz|-;have hcy:qC.ct y=1+1+1+qJ ctI y.D+qJ qE.ct y.W:=rfl;rw[hcy]at hend hKb;simp only[qC.sz]at hsz;have hA:(qO ((mkL qC.mrk qC.ct (xs.take i) k).map qC.enc) 1).1.length=i:=by rw[jk,lMp,jy];simp;omega
  have hoA:=zx ((mkL qC.mrk qC.ct (xs.take i) k).map qC.enc) 1;have e2:=Jh (enc:=qC.enc) (w:=5) (c:=false) (A:=mkL qC.mrk qC.ct (xs.take i) k) (B:=xs.drop (i+1)) (z:=qC.mrk y K);rw[hrx]at e2;rw[qC.layE]at e2|-;obtain⟨p,hp⟩:∃p,p=1+AV.rowss ((mkL qC.mrk qC.ct (xs.take i) k).map qC.enc):=⟨_,rfl⟩;rw[<-hp]at e2|-;generalize (qO ((xs.drop (i+1)).map qC.enc) (p+y.enc.rows)).1=vB at e2|-;generalize (qO ((xs.drop (i+1)).map qC.enc) (p+y.enc.rows)).2=oB at e2|-;generalize (qO ((mkL qC.mrk qC.ct (xs.take i) k).map qC.enc) 1).1=vA at e2 hA|-;generalize (qO ((mkL qC.mrk qC.ct (xs.take i) k).map qC.enc) 1).2=oA at e2 hoA|-;simp only[zi hA,jJ hA,qS hlt,lSz,go_sem,nZa];refine zX (e':=.agg [iI (K),iI y.L,iI y.V,sQ 1 (p) y.D.length,.slice 2 (p+AV.rows (lQ y.D)) 0 y.W.length false]) (by rfl) (by rfl) (zi hA) (by rfl) ?_;simp only[zi hA,jJ hA,qS hlt,lSz,go_sem,nZa];rw[wsA (n:=K+1)]
  try simp only[zi hA,jJ hA,qS hlt,lSz,go_sem,nZa]
  refine zX (e':=.agg [iI (K),iI (K+1),iI y.V,sQ 1 (p) y.D.length,.slice 2 (p+AV.rows (lQ y.D)) 0 y.W.length false]) (by rfl) (by rfl) (zi hA) (by rfl) ?_;simp only[zi hA,jJ hA,qS hlt,lSz,go_sem,nZa];rw[wsA (n:=K+1+1)]
  try simp only[zi hA,jJ hA,qS hlt,lSz,go_sem,nZa]
  refine zX (e':=.agg [iI (K),iI (K+1),iI (K+1+1),sQ 1 (p) y.D.length,.slice 2 (p+AV.rows (lQ y.D)) 0 y.W.length false]) (by rfl) (by rfl) (zi hA) (by rfl) ?_;simp only[zi hA,jJ hA,qS hlt,lSz,go_sem,nZa];rw[wsA (n:=K+1+1+1)]
  try simp only[zi hA,jJ hA,qS hlt,lSz,go_sem,nZa]
  refine J6 (n:=p) (pre:=.row 5 (vA++.agg [iI (K),iI (K+1),iI (K+1+1),sQ 1 (p) y.D.length,.slice 2 (p+AV.rows (lQ y.D)) 0 y.W.length false]::vB) true::(oA++[])) (post:=((lay (.lst 2 (y.W.map qE.enc) false) (p+AV.rows (lQ y.D))).2++[])++oB) (t:=(lQ y.D)) (t':=(lQ (mkL mkI ctI y.D (K+1+1+1)))) (k90 y.D (K+1+1+1) (by omega) (by omega) (by omega)) ?_ ?_ (by rw[jU,lMp]) ?_
  ·first | rfl | (simp only[lCo,lAp,lNi,hoA,qx,AV.rows,qv qE.mrk qE.ct (enc:=qE.enc) qE.rowsM,qv mkI ctI (enc:=qQ) (λ_ _=>rfl)];done) | (simp only[lCo,lAp,lNi,hoA,qx,AV.rows,qv qE.mrk qE.ct (enc:=qE.enc) qE.rowsM,qv mkI ctI (enc:=qQ) (λ_ _=>rfl)];omega)
  ·first | rfl | (simp only[lAa,lNa,lAn,lCa];done)
  simp only[zi hA,jJ hA,qS hlt,lSz,lCa,go_sem,nZa];refine J6 (n:=p+AV.rows (lQ y.D)) (pre:=.row 5 (vA++.agg [iI (K),iI (K+1),iI (K+1+1),sQ 1 (p) y.D.length,.slice 2 (p+AV.rows (lQ y.D)) 0 y.W.length false]::vB) true::(oA++((lay (lQ (mkL mkI ctI y.D (K+1+1+1))) (p)).2))) (post:=([])++oB) (t:=(.lst 2 (y.W.map qE.enc) false)) (t':=(.lst 2 ((mkL qE.mrk qE.ct y.W (K+1+1+1+((qJ ctI y.D:Nat):Int))).map qE.enc) false)) (k968 y.W (K+1+1+1+((qJ ctI y.D:Nat):Int)) (by omega) (by omega) (by omega)) ?_ ?_ (by rw[jU,lMp]) ?_
  ·first | rfl | (simp only[lCo,lAp,lNi,hoA,qx,AV.rows,qv qE.mrk qE.ct (enc:=qE.enc) qE.rowsM,qv mkI ctI (enc:=qQ) (λ_ _=>rfl)];done) | (simp only[lCo,lAp,lNi,hoA,qx,AV.rows,qv qE.mrk qE.ct (enc:=qE.enc) qE.rowsM,qv mkI ctI (enc:=qQ) (λ_ _=>rfl)];omega)
  ·first | rfl | (simp only[lAa,lNa,lAn,lCa];done)
  simp only[zi hA,jJ hA,qS hlt,lSz,lCa,go_sem,nZa];simp only[wuA (n:=i)];refine qa (i+1) (by omega) (by omega) ?_;have e3:K+1+1+1+((qJ ctI y.D:Nat):Int)+((qJ qE.ct y.W:Nat):Int)=k+((qJ qC.ct (xs.take (i+1)):Nat):Int):=by first | (rw[hend];done) | (rw[hend];omega)
  rw[e3];rw[hmk,e2];simp only[qC.mrk,jy,AV.rows,lAa,lNa,lAn,lCa,qv qE.mrk qE.ct (enc:=qE.enc) qE.rowsM,qv mkI ctI (enc:=qQ) (λ_ _=>rfl)];exact csA
 ·have hge:i=xs.length:=by have:=odF hc;omega
  subst hge;refine Q3 (by rw[lTl]) ?_;rw[lTl,List.drop_length,lAn]
theorem k596(xs:List qF)(k:Int)(h0:0<=k)(hk:k+(qJ qF.ct xs:Nat)<=4611686018427387904)(hz:xs.length<=4194304):Mark Gm 596 (.lst 2 (xs.map qF.enc) false) (.lst 2 ((mkL qF.mrk qF.ct xs k).map qF.enc) false) k (k+(qJ qF.ct xs:Nat)):=by
 refine Mark.intro (gk _ kj) (by kernel_rfl) rfl (zN qF.plx xs) (zN qF.plx _) (by simp only[AV.rows,qv qF.mrk qF.ct (enc:=qF.enc) qF.rowsM]) ?_;simp only[kj,qN,jU,go_sem,nZa];refine Sem.loop (λi:Nat=>i<=xs.length) (λi=>(⟨[(0,sQ 2 0 xs.length),(1,iI (k+((qJ qF.ct (xs.take i):Nat):Int))),(5,iI (i:Nat))],[],(lay (.lst 2 ((mkL qF.mrk qF.ct (xs.take i) k++xs.drop i).map qF.enc) false) 0).2⟩:VSt)) (λi=>xs.length-i) 0 (by kernel_rfl) (nZl _) (by simp only[List.take_zero,mkL,lNa,List.drop_zero,qJ,Int.ofNat_zero,Int.natCast_zero,Int.add_zero];exact csA) ?_;intro i hi;simp only[go_sem,nZa];apply qT<;>intro hc<;>simp only[hc,go_sem,nZa]
 ·have hlt:i<xs.length:=by have:=odT hc;omega
  have hct:=Qm qF.ct hlt;have hcl:=Ql qF.ct xs (i+1);have hrow:=qF.rowsM;rw[lDc hlt,Jh];obtain⟨K,hK⟩:∃K:Int,K=k+((qJ qF.ct (xs.take i):Nat):Int):=⟨_,rfl⟩;have hend:k+((qJ qF.ct (xs.take (i+1)):Nat):Int)=K+((qF.ct xs[i]:Nat):Int):=by rw[hct,hK];omega
  have hKb:0<=K/\K+((qF.ct xs[i]:Nat):Int)<=4611686018427387904:=by rw[<-hend];omega
  have hmk:(mkL qF.mrk qF.ct (xs.take (i+1)) k++xs.drop (i+1))=mkL qF.mrk qF.ct (xs.take i) k++qF.mrk xs[i] K::xs.drop (i+1):=by rw[Zm qF.mrk qF.ct hlt,<-hK,lAa];rfl
  have hrx:=hrow xs[i] K;rw[<-hK];obtain⟨y,hy⟩:∃y,y=xs[i]:=⟨_,rfl⟩;rw[<-hy]at hmk hend hKb hrx|-;have hcy:qF.ct y=1+1:=rfl;rw[hcy]at hend hKb;have hA:(qO ((mkL qF.mrk qF.ct (xs.take i) k).map qF.enc) 1).1.length=i:=by rw[jk,lMp,jy];simp;omega
  have hoA:=zx ((mkL qF.mrk qF.ct (xs.take i) k).map qF.enc) 1;have e2:=Jh (enc:=qF.enc) (w:=2) (c:=false) (A:=mkL qF.mrk qF.ct (xs.take i) k) (B:=xs.drop (i+1)) (z:=qF.mrk y K);rw[hrx]at e2;rw[qF.layE]at e2|-;obtain⟨p,hp⟩:∃p,p=1+AV.rowss ((mkL qF.mrk qF.ct (xs.take i) k).map qF.enc):=⟨_,rfl⟩;rw[<-hp]at e2|-;generalize (qO ((xs.drop (i+1)).map qF.enc) (p+y.enc.rows)).1=vB at e2|-;generalize (qO ((xs.drop (i+1)).map qF.enc) (p+y.enc.rows)).2=oB at e2|-;generalize (qO ((mkL qF.mrk qF.ct (xs.take i) k).map qF.enc) 1).1=vA at e2 hA|-;generalize (qO ((mkL qF.mrk qF.ct (xs.take i) k).map qF.enc) 1).2=oA at e2 hoA|-;simp only[zi hA,jJ hA,qS hlt,lSz,go_sem,nZa];refine zX (e':=.agg [iI (K),iI y.B]) (by rfl) (by rfl) (zi hA) (by rfl) ?_;simp only[zi hA,jJ hA,qS hlt,lSz,go_sem,nZa];rw[wsA (n:=K+1)]
  try simp only[zi hA,jJ hA,qS hlt,lSz,go_sem,nZa]
  refine zX (e':=.agg [iI (K),iI (K+1)]) (by rfl) (by rfl) (zi hA) (by rfl) ?_;simp only[zi hA,jJ hA,qS hlt,lSz,go_sem,nZa];rw[wsA (n:=K+1+1)];simp only[wuA (n:=i)];refine qa (i+1) (by omega) (by omega) ?_;have e3:K+1+1=k+((qJ qF.ct (xs.take (i+1)):Nat):Int):=by first | (rw[hend];done) | (rw[hend];omega)
  rw[e3];rw[hmk,e2];simp only[qF.mrk,jy,AV.rows,lAa,lNa,lAn,lCa];exact csA
 ·have hge:i=xs.length:=by have:=odF hc;omega
  subst hge;refine Q3 (by rw[lTl]) ?_;rw[lTl,List.drop_length,lAn]
theorem k240(x:qH)(k:Int)(h0:0<=k)(hk:k+(x.ctV:Nat)<=4611686018427387904)(hz:x.sz<=4194304):Mark Gm 240 x.enc (x.mkV k).enc k (k+(x.ctV:Nat)):=by
 refine Mark.intro (gk _ kE) (by kernel_rfl) rfl (qH.plx x) (qH.plx _) (qH.rowsV x k) ?_;rw[qH.layE,qH.layE];simp only[kE,qN,go_sem,nZa];refine qX rfl ?_;simp only[go_sem,nZa];unfold qH.ctV at hk;simp only[qH.sz]at hz;refine J6 (n:=0) (pre:=[]) (post:=(lay (.lst 2 (x.R.map qF.enc) false) (AV.rows (.lst 5 (x.C.map qC.enc) false))).2++[]) (t:=(.lst 5 (x.C.map qC.enc) false)) (t':=(.lst 5 ((mkL qC.mrk qC.ct x.C (k)).map qC.enc) false)) (k595 x.C (k) (by omega) (by omega) (by omega)) ?_ ?_ (by rw[jU,lMp]) ?_
 ·first | rfl | (simp only[lAp,lNi,qx,AV.rows,qv qC.mrk qC.ct (enc:=qC.enc) qC.rowsM,qv qF.mrk qF.ct (enc:=qF.enc) qF.rowsM];done) | (simp only[lAp,lNi,qx,AV.rows,qv qC.mrk qC.ct (enc:=qC.enc) qC.rowsM,qv qF.mrk qF.ct (enc:=qF.enc) qF.rowsM];omega)
 ·first | rfl | (simp only[lAa,lNa,lAn];done)
 simp only[lAa,lNa,lAn,go_sem,nZa];refine J6 (n:=AV.rows (.lst 5 (x.C.map qC.enc) false)) (pre:=(lay (.lst 5 ((mkL qC.mrk qC.ct x.C (k)).map qC.enc) false) (0)).2) (post:=[]) (t:=(.lst 2 (x.R.map qF.enc) false)) (t':=(.lst 2 ((mkL qF.mrk qF.ct x.R (k+((qJ qC.ct x.C:Nat):Int))).map qF.enc) false)) (k596 x.R (k+((qJ qC.ct x.C:Nat):Int)) (by omega) (by omega) (by omega)) ?_ ?_ (by rw[jU,lMp]) ?_
 ·first | rfl | (simp only[lAp,lNi,qx,AV.rows,qv qC.mrk qC.ct (enc:=qC.enc) qC.rowsM,qv qF.mrk qF.ct (enc:=qF.enc) qF.rowsM];done) | (simp only[lAp,lNi,qx,AV.rows,qv qC.mrk qC.ct (enc:=qC.enc) qC.rowsM,qv qF.mrk qF.ct (enc:=qF.enc) qF.rowsM];omega)
 ·first | rfl | (simp only[lAa,lNa,lAn];done)
 simp only[lAa,lNa,lAn,go_sem,nZa];refine Q3 (by first | rfl | (simp only[qH.ctV];done) | (simp only[qH.ctV];omega)) ?_;simp only[qH.mkV,AV.rows,nZa,lAa,lNa,lAn,qv qC.mrk qC.ct (enc:=qC.enc) qC.rowsM,qv qF.mrk qF.ct (enc:=qF.enc) qF.rowsM]
theorem q977(xs:List qE)(k:Int)(h0:0<=k)(hk:k+(qJ qE.ct xs:Nat)<=4611686018427387904)(hz:xs.length<=4194304):Pure Gm 977 [(.lst 2 ((mkL qE.mrk qE.ct xs k).map qE.enc) false),iI k] (iI (k+(qJ qE.ct xs:Nat))):=by
 refine pI F977 (by simp[AV.trees,AV.tree,qb qE.isSh.tree]) rfl ?_;simp only[F977,qN,go_sem,nZa];refine Sem.loop (λi:Nat=>i<=xs.length) (λi=>(⟨[(0,(.lst 2 ((mkL qE.mrk qE.ct xs k).map qE.enc) false)),(1,iI (k+((qJ qE.ct (xs.take i):Nat):Int))),(5,iI (i:Nat))],[],[]⟩:VSt)) (λi=>xs.length-i) 0 (by kernel_rfl) (nZl _) (by simp only[List.take_zero,qJ,Int.ofNat_zero,Int.natCast_zero,Int.add_zero];exact csA) ?_;intro i hi;simp only[jy,go_sem,nZa];apply qT<;>intro hc<;>simp only[hc,go_sem,nZa]
 ·have hlt:i<xs.length:=by have:=odT hc;omega
  have hct:=Qm qE.ct hlt;have hcl:=Ql qE.ct xs (i+1);have hget:=Va qE.mrk qE.ct hlt k;obtain⟨K,hK⟩:∃K:Int,K=k+((qJ qE.ct (xs.take i):Nat):Int):=⟨_,rfl⟩;have hend:k+((qJ qE.ct (xs.take (i+1)):Nat):Int)=K+((qE.ct xs[i]:Nat):Int):=by rw[hct,hK];omega
  have hKb:0<=K/\K+((qE.ct xs[i]:Nat):Int)<=4611686018427387904:=by rw[<-hend];omega
  rw[<-hK]at hget|-;obtain⟨y,hy⟩:∃y,y=xs[i]:=⟨_,rfl⟩;rw[<-hy]at hget hend hKb;have hcy:qE.ct y=1+1:=rfl;rw[hcy]at hend hKb;simp only[gMp,hget,oMs,go_sem,nZa]
  try simp only[gMp,hget,oMs,qE.mrk,go_sem,nZa]
  rw[wsA (n:=K+1)]
  try simp only[gMp,hget,oMs,qE.mrk,go_sem,nZa]
  try simp only[gMp,hget,oMs,qE.mrk,go_sem,nZa]
  rw[wsA (n:=K+1+1)]
  try simp only[gMp,hget,oMs,qE.mrk,go_sem,nZa]
  simp only[wuA (n:=i)];refine qa (i+1) (by omega) (by omega) ?_;have e3:K+1+1=k+((qJ qE.ct (xs.take (i+1)):Nat):Int):=by first | (rw[hend];done) | (rw[hend];omega)
  rw[e3];exact csA
 ·have hge:i=xs.length:=by have:=odF hc;omega
  subst hge;refine qM rfl ?_;rw[lTl]
theorem q603(xs:List qC)(k:Int)(h0:0<=k)(hk:k+(qJ qC.ct xs:Nat)<=4611686018427387904)(hz:xs.length+qJ qC.sz xs<=4194304):Pure Gm 603 [(.lst 5 ((mkL qC.mrk qC.ct xs k).map qC.enc) false),iI k] (iI (k+(qJ qC.ct xs:Nat))):=by
 refine pI F603 (by simp[AV.trees,AV.tree,qb qC.isSh.tree]) rfl ?_;simp only[F603,qN,go_sem,nZa];refine Sem.loop (λi:Nat=>i<=xs.length) (λi=>(⟨[(0,(.lst 5 ((mkL qC.mrk qC.ct xs k).map qC.enc) false)),(1,iI (k+((qJ qC.ct (xs.take i):Nat):Int))),(5,iI (i:Nat))],[],[]⟩:VSt)) (λi=>xs.length-i) 0 (by kernel_rfl) (nZl _) (by simp only[List.take_zero,qJ,Int.ofNat_zero,Int.natCast_zero,Int.add_zero];exact csA) ?_;intro i hi;simp only[jy,go_sem,nZa];apply qT<;>intro hc<;>simp only[hc,go_sem,nZa]
 ·have hlt:i<xs.length:=by have:=odT hc;omega
  have hct:=Qm qC.ct hlt;have hcl:=Ql qC.ct xs (i+1);have hget:=Va qC.mrk qC.ct hlt k;have hsz:qC.sz xs[i]<=qJ qC.sz xs:=z5 (f:=qC.sz) (gMm hlt);obtain⟨K,hK⟩:∃K:Int,K=k+((qJ qC.ct (xs.take i):Nat):Int):=⟨_,rfl⟩;have hend:k+((qJ qC.ct (xs.take (i+1)):Nat):Int)=K+((qC.ct xs[i]:Nat):Int):=by rw[hct,hK];omega
  have hKb:0<=K/\K+((qC.ct xs[i]:Nat):Int)<=4611686018427387904:=by rw[<-hend];omega
  rw[<-hK]at hget|-;obtain⟨y,hy⟩:∃y,y=xs[i]:=⟨_,rfl⟩;rw[<-hy]at hget hend hKb hsz;have hcy:qC.ct y=1+1+1+qJ ctI y.D+qJ qE.ct y.W:=rfl;rw[hcy]at hend hKb;simp only[qC.sz]at hsz;simp only[gMp,hget,oMs,go_sem,nZa]
  try simp only[gMp,hget,oMs,qC.mrk,go_sem,nZa]
  rw[wsA (n:=K+1)]
  try simp only[gMp,hget,oMs,qC.mrk,go_sem,nZa]
  try simp only[gMp,hget,oMs,qC.mrk,go_sem,nZa]
  rw[wsA (n:=K+1+1)]
  try simp only[gMp,hget,oMs,qC.mrk,go_sem,nZa]
  try simp only[gMp,hget,oMs,qC.mrk,go_sem,nZa]
  rw[wsA (n:=K+1+1+1)]
  try simp only[gMp,hget,oMs,qC.mrk,go_sem,nZa]
  try simp only[gMp,hget,oMs,qC.mrk,go_sem,nZa]
  refine qL (q92 y.D (K+1+1+1) (by omega) (by omega) (by omega)) ?_;simp only[gMp,hget,oMs,qC.mrk,go_sem,nZa];rw[show decide (K+1+1+1+((qJ ctI y.D:Nat):Int)<0)=false from dEf (by omega)];simp only[gMp,hget,oMs,qC.mrk,go_sem,nZa]
  try simp only[gMp,hget,oMs,qC.mrk,go_sem,nZa]
  refine qL (q977 y.W (K+1+1+1+((qJ ctI y.D:Nat):Int)) (by omega) (by omega) (by omega)) ?_;simp only[gMp,hget,oMs,qC.mrk,go_sem,nZa];rw[show decide (K+1+1+1+((qJ ctI y.D:Nat):Int)+((qJ qE.ct y.W:Nat):Int)<0)=false from dEf (by omega)];simp only[gMp,hget,oMs,qC.mrk,go_sem,nZa];simp only[wuA (n:=i)];refine qa (i+1) (by omega) (by omega) ?_;have e3:K+1+1+1+((qJ ctI y.D:Nat):Int)+((qJ qE.ct y.W:Nat):Int)=k+((qJ qC.ct (xs.take (i+1)):Nat):Int):=by first | (rw[hend];done) | (rw[hend];omega)
  rw[e3];exact csA
 ·have hge:i=xs.length:=by have:=odF hc;omega
  subst hge;refine qM rfl ?_;rw[lTl]
theorem q604(xs:List qF)(k:Int)(h0:0<=k)(hk:k+(qJ qF.ct xs:Nat)<=4611686018427387904)(hz:xs.length<=4194304):Pure Gm 604 [(.lst 2 ((mkL qF.mrk qF.ct xs k).map qF.enc) false),iI k] (iI (k+(qJ qF.ct xs:Nat))):=by
 refine pI F604 (by simp[AV.trees,AV.tree,qb qF.isSh.tree]) rfl ?_;simp only[F604,qN,go_sem,nZa];refine Sem.loop (λi:Nat=>i<=xs.length) (λi=>(⟨[(0,(.lst 2 ((mkL qF.mrk qF.ct xs k).map qF.enc) false)),(1,iI (k+((qJ qF.ct (xs.take i):Nat):Int))),(5,iI (i:Nat))],[],[]⟩:VSt)) (λi=>xs.length-i) 0 (by kernel_rfl) (nZl _) (by simp only[List.take_zero,qJ,Int.ofNat_zero,Int.natCast_zero,Int.add_zero];exact csA) ?_;intro i hi;simp only[jy,go_sem,nZa];apply qT<;>intro hc<;>simp only[hc,go_sem,nZa]
 ·have hlt:i<xs.length:=by have:=odT hc;omega
  have hct:=Qm qF.ct hlt;have hcl:=Ql qF.ct xs (i+1);have hget:=Va qF.mrk qF.ct hlt k;obtain⟨K,hK⟩:∃K:Int,K=k+((qJ qF.ct (xs.take i):Nat):Int):=⟨_,rfl⟩;have hend:k+((qJ qF.ct (xs.take (i+1)):Nat):Int)=K+((qF.ct xs[i]:Nat):Int):=by rw[hct,hK];omega
  have hKb:0<=K/\K+((qF.ct xs[i]:Nat):Int)<=4611686018427387904:=by rw[<-hend];omega
  rw[<-hK]at hget|-;obtain⟨y,hy⟩:∃y,y=xs[i]:=⟨_,rfl⟩;rw[<-hy]at hget hend hKb;have hcy:qF.ct y=1+1:=rfl;rw[hcy]at hend hKb;simp only[gMp,hget,oMs,go_sem,nZa]
  try simp only[gMp,hget,oMs,qF.mrk,go_sem,nZa]
  rw[wsA (n:=K+1)]
  try simp only[gMp,hget,oMs,qF.mrk,go_sem,nZa]
  try simp only[gMp,hget,oMs,qF.mrk,go_sem,nZa]
  rw[wsA (n:=K+1+1)]
  try simp only[gMp,hget,oMs,qF.mrk,go_sem,nZa]
  simp only[wuA (n:=i)];refine qa (i+1) (by omega) (by omega) ?_;have e3:K+1+1=k+((qJ qF.ct (xs.take (i+1)):Nat):Int):=by first | (rw[hend];done) | (rw[hend];omega)
  rw[e3];exact csA
 ·have hge:i=xs.length:=by have:=odF hc;omega
  subst hge;refine qM rfl ?_;rw[lTl]
theorem q245(x:qH)(k:Int)(h0:0<=k)(hk:k+(x.ctV:Nat)<=4611686018427387904)(hz:x.sz<=4194304):Pure Gm 245 [(x.mkV k).enc,iI k] (iI (k+(x.ctV:Nat))):=by
 refine pI kH (by simp[AV.trees,AV.tree,qH.tr]) rfl ?_;simp only[kH,qN,go_sem,nZa];refine qX rfl ?_;simp only[go_sem,nZa];unfold qH.ctV at hk;simp only[qH.sz]at hz;refine qL (q603 x.C (k) (by omega) (by omega) (by omega)) ?_;simp only[go_sem,nZa]
 try (rw[show decide (k+((qJ qC.ct x.C:Nat):Int)<0)=false from dEf (by omega)];simp only[go_sem,nZa])
 refine qL (q604 x.R (k+((qJ qC.ct x.C:Nat):Int)) (by omega) (by omega) (by omega)) ?_;simp only[go_sem,nZa]
 try (rw[show decide (k+((qJ qC.ct x.C:Nat):Int)+((qJ qF.ct x.R:Nat):Int)<0)=false from dEf (by omega)];simp only[go_sem,nZa])
 refine qM rfl ?_
 first | rfl | (simp only[qH.ctV,AV.int.injEq,true_and];done) | (simp only[qH.ctV,AV.int.injEq,true_and];omega)
section
variable {bk:List qD} {m:qH} {bu:Int} {h0:List qA}
theorem qqP{xs:List Int}:AV.pls (xs.map qQ)=true:=zN (enc:=qQ) (λ_=>rfl) xs
end
section
variable {w mid cid rid ctid k:Nat} {post cs:List AV} {ow:Nat->Nat} {h h':List qA} {m:qH} {rv dv v:AV} {c:qC} {P:Nat->Prop} {el:List AV}
theorem LsW.own(x:LsW P w h v el)(hf:∀n,qO el n=(el,[]))(hp:AV.pls el=true)(ht:AV.trees el=true):∃S,wK S h v (.lst w el false)/\∀j,some j∈S->P j/\h[j]?=some (.row w el true):=by
 rcases x with⟨rfl,rfl⟩ | ⟨id,q1,rfl,q3⟩
 ·exact⟨[none],.nils (c:=false),λj hj=>by simp at hj⟩
 ·refine⟨[some id],(qqG hf hp ht).row q3 (by simp),λj hj=>?_⟩;simp only[lMg,oSi]at hj;rw[hj];exact⟨q1,q3⟩
theorem CV.own(x:CV P h v c):∃S,wK S h v c.enc/\∀j,some j∈S->P j:=by
 obtain⟨dv,wv,rfl,x1,x2⟩:=x;obtain⟨S1,o1,p1⟩:=x1.own (λn=>qBW _ n) qqP (qb shI.tree _);obtain⟨S2,o2,p2⟩:=x2.own (λn=>UU _ n) (zN qK3 _) (qb qE.isSh.tree _);have hn:∀j,some j∈S1->some j∉S2:=λj a b=>by
  have e1:=(p1 j a).2;have e2:=(p2 j b).2;rw[e1]at e2;cases e2
 have sc:∀(i:Int),(∀n,lay (AV.int .i64 i) n=(AV.int .i64 i,[])):=λi n=>rfl;have:=((((jM.nil (h:=h)).scal (sc c.K) rfl rfl).scal (sc c.L) rfl rfl).scal (sc c.V) rfl rfl).snoc o1 (by simp);have:=this.snoc o2 (by simpa using hn);refine⟨_,this.agg,λj hj=>?_⟩;simp only[lNa,z9]at hj;rcases hj with hj | hj
 ·exact(p1 j hj).1
 ·exact(p2 j hj).1
theorem MO.own(M:MO w mid post ow h m cid cs rv):∃S,wK S h (mE m cid rv []) m.enc/\∀j,some j∈S->ow j≠0:=by
 have key:∀i,i<=m.C.length->∃S,jM S h (cs.take i) ((m.C.take i).map qC.enc)/\∀j,some j∈S->3<=ow j/\ow j<i+3:=by
  intro i
  induction i with
  | zero=>exact λ_=>⟨[],by simpa using jM.nil,λj hj=>by cases hj⟩
  | succ i ih=>
   intro hi;obtain⟨S,o,p⟩:=ih (by omega);have hc:m.C[i]?=some m.C[i]:=gEg (by omega);obtain⟨u,u1,u2⟩:=M.e i _ hc;obtain⟨S2,o2,p2⟩:=u2.own;have hl:i<cs.length:=by have:=M.l;omega
   have e:cs[i]=u:=by rw[gEg hl]at u1;exact Option.some.inj u1
   refine⟨S++S2, ?_,λj hj=>?_⟩
   ·rw[lTs hl,lTs (by omega),lMa,e];exact o.snoc o2 λj a b=>by have:=p j a;have:=p2 j b;omega
   ·rcases z9.1 hj with q | q
    ·have:=p j q;omega
    ·have:=p2 j q;omega
 obtain⟨S,o,p⟩:=key _ (nLr _);rw[tOl (Nat.le_of_eq M.l),tOl (nLr _)]at o;have o1:=o.row M.c (λhj=>by have:=p cid hj;have:=M.c1;omega);obtain⟨S2,o2,p2⟩:=M.r.own (λn=>Vs _ n) (zN qIL _) (qb qF.isSh.tree _);have sc:∀(i:Int),(∀n,lay (AV.int .i64 i) n=(AV.int .i64 i,[])):=λi n=>rfl;have:=(((o1.one.scal (sc m.F) rfl rfl).scal (sc m.O.T) rfl rfl).scal (sc m.O.I) rfl rfl).snoc o2 (λj a b=>by
  have:=(p2 j b).1;rcases mCo.1 a with q | q
  ·cases q;have:=M.c1;omega
  ·have:=p j q;omega)
 rw[lMp]at this;refine⟨_,this.agg,λj hj=>?_⟩;simp only[z9,mCo,oSi]at hj;rcases hj with(rfl | q) | q
 ·rw[M.c1];decide
 ·have:=p j q;omega
 ·have:=(p2 j q).1;omega
end
def bkT(bk:List qD):AV:=.lst 1 (bk.map qD.enc) false
theorem qAK{bk:List qD}:(bkT bk).pl=true:=by simp[bkT,AV.pl,zN qD.plx]
theorem qAJ{bk:List qD}:(bkT bk).cn=true:=by simp[bkT,AV.cn,jg qD.cnx]
theorem QB(x:qH)(n:Nat):(lay x.enc n).1.part 0 (some 5)=some (lay x.enc n).1:=qoN (qH.plx x) ⟨_,rfl⟩ rfl
theorem qBR(x:qH)(n:Nat):(lay x.enc n).1.cells.length=5:=by rw[VH (qH.plx x)];rfl
theorem qBQ(x:qH)(n:Nat):∃cs,(lay x.enc n).1=.agg cs:=⟨_,congrArg Prod.fst (qH.layE x n)⟩
theorem qoI(x:qH)(k:Int)(n:Nat):(lay (x.mkV k).enc n).1=(lay x.enc n).1:=by simp[qH.layE,qH.mkV,jy,AV.rows,qv qC.mrk qC.ct (enc:=qC.enc) qC.rowsM]
theorem qKE{α:Type}{ct sz:α->Nat}(h:∀x,ct x<=16+16*sz x):∀xs:List α,qJ ct xs<=16*xs.length+16*qJ sz xs
 |[]=>nZl _
 | x::r=>by
  have:=h x;have:=qKE h r;simp only[qJ,lCo];omega
theorem lay3{a b c:AV}{n k:Nat}(h1:a.rows=n)(h2:n+b.rows=k)(pa:a.pl=true)(ca:a.cn=true)(pb:b.pl=true)(cb:b.cn=true)(pc:c.pl=true)(cc:c.cn=true):
  Cv ((lay a 0).2++((lay b n).2++(lay c k).2)) (lay a 0).1 a/\Cv ((lay a 0).2++((lay b n).2++(lay c k).2)) (lay b n).1 b/\Cv ((lay a 0).2++((lay b n).2++(lay c k).2)) (lay c k).1 c:=by
 have e1:(lay a 0).2.length=n:=by rw[qx,h1]
 have e2:((lay a 0).2++(lay b n).2).length=k:=by rw[lAp,e1,qx,h2]
 refine⟨VG (pre:=[]) pa ca rfl, ?_, ?_⟩
 ·have:=VG (pre:=(lay a 0).2) (post:=(lay c k).2) (h:=(lay a 0).2++((lay b n).2++(lay c k).2)) pb cb (by rw[e1]);rw[e1]at this;exact this
 ·have:=VG (pre:=(lay a 0).2++(lay b n).2) (post:=[]) (h:=(lay a 0).2++((lay b n).2++(lay c k).2)) pc cc (by rw[e2,lAn,lAa]);rw[e2]at this;exact this
def UX:qH:=⟨[],0,⟨0,0⟩,[]⟩
theorem Y9{h:List qA}{a b c a' b' c':AV}(x:Cvs h [a,b,c] [a',b',c']):Fin (some [a,b,c]) h (.tup [a',b',c']):=by
 unfold Fin;exact Cv.tup x.1 x.2
theorem qDO{h:List qA}:Cv h (.agg [.nils,iI 0,iI 0,iI 0,.nils]) UX.enc:=
 Cv.agg rfl (W9 .nils (W9 (.refl rfl) (W9 (.refl rfl) (W9 (.refl rfl) (W9 .nils λp hp=>by simp at hp)))))
@[go_sem] theorem qo4{m:qH}{cid:Nat}{rv:AV}:(mE m cid rv []).part 0 (some 5)=some (mE m cid rv []):=rfl
@[go_sem] theorem qo0{m:qH}{cid:Nat}{rv:AV}{bk:List qD}:(mE m cid rv (bkP bk)).part 0 (some 5)=some (mE m cid rv []):=rfl
theorem qK9{h:List qA}:wK [none,none] h (.agg [.nils,iI 0,iI 0,iI 0,.nils]) UX.enc:=by
 have sc:∀(i:Int),(∀n,lay (AV.int .i64 i) n=(AV.int .i64 i,[])):=λi n=>rfl;exact(((((wK.nils (h:=h) (w:=5) (c:=false)).one.scal (sc 0) rfl rfl).scal (sc 0) rfl rfl).scal (sc 0) rfl rfl).snoc (wK.nils (w:=2) (c:=false)) (by simp)).agg
section
variable {bk:List qD} {m:qH} {bu:Int} {h0:List qA}
end
theorem VJ{t:AV}{n:Nat}{pre post h:List qA}(hp:t.pl=true)(hc:t.cn=true)(hn:pre.length=n)(hh:h=pre++((lay t n).2++post)):Cv h (lay t n).1 t:=by
 subst hn;exact VG hp hc hh
noncomputable def jF(bk:List qD)(m:qH)(x:Int):Int:=if (jG bk&&JX m)=true then(if inI x 0 ((m.R.length:Int)-1)=true then 0 else 2)else 1
noncomputable def jt(bk:List qD)(m:qH)(x:Int):Int:=if jF bk m x=0 then(doM bk m x.toNat).2.2 else jF bk m x
noncomputable def Jo(bk:List qD)(m:qH)(x:Int):qH:=if jt bk m x=0 then(doM bk m x.toNat).1 else UX
noncomputable def QL(bk:List qD)(m:qH)(x:Int):Int:=if jt bk m x=0 then(doM bk m x.toNat).2.1 else 0
def Zr(M:qH)(k c:Int):AV:=.tup [M.enc,iI k,iI c]
theorem ask0{bk:List qD}{m:qH}{x:Int}(h:jF bk m x=0):jG bk=true/\VM m/\0<=x/\x.toNat<m.R.length:=by
 unfold jF at h;split at h
 ·rename_i e;rw[bAt]at e;split at h
  ·rename_i q;unfold inI at q;rw[bAt,dTe,dTe]at q;exact⟨e.1,Xy.1 e.2,q.1,by omega⟩
  ·cases h
 ·cases h
section
variable {bk:List qD} {m:qH} {x:Int} {h0:List qA}
theorem qqB{M:qH}{k c:Int}:(Zr M k c).tree=true:=by simp[Zr,AV.tree,AV.trees,qH.tr]
theorem c599(hz:m.sz<=1048576):Pure Gm 599 [.ept m.enc 0,iI x] (iI (jF [] m x)):=by
 refine pJ kw ?_;have hb:jG []=true:=rfl;simp only[kw,qN,go_sem];refine qL (c923 hz) ?_;simp only[go_sem];cases e2:JX m
 case false=>
  simp only[go_sem];exact qM rfl (by simp[jF,e2])
 simp only[go_sem];have hw:IntKind.i64.wrap ((m.R.length:Nat)-1:Int)=(m.R.length:Int)-1:=jc (by omega) (by unfold qH.sz at hz;omega);simp only[lMp,hw];refine qL wO ?_;simp only[go_sem];cases e3:inI x 0 ((m.R.length:Int)-1)
 case false=>
  simp only[go_sem];exact qM rfl (by simp[jF,e2,e3,hb])
 simp only[go_sem];exact qM rfl (by simp[jF,e2,e3,hb])
theorem c243(hl:bk.length+qJ qD.sz bk<=1048576)(hz:m.sz<=1048576):Pure Gm 243 [.lst 1 (bk.map qD.enc) false,m.enc,iI x] (Zr (Jo bk m x) (QL bk m x) (jt bk m x)):=by
 refine Pure.intro [4] [] (gk _ kF) (by kernel_rfl) rfl (by simp[AV.trees,AV.tree,go_sem,qb qD.isSh.tree]) qqB ?_;simp only[kF,qN,go_sem];refine Qb rfl ?_;simp only[go_sem,lNa,lSz];refine qL (c598 hl) ?_;simp only[go_sem];cases e1:jG bk
 case false=>
  have e:jt bk m x=1:=by simp[jt,jF,e1]
  simp only[go_sem];refine lsA ?_;simp only[go_sem];have q:jt bk m x≠0:=by rw[e];decide
  rw[Jo,QL,iN q,iN q,e];exact Y9 (.cons qDO (.cons (.refl rfl) (.cons (.refl rfl) .nil)))
 simp only[go_sem];refine qL (c599 hz) ?_;have ea:jF [] m x=jF bk m x:=by simp only[jF,e1];rfl
 rw[ea];simp only[go_sem];by_cases hc:jF bk m x=0
 case neg=>
  have e:jt bk m x=jF bk m x:=by rw[jt,iN hc]
  simp only[hc,decide_false,go_sem];refine lsA ?_;simp only[go_sem];have q:jt bk m x≠0:=by rw[e];exact hc
  rw[Jo,QL,iN q,iN q,e];exact Y9 (.cons qDO (.cons (.refl rfl) (.cons (.refl rfl) .nil)))
 have eC:jt bk m x=(doM bk m x.toNat).2.2:=by rw[jt,iP hc]
 simp only[hc,go_sem];obtain⟨hb,vm,b0,b1⟩:=ask0 hc;refine qu (SCall.mono (s545 vm.szs vm.len.1) ?_);rintro _ h1 ⟨cid,cs,rv,ow,rfl,M,U,hw⟩;simp only[go_sem];refine zX (e':=mE m cid rv []) rfl ends rfl rfl ?_;simp only[go_sem];simp only[lSz];have hcl:cid≠h1.length:=λe=>by have:=qz M.c;omega
 have M2:=(M.heap (h':=(h1++[qA.row 5 [AV.agg [AV.nils,AV.int IntKind.i64 0,AV.int IntKind.i64 0,AV.int IntKind.i64 0,AV.nils]] true]).set h1.length (.row 5 [mE m cid rv []] true)) (by simp) λj hj q=>by rw[gSn (by omega),gAl hj]).mo (w:=5) (post:=[]) (mid:=h1.length) (gSs (by simp)) (by have:=M.b h1.length;omega);obtain⟨n,rfl⟩:=eOz b0;refine qu (SCall.mono (s600 (k:=n) (MH.intro M2) (by decide) vm.mi b1 hb vm.len.2) ?_);rintro _ h2 ⟨rfl,ow2,R,F⟩;have en:((n:Nat):Int).toNat=n:=rfl;rw[en]at eC;rw[<-eC];simp only[go_sem];by_cases h0:jt bk m (n:Nat)=0
 case neg=>
  simp only[h0,decide_false,go_sem];refine lsA ?_;simp only[go_sem];rw[Jo,QL,iN h0,iN h0];exact Y9 (.cons qDO (.cons (.refl rfl) (.cons (.refl rfl) .nil)))
 obtain⟨cid2,cs2,rv2,M3⟩:=R;simp only[h0,go_sem,M3.o];refine lsA ?_;simp only[go_sem,qo4];rw[Jo,QL,iP h0,iP h0];exact Y9 (.cons M3.cv (.cons (.refl rfl) (.cons (.refl rfl) .nil)))
theorem c974:Pure Gm 974 [.ept m.enc 0,iI x] (.bool (inI x 0 ((m.R.length:Int)-1))):=by
 refine pJ F974 ?_;simp only[F974,qN,go_sem];by_cases b0:0<=x
 ·simp only[b0,go_sem];exact qM rfl (by simp only[inI,b0,decide_true,Bool.true_and,AV.bool.injEq,decide_eq_decide];omega)
 ·simp only[b0,decide_false,go_sem];exact qM rfl (by simp[inI,b0])
theorem s601(hl:bk.length+qJ qD.sz bk<=1048576)(hz:m.sz<=1048576):SCall Gm 601 [.lst 1 (bk.map qD.enc) false,m.enc,iI x] h0 (λv h'=>∃p,v=.tup [p,iI (jF bk m x)]/\(jF bk m x=0->∃mid ow,p=.ptr mid 0 0/\MH 6 mid (bkP bk) ow h' m)):=by
 refine SCall.run [4] [] (gk _ F601) (by kernel_rfl) rfl ?_;simp only[F601,qN,go_sem];have bad:∀{c:Int}{h1:List qA},jF bk m x=c->c≠0->∃p,AV.tup [.nilp,iI c]=.tup [p,iI (jF bk m x)]/\(jF bk m x=0->∃mid ow,p=.ptr mid 0 0/\MH 6 mid (bkP bk) ow h1 m):=λe n=>⟨.nilp,by rw[e],λq=>absurd (e▸q) n⟩;refine Qb rfl ?_;have eh:(h0++[qA.row 5 [m.enc] true])[h0.length]?=some (.row 5 [m.enc] true):=ends;simp only[go_sem,eh];refine qL (c505 (by omega) λn hn=>by have:=z5 (f:=qD.sz) hn;omega) ?_;simp only[go_sem];generalize (h0++[qA.row 5 [m.enc] true]).set h0.length qA.dead=g0;cases e1:jG bk
 case false=>
  simp only[go_sem];exact bad (by simp[jF,e1]) (by decide)
 simp only[go_sem];refine qL (c867 hz) ?_;simp only[go_sem];cases e2:JX m
 case false=>
  simp only[go_sem];exact bad (by simp[jF,e1,e2]) (by decide)
 simp only[go_sem];refine qL c974 ?_;simp only[go_sem];cases e3:inI x 0 ((m.R.length:Int)-1)
 case false=>
  simp only[go_sem];exact bad (by simp[jF,e1,e2,e3]) (by decide)
 simp only[go_sem];have vm:=Xy.1 e2;have ea:jF bk m x=0:=by simp[jF,e1,e2,e3]
 refine qu (SCall.mono (s868 vm.szs vm.len.1) ?_);rintro _ h1 ⟨cid,cs,rv,ow,rfl,M,U,hw⟩;simp only[go_sem,mE];refine Qb rfl ?_;have M2:=(M.heap (h':=h1++[qA.row 6 [mE m cid rv (bkP bk)] true]) (by simp) λj hj q=>by rw[gAl hj]).mo (w:=6) (post:=bkP bk) (mid:=h1.length) ends (by have:=M.b h1.length;have:=qz M.c;omega);simp only[go_sem];rw[ea];exact⟨_,rfl,λ_=>⟨_,_,rfl,MH.intro M2⟩⟩
theorem qCJ{h:List qA}{S:List (Option Nat)}{a:AV}{M:qH}{k c:Int}(o:wK S h a M.enc):ZW (some [a,iI k,iI c]) h (Zr M k c):=by
 have sc:∀(i:Int),(∀n,lay (AV.int .i64 i) n=(AV.int .i64 i,[])):=λi n=>rfl;exact((o.one.scal (sc k) rfl rfl).scal (sc c) rfl rfl).tup.fin
theorem n244(hl:bk.length+qJ qD.sz bk<=1048576)(hz:m.sz<=1048576):Fresh Gm 244 [.lst 1 (bk.map qD.enc) false,m.enc,iI x] (Zr (Jo bk m x) (QL bk m x) (jt bk m x)):=by
 refine fI kG (by simp[AV.trees,AV.tree,go_sem,qb qD.isSh.tree]) (by simp[Zr,AV.pl,AV.pls,qH.plx]) ?_;simp only[kG,qN,go_sem];refine qX rfl ?_;simp only[go_sem];refine qu (SCall.mono (s601 hl hz) ?_);rintro _ h1 ⟨p,rfl,R⟩;simp only[go_sem];by_cases hc:jF bk m x=0
 case neg=>
  have e:jt bk m x=jF bk m x:=by rw[jt,iN hc]
  simp only[hc,decide_false,go_sem];refine lsA ?_;simp only[go_sem];have q:jt bk m x≠0:=by rw[e];exact hc
  rw[Jo,QL,iN q,iN q,e];exact qCJ qK9
 obtain⟨mid,ow,rfl,M⟩:=R hc;have eC:jt bk m x=(doM bk m x.toNat).2.2:=by rw[jt,iP hc]
 obtain⟨hb,vm,b0,b1⟩:=ask0 hc;simp only[hc,go_sem];obtain⟨n,rfl⟩:=eOz b0;refine qu (SCall.mono (s602 (k:=n) M (by decide) vm.mi b1 hb vm.len.2) ?_);rintro _ h2 ⟨rfl,ow2,R2,F⟩;have en:((n:Nat):Int).toNat=n:=rfl;rw[en]at eC;rw[<-eC];simp only[go_sem];by_cases h0:jt bk m (n:Nat)=0
 case neg=>
  simp only[h0,decide_false,go_sem];refine lsA ?_;simp only[go_sem];rw[Jo,QL,iN h0,iN h0];exact qCJ qK9
 obtain⟨cid2,cs2,rv2,M3⟩:=R2;simp only[h0,go_sem,M3.o];refine lsA ?_;simp only[go_sem,qo0];rw[Jo,QL,iP h0,iP h0];obtain⟨S,o,_⟩:=M3.own;exact qCJ o
end
theorem qsJ{bk:List qD}{m:qH}{x:Int}:(Jo bk m x).sz<=1000000:=by
 unfold Jo;split
 ·rename_i h;by_cases hc:jF bk m x=0
  ·obtain⟨hb,vm,_,h6⟩:=ask0 hc;obtain⟨p,a,b,y,z,d⟩:=X9 vm.mi h6;obtain⟨q1,q2⟩:=d.ok hb vm.mi;have h1:=vm.len;have h2:=YF q1;have h3:=V9 (f:=qC.sz) (k:=8) λc hc=>qE6 (qpC q1 c hc);unfold qH.sz;omega
  ·rw[jt,iN hc]at h;exact absurd h hc
 ·simp[UX,qH.sz,qJ]
theorem qBS{e:AV}{k k':IntKind}{n n':Int}{m:Nat}:lay (.tup [e,.int k n,.int k' n']) m=(.tup [(lay e m).1,.int k n,.int k' n'],(lay e m).2):=by simp[lay,qO]
theorem c38{bk:List qD}{m:qH}{rx:Int}(hb:bk.length<=140737488355328/\(∀y∈bk,qD.bd y))(hm:m.bd):Pure Gm 38 [.lst 1 (bk.map qD.enc) false,m.enc,iI rx] (.bool true):=by
 refine pI F38 (by simp[AV.trees,AV.tree,go_sem,qb qD.isSh.tree]) rfl ?_;simp only[F38,qN,go_sem];refine qX rfl ?_;simp only[go_sem];refine qL (c181 bk hb 1048576 (by omega)) ?_;simp only[go_sem];apply qT<;>intro hc<;>simp only[hc,go_sem]
 ·exact qM rfl rfl
 have hbz:bk.length+qJ qD.sz bk<=1048576:=by
  have:=odF hc;rw[wE]at this;omega
 rw[wF hbz];refine qL (c209 m hm (1048576-(bk.length+qJ qD.sz bk)) (by omega)) ?_;simp only[go_sem];apply qT<;>intro hc<;>simp only[hc,go_sem]
 ·exact qM rfl rfl
 have hmz:m.sz<=1048576:=by
  have:=odF hc;rw[wE]at this;omega
 refine qL (c184 bk hbz) ?_;simp only[go_sem];refine qL (c211 m hmz) ?_;simp only[go_sem];have kp:=c243 (x:=rx) hbz hmz;have k1:=n244 (x:=rx) hbz hmz;have hGz:=qsJ (bk:=bk) (m:=m) (x:=rx);generalize Jo bk m rx=G at kp k1 hGz;generalize QL bk m rx=L at kp k1;generalize jt bk m rx=C at kp k1;unfold Zr at kp k1;refine qL kp ?_;simp only[go_sem];refine lsA ?_;simp only[go_sem];refine jY (n184 bk hbz) ?_;simp only[go_sem];refine jY (n211 m hmz) ?_;simp only[go_sem];refine Jv (k:=5) (by rfl) (qBR _ _) (qBQ _ _) (by decide) ?_;have e1:(lay (AV.lst 1 (bk.map qD.enc) false) 0).2.length=(bkT bk).rows:=qx _ _;have hM:∀n,(lay m.enc n).2.length=m.enc.rows:=λn=>qx _ _;simp only[go_sem,QB,lNa,e1];have a1:=VJ (t:=bkT bk) (n:=0) (h:=(lay (bkT bk) 0).2++(lay m.enc (bkT bk).rows).2) (pre:=[]) (post:=(lay m.enc (bkT bk).rows).2) qAK qAJ rfl rfl;have a2:=VJ (t:=m.enc) (n:=(bkT bk).rows) (h:=(lay (bkT bk) 0).2++(lay m.enc (bkT bk).rows).2) (pre:=(lay (bkT bk) 0).2) (post:=[]) (qH.plx m) (qH.cnx m) (qx _ _) (by simp);refine WK (Cvs.cons a1 (Cvs.cons a2 (Cvs.cons (.refl rfl) Cvs.nil))) k1 ?_;simp only[go_sem,qBS,QB,lAp,e1,hM];refine Jv (k:=5) (by rfl) (qBR _ _) (qBQ _ _) (by decide) ?_;simp only[go_sem,QB,lAa];generalize hn1:(bkT bk).rows=n1;generalize hn2:n1+m.enc.rows=n2;obtain⟨x1,x2,x3⟩:=lay3 (a:=bkT bk) (b:=m.enc) (c:=G.enc) hn1 hn2 qAK qAJ (qH.plx m) (qH.cnx m) (qH.plx G) (qH.cnx G);refine wC (Cvs.cons x3 (Cvs.cons (.refl qH.tr) Cvs.nil)) (Ym G (by omega)) rfl ?_;simp only[go_sem,beq_self_eq_true];refine qL (c184 bk hbz) ?_;simp only[go_sem];refine wC (Cvs.cons x1 (Cvs.cons (.refl (qb qD.isSh.tree _)) Cvs.nil)) (c187 bk (by omega)) rfl ?_;simp only[go_sem,QB];refine qL (c211 m hmz) ?_;simp only[go_sem];refine wC (Cvs.cons x2 (Cvs.cons (.refl qH.tr) Cvs.nil)) (Ym m (by omega)) rfl ?_;simp only[go_sem];have hctm:=m.ctVle;have hctg:=G.ctVle;have hctb:=qKE (λx=>qD.ctle x) bk;have mb:=k225 bk 1 (by omega) (by omega) (by omega);have mm:=k240 m (1+(qJ qD.ct bk:Nat)) (by omega) (by omega) (by omega);have mg:=k240 G 1 (by omega) (by omega) (by omega);have rb:(bkT (mkL qD.mrk qD.ct bk 1)).rows=n1:=mb.2.2.1.trans hn1;have rm:=hn2;rw[<-mm.2.2.1]at rm;refine J6 (E:={Γ:=Gm,b:=0,fz:=[],bp:=[]}) mb (pre:=[]) (post:=(lay m.enc n1).2++(lay G.enc n2).2) rfl rfl rfl ?_;simp only[go_sem,QB,lNa];refine J6 (E:={Γ:=Gm,b:=0,fz:=[],bp:=[]}) mm (pre:=(lay (bkT (mkL qD.mrk qD.ct bk 1)) 0).2) (post:=(lay G.enc n2).2) (by rw[qx,rb]) rfl rfl ?_;obtain⟨y1,y2,y3⟩:=lay3 (a:=bkT (mkL qD.mrk qD.ct bk 1)) (b:=(m.mkV (1+(qJ qD.ct bk:Nat))).enc) (c:=G.enc) rb rm qAK qAJ (qH.plx _) (qH.cnx _) (qH.plx G) (qH.cnx G);have hk:decide (1+((qJ qD.ct bk:Nat):Int)+(m.ctV:Nat)<0)=false:=dEf (by omega);simp only[go_sem,hk,QB];refine wC (Cvs.cons y3 (Cvs.cons (.refl qH.tr) Cvs.nil)) (Ym G (by omega)) rfl ?_;simp only[go_sem,beq_self_eq_true,QB];refine J6 (E:={Γ:=Gm,b:=0,fz:=[],bp:=[]}) mg (n:=n2) (pre:=(lay (bkT (mkL qD.mrk qD.ct bk 1)) 0).2++(lay (m.mkV (1+(qJ qD.ct bk:Nat))).enc n1).2) (post:=[]) (by rw[lAp,qx,qx,rb,rm]) (by simp only[lAa,lAn]) rfl ?_;simp only[go_sem,lAa,lAn,QB];have z:∀post,Cv ((lay (bkT (mkL qD.mrk qD.ct bk 1)) 0).2++((lay (m.mkV (1+(qJ qD.ct bk:Nat))).enc n1).2++((lay (G.mkV 1).enc n2).2++post))) (lay G.enc n2).1 (G.mkV 1).enc:=λpost=>by
  have:=VJ (t:=(G.mkV 1).enc) (n:=n2) (pre:=(lay (bkT (mkL qD.mrk qD.ct bk 1)) 0).2++(lay (m.mkV (1+(qJ qD.ct bk:Nat))).enc n1).2) (post:=post) (qH.plx _) (qH.cnx _) (by rw[lAp,qx,qx,rb,rm]) rfl;rw[lAa,qoI]at this;exact this
 have z3:=z [];rw[lAn]at z3;have hk2:decide (1+((G.ctV:Nat):Int)<0)=false:=dEf (by omega);refine wC (Cvs.cons z3 (Cvs.cons (.refl rfl) Cvs.nil)) (q245 G 1 (by omega) (by omega) (by omega)) rfl ?_;simp only[go_sem,hk2,beq_self_eq_true];refine qL (c184 bk hbz) ?_;simp only[go_sem];refine qL (c211 m hmz) ?_;simp only[go_sem];refine jY k1 ?_;have u3:=z (lay (.tup [G.enc,iI L,iI C]) ((lay (bkT (mkL qD.mrk qD.ct bk 1)) 0).2++((lay (m.mkV (1+(qJ qD.ct bk:Nat))).enc n1).2++(lay (G.mkV 1).enc n2).2)).length).2;simp only[<-lAa]at u3;simp only[<-lAa];generalize (lay (bkT (mkL qD.mrk qD.ct bk 1)) 0).2++(lay (m.mkV (1+(qJ qD.ct bk:Nat))).enc n1).2++(lay (G.mkV 1).enc n2).2=X at u3|-;simp only[qBS]at u3;simp only[go_sem,qBS];refine Jv (k:=5) (by rfl) (qBR _ _) (qBQ _ _) (by decide) ?_;simp only[go_sem,QB];refine wC (Cvs.cons (VJ (pre:=X) (post:=[]) (qH.plx G) (qH.cnx G) rfl (by simp only[lAn])) (Cvs.cons (.refl qH.tr) Cvs.nil)) (Ym G (by omega)) rfl ?_;simp only[go_sem,beq_self_eq_true,QB];refine wC (Cvs.cons u3 (Cvs.cons (.refl rfl) Cvs.nil)) (q245 G 1 (by omega) (by omega) (by omega)) rfl ?_;simp only[go_sem,hk2,beq_self_eq_true];exact qM rfl rfl
end Go.Ab
