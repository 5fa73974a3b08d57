/- Texts DbgO .. Net33: the abstract machine, its laws and contracts of functions: lemmas for the statement. No condition. -/
import Derived.Test.YtlppfplbkekkeaaGreatP6
set_option linter.unusedSimpArgs false
set_option linter.unusedVariables false
namespace Go.Ab
open Go
set_option maxRecDepth 10000
set_option maxHeartbeats 2000000
theorem rwI:∀(xs:List Int)(k:Int),AV.rowss ((mkL mkI ctI xs k).map qQ)=AV.rowss (xs.map qQ):=Ws mkI ctI (enc:=qQ) (λ_ _=>rfl)
theorem qE.plx(x:qE):x.enc.pl=true:=by simp[qE.enc,AV.pl,AV.pls]
theorem qE.cnx(x:qE):x.enc.cn=true:=by simp[qE.enc,AV.cn,AV.cns]
theorem qE.layE(x:qE)(n:Nat):lay x.enc n=(.agg [iI x.Agent,iI x.Slot],[]):=by
 simp[qE.enc,lay,qK]
theorem qE.rowsE(x:qE):x.enc.rows=0:=by simp[qE.enc,AV.rows,AV.rowss]
def qE.mrk(_x:qE)(k:Int):qE:={Agent:=k,Slot:=k+1}
def qE.ct(_x:qE):Nat:=1+1
theorem qE.rowsM(x:qE)(k:Int):(x.mrk k).enc.rows=x.enc.rows:=by simp[qE.rowsE,qE.mrk]
theorem qf6:∀(xs:List qE)(k:Int),AV.rowss ((mkL qE.mrk qE.ct xs k).map qE.enc)=AV.rowss (xs.map qE.enc):=Ws qE.mrk qE.ct (enc:=qE.enc) qE.rowsM
theorem qE.ctle(x:qE):x.ct<=16:=by simp[qE.ct]
theorem qB.plx(x:qB):x.enc.pl=true:=by simp[qB.enc,AV.pl,AV.pls,zj (enc:=qQ) (λ_=>rfl),zj qE.plx]
theorem qB.cnx(x:qB):x.enc.cn=true:=by simp[qB.enc,AV.cn,AV.cns,ZC (enc:=qQ) (λ_=>rfl),ZC qE.cnx]
theorem qB.layE(x:qB)(n:Nat):lay x.enc n=(.agg [iI x.Kind,iI x.Level,iI x.Value,sQ 1 (n) x.Data.length,.slice 2 (n+AV.rows (lQ x.Data)) 0 x.Ports.length false],(lay (lQ x.Data) (n)).2++((lay (.lst 2 (x.Ports.map qE.enc) false) (n+AV.rows (lQ x.Data))).2++[])):=by
 simp[qB.enc,lay,qK,jC,AV.rows,Nat.add_comm,Nat.add_left_comm]
theorem qB.rowsE(x:qB):x.enc.rows=AV.rows (lQ x.Data)+AV.rows (.lst 2 (x.Ports.map qE.enc) false):=by simp[qB.enc,AV.rows,AV.rowss,Nat.add_assoc]
def qB.mrk(x:qB)(k:Int):qB:={Kind:=k,Level:=k+1,Value:=k+1+1,Data:=mkL mkI ctI x.Data (k+1+1+1),Ports:=mkL qE.mrk qE.ct x.Ports (k+1+1+1+((qH ctI x.Data:Nat):Int))}
def qB.ct(x:qB):Nat:=1+1+1+qH ctI x.Data+qH qE.ct x.Ports
theorem qB.rowsM(x:qB)(k:Int):(x.mrk k).enc.rows=x.enc.rows:=by simp[qB.rowsE,qB.mrk,AV.rows,qf6,rwI]
theorem WF:∀(xs:List qB)(k:Int),AV.rowss ((mkL qB.mrk qB.ct xs k).map qB.enc)=AV.rowss (xs.map qB.enc):=Ws qB.mrk qB.ct (enc:=qB.enc) qB.rowsM
theorem qB.ctle(x:qB):x.ct<=16+16*x.sz:=by
 have h0:=VJ (c:=ctI) (λ_=>by simp[ctI]) x.Data;have h1:=VJ (c:=qE.ct) (λy=>by have:=qE.ctle y;simpa using this) x.Ports;simp only[qB.ct,qB.sz];omega
theorem qD.plx(x:qD):x.enc.pl=true:=by simp[qD.enc,AV.pl,AV.pls,zj qB.plx]
theorem qD.cnx(x:qD):x.enc.cn=true:=by simp[qD.enc,AV.cn,AV.cns,ZC qB.cnx]
theorem qD.layE(x:qD)(n:Nat):lay x.enc n=(.agg [sQ 5 (n) x.Agents.length],(lay (.lst 5 (x.Agents.map qB.enc) false) (n)).2++[]):=by
 simp[qD.enc,lay,qK]
theorem qD.rowsE(x:qD):x.enc.rows=AV.rows (.lst 5 (x.Agents.map qB.enc) false):=by simp[qD.enc,AV.rows,AV.rowss]
def qD.mrk(x:qD)(k:Int):qD:={Agents:=mkL qB.mrk qB.ct x.Agents (k)}
def qD.ct(x:qD):Nat:=qH qB.ct x.Agents
theorem qD.rowsM(x:qD)(k:Int):(x.mrk k).enc.rows=x.enc.rows:=by simp[qD.rowsE,qD.mrk,AV.rows,WF]
theorem Ww:∀(xs:List qD)(k:Int),AV.rowss ((mkL qD.mrk qD.ct xs k).map qD.enc)=AV.rowss (xs.map qD.enc):=Ws qD.mrk qD.ct (enc:=qD.enc) qD.rowsM
theorem qD.ctle(x:qD):x.ct<=16+16*x.sz:=by
 have h0:=VK (c:=qB.ct) (z:=qB.sz) qB.ctle x.Agents;simp only[qD.ct,qD.sz];omega
theorem n147(xs:List Int)(hl:xs.length<=1048576):Fresh Gm 147 [lQ xs] (lQ xs):=qqB (gk _ F147) xs hl
theorem qmH(x:qE):Fresh Gm 1419 [x.enc] x.enc:=by
 refine fI YC (by simp[AV.trees,qE.tr]) (qE.plx x) ?_;simp only[YC,qM,go_sem];refine qZ rfl ?_;simp only[go_sem];refine lsA ?_;simp only[go_sem];exact wv (pre:=[]) (post:=[]) (qE.plx x) (by simp[zT,qE.layE]) (by simp[qE.layE])
theorem qmF(xs:List qE)(hl:xs.length<=1048576):Fresh Gm 1178 [.lst 2 (xs.map qE.enc) false] (.lst 2 (xs.map qE.enc) false):=
 KR qE.isSh qE.plx rfl rfl (by simp) (gk _ Kl) xs (λx hm=>qmH x) (by omega)
theorem n858(x:qB)(hz:x.sz<=1048576):Fresh Gm 858 [x.enc] x.enc:=by
 refine fI YH (by simp[AV.trees,qB.tr]) (qB.plx x) ?_;simp only[YH,qM,go_sem];refine qZ rfl ?_;simp only[go_sem];unfold qB.sz at hz;refine zk (n147 _ (by omega)) ?_;simp only[go_sem,zn];refine zk (qmF _ (by omega)) ?_;simp only[go_sem,zn];refine lsA ?_;simp only[go_sem];exact wv (pre:=[]) (post:=[]) (qB.plx x) (by simp[zT,qB.layE,qf]) (by simp[qB.layE,qf])
theorem n504(xs:List qB)(hl:xs.length+qH qB.sz xs<=1048576):Fresh Gm 504 [.lst 5 (xs.map qB.enc) false] (.lst 5 (xs.map qB.enc) false):=
 KR qB.isSh qB.plx rfl rfl (by simp) (gk _ F504) xs (λx hm=>n858 x (by have:=zx (f:=qB.sz) hm;omega)) (by omega)
theorem n185(x:qD)(hz:x.sz<=1048576):Fresh Gm 185 [x.enc] x.enc:=by
 refine fI YD (by simp[AV.trees,qD.tr]) (qD.plx x) ?_;simp only[YD,qM,go_sem];refine qZ rfl ?_;simp only[go_sem];unfold qD.sz at hz;refine zk (n504 _ (by omega)) ?_;simp only[go_sem,zn];exact wv (pre:=[]) (post:=[]) (qD.plx x) (by simp[zT,qD.layE]) (by simp[qD.layE])
theorem n184(xs:List qD)(hl:xs.length+qH qD.sz xs<=1048576):Fresh Gm 184 [.lst 1 (xs.map qD.enc) false] (.lst 1 (xs.map qD.enc) false):=
 KR qD.isSh qD.plx rfl rfl (by simp) (gk _ F184) xs (λx hm=>n185 x (by have:=zx (f:=qD.sz) hm;omega)) (by omega)
theorem k90(xs:List Int)(k:Int)(h0:0<=k)(hk:k+(qH ctI xs:Nat)<=4611686018427387904)(hz:xs.length<=1073741824):Mark Gm 90 (lQ xs) (lQ (mkL mkI ctI xs k)) k (k+(qH ctI xs:Nat)):=ql9 (gk _ F90) rfl xs k h0 hk hz
theorem k885(xs:List qE)(k:Int)(h0:0<=k)(hk:k+(qH qE.ct xs:Nat)<=4611686018427387904)(hz:xs.length<=1073741824):Mark Gm 885 (.lst 2 (xs.map qE.enc) false) (.lst 2 ((mkL qE.mrk qE.ct xs k).map qE.enc) false) k (k+(qH qE.ct xs:Nat)):=by
 refine Mark.intro (gk _ F885) (by kernel_rfl) rfl (zj qE.plx xs) (zj qE.plx _) (by simp only[AV.rows,qf6]) ?_;simp only[F885,qM,zn,go_sem,nZa];refine Sem.loop (λi:Nat=>i<=xs.length) (λi=>(⟨[(0,sQ 2 0 xs.length),(1,iI (k+((qH qE.ct (xs.take i):Nat):Int))),(5,iI (i:Nat))],[],(lay (.lst 2 ((mkL qE.mrk qE.ct (xs.take i) k++xs.drop i).map qE.enc) false) 0).2⟩:VSt)) (λi=>xs.length-i) 0 (by kernel_rfl) (nZl _) (by simp only[List.take_zero,mkL,lNa,List.drop_zero,qH,Int.ofNat_zero,Int.add_zero];exact csA) ?_;intro i hi;simp only[go_sem];apply qI<;>intro hc<;>simp only[hc,go_sem]
 ·have hlt:i<xs.length:=by have:=odT hc;omega
  have hct:=WJ qE.ct hlt;have hcl:=WI qE.ct xs (i+1);have hrow:=qE.rowsM;rw[lDc hlt,Zs];obtain⟨K,hK⟩:∃K:Int,K=k+((qH qE.ct (xs.take i):Nat):Int):=⟨_,rfl⟩;have hend:k+((qH qE.ct (xs.take (i+1)):Nat):Int)=K+((qE.ct xs[i]:Nat):Int):=by rw[hct,hK];omega
  have hKb:0<=K/\K+((qE.ct xs[i]:Nat):Int)<=4611686018427387904:=by rw[<-hend];omega
  have hmk:(mkL qE.mrk qE.ct (xs.take (i+1)) k++xs.drop (i+1))=mkL qE.mrk qE.ct (xs.take i) k++qE.mrk xs[i] K::xs.drop (i+1):=by rw[Yv qE.mrk qE.ct hlt,<-hK,lAa];rfl
  have hrx:=hrow xs[i] K;rw[<-hK];obtain⟨y,hy⟩:∃y,y=xs[i]:=⟨_,rfl⟩;rw[<-hy]at hmk hend hKb hrx|-;have hcy:qE.ct y=1+1:=rfl;rw[hcy]at hend hKb;have hA:(qK ((mkL qE.mrk qE.ct (xs.take i) k).map qE.enc) 1).1.length=i:=by rw[jK,lMp,wz];simp;omega
  have hoA:=jC ((mkL qE.mrk qE.ct (xs.take i) k).map qE.enc) 1;have e2:=Zs (enc:=qE.enc) (w:=2) (c:=false) (A:=mkL qE.mrk qE.ct (xs.take i) k) (B:=xs.drop (i+1)) (z:=qE.mrk y K);rw[hrx]at e2;rw[qE.layE]at e2|-;obtain⟨p,hp⟩:∃p,p=1+AV.rowss ((mkL qE.mrk qE.ct (xs.take i) k).map qE.enc):=⟨_,rfl⟩;rw[<-hp]at e2|-;generalize (qK ((xs.drop (i+1)).map qE.enc) (p+y.enc.rows)).1=vB at e2|-;generalize (qK ((xs.drop (i+1)).map qE.enc) (p+y.enc.rows)).2=oB at e2|-;generalize (qK ((mkL qE.mrk qE.ct (xs.take i) k).map qE.enc) 1).1=vA at e2 hA|-;generalize (qK ((mkL qE.mrk qE.ct (xs.take i) k).map qE.enc) 1).2=oA at e2 hoA|-;simp only[zQ hlt,go_sem,nZa];refine qn (e':=.agg [iI (K),iI y.Slot]) (by rfl) (by rfl) (zV hA) (by rfl) ?_;simp only[jM hA,zQ hlt,lSz,go_sem,nZa];rw[wsA (n:=K+1)]
  try simp only[zV hA,jM hA,zQ hlt,lSz,go_sem,nZa]
  refine qn (e':=.agg [iI (K),iI (K+1)]) (by rfl) (by rfl) (zV hA) (by rfl) ?_;simp only[jM hA,lSz,go_sem];rw[wsA (n:=K+1+1)];simp only[wuA (n:=i)];refine qb (i+1) (by omega) (by omega) ?_;have e3:K+1+1=k+((qH qE.ct (xs.take (i+1)):Nat):Int):=by first | (rw[hend];done) | (rw[hend];omega)
  rw[e3];rw[hmk,e2];simp only[qE.mrk,AV.rows,lNa];exact csA
 ·have hge:i=xs.length:=by have:=odF hc;omega
  subst hge;refine XT (by rw[lTl]) ?_;rw[lTl,List.drop_length,lAn]
theorem k524(xs:List qB)(k:Int)(h0:0<=k)(hk:k+(qH qB.ct xs:Nat)<=4611686018427387904)(hz:xs.length+qH qB.sz xs<=1073741824):Mark Gm 524 (.lst 5 (xs.map qB.enc) false) (.lst 5 ((mkL qB.mrk qB.ct xs k).map qB.enc) false) k (k+(qH qB.ct xs:Nat)):=by
 refine Mark.intro (gk _ F524) (by kernel_rfl) rfl (zj qB.plx xs) (zj qB.plx _) (by simp only[AV.rows,WF]) ?_;simp only[F524,qM,zn,go_sem,nZa];refine Sem.loop (λi:Nat=>i<=xs.length) (λi=>(⟨[(0,sQ 5 0 xs.length),(1,iI (k+((qH qB.ct (xs.take i):Nat):Int))),(5,iI (i:Nat))],[],(lay (.lst 5 ((mkL qB.mrk qB.ct (xs.take i) k++xs.drop i).map qB.enc) false) 0).2⟩:VSt)) (λi=>xs.length-i) 0 (by kernel_rfl) (nZl _) (by simp only[List.take_zero,mkL,lNa,List.drop_zero,qH,Int.ofNat_zero,Int.add_zero];exact csA) ?_;intro i hi;simp only[go_sem];apply qI<;>intro hc<;>simp only[hc,go_sem]
 ·have hlt:i<xs.length:=by have:=odT hc;omega
  have hct:=WJ qB.ct hlt;have hcl:=WI qB.ct xs (i+1);have hrow:=qB.rowsM;rw[lDc hlt,Zs];have hsz:qB.sz xs[i]<=qH qB.sz xs:=zx (f:=qB.sz) (gMm hlt);obtain⟨K,hK⟩:∃K:Int,K=k+((qH qB.ct (xs.take i):Nat):Int):=⟨_,rfl⟩;have hend:k+((qH qB.ct (xs.take (i+1)):Nat):Int)=K+((qB.ct xs[i]:Nat):Int):=by rw[hct,hK];omega
  have hKb:0<=K/\K+((qB.ct xs[i]:Nat):Int)<=4611686018427387904:=by rw[<-hend];omega
  have hmk:(mkL qB.mrk qB.ct (xs.take (i+1)) k++xs.drop (i+1))=mkL qB.mrk qB.ct (xs.take i) k++qB.mrk xs[i] K::xs.drop (i+1):=by rw[Yv qB.mrk qB.ct hlt,<-hK,lAa];rfl
  have hrx:=hrow xs[i] K;rw[<-hK];obtain⟨y,hy⟩:∃y,y=xs[i]:=⟨_,rfl⟩;rw[<-hy]at hmk hend hKb hrx hsz|-;have hcy:qB.ct y=1+1+1+qH ctI y.Data+qH qE.ct y.Ports:=rfl;rw[hcy]at hend hKb;simp only[qB.sz]at hsz;have hA:(qK ((mkL qB.mrk qB.ct (xs.take i) k).map qB.enc) 1).1.length=i:=by rw[jK,lMp,wz];simp;omega
  have hoA:=jC ((mkL qB.mrk qB.ct (xs.take i) k).map qB.enc) 1;have e2:=Zs (enc:=qB.enc) (w:=5) (c:=false) (A:=mkL qB.mrk qB.ct (xs.take i) k) (B:=xs.drop (i+1)) (z:=qB.mrk y K);rw[hrx]at e2;rw[qB.layE]at e2|-;obtain⟨p,hp⟩:∃p,p=1+AV.rowss ((mkL qB.mrk qB.ct (xs.take i) k).map qB.enc):=⟨_,rfl⟩;rw[<-hp]at e2|-;generalize (qK ((xs.drop (i+1)).map qB.enc) (p+y.enc.rows)).1=vB at e2|-;generalize (qK ((xs.drop (i+1)).map qB.enc) (p+y.enc.rows)).2=oB at e2|-;generalize (qK ((mkL qB.mrk qB.ct (xs.take i) k).map qB.enc) 1).1=vA at e2 hA|-;generalize (qK ((mkL qB.mrk qB.ct (xs.take i) k).map qB.enc) 1).2=oA at e2 hoA|-;simp only[zQ hlt,go_sem,nZa];refine qn (e':=.agg [iI (K),iI y.Level,iI y.Value,sQ 1 (p) y.Data.length,.slice 2 (p+AV.rows (lQ y.Data)) 0 y.Ports.length false]) (by rfl) (by rfl) (zV hA) (by rfl) ?_;simp only[jM hA,zQ hlt,lSz,go_sem,nZa];rw[wsA (n:=K+1)]
  try simp only[zV hA,jM hA,zQ hlt,lSz,go_sem,nZa]
  refine qn (e':=.agg [iI (K),iI (K+1),iI y.Value,sQ 1 (p) y.Data.length,.slice 2 (p+AV.rows (lQ y.Data)) 0 y.Ports.length false]) (by rfl) (by rfl) (zV hA) (by rfl) ?_;simp only[jM hA,zQ hlt,lSz,go_sem,nZa];rw[wsA (n:=K+1+1)]
  try simp only[zV hA,jM hA,zQ hlt,lSz,go_sem,nZa]
  refine qn (e':=.agg [iI (K),iI (K+1),iI (K+1+1),sQ 1 (p) y.Data.length,.slice 2 (p+AV.rows (lQ y.Data)) 0 y.Ports.length false]) (by rfl) (by rfl) (zV hA) (by rfl) ?_;simp only[zV hA,jM hA,zQ hlt,lSz,go_sem,nZa];rw[wsA (n:=K+1+1+1)]
  try simp only[zV hA,jM hA,zQ hlt,lSz,go_sem,nZa]
  refine Qh (n:=p) (pre:=.row 5 (vA++.agg [iI (K),iI (K+1),iI (K+1+1),sQ 1 (p) y.Data.length,.slice 2 (p+AV.rows (lQ y.Data)) 0 y.Ports.length false]::vB) true::(oA++[])) (post:=((lay (.lst 2 (y.Ports.map qE.enc) false) (p+AV.rows (lQ y.Data))).2++[])++oB) (t:=(lQ y.Data)) (t':=(lQ (mkL mkI ctI y.Data (K+1+1+1)))) (k90 y.Data (K+1+1+1) (by omega) (by omega) (by omega)) ?_ ?_ (by rw[zn,lMp]) ?_
  ·first | rfl | (simp only[lCo,lAp,lNi,hoA,AV.rows]<;>omega)
  ·first | rfl | (simp only[lAa,lAn,lCa];done)
  simp only[zV hA,zQ hlt,lCa,go_sem,nZa];refine Qh (n:=p+AV.rows (lQ y.Data)) (pre:=.row 5 (vA++.agg [iI (K),iI (K+1),iI (K+1+1),sQ 1 (p) y.Data.length,.slice 2 (p+AV.rows (lQ y.Data)) 0 y.Ports.length false]::vB) true::(oA++((lay (lQ (mkL mkI ctI y.Data (K+1+1+1))) (p)).2))) (post:=([])++oB) (t:=(.lst 2 (y.Ports.map qE.enc) false)) (t':=(.lst 2 ((mkL qE.mrk qE.ct y.Ports (K+1+1+1+((qH ctI y.Data:Nat):Int))).map qE.enc) false)) (k885 y.Ports (K+1+1+1+((qH ctI y.Data:Nat):Int)) (by omega) (by omega) (by omega)) ?_ ?_ (by rw[zn,lMp]) ?_
  ·first | rfl | (simp only[lCo,lAp,hoA,qf,AV.rows,rwI]<;>omega)
  ·first | rfl | (simp only[lAa,lNa,lAn,lCa];done)
  simp only[lCa,go_sem];simp only[wuA (n:=i)];refine qb (i+1) (by omega) (by omega) ?_;have e3:K+1+1+1+((qH ctI y.Data:Nat):Int)+((qH qE.ct y.Ports:Nat):Int)=k+((qH qB.ct (xs.take (i+1)):Nat):Int):=by first | (rw[hend];done) | (rw[hend];omega)
  rw[e3];rw[hmk,e2];simp only[qB.mrk,wz,AV.rows,lAa,lNa,lAn,rwI];exact csA
 ·have hge:i=xs.length:=by have:=odF hc;omega
  subst hge;refine XT (by rw[lTl]) ?_;rw[lTl,List.drop_length,lAn]
theorem k225(xs:List qD)(k:Int)(h0:0<=k)(hk:k+(qH qD.ct xs:Nat)<=4611686018427387904)(hz:xs.length+qH qD.sz xs<=1073741824):Mark Gm 225 (.lst 1 (xs.map qD.enc) false) (.lst 1 ((mkL qD.mrk qD.ct xs k).map qD.enc) false) k (k+(qH qD.ct xs:Nat)):=by
 refine Mark.intro (gk _ F225) (by kernel_rfl) rfl (zj qD.plx xs) (zj qD.plx _) (by simp only[AV.rows,Ww]) ?_;simp only[F225,qM,zn,go_sem,nZa];refine Sem.loop (λi:Nat=>i<=xs.length) (λi=>(⟨[(0,sQ 1 0 xs.length),(1,iI (k+((qH qD.ct (xs.take i):Nat):Int))),(5,iI (i:Nat))],[],(lay (.lst 1 ((mkL qD.mrk qD.ct (xs.take i) k++xs.drop i).map qD.enc) false) 0).2⟩:VSt)) (λi=>xs.length-i) 0 (by kernel_rfl) (nZl _) (by simp only[List.take_zero,mkL,lNa,List.drop_zero,qH,Int.ofNat_zero,Int.add_zero];exact csA) ?_;intro i hi;simp only[go_sem];apply qI<;>intro hc<;>simp only[hc,go_sem]
 ·have hlt:i<xs.length:=by have:=odT hc;omega
  have hct:=WJ qD.ct hlt;have hcl:=WI qD.ct xs (i+1);have hrow:=qD.rowsM;rw[lDc hlt,Zs];have hsz:qD.sz xs[i]<=qH qD.sz xs:=zx (f:=qD.sz) (gMm hlt);obtain⟨K,hK⟩:∃K:Int,K=k+((qH qD.ct (xs.take i):Nat):Int):=⟨_,rfl⟩;have hend:k+((qH qD.ct (xs.take (i+1)):Nat):Int)=K+((qD.ct xs[i]:Nat):Int):=by rw[hct,hK];omega
  have hKb:0<=K/\K+((qD.ct xs[i]:Nat):Int)<=4611686018427387904:=by rw[<-hend];omega
  have hmk:(mkL qD.mrk qD.ct (xs.take (i+1)) k++xs.drop (i+1))=mkL qD.mrk qD.ct (xs.take i) k++qD.mrk xs[i] K::xs.drop (i+1):=by rw[Yv qD.mrk qD.ct hlt,<-hK,lAa];rfl
  have hrx:=hrow xs[i] K;rw[<-hK];obtain⟨y,hy⟩:∃y,y=xs[i]:=⟨_,rfl⟩;rw[<-hy]at hmk hend hKb hrx hsz|-;have hcy:qD.ct y=qH qB.ct y.Agents:=rfl;rw[hcy]at hend hKb;simp only[qD.sz]at hsz;have hA:(qK ((mkL qD.mrk qD.ct (xs.take i) k).map qD.enc) 1).1.length=i:=by rw[jK,lMp,wz];simp;omega
  have hoA:=jC ((mkL qD.mrk qD.ct (xs.take i) k).map qD.enc) 1;have e2:=Zs (enc:=qD.enc) (w:=1) (c:=false) (A:=mkL qD.mrk qD.ct (xs.take i) k) (B:=xs.drop (i+1)) (z:=qD.mrk y K);rw[hrx]at e2;rw[qD.layE]at e2|-;obtain⟨p,hp⟩:∃p,p=1+AV.rowss ((mkL qD.mrk qD.ct (xs.take i) k).map qD.enc):=⟨_,rfl⟩;rw[<-hp]at e2|-;generalize (qK ((xs.drop (i+1)).map qD.enc) (p+y.enc.rows)).1=vB at e2|-;generalize (qK ((xs.drop (i+1)).map qD.enc) (p+y.enc.rows)).2=oB at e2|-;generalize (qK ((mkL qD.mrk qD.ct (xs.take i) k).map qD.enc) 1).1=vA at e2 hA|-;generalize (qK ((mkL qD.mrk qD.ct (xs.take i) k).map qD.enc) 1).2=oA at e2 hoA|-;simp only[zV hA,zQ hlt,go_sem,nZa];refine Qh (n:=p) (pre:=.row 1 (vA++.agg [sQ 5 (p) y.Agents.length]::vB) true::(oA++[])) (post:=([])++oB) (t:=(.lst 5 (y.Agents.map qB.enc) false)) (t':=(.lst 5 ((mkL qB.mrk qB.ct y.Agents (K)).map qB.enc) false)) (k524 y.Agents (K) (by omega) (by omega) (by omega)) ?_ ?_ (by rw[zn,lMp]) ?_
  ·first | rfl | (simp only[lCo,lAp,lNi,hoA]<;>omega)
  ·first | rfl | (simp only[lNa,lAn,lCa];done)
  simp only[lCa,go_sem];simp only[wuA (n:=i)];refine qb (i+1) (by omega) (by omega) ?_;have e3:K+((qH qB.ct y.Agents:Nat):Int)=k+((qH qD.ct (xs.take (i+1)):Nat):Int):=by first | (rw[hend];done) | (rw[hend];omega)
  rw[e3];rw[hmk,e2];simp only[qD.mrk,wz,AV.rows,lNa,lAn];exact csA
 ·have hge:i=xs.length:=by have:=odF hc;omega
  subst hge;refine XT (by rw[lTl]) ?_;rw[lTl,List.drop_length,lAn]
theorem q92(xs:List Int)(k:Int)(h0:0<=k)(hk:k+(qH ctI xs:Nat)<=4611686018427387904)(hz:xs.length<=1073741824):Pure Gm 92 [lQ (mkL mkI ctI xs k),iI k] (iI (k+(qH ctI xs:Nat))):=qk6 (gk _ F92) rfl xs k h0 hk hz
theorem q886(xs:List qE)(k:Int)(h0:0<=k)(hk:k+(qH qE.ct xs:Nat)<=4611686018427387904)(hz:xs.length<=1073741824):Pure Gm 886 [(.lst 2 ((mkL qE.mrk qE.ct xs k).map qE.enc) false),iI k] (iI (k+(qH qE.ct xs:Nat))):=by
 refine pI F886 (by simp[AV.trees,AV.tree,qa qE.isSh.tree]) rfl ?_;simp only[F886,qM,go_sem,nZa];refine Sem.loop (λi:Nat=>i<=xs.length) (λi=>(⟨[(0,(.lst 2 ((mkL qE.mrk qE.ct xs k).map qE.enc) false)),(1,iI (k+((qH qE.ct (xs.take i):Nat):Int))),(5,iI (i:Nat))],[],[]⟩:VSt)) (λi=>xs.length-i) 0 (by kernel_rfl) (nZl _) (by simp only[List.take_zero,qH,Int.ofNat_zero,Int.add_zero];exact csA) ?_;intro i hi;simp only[wz,go_sem];apply qI<;>intro hc<;>simp only[hc,go_sem]
 ·have hlt:i<xs.length:=by have:=odT hc;omega
  have hct:=WJ qE.ct hlt;have hcl:=WI qE.ct xs (i+1);have hget:=Yu qE.mrk qE.ct hlt k;obtain⟨K,hK⟩:∃K:Int,K=k+((qH qE.ct (xs.take i):Nat):Int):=⟨_,rfl⟩;have hend:k+((qH qE.ct (xs.take (i+1)):Nat):Int)=K+((qE.ct xs[i]:Nat):Int):=by rw[hct,hK];omega
  have hKb:0<=K/\K+((qE.ct xs[i]:Nat):Int)<=4611686018427387904:=by rw[<-hend];omega
  rw[<-hK]at hget|-;obtain⟨y,hy⟩:∃y,y=xs[i]:=⟨_,rfl⟩;rw[<-hy]at hget hend hKb;have hcy:qE.ct y=1+1:=rfl;rw[hcy]at hend hKb;simp only[gMp,hget,oMs,go_sem,nZa]
  try simp only[gMp,hget,oMs,qE.mrk,go_sem,nZa]
  rw[wsA (n:=K+1)]
  try simp only[go_sem]
  try simp only[gMp,hget,oMs,qE.mrk,go_sem,nZa]
  rw[wsA (n:=K+1+1)]
  try simp only[gMp,hget,oMs,qE.mrk,go_sem,nZa]
  simp only[wuA (n:=i)];refine qb (i+1) (by omega) (by omega) ?_;have e3:K+1+1=k+((qH qE.ct (xs.take (i+1)):Nat):Int):=by first | (rw[hend];done) | (rw[hend];omega)
  rw[e3];exact csA
 ·have hge:i=xs.length:=by have:=odF hc;omega
  subst hge;refine qO rfl ?_;rw[lTl]
theorem q525(xs:List qB)(k:Int)(h0:0<=k)(hk:k+(qH qB.ct xs:Nat)<=4611686018427387904)(hz:xs.length+qH qB.sz xs<=1073741824):Pure Gm 525 [(.lst 5 ((mkL qB.mrk qB.ct xs k).map qB.enc) false),iI k] (iI (k+(qH qB.ct xs:Nat))):=by
 refine pI F525 (by simp[AV.trees,AV.tree,qa qB.isSh.tree]) rfl ?_;simp only[F525,qM,go_sem,nZa];refine Sem.loop (λi:Nat=>i<=xs.length) (λi=>(⟨[(0,(.lst 5 ((mkL qB.mrk qB.ct xs k).map qB.enc) false)),(1,iI (k+((qH qB.ct (xs.take i):Nat):Int))),(5,iI (i:Nat))],[],[]⟩:VSt)) (λi=>xs.length-i) 0 (by kernel_rfl) (nZl _) (by simp only[List.take_zero,qH,Int.ofNat_zero,Int.add_zero];exact csA) ?_;intro i hi;simp only[wz,go_sem];apply qI<;>intro hc<;>simp only[hc,go_sem]
 ·have hlt:i<xs.length:=by have:=odT hc;omega
  have hct:=WJ qB.ct hlt;have hcl:=WI qB.ct xs (i+1);have hget:=Yu qB.mrk qB.ct hlt k;have hsz:qB.sz xs[i]<=qH qB.sz xs:=zx (f:=qB.sz) (gMm hlt);obtain⟨K,hK⟩:∃K:Int,K=k+((qH qB.ct (xs.take i):Nat):Int):=⟨_,rfl⟩;have hend:k+((qH qB.ct (xs.take (i+1)):Nat):Int)=K+((qB.ct xs[i]:Nat):Int):=by rw[hct,hK];omega
  have hKb:0<=K/\K+((qB.ct xs[i]:Nat):Int)<=4611686018427387904:=by rw[<-hend];omega
  rw[<-hK]at hget|-;obtain⟨y,hy⟩:∃y,y=xs[i]:=⟨_,rfl⟩;rw[<-hy]at hget hend hKb hsz;have hcy:qB.ct y=1+1+1+qH ctI y.Data+qH qE.ct y.Ports:=rfl;rw[hcy]at hend hKb;simp only[qB.sz]at hsz;simp only[gMp,hget,oMs,go_sem,nZa]
  try simp only[gMp,hget,oMs,qB.mrk,go_sem,nZa]
  rw[wsA (n:=K+1)]
  try simp only[gMp,hget,oMs,qB.mrk,go_sem,nZa]
  try simp only[gMp,hget,oMs,qB.mrk,go_sem,nZa]
  rw[wsA (n:=K+1+1)]
  try simp only[gMp,hget,oMs,qB.mrk,go_sem,nZa]
  try simp only[gMp,hget,oMs,qB.mrk,go_sem,nZa]
  rw[wsA (n:=K+1+1+1)]
  try simp only[gMp,hget,oMs,qB.mrk,go_sem,nZa]
  try simp only[gMp,hget,oMs,qB.mrk,go_sem,nZa]
  refine qL (q92 y.Data (K+1+1+1) (by omega) (by omega) (by omega)) ?_;simp only[go_sem];rw[show decide (K+1+1+1+((qH ctI y.Data:Nat):Int)<0)=false from decide_eq_false (by omega)];simp only[gMp,hget,oMs,qB.mrk,go_sem,nZa]
  try simp only[gMp,hget,oMs,qB.mrk,go_sem,nZa]
  refine qL (q886 y.Ports (K+1+1+1+((qH ctI y.Data:Nat):Int)) (by omega) (by omega) (by omega)) ?_;simp only[go_sem];rw[show decide (K+1+1+1+((qH ctI y.Data:Nat):Int)+((qH qE.ct y.Ports:Nat):Int)<0)=false from decide_eq_false (by omega)];simp only[go_sem];simp only[wuA (n:=i)];refine qb (i+1) (by omega) (by omega) ?_;have e3:K+1+1+1+((qH ctI y.Data:Nat):Int)+((qH qE.ct y.Ports:Nat):Int)=k+((qH qB.ct (xs.take (i+1)):Nat):Int):=by first | (rw[hend];done) | (rw[hend];omega)
  rw[e3];exact csA
 ·have hge:i=xs.length:=by have:=odF hc;omega
  subst hge;refine qO rfl ?_;rw[lTl]
theorem q230(xs:List qD)(k:Int)(h0:0<=k)(hk:k+(qH qD.ct xs:Nat)<=4611686018427387904)(hz:xs.length+qH qD.sz xs<=1073741824):Pure Gm 230 [(.lst 1 ((mkL qD.mrk qD.ct xs k).map qD.enc) false),iI k] (iI (k+(qH qD.ct xs:Nat))):=by
 refine pI F230 (by simp[AV.trees,AV.tree,qa qD.isSh.tree]) rfl ?_;simp only[F230,qM,go_sem,nZa];refine Sem.loop (λi:Nat=>i<=xs.length) (λi=>(⟨[(0,(.lst 1 ((mkL qD.mrk qD.ct xs k).map qD.enc) false)),(1,iI (k+((qH qD.ct (xs.take i):Nat):Int))),(5,iI (i:Nat))],[],[]⟩:VSt)) (λi=>xs.length-i) 0 (by kernel_rfl) (nZl _) (by simp only[List.take_zero,qH,Int.ofNat_zero,Int.add_zero];exact csA) ?_;intro i hi;simp only[wz,go_sem];apply qI<;>intro hc<;>simp only[hc,go_sem]
 ·have hlt:i<xs.length:=by have:=odT hc;omega
  have hct:=WJ qD.ct hlt;have hcl:=WI qD.ct xs (i+1);have hget:=Yu qD.mrk qD.ct hlt k;have hsz:qD.sz xs[i]<=qH qD.sz xs:=zx (f:=qD.sz) (gMm hlt);obtain⟨K,hK⟩:∃K:Int,K=k+((qH qD.ct (xs.take i):Nat):Int):=⟨_,rfl⟩;have hend:k+((qH qD.ct (xs.take (i+1)):Nat):Int)=K+((qD.ct xs[i]:Nat):Int):=by rw[hct,hK];omega
  have hKb:0<=K/\K+((qD.ct xs[i]:Nat):Int)<=4611686018427387904:=by rw[<-hend];omega
  rw[<-hK]at hget|-;obtain⟨y,hy⟩:∃y,y=xs[i]:=⟨_,rfl⟩;rw[<-hy]at hget hend hKb hsz;have hcy:qD.ct y=qH qB.ct y.Agents:=rfl;rw[hcy]at hend hKb;simp only[qD.sz]at hsz;simp only[gMp,hget,oMs,go_sem,nZa]
  try simp only[qD.mrk,go_sem]
  refine qL (q525 y.Agents (K) (by omega) (by omega) (by omega)) ?_;simp only[go_sem];rw[show decide (K+((qH qB.ct y.Agents:Nat):Int)<0)=false from decide_eq_false (by omega)];simp only[go_sem];simp only[wuA (n:=i)];refine qb (i+1) (by omega) (by omega) ?_;have e3:K+((qH qB.ct y.Agents:Nat):Int)=k+((qH qD.ct (xs.take (i+1)):Nat):Int):=by first | (rw[hend];done) | (rw[hend];omega)
  rw[e3];exact csA
 ·have hge:i=xs.length:=by have:=odF hc;omega
  subst hge;refine qO rfl ?_;rw[lTl]
theorem qmD{E:Ev}{d w:Nat}{z:AV}{k k':IntKind}{n m:Nat}{l:List qA}{ks:List Fr1}{s lo:qv}{h:List qC}{Q:qi->VSt->Prop}(hnm:n<=m)(hm:m<=4294967296)
  (hr:JA E (some d) (.row w (List.replicate n z) true) (sQ w h.length n) l ks ⟨s,lo,h⟩ Q):Mks E (some d) w z (some (.int k (n:Nat))) (some (.int k' (m:Nat))) l ks ⟨s,lo,h⟩ Q:=by
 unfold Mks;refine⟨by omega,by omega,by simp only[LIM];omega, ?_⟩;simpa only [iTn]using hr
theorem flat{α:Type}{enc:α->AV}(h:∀x n,lay (enc x) n=(enc x,[])):∀(xs:List α)(n:Nat),qK (xs.map enc) n=(xs.map enc,[])
 |[],_=>rfl
 | x::xs,n=>by simp only[lMc,qK,h,lNi,nAz,flat h xs,lNa]
theorem qE.flat(xs:List qE)(n:Nat):qK (xs.map qE.enc) n=(xs.map qE.enc,[]):=Go.Ab.flat (λx n=>qE.layE x n) xs n
theorem Uk(xs:List Int)(hz:xs.length<=4194304):Fresh Gm 401 [lQ xs] (lQ xs):=
 qb6 (w:=1) (gk _ F401) (lI xs) (zj (λ_=>rfl) xs) (qa shI.tree xs) (by simpa using hz)
theorem qmG(xs:List qE)(hz:xs.length<=4194304):Fresh Gm 1373 [.lst 2 (xs.map qE.enc) false] (.lst 2 (xs.map qE.enc) false):=
 qb6 (w:=2) (gk _ qLY) (qE.flat xs) (zj qE.plx xs) (qa qE.isSh.tree xs) (by simpa using hz)
theorem qeD(x:qB)(hz:x.sz<=1048576):Fresh Gm 1085 [x.enc] x.enc:=by
 unfold qB.sz at hz;refine fI Kb (by simp[AV.trees,go_sem]) (qB.plx x) ?_;simp only[Kb,qM,go_sem];refine qZ rfl ?_;simp only[qB.enc];simp only[go_sem];refine zk (Uk x.Data (by omega)) ?_;simp only[go_sem,zn];refine zk (qmG x.Ports (by omega)) ?_;simp only[go_sem,zn];refine lsA ?_;simp only[go_sem];exact wv (pre:=[]) (post:=[]) (t:=x.enc) (qB.plx x) (by simp[zT,qB.layE,qf]) (by simp[qB.layE,qf])
theorem Ul(n:qD)(hz:n.sz<=1048576):Fresh Gm 798 [n.enc] n.enc:=by
 unfold qD.sz at hz;refine fI F798 (by simp[AV.trees,go_sem]) (qD.plx n) ?_;simp only[F798,qM,go_sem];refine qZ rfl ?_;simp only[go_sem];refine qmD (n:=0) (by omega) (by omega) ?_;simp only[go_sem];refine Sem.loop (λi:Nat=>i<=n.Agents.length) (λi=>(⟨[(14,iI (i:Nat)),(13,iI (n.Agents.length:Nat)),(12,.lst 5 (n.Agents.map qB.enc) false)],[(3,.agg [sQ 5 0 i]),(2,.agg [.nils])],.row 5 (qK ((n.Agents.take i).map qB.enc) 1).1 true::(qK ((n.Agents.take i).map qB.enc) 1).2⟩:VSt)) (λi=>n.Agents.length-i) 0 (by kernel_rfl) (nZl _) csA ?_;rintro i hi;simp only[go_sem];apply qI<;>intro hc<;>simp only[hc,go_sem]
 ·have hlt:i<n.Agents.length:=by have:=odT hc;omega
  have hsz:qB.sz n.Agents[i]<=qH qB.sz n.Agents:=zx (f:=qB.sz) (gMm hlt);simp only[gMp,gEg hlt,oMs,go_sem];refine lsA ?_;simp only[go_sem];refine zk (qeD n.Agents[i] (by omega)) ?_;simp only[go_sem];refine Vl (by rw[ZK (qB.plx _)];rfl) ?_;simp only[go_sem];have hA:(qK ((n.Agents.take i).map qB.enc) 1).1.length=i:=by rw[jK];simp;omega
  refine jO (len:=i) (el:=(qK ((n.Agents.take i).map qB.enc) 1).1) Zr rfl hA (by omega) ?_;simp only[go_sem];simp only[wuA (n:=i)];refine qb (i+1) (by omega) (by omega) ?_;have e:(n.Agents.take (i+1)).map qB.enc=(n.Agents.take i).map qB.enc++[qB.enc n.Agents[i]]:=by
   rw[lTs hlt,lMa];rfl
  refine Can.push (w:=5) (ps:=[]) (A:=(n.Agents.take i).map qB.enc) (t:=n.Agents[i].enc) (b:=0) rfl (zj qB.plx _) (qB.plx _) rfl rfl ?_ ?_
   ⟨⟨_,rfl,.tree rfl⟩,⟨_,rfl,.tree rfl⟩,⟨_,rfl,.tree (by simp[AV.tree,qa qB.isSh.tree])⟩,trivial⟩ ⟨⟨_,rfl,.agg rfl (VR2s.cons (.slice (U9.trans ?_)) VR2s.nil).2⟩,⟨_,rfl,.tree rfl⟩,trivial⟩
  ·simp only[qK,jC,lCa,lNa,lSz,lAa,nZa,Nat.add_comm 1]
  ·rw[e];simp only[qK,lNa,nZa]
  ·simp only[lAp,lCo,lNi,jC,qf];congr 2;omega
 ·obtain rfl:i=n.Agents.length:=by have:=odF hc;omega
  simp only[lTl];exact wv (t:=n.enc) (pre:=[]) (post:=[]) (qD.plx n) (by simp[zT,qD.layE]) (by simp[qD.layE,lay])
theorem n797(xs:List qD)(hz:xs.length<=1048576/\∀x∈xs,x.sz<=1048576):Fresh Gm 797 [.lst 1 (xs.map qD.enc) false] (.lst 1 (xs.map qD.enc) false):=by
 refine fI F797 (by simp[AV.trees,AV.tree,qa qD.isSh.tree]) (zj qD.plx xs) ?_;simp only[F797,qM,go_sem];refine Sem.loop (λi:Nat=>i<=xs.length) (λi=>(⟨[(8,iI (i:Nat)),(7,iI (xs.length:Nat)),(6,.lst 1 (xs.map qD.enc) false),(3,sQ 1 0 i)],[],.row 1 (qK ((xs.take i).map qD.enc) 1).1 true::(qK ((xs.take i).map qD.enc) 1).2⟩:VSt)) (λi=>xs.length-i) 0 (by kernel_rfl) (nZl _) (Can.renum [none] rfl ⟨.ph,trivial⟩ ⟨⟨_,rfl,.tree rfl⟩,⟨_,rfl,.tree rfl⟩,⟨_,rfl,.tree (by simp[AV.tree,qa qD.isSh.tree])⟩,⟨_,rfl,.ph rfl⟩,trivial⟩ trivial) ?_;rintro i hi;simp only[go_sem];apply qI<;>intro hc<;>simp only[hc,go_sem]
 ·have hlt:i<xs.length:=by have:=odT hc;omega
  have hsz:=hz.2 _ (gMm hlt);simp only[gMp,gEg hlt,oMs,go_sem];refine zk (Ul xs[i] (by omega)) ?_;simp only[go_sem];refine Vl (by rw[ZK (qD.plx _)];rfl) ?_;simp only[go_sem];have hA:(qK ((xs.take i).map qD.enc) 1).1.length=i:=by rw[jK];simp;omega
  refine jO (len:=i) (el:=(qK ((xs.take i).map qD.enc) 1).1) Zr rfl hA (by omega) ?_;simp only[go_sem];simp only[wuA (n:=i)];refine qb (i+1) (by omega) (by omega) ?_;have e:(xs.take (i+1)).map qD.enc=(xs.take i).map qD.enc++[qD.enc xs[i]]:=by
   rw[lTs hlt,lMa];rfl
  refine Can.push (w:=1) (ps:=[]) (A:=(xs.take i).map qD.enc) (t:=xs[i].enc) (b:=0) rfl (zj qD.plx _) (qD.plx _) rfl rfl ?_ ?_
   ⟨⟨_,rfl,.tree rfl⟩,⟨_,rfl,.tree rfl⟩,⟨_,rfl,.tree (by simp[AV.tree,qa qD.isSh.tree])⟩,⟨_,rfl,.slice (U9.trans ?_)⟩,trivial⟩ trivial
  ·simp only[qK,jC,lCa,lNa,lSz,lAa,nZa,Nat.add_comm 1]
  ·rw[e];simp only[qK,lNa,nZa]
  ·simp only[lAp,lCo,lNi,jC,qf];congr 2;omega
 ·obtain rfl:i=xs.length:=by have:=odF hc;omega
  simp only[lTl];exact wv (t:=.lst 1 (xs.map qD.enc) false) (pre:=[]) (post:=[]) (zj qD.plx xs) (by simp[zT,lay]) (by simp[lay])
theorem n402(xs:List Int)(hz:xs.length<=4194304):Fresh Gm 402 [lQ xs] (lQ xs):=by
 refine fI YF (by simp[AV.trees,AV.tree,qa shI.tree]) (zj (λ_=>rfl) xs) ?_;simp only[YF,qM,go_sem];refine Vi Els.lst (by simp;omega) ?_;simp only[go_sem];exact wv (t:=lQ xs) (pre:=[]) (post:=[]) (zj (λ_=>rfl) xs) (by simp[zT,lay]) (by simp[lay,lI])
theorem n837(x:qB)(hz:x.sz<=1048576):Fresh Gm 837 [.ept x.enc 0] x.enc:=by
 unfold qB.sz at hz;refine fI YG (by simp[AV.trees,AV.tree,go_sem]) (qB.plx x) ?_;simp only[YG,qM,go_sem];refine zk (n402 x.Data (by omega)) ?_;simp only[go_sem,zn,lNa];refine qa6 Els.lst (by simp;omega) ?_;simp only[go_sem,qf];refine lsA ?_;simp only[go_sem];exact wv (t:=x.enc) (pre:=[]) (post:=[]) (qB.plx x) (by simp[zT,qB.layE]) (by simp[qB.layE,lay,qE.flat])
theorem n489(n:qD)(hz:n.sz<=1048576):Fresh Gm 489 [.ept n.enc 0] n.enc:=by
 unfold qD.sz at hz;refine fI F489 (by simp[AV.trees,AV.tree,go_sem]) (qD.plx n) ?_;simp only[F489,qM,go_sem];refine Sem.loop (λi:Nat=>i<=n.Agents.length) (λi=>(⟨[(0,.ept n.enc 0),(4,iI (i:Nat))],[(2,.agg [.nils]),(3,.agg [sQ 5 0 i])],.row 5 (qK ((n.Agents.take i).map qB.enc) 1).1 true::(qK ((n.Agents.take i).map qB.enc) 1).2⟩:VSt)) (λi=>n.Agents.length-i) 0 (by kernel_rfl) (nZl _) (Can.renum [none] rfl ⟨.ph,trivial⟩ ⟨⟨_,rfl,.tree (by simp only[AV.tree,qD.tr])⟩,⟨_,rfl,.tree rfl⟩,trivial⟩ ⟨⟨_,rfl,.tree rfl⟩,⟨_,rfl,.agg rfl (VR2s.cons (.ph rfl) VR2s.nil).2⟩,trivial⟩) ?_;rintro i hi;simp only[go_sem];apply qI<;>intro hc<;>simp only[hc,go_sem]
 ·have hlt:i<n.Agents.length:=by have:=odT hc;omega
  have hsz:qB.sz n.Agents[i]<=qH qB.sz n.Agents:=zx (f:=qB.sz) (gMm hlt);simp only[gMp,gEg hlt,oMs,go_sem];refine zk (n837 n.Agents[i] (by omega)) ?_;simp only[go_sem];refine Vl (by rw[ZK (qB.plx _)];rfl) ?_;simp only[go_sem];have hA:(qK ((n.Agents.take i).map qB.enc) 1).1.length=i:=by rw[jK];simp;omega
  refine jO (len:=i) (el:=(qK ((n.Agents.take i).map qB.enc) 1).1) Zr rfl hA (by omega) ?_;simp only[go_sem];simp only[wuA (n:=i)];refine qb (i+1) (by omega) (by omega) ?_;have e:(n.Agents.take (i+1)).map qB.enc=(n.Agents.take i).map qB.enc++[qB.enc n.Agents[i]]:=by
   rw[lTs hlt,lMa];rfl
  refine Can.push (w:=5) (ps:=[]) (A:=(n.Agents.take i).map qB.enc) (t:=n.Agents[i].enc) (b:=0) rfl (zj qB.plx _) (qB.plx _) rfl rfl ?_ ?_
   ⟨⟨_,rfl,.tree (by simp only[AV.tree,qD.tr])⟩,⟨_,rfl,.tree rfl⟩,trivial⟩ ⟨⟨_,rfl,.tree rfl⟩,⟨_,rfl,.agg rfl (VR2s.cons (.slice (U9.trans ?_)) VR2s.nil).2⟩,trivial⟩
  ·simp only[qK,jC,lCa,lNa,lSz,lAa,nZa,Nat.add_comm 1]
  ·rw[e];simp only[qK,lNa,nZa]
  ·simp only[lAp,lCo,lNi,jC,qf];congr 2;omega
 ·obtain rfl:i=n.Agents.length:=by have:=odF hc;omega
  simp only[lTl];exact wv (t:=n.enc) (pre:=[]) (post:=[]) (qD.plx n) (by simp[zT,qD.layE]) (by simp[qD.layE,lay])
theorem qR{α:Type}{xs:List α}{i:Nat}{x:α}(h:xs[i]?=some x):i<xs.length:=(gSi.1 h).1
def pv(x:qB)(p:Nat):AV:=if x.Ports.length=0 then .lst 2 [] false else sQ 2 p x.Ports.length
theorem Qc{x:qB}{p:Nat}(h:0<x.Ports.length):pv x p=sQ 2 p x.Ports.length:=if_neg (by omega)
def encR(x:qB)(p:Nat):AV:=.agg [iI x.Kind,iI x.Level,iI x.Value,lQ x.Data,pv x p]
section
variable {x:qB} {p:Nat}
@[go_sem] theorem encR.all:(encR x p).part 0 (some 5)=some (encR x p):=nr rfl
@[go_sem] theorem encR.cs:(encR x p).cells=[iI x.Kind,iI x.Level,iI x.Value,lQ x.Data,pv x p]:=nr rfl
@[go_sem] theorem encR.p0:(encR x p).part 0 none=some (iI x.Kind):=nr rfl
@[go_sem] theorem encR.p1:(encR x p).part 1 none=some (iI x.Level):=nr rfl
@[go_sem] theorem encR.p2:(encR x p).part 2 none=some (iI x.Value):=nr rfl
@[go_sem] theorem encR.p3:(encR x p).part 3 none=some (lQ x.Data):=nr rfl
@[go_sem] theorem encR.p4:(encR x p).part 4 none=some (pv x p):=nr rfl
end
def zC:Ags->List Nat->List AV
 | x::N,p::ps=>encR x p::zC N ps
 | _,_=>[]
theorem Qk:∀{N:Ags}{ps:List Nat}{k:Nat}{x:qB}{p:Nat},N[k]?=some x->ps[k]?=some p->(zC N ps)[k]?=some (encR x p)
 | x::N,p::ps,0,_,_,h1,h2=>by cases h1;cases h2;rfl
 | x::N,p::ps,k+1,_,_,h1,h2=>Qk (N:=N) (ps:=ps) (k:=k) h1 h2
 |[],_,_,_,_,h1,_=>by simp at h1
 | _::_,[],_,_,_,_,h2=>by simp at h2
theorem Ql:∀{N:Ags}{ps:List Nat},ps.length=N.length->(zC N ps).length=N.length
 | x::N,p::ps,h=>by simp[zC,Ql (N:=N) (ps:=ps) (by simpa using h)]
 |[],[],_=>rfl
 |[],_::_,h=>by simp at h
 | _::_,[],h=>by simp at h
theorem qB8:∀{N M:Ags}{ps qs:List Nat},ps.length=N.length->zC (N++M) (ps++qs)=zC N ps++zC M qs
 | x::N,M,p::ps,qs,h=>by simp[zC,qB8 (N:=N) (ps:=ps) (by simpa using h)]
 |[],_,[],_,_=>rfl
 |[],_,_::_,_,h=>by simp at h
 | _::_,_,[],_,h=>by simp at h
theorem UD{x y:qB}{p:Nat}(h:jQ y=jQ x):encR y p=encR x p:=by
 simp only[jQ,Prod.mk.injEq]at h;obtain⟨h1,h2,h3,h4,h5⟩:=h;unfold encR pv;rw[h1,h2,h3,h4,h5]
theorem qcK:∀{N M:Ags}{ps:List Nat},SameA N M->zC M ps=zC N ps
 |[],[],_,_=>rfl
 |[],_::_,_,h=>by simp[SameA]at h
 | _::_,[],_,h=>by simp[SameA]at h
 | x::N,y::M,[],h=>rfl
 | x::N,y::M,p::ps,h=>by
  unfold SameA at h;simp only[lMc,List.cons.injEq]at h;simp only[zC,UD h.1,qcK (N:=N) (M:=M) (ps:=ps) h.2]
structure NA(w:Nat)(post:List AV)(base:Nat->Prop)(nid aid:Nat)(ps:List Nat)(h:List qC)(N:Ags):Prop where
 o:h[nid]?=some (.row w [.agg (sQ 5 aid N.length::post)] true)
 a:h[aid]?=some (.row 5 (zC N ps) true)
 l:ps.length=N.length
 p:∀(k:Nat)(x:qB)(q:Nat),N[k]?=some x->ps[k]?=some q->0<x.Ports.length->h[q]?=some (.row 2 (x.Ports.map qE.enc) true)
 nd:ps.Nodup
 n1:nid≠aid
 n2:nid∉ps
 n3:aid∉ps
 b1:¬base nid
 b2:¬base aid
 b3:∀q∈ps,¬base q
 b4:∀q∈ps,∃el,h[q]?=some (.row 2 el true)
 bl:∀j,base j->j<h.length
def NE(w:Nat)(post:List AV)(base:Nat->Prop)(nid:Nat)(h:List qC)(N:Ags):Prop:=∃aid ps,NA w post base nid aid ps h N
abbrev Lo(n:Nat):Nat->Prop:=λj=>j<n
structure Keep(base:Nat->Prop)(h h':List qC):Prop where
 l:h.length<=h'.length
 k:∀j,base j->h'[j]?=h[j]?
theorem Keep.refl{b:Nat->Prop}{h:List qC}:Keep b h h:=⟨nLr _,λ_ _=>rfl⟩
theorem Keep.trans{b:Nat->Prop}{h h1 h2:List qC}(x:Keep b h h1)(y:Keep b h1 h2):Keep b h h2:=⟨nLt x.l y.l,λj hj=>(y.k j hj).trans (x.k j hj)⟩
theorem nbe{P:Nat->Prop}{i j:Nat}(h:¬P i)(hj:P j):i≠j:=λe=>h (by rw[e];exact hj)
theorem Keep.app{b:Nat->Prop}{h ex:List qC}(hb:∀j,b j->j<h.length):Keep b h (h++ex):=⟨by simp,λj hj=>gAl (hb j hj)⟩
theorem Keep.set{b:Nat->Prop}{i:Nat}{h:List qC}{o:qC}(hb:¬b i):Keep b h (h.set i o):=⟨by simp,λj hj=>gSn λe=>hb (by rw[e];exact hj)⟩
section
variable {w:Nat} {post:List AV} {base:Nat->Prop} {nid aid:Nat} {ps:List Nat} {h h':List qC} {N:Ags}
theorem NA.lt(hN:NA w post base nid aid ps h N):nid<h.length:=qR hN.o
theorem NA.lta(hN:NA w post base nid aid ps h N):aid<h.length:=qR hN.a
theorem NA.ltp(hN:NA w post base nid aid ps h N){q:Nat}(hq:q∈ps):q<h.length:=by obtain⟨el,e⟩:=hN.b4 q hq;exact qR e
theorem NE.bl(hN:NE w post base nid h N):∀j,base j->j<h.length:=by obtain⟨_,_,hN⟩:=hN;exact hN.bl
theorem NA.at(hN:NA w post base nid aid ps h N){k:Nat}{x:qB}(hx:N[k]?=some x)(h0:0<x.Ports.length):∃q,ps[k]?=some q/\(zC N ps)[k]?=some (encR x q)/\h[q]?=some (.row 2 (x.Ports.map qE.enc) true)/\pv x q=sQ 2 q x.Ports.length:=by
 have hk:=qR hx;rw[<-hN.l]at hk;exact⟨ps[k],gEg hk,Qk hx (gEg hk),hN.p k x _ hx (gEg hk) h0,Qc h0⟩
theorem NA.heap(hN:NA w post base nid aid ps h N)(e1:h'[nid]?=h[nid]?)(e2:h'[aid]?=h[aid]?)(e3:∀q∈ps,h'[q]?=h[q]?)(hl:h.length<=h'.length:=by first | omega | (simp;done) | (simp;omega)):NA w post base nid aid ps h' N:=
 {hN with o:=e1.trans hN.o,a:=e2.trans hN.a,p:=λk x q hx hq h0=>(e3 q (lMo hq)).trans (hN.p k x q hx hq h0),b4:=λq hq=>by obtain⟨el,e⟩:=hN.b4 q hq;exact⟨el,(e3 q hq).trans e⟩,bl:=λj hj=>Nat.lt_of_lt_of_le (hN.bl j hj) hl}
theorem NA.app(hN:NA w post base nid aid ps h N)(ex:List qC):NA w post base nid aid ps (h++ex) N:=
 hN.heap (gAl hN.lt) (gAl hN.lta) λq hq=>gAl (hN.ltp hq)
theorem NE.app(hN:NE w post base nid h N)(ex:List qC):NE w post base nid (h++ex) N:=by
 obtain⟨aid,ps,hN⟩:=hN;exact⟨aid,ps,hN.app ex⟩
theorem NE.keep(hN:NE w post base nid h N)(hk:Keep (Lo h.length) h h'):NE w post base nid h' N:=by
 obtain⟨aid,ps,hN⟩:=hN;exact⟨aid,ps,hN.heap (hk.k _ hN.lt) (hk.k _ hN.lta) (λq hq=>hk.k _ (hN.ltp hq)) hk.l⟩
theorem Keep.up{b c:Nat->Prop}{h h':List qC}(hb:∀j,b j->c j)(hk:Keep c h h'):Keep b h h':=⟨hk.l,λj hj=>hk.k j (hb j hj)⟩
theorem NA.write(hN:NA w post base nid aid ps h N){a s q0:Nat}{x:qB}{r:qE}(hx:N[a]?=some x)(hq:ps[a]?=some q0):
  NA w post base nid aid ps (h.set q0 (.row 2 ((x.Ports.set s r).map qE.enc) true)) (w6 N (pt a s) r):=by
 have hm:=lMo hq;have h0:=hN.ltp hm;have e1:nid≠q0:=λe=>hN.n2 (e▸hm);have e2:aid≠q0:=λe=>hN.n3 (e▸hm);refine⟨?_, ?_,by rw[W3];exact hN.l,λk y q hy hq' h00=>?_,hN.nd,hN.n1,hN.n2,hN.n3,hN.b1,hN.b2,hN.b3,λq hq'=>by
  by_cases e:q=q0
  ·subst e;exact⟨_,gSs h0⟩
  ·rw[gSn (Ne.symm e)];exact hN.b4 q hq',λj hj=>by rw[lLs];exact hN.bl j hj⟩
 ·rw[gSn (Ne.symm e1),W3];exact hN.o
 ·rw[gSn (Ne.symm e2),qcK (X4 N (pt a s) r)];exact hN.a
 ·rw[W2 hx]at hy;by_cases hk:k=a
  ·subst hk;rw[hq]at hq';cases hq';rw[gSs (qR hx)]at hy;cases hy;rw[gSs h0]
  ·rw[gSn (λe=>hk e.symm)]at hy;have:q0≠q:=by
    intro e;subst e;have k1:=qR hq;have k2:=qR hq';have f1:=(gSi.1 hq).2;have f2:=(gSi.1 hq').2;exact hk (((List.getElem_inj hN.nd).1 (f1.trans f2.symm)).symm)
   rw[gSn this];exact hN.p k y q hy hq' h00
theorem NA.push(hN:NA w post base nid aid ps h N){x:qB}{q:Nat}(hq:h[q]?=some (.row 2 (x.Ports.map qE.enc) true))(b:¬base q)(q1:q≠nid)(q2:q≠aid)(q3:q∉ps){h2:List qC}
  (e1:h2[nid]?=some (.row w [.agg (sQ 5 h.length (N.length+1)::post)] true)) (e2:h2[h.length]?=some (.row 5 (zC N ps++[encR x q]) true)) (e3:∀j,j<h.length->j≠nid->j≠aid->h2[j]?=h[j]?):
  NA w post base nid h.length (ps++[q]) h2 (N++[x]):=by
 have k0:=hN.lt;have k1:=hN.lta;have k2:=qR hq;refine⟨by simpa using e1,by rw[qB8 hN.l];exact e2,by simp[hN.l],λk y r hy hr h00=>?_, ?_,by omega, ?_, ?_,hN.b1,λq=>Nat.lt_irrefl _ (hN.bl _ q), ?_, ?_,λj hj=>Nat.lt_trans (hN.bl j hj) (qR e2)⟩
 ·rcases Nat.lt_or_ge k N.length with hk | hk
  ·rw[gAl hk]at hy;rw[gAl (by rw[hN.l];exact hk)]at hr;have hm:=lMo hr;rw[e3 r (hN.ltp hm) (λe=>hN.n2 (e▸hm)) (λe=>hN.n3 (e▸hm))];exact hN.p k y r hy hr h00
  ·rw[gAr hk]at hy;rw[gAr (by rw[hN.l];exact hk),hN.l]at hr;have:k-N.length=0:=by have:=qR hy;simp at this;omega
   rw[this]at hy hr;cases hy;cases hr;rw[e3 q k2 q1 q2];exact hq
 ·rw[List.nodup_append];exact⟨hN.nd,by simp,λa ha b hb=>by simp at hb;subst hb;intro e;exact q3 (e▸ha)⟩
 ·simp only[zw,lMg,not_or];exact⟨hN.n2,Ne.symm q1⟩
 ·simp only[zw,lMg,not_or];exact⟨λe=>by have:=hN.ltp e;omega,by omega⟩
 ·intro r hr;rcases zw.1 hr with hr | hr
  ·exact hN.b3 r hr
  ·simp at hr;subst hr;exact b
 ·have k3:=qR e2;intro r hr;rcases zw.1 hr with hr | hr
  ·obtain⟨el,e⟩:=hN.b4 r hr;have hl:=qR e;exact⟨el,by rw[e3 r hl (λe=>hN.n2 (e▸hr)) (λe=>hN.n3 (e▸hr))];exact e⟩
  ·simp at hr;subst hr;exact⟨_,by rw[e3 _ k2 q1 q2];exact hq⟩
end
theorem zS{a s:Int}:Pure Gm 952 [iI a,iI s] ((⟨a,s⟩:qE).enc):=by
 refine pJ F952 ?_;simp only[F952,qM,go_sem];refine lsA ?_;simp only[go_sem];exact qO qE.tr rfl
section
variable {w:Nat} {post:List AV} {base:Nat->Prop} {nid:Nat} {h:List qC} {N:Ags} {K:AV->List qC->Prop} {a s c k:Nat}
theorem zH{len id a:Nat}(h:a<len):idx 5 (some (sQ 5 id len)) (some (iI (a:Int)))=some (.ptr id a 0):=by rw[zQ h,nZa]
theorem JW{len id a:Nat}(h:a<len):idx 2 (some (sQ 2 id len)) (some (iI (a:Int)))=some (.ptr id a 0):=by rw[zQ h,nZa]
theorem Xt{x:qB}{s:Nat}(h:s<x.Ports.length):(x.Ports.map qE.enc)[s]?=some (x.Ports[s].enc):=by rw[gMp,gEg h];rfl
theorem U6{p q:qE}:p.enc.put 0 q.enc=some q.enc:=by cases p;cases q;rfl
theorem KL{x:qB}{s:Nat}{q:qE}:(x.Ports.map qE.enc).set s q.enc=(x.Ports.set s q).map qE.enc:=by rw[List.map_set]
theorem s490(hN:NE w post base nid h N)(hp:Has N a s)(hK:K (z6 N (pt a s)).enc h):SCall Gm 490 [.ptr nid 0 0,(pt a s).enc] h K:=by
 obtain⟨aid,ps,hN⟩:=hN;obtain⟨x,hx,hs⟩:=jX.1 hp;obtain⟨q,hq,ha,hr,hv⟩:=hN.at hx (Nat.zero_lt_of_lt hs);have e:z6 N (pt a s)=x.Ports[s]:=Wq (jd.2 ⟨x,hx,gEg hs⟩);rw[e]at hK;refine sI F490 ?_;simp only[F490,qM,go_sem];refine qZ rfl ?_;simp only[go_sem,hN.o,pt,zH (qR hx),hN.a,ha,hv,JW hs,hr,Xt hs];refine lsA ?_;simp only[go_sem];exact hK
theorem X2(hN:NE w post base nid h N)(h1:Has N a s)(h2:Has N c k)(hK:∀h',NE w post base nid h' (ze N (pt a s) (pt c k))->Keep base h h'->K (.tup []) h'):SCall Gm 491 [.ptr nid 0 0,(pt a s).enc,(pt c k).enc] h K:=by
 obtain⟨aid,ps,hN⟩:=hN;obtain⟨x,hx,hs⟩:=jX.1 h1;obtain⟨q,hq,ha,hr,hv⟩:=hN.at hx (Nat.zero_lt_of_lt hs);have b1:=hN.b3 _ (lMo hq);have hN1:=hN.write (s:=s) (r:=pt c k) hx hq;obtain⟨y,hy,hk⟩:=jX.1 ((X4 N (pt a s) (pt c k)).has.1 h2);obtain⟨q',hq',ha',hr',hv'⟩:=hN1.at hy (Nat.zero_lt_of_lt hk);have b2:=hN1.b3 _ (lMo hq');have hN2:=hN1.write (s:=k) (r:=pt a s) hy hq';refine sI F491 ?_;simp only[F491,qM,go_sem];refine qZ rfl ?_;simp only[go_sem];refine qZ rfl ?_;simp only[go_sem,hN.o,pt,zH (qR hx),hN.a,ha,hv,JW hs];refine qn rfl hr (Xt hs) U6 ?_;rw[KL];simp only[go_sem,hN1.o,zH (qR hy),hN1.a,ha',hv',JW hk];refine qn rfl hr' (Xt hk) U6 ?_;rw[KL];simp only[go_sem];exact hK _ ⟨aid,ps,hN2⟩ ((Keep.set b1).trans (Keep.set b2))
theorem Qd(hN:NE w post base nid h N)(h1:Has N a s)(h2:Has N c k)(h3:∃b t,z6 N (pt a s)=pt b t/\Has N b t)(hK:∀h',NE w post base nid h' (zq N (pt a s) (pt c k))->Keep base h h'->K (.tup []) h'):SCall Gm 1300 [.ptr nid 0 0,(pt a s).enc,(pt c k).enc] h K:=by
 obtain⟨b,t,e,h3⟩:=h3;refine sI kD ?_;simp only[kD,qM,go_sem];refine qZ rfl ?_;simp only[go_sem];refine qZ rfl ?_;simp only[go_sem];refine qU (s490 hN h1 ?_);simp only[go_sem,e];refine qU (X2 hN h2 h3 λh' hN' hk=>?_);simp only[go_sem];exact hK _ (by unfold zq;rw[e];exact hN') hk
theorem KE(hN:NE w post base nid h N)(h1:Has N a s)(h2:Has N c k)(h3:∃b t,z6 N (pt a s)=pt b t/\Has N b t)(h4:∃b t,z6 N (pt c k)=pt b t/\Has N b t)
  (hK:∀h',NE w post base nid h' (jf N (pt a s) (pt c k))->Keep base h h'->K (.tup []) h'):SCall Gm 1298 [.ptr nid 0 0,(pt a s).enc,(pt c k).enc] h K:=by
 obtain⟨b,t,e,h3⟩:=h3;obtain⟨b',t',e',h4⟩:=h4;refine sI K8 ?_;simp only[K8,qM,go_sem];refine qZ rfl ?_;simp only[go_sem];refine qZ rfl ?_;simp only[go_sem];refine qU (s490 hN h1 ?_);simp only[go_sem,e];refine lsA ?_;simp only[go_sem];refine qU (s490 hN h2 ?_);simp only[go_sem,e'];refine lsA ?_;simp only[go_sem];apply qI<;>intro hc<;>simp only[hc,go_sem]
 ·refine qU (X2 hN h3 h4 λh' hN' hk=>?_);simp only[go_sem];refine hK _ ?_ hk;unfold jf;rw[e,e',if_neg (λq=>by rw[q]at hc;simp at hc)];exact hN'
 ·refine hK _ ?_ Keep.refl;unfold jf;rw[e,if_pos (by simpa using hc)];exact hN
end
theorem Uw{b:Nat->Prop}{pid w:Nat}{h g:List qC}{el:List AV}{x:AV}{tmp:qC}(hk:Keep b h g)(hh:∀j,b j->j<h.length)(hb:¬b pid)(h1:g[pid]?=some (.row w el true)):
  Keep b h (((g++[tmp]).set pid .dead)++[.row w (el++[x]) true])/\(((g++[tmp]).set pid .dead)++[.row w (el++[x]) true])[g.length+1]?=some (.row w (el++[x]) true):=by
 have hl:=hk.l;refine⟨⟨by simp;omega,λj hj=>?_⟩, ?_⟩
 ·have:=hh j hj;rw[gAl (by simp;omega),gSn (nbe hb hj),gAl (by omega)];exact hk.k j hj
 ·rw[gAr (by simp)];simp
theorem Qb{pid w:Nat}{g:List qC}{el:List AV}{tmp:qC}(h1:g[pid]?=some (.row w el true)):(g++[tmp])[pid]?=some (.row w el true)/\(g++[tmp])[g.length]?=some tmp:=by
 exact⟨by rw[gAl (qR h1)];exact h1,by simp⟩
theorem Xu{a b c d:Nat}{e:Bool}{v:AV}{post:List AV}:(AV.agg (v::post)).put 0 (.slice a b c d e)=some (.agg (.slice a b c d e::post)):=by simp[AV.put,AV.cells]
theorem NA.pushed{base:Nat->Prop}{w nid aid b:Nat}{post:List AV}{ps:List Nat}{g:List qC}{N:Ags}{x:qB}{q:Nat}{tmp:qC}(hN:NA w post base nid aid ps g N)(hq:g[q]?=some (.row 2 (x.Ports.map qE.enc) true))(hb:¬base q)(b1:b<=q)
  (b2:∀{r},r∈ps->r<b) (b3:nid<b) (b4:aid<b):
  (((g++[tmp]).set aid .dead)++[qC.row 5 (zC N ps++[encR x q]) true])[nid]?=some (.row w [.agg (sQ 5 aid N.length::post)] true)/\
  NA w post base nid (g.length+1) (ps++[q]) ((((g++[tmp]).set aid .dead)++[qC.row 5 (zC N ps++[encR x q]) true]).set nid (.row w [.agg (sQ 5 (g.length+1) (N.length+1)::post)] true)) (N++[x])/\
  Keep base g ((((g++[tmp]).set aid .dead)++[qC.row 5 (zC N ps++[encR x q]) true]).set nid (.row w [.agg (sQ 5 (g.length+1) (N.length+1)::post)] true)):=by
 have k0:=hN.lt;have k1:=hN.lta;have k2:=qR hq;have n1:=hN.n1;have hl:=hN.bl;have c1:=hN.b1;have c2:=hN.b2;refine⟨?_, ?_,⟨by simp;omega,λj hj=>?_⟩⟩
 ·rw[gAl (by simp;omega),gSn (by omega),gAl k0];exact hN.o
 ·have hN':NA w post base nid aid ps (g++[tmp]) N:=hN.app _;have:=hN'.push (x:=x) (q:=q) (h2:=(((g++[tmp]).set aid .dead)++[qC.row 5 (zC N ps++[encR x q]) true]).set nid (.row w [.agg (sQ 5 (g.length+1) (N.length+1)::post)] true))
   (by rw[gAl k2];exact hq) hb (by omega) (by omega) (λhm=>by have:=b2 hm;omega) ?_ ?_ ?_
  ·simpa using this
  ·rw[gSs (by simp;omega)];simp
  ·rw[gSn (by simp;omega),gAr (by simp)];simp
  ·intro j hj j1 j2;rw[gSn (Ne.symm j1),gAl (by simpa using hj),gSn (Ne.symm j2)]
 ·have:=hl j hj;rw[gSn (nbe c1 hj),gAl (by simp;omega),gSn (nbe c2 hj),gAl (by omega)]
abbrev zp:qE:=⟨0,0⟩
theorem qfQ{i:Nat}:List.replicate i zp.enc++[zp.enc]=List.replicate (i+1) zp.enc:=by rw[List.replicate_succ']
section
variable {w:Nat} {post:List AV} {base:Nat->Prop} {nid:Nat} {h:List qC} {N:Ags} {K:AV->List qC->Prop} {a s c k:Nat}
theorem KH{kk lv v:Int}{d:List Int}{n:Nat}(hN:NE w post base nid h N)(hd:d.length<=1048576)(hn:n<=1048576)(hl:N.length<=1048576)
  (hK:∀h',NE w post base nid h' (N++[qS kk lv v d n])->Keep base h h'->K (iI (N.length:Nat)) h') (h0:0<n:=by omega):SCall Gm 949 [.ptr nid 0 0,iI kk,iI lv,iI v,lQ d,iI (n:Nat)] h K:=by
 have hbl:=hN.bl;refine sI F949 ?_;simp only[F949,qM,go_sem];refine qL (c402 d (by omega)) ?_;simp only[go_sem];refine lsA ?_;simp only[go_sem];refine Sem.loop (α:=Nat×List qC×Nat) (λq=>q.1<=n/\Keep (Lo h.length) h q.2.1/\h.length<=q.2.2/\q.2.1[q.2.2]?=some (.row 2 (List.replicate q.1 zp.enc) true))
  (λq=>(⟨[(0,.ptr nid 0 0),(14,iI ((n-q.1:Nat):Int))],[(13,.agg [iI kk,iI lv,iI v,lQ d,sQ 2 q.2.2 q.1])],q.2.1⟩:VSt)) (λq=>n-q.1) (0,h++[.row 2 [] true],h.length) (by kernel_rfl)
  ⟨nZl _,Keep.app (λ_ q=>q),nLr _,by simp⟩
  (Can.ph (WkN.same rfl (WkN.same rfl WkN.nil)) (WkN.cons rfl (Wk.agg (Wks.same (Wks.same (Wks.same (Wks.same (.cons (Wk.ph (by simp)) .nil)))))) WkN.nil)) ?_
 rintro⟨i,g,pid⟩ ⟨hi,hk,hp,hr⟩;simp only at hi hk hp hr;simp only[go_sem];apply qI<;>intro hc<;>simp only[hc,go_sem]
 ·have hlt:i<n:=by have:=odT hc;omega
  obtain⟨r1,r2⟩:=Qb (tmp:=.row 2 [zp.enc] true) hr;refine jO r2 r1 (by simp) (by omega) ?_;simp only[lAp,nZa,go_sem];have e1:IntKind.i64.wrap (((n-i:Nat):Int)-1)=((n-(i+1):Nat):Int):=by rw[wsA];omega
  simp only[e1];obtain⟨q1,q2⟩:=Uw (x:=zp.enc) (tmp:=.row 2 [zp.enc] true) hk (λ_ q=>q) (Nat.not_lt.2 hp) hr;rw[qfQ]at q1 q2;rw[qfQ];refine qb (i+1,_,g.length+1) ⟨hlt,q1,by have:=hk.l;simp only;omega,q2⟩ (by simp only;omega) (Can.sub ?_ ?_)<;>simp[go_sem]
 ·have:i=n:=by have:=odF hc;omega
  subst this;obtain⟨aid,ps,hN0⟩:=hN;have k0:=hN0.lt;have k1:=hN0.lta;have hN1:NA w post base nid aid ps g N:=hN0.heap (hk.k _ k0) (hk.k _ k1) (λq hq=>hk.k _ (hN0.ltp hq)) hk.l;have eX:encR (qS kk lv v d i) pid=.agg [iI kk,iI lv,iI v,lQ d,sQ 2 pid i]:=by simp only[encR,qS,pv,lLr];rw[if_neg (by omega)]
  obtain⟨r1,r2⟩:=Qb (tmp:=.row 5 [.agg [iI kk,iI lv,iI v,lQ d,sQ 2 pid i]] true) hN1.a;have hl5:=Ql hN0.l;simp only[hN1.o,go_sem];refine jO r2 r1 hl5 (by omega) ?_;obtain⟨h2,e2,e3⟩:=hN1.pushed (x:=qS kk lv v d i) (q:=pid) (tmp:=.row 5 [.agg [iI kk,iI lv,iI v,lQ d,sQ 2 pid i]] true) (by rw[hr];simp[qS]) (λq=>by have:=hbl _ q;omega) hp (λq=>hN0.ltp q) k0 k1;rw[eX]at h2 e2 e3;simp only[lAp,nZa,go_sem];refine qn rfl h2 rfl Xu ?_;simp only[lSz];generalize hg:List.set _ _ _=h3;rw[hg]at e2 e3;simp only[go_sem,e2.o];have e5:IntKind.i64.wrap (((N.length+1:Nat):Int)-1)=((N.length:Nat):Int):=by rw[wsA];omega
  simp only[lAp,nZa,e5,go_sem];exact hK _ ⟨_,_,e2⟩ ((Keep.up hbl hk).trans e3)
end
theorem qj8{x:qB}{q:Nat}(h:x.Ports.length=0):encR x q=x.enc:=by
 unfold encR pv qB.enc;rw[if_pos h,lEz h];rfl
section
variable {w:Nat} {post:List AV} {base:Nat->Prop} {nid aid:Nat} {ps:List Nat} {h:List qC} {N:Ags} {K:AV->List qC->Prop} {a s c k:Nat}
abbrev hole:qB:=⟨0,0,0,[],[]⟩
theorem qk9:Wk [] (.agg [iI 0,iI 0,iI 0,.nils,.nils]) hole.enc:=.agg (Wks.same (Wks.same (Wks.same (.cons .nilL (.cons .nilL .nil)))))
theorem Wks.setA{xs:List AV}{i:Nat}{a b:AV}(h:Wk [] a b):Wks [] (xs.set i a) (xs.set i b):=by
 induction xs generalizing i with
 | nil=>exact .nil
 | cons x xs ih=>cases i with
  | zero=>exact .cons h (Wks.refl _)
  | succ i=>exact .same ih
theorem qcL:∀{N:Ags}{ps:List Nat}{a:Nat},ps.length=N.length->(zC N ps).set a hole.enc=zC (N.set a hole) ps
 |[],[],_,_=>rfl
 |[],_::_,_,h=>by simp at h
 | _::_,[],_,h=>by simp at h
 | x::N,q::ps,0,_=>rfl
 | x::N,q::ps,a+1,h=>by
  simp only[zC,List.set_cons_succ];rw[qcL (N:=N) (ps:=ps) (by simpa using h)]
theorem qf7(hN:NE w post base nid h N)(ha:a<N.length)(hK:∀h',NE w post base nid h' (N.set a hole)->Keep base h h'->K (.tup []) h'):SCall Gm 1304 [.ptr nid 0 0,iI (a:Nat)] h K:=by
 obtain⟨aid,ps,hN⟩:=hN;have hl:=hN.l;have e0:(zC N ps)[a]?=some (encR N[a] ps[a]):=Qk (gEg ha) (gEg (by omega));refine SCall.runW [] [] (gk _ kK) (by kernel_rfl) rfl ?_;simp only[kK,qM,go_sem,hN.o,zH ha];refine qn (e:=encR N[a] ps[a]) (e':=.agg [iI 0,iI 0,iI 0,.nils,.nils]) rfl hN.a e0 rfl ?_;simp only[go_sem];refine⟨_,_,Wk.refl _,WkH.set (Wks.setA qk9),hK _ ⟨aid,ps, ?_, ?_,by rw[lLs];exact hl,λk x q hx hq h00=>?_,hN.nd,hN.n1,hN.n2,hN.n3,hN.b1,hN.b2,hN.b3,λq hq=>by rw[gSn (λe=>hN.n3 (by rw[e];exact hq))];exact hN.b4 q hq,λj hj=>by rw[lLs];exact hN.bl j hj⟩ (Keep.set hN.b2)⟩
 ·rw[gSn (Ne.symm hN.n1),lLs];exact hN.o
 ·rw[gSs (qR hN.a),qcL hl]
 ·have hk:k≠a:=λe=>by
   subst e;rw[gSs ha]at hx;cases hx;simp at h00
  rw[gSn (Ne.symm hk)]at hx;have hm:=lMo hq;rw[gSn (λe=>hN.n3 (by rw[e];exact hm))];exact hN.p k x q hx hq h00
end
def hiI(xs:Ags):Int:=xs.foldl (λm x=>if x.Level<m then m else x.Level) 0
def Jh(xs:Ags):Nat:=(xs.filter λx=>decide (x.Kind≠0)).length
theorem qk8{xs:Ags}{i:Nat}(h:i<xs.length):hiI (xs.take (i+1))=if xs[i].Level<hiI (xs.take i)then hiI (xs.take i)else xs[i].Level:=by
 unfold hiI;rw[lTs h,List.foldl_append];rfl
theorem qdY{xs:Ags}{i:Nat}(h:i<xs.length):Jh (xs.take (i+1))=Jh (xs.take i)+if xs[i].Kind=0 then 0 else 1:=by
 unfold Jh;rw[lTs h,List.filter_append,lAp];by_cases e:xs[i].Kind=0<;>simp[e]
theorem ql2(xs:Ags):Jh xs<=xs.length:=List.length_filter_le _ _
def jB(c p:Int):Int×Int:=
 if c=1\/c=2 then(if inI p 0 0 then(-2,0)else(0,2))else if c=3 then(if inI p 0 3 then(p,0)else(0,2))else if c=4 then(if inI p 0 3 then(p-2,0)else(0,2))
 else if c=5 then(if inI p 0 0 then(-1,0)else(0,2))else if c=6 then(if inI p 0 3 then(p-1,0)else(0,2))else if c=7 then(if inI p 2 600 then(p-2,0)else(0,2))else(0,2)
def zP(bk:List qD)(v:Int):qD:=(bk[v.toNat]?).getD ⟨[]⟩
def jU(bk:List qD)(x y:qB)(c:Int):Int:=if c=3\/c=4 then(y.Ports.length:Int)-1 else if c=6 then fieldsOf x else if c=7 then((zP bk x.Value).Agents.length:Int)else 0
def ql(bk:List qD)(x y:qB):Int×Int:=
 if qN x y=8 then(0,11)else if qN x y=7/\(bk.length:Int)<=x.Value then(0,3)else if qN x y=7/\8<IntKind.i64.wrap (hiI (zP bk x.Value).Agents+x.Level)then(0,9)
 else((jB (qN x y) (jU bk x y (qN x y))).1,0)
theorem c856{a b:Int}:Pure Gm 856 [iI a,iI b] (iI (if b<a then a else b)):=by
 refine pJ F856 ?_;simp only[F856,qM,go_sem]
 repeat' (first | (refine qZ rfl ?_;simp only[go_sem]) | ((first | apply qk | apply qI)<;>intro hc<;>simp only[hc,go_sem]) | refine qO rfl ?_ | refine JU (by rfl) ?_)
 all_goals (simp_all<;>omega)
theorem qh1{n:qD}(hz:n.sz<=1048576):Pure Gm 1177 [.ept n.enc 0] (iI (hiI n.Agents)):=by
 refine pJ Kk ?_;simp only[Kk,qM,go_sem];unfold qD.sz at hz;refine Sem.loop (λi:Nat=>i<=n.Agents.length/\True) (λi=>(⟨[(0,.ept n.enc 0),(3,iI (hiI (n.Agents.take i))),(4,iI (i:Nat))],[],[]⟩:VSt)) (λi=>n.Agents.length-i) 0 (by kernel_rfl) ⟨nZl _,by trivial⟩ (Can.sub (by simp[go_sem,hiI]) (by simp[go_sem])) ?_;rintro i ⟨hi,hI⟩;simp only[go_sem];apply qI<;>intro hc<;>simp only[hc,go_sem]
 ·have hlt:i<n.Agents.length:=by have:=odT hc;omega
  simp only[gMp,gEg hlt,oMs,go_sem];refine qL c856 ?_;simp only[go_sem];rw[<-qk8 hlt];simp only[wuA (n:=i)];refine qb (i+1) ⟨by omega, ?_⟩ (by omega) csA;trivial
 ·obtain rfl:i=n.Agents.length:=by have:=odF hc;omega
  exact qO rfl (by rw[lTl])
theorem qbR{n:qD}(hz:n.sz<=1048576):Pure Gm 1297 [.ept n.enc 0] (iI (Jh n.Agents:Nat)):=by
 refine pJ K7 ?_;simp only[K7,qM,go_sem];unfold qD.sz at hz;refine Sem.loop (λi:Nat=>i<=n.Agents.length/\True) (λi=>(⟨[(0,.ept n.enc 0),(3,iI (Jh (n.Agents.take i):Nat)),(4,iI (i:Nat))],[],[]⟩:VSt)) (λi=>n.Agents.length-i) 0 (by kernel_rfl) ⟨nZl _,by trivial⟩ (Can.sub (by simp[go_sem,Jh]) (by simp[go_sem])) ?_;rintro i ⟨hi,hI⟩;simp only[go_sem];apply qI<;>intro hc<;>simp only[hc,go_sem]
 ·have hlt:i<n.Agents.length:=by have:=odT hc;omega
  have hv:=ql2 (n.Agents.take i);rw[lLt]at hv;have hs:=qdY hlt;clear hc;simp only[gMp,gEg hlt,oMs,go_sem];apply qI<;>intro hc<;>simp only[hc,go_sem]
  ·rw[if_neg (by simpa using hc)]at hs;simp only[QH (show Jh (n.Agents.take i)<4611686018427387904 by omega),<-hs];simp only[wuA (n:=i)];refine qb (i+1) ⟨by omega, ?_⟩ (by omega) csA;trivial
  ·have hs2:Jh (n.Agents.take i)=Jh (n.Agents.take (i+1)):=by rw[hs,if_pos (by simpa using hc)];rfl
   rw[hs2];simp only[wuA (n:=i)];refine qb (i+1) ⟨by omega, ?_⟩ (by omega) csA;trivial
 ·obtain rfl:i=n.Agents.length:=by have:=odF hc;omega
  exact qO rfl (by rw[lTl])
theorem YR{c p:Int}(h0: -1000000<=p)(h1:p<=1000000):Pure Gm 1460 [iI c,iI p] (.tup [iI (jB c p).1,iI (jB c p).2]):=by
 refine pJ qAJ ?_;simp only[qAJ,qM,go_sem];have w2:IntKind.i64.wrap (p-2)=p-2:=wsA;have w1:IntKind.i64.wrap (p-1)=p-1:=wsA;unfold jB
 repeat' (first | ((first | apply qk | apply qI)<;>intro hc<;>simp only[hc,go_sem]) | (refine qL JB ?_;simp only[go_sem]) | (refine JU (by rfl) ?_))
 all_goals simp_all
def QZ(x y:qB):qB×qB:=if zI x y then(y,x)else(x,y)
theorem qh7{bk:List qD}{n:qD}{a b:Nat}(ha:a<n.Agents.length)(hb:b<n.Agents.length)(hs:∀x∈n.Agents,x.sz<=600000)(hbk:∀t∈bk,t.sz<=600000)(hv:qN (QZ n.Agents[a] n.Agents[b]).1 (QZ n.Agents[a] n.Agents[b]).2=7->0<=(QZ n.Agents[a] n.Agents[b]).1.Value):Pure Gm 1296 [.lst 1 (bk.map qD.enc) false,.ept n.enc 0,iI (a:Int),iI (b:Int)] (.tup [iI (ql bk (QZ n.Agents[a] n.Agents[b]).1 (QZ n.Agents[a] n.Agents[b]).2).1,iI (ql bk (QZ n.Agents[a] n.Agents[b]).1 (QZ n.Agents[a] n.Agents[b]).2).2]):=by
 refine pI K6 (by simp[AV.trees,AV.tree,go_sem];exact qa qD.isSh.tree _) rfl ?_;simp only[K6,qM,go_sem];refine qL (c743 ha hb) ?_;obtain⟨a',b',hA,hB,e1,e2⟩:∃(a' b':Nat)(ha':a'<n.Agents.length)(hb':b'<n.Agents.length),(if zI n.Agents[a] n.Agents[b]then AV.tup [iI (b:Int),iI (a:Int)]else .tup [iI (a:Int),iI (b:Int)])=.tup [iI (a':Int),iI (b':Int)]/\
   QZ n.Agents[a] n.Agents[b]=(n.Agents[a'],n.Agents[b']):=by
  unfold QZ;by_cases q:zI n.Agents[a] n.Agents[b]=true
  ·exact⟨b,a,hb,ha,by rw[if_pos q],by rw[if_pos q]⟩
  ·exact⟨a,b,ha,hb,by rw[if_neg q],by rw[if_neg q]⟩
 rw[e1,e2];rw[e2]at hv;simp only[go_sem];simp only[gMp,gEg hA,oMs,go_sem];simp only[gMp,gEg hB,oMs,go_sem];have x1:=hs _ (gMm hA);have y1:=hs _ (gMm hB);generalize n.Agents[a']=x at x1 hv|-;generalize n.Agents[b']=y at y1 hv|-;unfold qB.sz at x1 y1;clear e1 e2;refine qL c744 ?_;simp only[go_sem];apply qI<;>intro hc<;>simp only[hc,go_sem]
 ·have e:qN x y=8:=by simpa using hc
  exact JU rfl (by unfold ql;rw[if_pos e])
 have n8:qN x y≠8:=by simpa using hc
 clear hc;have fin:∀p:Int,jU bk x y (qN x y)=p->-1000000<=p->p<=1000000->¬(qN x y=7/\(bk.length:Int)<=x.Value)->¬(qN x y=7/\8<IntKind.i64.wrap (hiI (zP bk x.Value).Agents+x.Level))->
   ql bk x y=((jB (qN x y) p).1,0):=λp e _ _ q1 q2=>by
  unfold ql;rw[if_neg n8,if_neg q1,if_neg q2,e]
 apply qI<;>intro hc<;>simp only[hc,go_sem]
 ·have e:qN x y=3:=by simpa using hc
  rw[wsA];refine qL (YR (by omega) (by omega)) ?_;simp only[go_sem];exact JU rfl (by rw[fin ((y.Ports.length:Int)-1) (by unfold jU;rw[if_pos (.inl e)]) (by omega) (by omega) (by omega) (by omega)])
 have n3:qN x y≠3:=by simpa using hc
 clear hc;apply qI<;>intro hc<;>simp only[hc,go_sem]
 ·have e:qN x y=4:=by simpa using hc
  rw[wsA];refine qL (YR (by omega) (by omega)) ?_;simp only[go_sem];exact JU rfl (by rw[fin ((y.Ports.length:Int)-1) (by unfold jU;rw[if_pos (.inr e)]) (by omega) (by omega) (by omega) (by omega)])
 have n4:qN x y≠4:=by simpa using hc
 clear hc;have n34:¬(qN x y=3\/qN x y=4):=by omega
 apply qI<;>intro hc<;>simp only[hc,go_sem]
 ·have e:qN x y=6:=by simpa using hc
  refine qL (qBK (by omega)) ?_;simp only[go_sem];have f: -1000000<=fieldsOf x/\fieldsOf x<=1000000:=by unfold fieldsOf;split<;>omega
  refine qL (YR f.1 f.2) ?_;simp only[go_sem];exact JU rfl (by rw[fin (fieldsOf x) (by unfold jU;rw[if_neg n34,if_pos e]) (by omega) (by omega) (by omega) (by omega)])
 have n6:qN x y≠6:=by simpa using hc
 clear hc;apply qI<;>intro hc<;>simp only[hc,go_sem]
 ·have e:qN x y=7:=by simpa using hc
  have v0:=hv e;simp only at v0;apply qI<;>intro hc<;>simp only[hc,go_sem]
  ·exact JU rfl (by unfold ql;rw[if_neg n8,if_pos ⟨e,by simpa using hc⟩])
  have hlt:x.Value.toNat<bk.length:=by have:=odF hc;omega
  have et:zP bk x.Value=bk[x.Value.toNat]:=by unfold zP;rw[gEg hlt];rfl
  have hz:=hbk _ (gMm hlt);have q1:¬(qN x y=7/\(bk.length:Int)<=x.Value):=by have:=odF hc;omega
  clear hc;simp only[Qn v0,gMp,gEg hlt,oMs,go_sem];refine qL (qh1 (by omega)) ?_;simp only[go_sem];rw[<-et];apply qI<;>intro hc<;>simp only[hc,go_sem]
  ·exact JU rfl (by unfold ql;rw[if_neg n8,if_neg q1,if_pos ⟨e,by simpa using hc⟩])
  have hz2:(zP bk x.Value).Agents.length<=600000:=by rw[et];unfold qD.sz at hz;omega
  refine qL (YR (by omega) (by omega)) ?_;simp only[go_sem];exact JU rfl (by rw[fin ((zP bk x.Value).Agents.length:Int) (by unfold jU;rw[if_neg n34,if_neg n6,if_pos e]) (by omega) (by omega) q1 (by have:=odF hc;omega)])
 ·have n7:qN x y≠7:=by simpa using hc
  refine qL (YR (by omega) (by omega)) ?_;simp only[go_sem];exact JU rfl (by rw[fin 0 (by unfold jU;rw[if_neg n34,if_neg n6,if_neg n7]) (by omega) (by omega) (by omega) (by omega)])
def J7(lab:Int)(c d:Nat):Nat->Ags->Ags
 | 0,N=>N
 | i+1,N=>ze (ze (J7 lab c d i N++[qS 4 lab 0 [] 3]) (pt (J7 lab c d i N).length 1) (pt c (i+1))) (pt (J7 lab c d i N).length 2) (pt d (i+1))
def jz(b f s:Nat):Nat->Ags->Ags
 | 0,N=>N
 | i+1,N=>zq (jz b f s i N) (pt b (i+1)) (pt (f+(i+1)) s)
def wJ(N:Ags)(y:qB):Ags:=(N++[qS y.Kind y.Level y.Value y.Data y.Ports.length])++[qS y.Kind y.Level y.Value y.Data y.Ports.length]
def zG(N:Ags)(x y:qB)(i:Nat):Ags:=J7 x.Level N.length (N.length+1) i (wJ N y)
def Zj(N:Ags)(a:Nat)(x y:qB):Ags:=zq (zG N x y (y.Ports.length-1)) (pt a 1) (pt N.length 0)
def Ya(N:Ags)(a:Nat)(x y:qB):Ags:=zq (Zj N a x y) (pt a 2) (pt (N.length+1) 0)
def QN(N:Ags)(a b:Nat)(x y:qB)(i:Nat):Ags:=jz b (N.length+1) 0 i (Ya N a x y)
def Qj(N:Ags)(a b:Nat)(x y:qB):Ags:=QN N a b x y (y.Ports.length-1)
def jo(b:Nat):Nat->Ags->Ags
 | 0,N=>N
 | i+1,N=>zq (jo b i N++[qS 5 0 0 [] 1]) (pt b (i+1)) (pt (jo b i N).length 0)
def Xq(v:Int)(N:Ags)(b:Nat):Ags:=zq (N++[qS 6 0 v [] 1]) (pt b 1) (pt N.length 0)
def Wj(N:Ags)(b:Nat)(x y:qB):Ags:=zq (N++[qS 8 y.Level y.Value [x.Value] 2]) (pt b 1) (pt N.length 0)
def Z9(N:Ags)(b:Nat)(x y:qB):Ags:=zq (Wj N b x y) (pt b 2) (pt N.length 1)
def Xv(lev v:Int)(N:Ags)(b:Nat):Ags:=zq (N++[qS 12 lev v [] 1]) (pt b 1) (pt N.length 0)
def zU(i:Nat):Nat:=if i=0 then 0 else 2
abbrev J6(c i:Nat):qE:=pt (c+i) (zU i)
def XH(lev:Int)(a c:Nat):Nat->Ags->Ags
 | 0,N=>N
 | i+1,N=>zq (ze (XH lev a c i N++[qS 3 lev 0 [] 3]) (J6 c i) (pt (XH lev a c i N).length 0)) (pt a (i+1)) (pt (XH lev a c i N).length 1)
def zR(lev:Int)(c:Nat):Nat->Ags->Ags
 | 0,N=>N
 | i+1,N=>ze (zR lev c i N++[qS 3 lev 0 [] 3]) (pt (zR lev c i N).length 0) (J6 c i)
def zF(lev base:Int)(x:qB):qB:={x with Level:=if wx x.Kind then x.Level+lev else x.Level,Ports:=x.Ports.map λp=>⟨p.Agent+base,p.Slot⟩}
def jJ(N:Ags)(t:qD)(lev:Int):Ags:=N++(t.Agents.drop 1).map (zF lev ((N.length:Int)-1))
section
variable {N:Ags} {a b c d:Nat} {x y:qB} {lab lev:Int} {X:Nat->Nat->Prop}
theorem UL:∀{i:Nat},SameA (N++List.replicate i (qS 4 lab 0 [] 3)) (J7 lab c d i N)
 | 0=>by simp[J7,SameA]
 | i+1=>by
  rw[List.replicate_succ',<-lAa];exact((UL (i:=i)).app (SameA.refl _)).trans ((zo _ _ _).trans (zo _ _ _))
theorem qcU{i:Nat}:(J7 lab c d i N).length=N.length+i:=by rw[(UL (N:=N)).len];simp
theorem Qt{f s:Nat}:∀{i:Nat},SameA N (jz b f s i N)
 | 0=>SameA.refl _
 | i+1=>(Qt (i:=i)).trans (JH _ _ _)
theorem XR:∀{i:Nat},SameA (N++List.replicate i (qS 5 0 0 [] 1)) (jo b i N)
 | 0=>by simp[jo,SameA]
 | i+1=>by
  rw[List.replicate_succ',<-lAa];exact((XR (i:=i)).app (SameA.refl _)).trans (JH _ _ _)
theorem UG{i:Nat}:(jo b i N).length=N.length+i:=by rw[(XR (N:=N)).len];simp
theorem qa4:∀{i:Nat},SameA (N++List.replicate i (qS 3 lev 0 [] 3)) (XH lev a c i N)
 | 0=>by simp[XH,SameA]
 | i+1=>by
  rw[List.replicate_succ',<-lAa];exact((qa4 (i:=i)).app (SameA.refl _)).trans ((zo _ _ _).trans (JH _ _ _))
theorem YO:∀{i:Nat},SameA (N++List.replicate i (qS 3 lev 0 [] 3)) (zR lev c i N)
 | 0=>by simp[zR,SameA]
 | i+1=>by
  rw[List.replicate_succ',<-lAa];exact((YO (i:=i)).app (SameA.refl _)).trans (zo _ _ _)
theorem qhF{i:Nat}:(zR lev c i N).length=N.length+i:=by rw[(YO (N:=N)).len];simp
theorem UQ{i j s n:Nat}{k l v:Int}{e:List Int}(h:j<i)(hs:s<n):Has (N++List.replicate i (qS k l v e n)) (N.length+j) s:=
 jX.2 ⟨qS k l v e n,by rw[gAr (by omega)];simp[h],by simpa[qS]using hs⟩
theorem WU:(wJ N y).length=N.length+2:=by simp[wJ]
theorem qB2{s:Nat}(hs:s<y.Ports.length):Has (wJ N y) N.length s/\Has (wJ N y) (N.length+1) s:=by
 refine⟨(zd hs).app, ?_⟩;have:=zd (N:=N++[qS y.Kind y.Level y.Value y.Data y.Ports.length]) (k:=y.Kind) (l:=y.Level) (v:=y.Value) (d:=y.Data) hs;simpa[wJ]using this
theorem qjY(h:W N X):W (wJ N y) λb t=>(X b t/\b<N.length)\/N.length<=b:=by
 refine((h.add _).add _).mono λb t hb=>?_;have:=hb.lt;simp only[lAp,lCo,lNi]at this|-;constructor
 ·rintro(⟨⟨q,q1⟩ | q,q2⟩ | q)
  ·exact .inl ⟨q,q1⟩
  ·exact .inr (by omega)
  ·exact .inr (by omega)
 ·rintro(⟨q,q1⟩ | q)
  ·exact .inl ⟨.inl ⟨q,q1⟩,by omega⟩
  ·by_cases e:b=N.length
   ·exact .inl ⟨.inr e,by omega⟩
   ·exact .inr (by omega)
theorem Has.same{A B:Ags}(hs:SameA A B)(h:Has A a c):Has B a c:=hs.has.1 h
theorem qcJ(h:W N X):∀{i:Nat},i+1<=y.Ports.length->W (zG N x y i) λb t=>(X b t/\b<N.length)\/(N.length<=b/\b<=N.length+1/\(t=0\/i<t))\/(N.length+2<=b/\t=0)
 | 0,_=>(qjY h).mono λb t hb=>by
   have:=hb.lt;rw[WU]at this;constructor
   ·rintro(q | q)
    ·exact .inl q
    ·exact .inr (.inl ⟨q,by omega,by omega⟩)
   ·rintro(q | q | q)
    ·exact .inl q
    ·exact .inr q.1
    ·exact .inr (by omega)
 | i+1,hi=>by
  have ih:=qcJ h (i:=i) (by omega);have hl:(zG N x y i).length=N.length+2+i:=by unfold zG;rw[qcU,WU]
  have s1:SameA (wJ N y++List.replicate i (qS 4 x.Level 0 [] 3)) (zG N x y i):=UL;have h1:=(qB2 (N:=N) (y:=y) (s:=i+1) (by omega));have hc1:Has (zG N x y i++[qS 4 x.Level 0 [] 3]) N.length (i+1):=(h1.1.app.same s1).app;have hd1:Has (zG N x y i++[qS 4 x.Level 0 [] 3]) (N.length+1) (i+1):=(h1.2.app.same s1).app;have hf1:Has (zG N x y i++[qS 4 x.Level 0 [] 3]) (zG N x y i).length 1:=zd (by omega);have hf2:Has (zG N x y i++[qS 4 x.Level 0 [] 3]) (zG N x y i).length 2:=zd (by omega);have w1:=(ih.add (qS 4 x.Level 0 [] 3)).link hf1 hc1 (.inr rfl) (.inl ⟨.inr (.inl ⟨by omega,by omega,by omega⟩),by omega⟩) (by omega);have w2:=w1.link (hf2.same (zo _ _ _)) (hd1.same (zo _ _ _)) ⟨.inr rfl,by omega,by omega⟩ ⟨.inl ⟨.inr (.inl ⟨by omega,by omega,by omega⟩),by omega⟩,by omega,by omega⟩ (by omega);refine w2.mono λb t hb=>?_;have ht:b=(zG N x y i).length->t<3:=by
   intro e;have hb':=((zo _ _ _).trans (zo _ _ _)).has.2 hb;rw[e]at hb';obtain⟨z,hz,hz2⟩:=jX.1 hb';rw[gAr (by omega),nSs]at hz;cases hz;simpa[qS]using hz2
  have hlt:=hb.lt;simp only[Xd,lAp,lCo,lNi]at hlt;rw[hl]at ht hlt|-;constructor
  ·rintro⟨⟨(⟨(q | q | q),q0⟩ | q),q1,q2⟩,q3,q4⟩
   ·exact .inl q
   ·exact .inr (.inl ⟨q.1,q.2.1,by omega⟩)
   ·exact .inr (.inr q)
   ·exact .inr (.inr ⟨by omega,by omega⟩)
  ·rintro(q | q | q)
   ·exact⟨⟨.inl ⟨.inl q,by omega⟩,by omega,by omega⟩,by omega,by omega⟩
   ·exact⟨⟨.inl ⟨.inr (.inl ⟨q.1,q.2.1,by omega⟩),by omega⟩,by omega,by omega⟩,by omega,by omega⟩
   ·by_cases e:b=N.length+2+i
    ·exact⟨⟨.inr e,by omega,by omega⟩,by omega,by omega⟩
    ·exact⟨⟨.inl ⟨.inr (.inr q),by omega⟩,by omega,by omega⟩,by omega,by omega⟩
end
section
variable {N:Ags} {a b c d f s n:Nat} {x y:qB} {lab lev:Int} {X:Nat->Nat->Prop}
theorem W.peer(h:W N X)(h1:Has N a s)(x1:¬X a s):∃b t,z6 N (pt a s)=pt b t/\Has N b t:=by
 obtain⟨c,k,e,_,h2,_⟩:=h.live h1 x1;exact⟨c,k,e,h2⟩
theorem Uj(h:W N X)(hb:b<=f)(ho:∀k,1<=k->k<=n->Has N b k/\¬X b k)(hf:∀k,1<=k->k<=n->Has N (f+k) s/\X (f+k) s):∀{i:Nat},i<=n->
  W (jz b f s i N) λp q=>(X p q/\¬(f+1<=p/\p<=f+i/\q=s))\/(p=b/\1<=q/\q<=i)
 | 0,_=>h.mono λp q _=>⟨λq=>.inl ⟨q,by omega⟩,λq=>q.elim (·.1) (by omega)⟩
 | i+1,hi=>by
  have ih:=Uj h hb ho hf (i:=i) (by omega);have h1:=ho (i+1) (by omega) hi;have h2:=hf (i+1) (by omega) hi;refine(ih.move (h1.1.same Qt) (h2.1.same Qt) ?_ (.inl ⟨h2.2,by omega⟩)).mono λu v _=>?_
  ·rintro(q | q)
   ·exact h1.2 q.1
   ·omega
  ·constructor
   ·rintro(⟨(q | q),q1⟩ | q)
    ·exact .inl ⟨q.1,by omega⟩
    ·exact .inr (by omega)
    ·exact .inr (by omega)
   ·rintro(q | q)
    ·exact .inl ⟨.inl ⟨q.1,by omega⟩,by omega⟩
    ·by_cases e:v=i+1
     ·exact .inr ⟨by omega,by omega⟩
     ·exact .inl ⟨.inr (by omega),by omega⟩
structure Pr(N:Ags)(a b:Nat)(x y:qB)(X:Nat->Nat->Prop):Prop where
 w:W N X
 x:N[a]?=some x
 y:N[b]?=some y
 ne:a≠b
 l:∀p q,X p q->(p=a\/p=b)->q=0
theorem Pr.ax(h:Pr N a b x y X){k:Nat}(hk:k<x.Ports.length):Has N a k:=jX.2 ⟨x,h.x,hk⟩
theorem Pr.by'(h:Pr N a b x y X){k:Nat}(hk:k<y.Ports.length):Has N b k:=jX.2 ⟨y,h.y,hk⟩
theorem Pr.la(h:Pr N a b x y X):a<N.length:=(gSi.1 h.x).1
theorem Pr.lb(h:Pr N a b x y X):b<N.length:=(gSi.1 h.y).1
theorem Pr.nx(h:Pr N a b x y X){p q:Nat}(hq:0<q)(hX:X p q)(hp:p=a\/p=b:=by simp):False:=by have:=h.l p q hX hp;omega
theorem Pr.na(h:Pr N a b x y X){q:Nat}(hq:0<q):¬X a q:=λe=>by have:=h.l a q e (.inl rfl);omega
theorem Pr.nb(h:Pr N a b x y X){q:Nat}(hq:0<q):¬X b q:=λe=>by have:=h.l b q e (.inr rfl);omega
theorem Has.in(h:Has N a s)(hx:N[a]?=some x):s<x.Ports.length:=by
 obtain⟨z,hz,hs⟩:=jX.1 h;rw[hx]at hz;cases hz;exact hs
theorem ZE{i:Nat}:SameA (wJ N y++List.replicate i (qS 4 x.Level 0 [] 3)) (zG N x y i):=UL
theorem qB3{i:Nat}:(zG N x y i).length=N.length+2+i:=by rw[ZE.len];simp[WU]
theorem J4{i:Nat}(h:Has N a s):Has (zG N x y i) a s:=by
 refine Has.same ZE (Has.app ?_);unfold wJ;exact h.app.app
theorem Qi{i:Nat}(hs:s<y.Ports.length):Has (zG N x y i) N.length s/\Has (zG N x y i) (N.length+1) s:=
 ⟨(qB2 hs).1.app.same ZE,(qB2 hs).2.app.same ZE⟩
theorem V8{i j:Nat}(hj:j<i)(hs:s<3):Has (zG N x y i) (N.length+2+j) s:=by
 have:=UQ (N:=wJ N y) (k:=4) (l:=x.Level) (v:=0) (e:=[]) hj hs;rw[WU]at this;exact this.same ZE
theorem Zk:SameA (zG N x y (y.Ports.length-1)) (Zj N a x y):=JH _ _ _
theorem Yb:SameA (zG N x y (y.Ports.length-1)) (Ya N a x y):=Zk.trans (JH _ _ _)
theorem WV{i:Nat}:SameA (zG N x y (y.Ports.length-1)) (QN N a b x y i):=Yb.trans Qt
theorem V7(h:Pr N a b x y X)(hy:0<y.Ports.length):W (zG N x y (y.Ports.length-1)) λp q=>(X p q/\p<N.length)\/(N.length<=p/\q=0):=by
 refine(qcJ h.w (by omega)).mono λu v hb=>?_;have hq:N.length<=u/\u<=N.length+1->v<y.Ports.length:=by
  rintro⟨h1,h2⟩;have hb':=ZE.has.2 hb;obtain⟨z,hz,hz2⟩:=jX.1 hb';have:z=qS y.Kind y.Level y.Value y.Data y.Ports.length:=by
   rw[gAl (by rw[WU];omega)]at hz;unfold wJ at hz;by_cases e:u=N.length
   ·subst e;simpa using hz.symm
   ·obtain rfl:u=N.length+1:=by omega
    rw[gAr (by simp)]at hz;simpa using hz.symm
  rw[this]at hz2;simpa[qS]using hz2
 constructor
 ·rintro(q | q | q)
  ·exact .inl q
  ·exact .inr ⟨by omega,by omega⟩
  ·exact .inr ⟨by omega,by omega⟩
 ·rintro(q | q)
  ·exact .inl q
  ·by_cases e:N.length+2<=u
   ·exact .inr (.inr ⟨e,by omega⟩)
   ·exact .inr (.inl ⟨by omega,by omega,by omega⟩)
theorem V9(h:Pr N a b x y X)(hx:x.Ports.length=3)(hy:0<y.Ports.length):W (Zj N a x y) λp q=>(X p q/\p<N.length)\/(N.length+1<=p/\q=0)\/(p=a/\q=1):=by
 have la:=h.la;refine((V7 h hy).move (J4 (h.ax (by omega))) (Qi hy).1 (λe=>?_) (.inr ⟨nLr _,rfl⟩)).mono λu v _=>?_
 ·rcases e with q | q
  ·exact h.na (by omega) q.1
  ·omega
 ·constructor
  ·rintro(⟨(q | q),q1⟩ | q)
   ·exact .inl q
   ·exact .inr (.inl (by omega))
   ·exact .inr (.inr q)
  ·rintro(q | q | q)
   ·exact .inl ⟨.inl q,by omega⟩
   ·exact .inl ⟨.inr (by omega),by omega⟩
   ·exact .inr q
theorem qB4(h:Pr N a b x y X)(hx:x.Ports.length=3)(hy:0<y.Ports.length):W (Ya N a x y) λp q=>(X p q/\p<N.length)\/(N.length+2<=p/\q=0)\/(p=a/\(q=1\/q=2)):=by
 have la:=h.la;refine((V9 h hx hy).move ((J4 (h.ax (by omega))).same Zk) ((Qi hy).2.same Zk) (λe=>?_) (.inr (.inl ⟨nLr _,rfl⟩))).mono λu v _=>?_
 ·rcases e with q | q | q
  ·exact h.na (by omega) q.1
  ·omega
  ·omega
 ·constructor
  ·rintro(⟨(q | q | q),q1⟩ | q)
   ·exact .inl q
   ·exact .inr (.inl (by omega))
   ·exact .inr (.inr (by omega))
   ·exact .inr (.inr (by omega))
  ·rintro(q | q | q)
   ·exact .inl ⟨.inl q,by omega⟩
   ·exact .inl ⟨.inr (.inl (by omega)),by omega⟩
   ·by_cases e:v=1
    ·exact .inl ⟨.inr (.inr (by omega)),by omega⟩
    ·exact .inr (by omega)
theorem qB5(h:Pr N a b x y X)(hx:x.Ports.length=3)(hy:0<y.Ports.length){i:Nat}(hi:i<=y.Ports.length-1):
  W (QN N a b x y i) λp q=>(((X p q/\p<N.length)\/(N.length+2<=p/\q=0)\/(p=a/\(q=1\/q=2)))/\¬(N.length+1+1<=p/\p<=N.length+1+i/\q=0))\/(p=b/\1<=q/\q<=i):=by
 have lb:=h.lb;refine Uj (n:=y.Ports.length-1) (qB4 h hx hy) (by omega) (λk k1 k2=>⟨(J4 (h.by' (by omega))).same Yb, ?_⟩) (λk k1 k2=>⟨?_,.inr (.inl ⟨by omega,rfl⟩)⟩) hi
 ·rintro(q | q | q)
  ·exact h.nb (by omega) q.1
  ·omega
  ·exact h.ne q.1.symm
 ·have:=V8 (N:=N) (x:=x) (y:=y) (i:=y.Ports.length-1) (j:=k-1) (s:=0) (by omega) (by omega);rw[show N.length+2+(k-1)=N.length+1+k by omega]at this;exact this.same Yb
def JQ(R:Nat->Bool)(a b:Nat)(p q:Nat):Prop:=R p=true\/p=a\/p=b
structure Act(R:Nat->Bool)(N:Ags)(a b:Nat)(x y:qB):Prop where
 w:W N λu _=>R u=true
 x:N[a]?=some x
 y:N[b]?=some y
 ne:a≠b
 pa:atP N a 0=some (pt b 0)
 pb:atP N b 0=some (pt a 0)
 ra:R a=false
 rb:R b=false
 rl:∀u,R u=true->u<N.length
variable {R:Nat->Bool}
theorem Act.nr(h:Act R N a b x y){u:Nat}(e:R u=true):u<N.length/\u≠a/\u≠b:=
 ⟨h.rl u e,λq=>(by subst q;rw[h.ra]at e;cases e),λq=>(by subst q;rw[h.rb]at e;cases e)⟩
def X0(R:Nat->Bool)(a b:Nat)(p q:Nat):Prop:=R p=true\/((p=a\/p=b)/\q=0)
theorem Act.pr(h:Act R N a b x y):Pr N a b x y (X0 R a b):=
 ⟨(h.w.drop2 h.pa h.pb).mono λp q _=>(by unfold X0;constructor;(rintro(q | q | q);exact .inl q;exact .inr ⟨.inl q.1,q.2⟩;exact .inr ⟨.inr q.1,q.2⟩);(rintro(q | ⟨q | q,r⟩);exact .inl q;exact .inr (.inl ⟨q,r⟩);exact .inr (.inr ⟨q,r⟩))),h.x,h.y,h.ne,λp q e hp=>e.elim (λe=>by have:=h.nr e;omega) (·.2)⟩
theorem Act.pe(h:Act R N a b x y):Pr N a b x y λu _=>R u=true:=⟨h.w,h.x,h.y,h.ne,λp q e hp=>by have:=h.nr e;omega⟩
theorem J1{A B:Ags}(h:SameA A B){z:qB}(hz:A[a]?=some z)(hb:Has B a s):s<z.Ports.length:=(h.has.2 hb).in hz
theorem qj3(h:Act R N a b x y)(hx:x.Ports.length=3)(hy:0<y.Ports.length):W (Qj N a b x y) (JQ R a b):=by
 have la:=h.pr.la;have lb:=h.pr.lb;have hs:SameA (wJ N y++List.replicate (y.Ports.length-1) (qS 4 x.Level 0 [] 3)) (Qj N a b x y):=ZE.trans WV;have e0:∀{k:Nat},k<N.length->(wJ N y++List.replicate (y.Ports.length-1) (qS 4 x.Level 0 [] 3))[k]?=N[k]?:=λhk=>by
  rw[gAl (by rw[WU];omega)];unfold wJ;rw[gAl (by simp;omega),gAl hk]
 refine(qB5 h.pr hx hy (nLr _)).mono λu v hb=>?_;have k1:u=a->v<3:=λe=>by subst e;have:=J1 hs (by rw[e0 la];exact h.x) hb;omega
 have k2:u=b->v<y.Ports.length:=λe=>by subst e;exact J1 hs (by rw[e0 lb];exact h.y) hb
 have k3:=hb.lt;rw[show (QN N a b x y (y.Ports.length-1)).length=N.length+2+(y.Ports.length-1) by rw[WV.len,qB3]]at k3;unfold JQ X0;have ne:=h.ne;by_cases hR:R u=true
 ·have:=h.nr hR;simp only[hR,true_or,true_and,iff_true];omega
 ·simp only[hR,false_or,bFt];omega
end
section
variable {N:Ags} {a b c d f s n:Nat} {x y:qB} {lab lev v:Int} {X:Nat->Nat->Prop} {R:Nat->Bool}
theorem W.dead(h:W N X){x y:qB}{M:Ags}(hs:SameA M N)(hx:M[a]?=some x)(hy:M[b]?=some y)
  (e:∀u v,u<N.length->(u=a->v<x.Ports.length)->(u=b->v<y.Ports.length)->(X u v↔R u=true\/u=a\/u=b)):W N (JQ R a b):=
 h.mono λu v hb=>e u v hb.lt (λq=>by subst q;exact J1 hs hx hb) (λq=>by subst q;exact J1 hs hy hb)
def XZ(N:Ags)(a b:Nat):Ags:=jf (jf N (pt a 1) (pt b 1)) (pt a 2) (pt b 2)
theorem XY(h:Pr N a b x y X)(hx:x.Ports.length=3)(hy:y.Ports.length=3):W (jf N (pt a 1) (pt b 1)) λu v=>X u v\/(u=a/\v=1)\/(u=b/\v=1):=by
 have ne:=h.ne;exact h.w.join (h.ax (by omega)) (h.by' (by omega)) (h.na (by omega)) (h.nb (by omega)) (by omega)
theorem qlI(h:Act R N a b x y)(hx:x.Ports.length=3)(hy:y.Ports.length=3):W (XZ N a b) (JQ R a b):=by
 have h':=h.pr;have ne:=h.ne;have n1:=h'.na (q:=2) (by omega);have n2:=h'.nb (q:=2) (by omega);have:=(XY h' hx hy).join (a:=a) (s:=2) (c:=b) (k:=2) ((h'.ax (by omega)).same (JD _ _ _)) ((h'.by' (by omega)).same (JD _ _ _)) (by rintro(q | q | q);exact n1 q;omega;omega) (by rintro(q | q | q);exact n2 q;omega;omega) (by omega);refine this.dead ((JD _ _ _).trans (JD _ _ _)) h.x h.y λu v hu h1 h2=>?_;unfold X0;by_cases hR:R u=true
 ·have:=h.nr hR;simp only[hR,true_or,true_and,iff_true]<;>omega
 ·simp only[hR,false_or,bFt]<;>omega
theorem UH{i:Nat}(h:Has N a s):Has (jo b i N) a s:=h.app.same XR
theorem Yd(h:Pr N a b x y X):∀{i:Nat},i<=y.Ports.length-1->W (jo b i N) λu v=>(X u v/\u<N.length)\/(u=b/\1<=v/\v<=i)
 | 0,_=>h.w.mono λu v hb=>by have:=hb.lt;constructor;(intro q;exact .inl ⟨q,this⟩);(rintro(q | q);exact q.1;omega)
 | i+1,hi=>by
  have ih:=Yd h (i:=i) (by omega);have lb:=h.lb;have hl:(jo b i N).length=N.length+i:=UG;refine((ih.add (qS 5 0 0 [] 1)).move (UH (h.by' (by omega))).app (zd (by omega)) ?_ (.inr rfl)).mono λu v hb=>?_
  ·rintro(⟨(q | q),_⟩ | q)
   ·exact h.nb (by omega) q.1
   ·omega
   ·omega
  ·have hv:u=(jo b i N).length->v<1:=by
    intro e;have hb':=(JH _ _ _).has.2 hb;rw[e]at hb';have:=hb'.in (x:=qS 5 0 0 [] 1) (by simp);simpa[qS]using this
   rw[hl]at hv|-;by_cases hX:X u v<;>simp only[hX,true_and,false_and,false_or,true_or,and_true]<;>omega
theorem qkD(h:Act R N a b x y)(hx:x.Ports.length=1)(hy:0<y.Ports.length):W (jo b (y.Ports.length-1) N) (JQ R a b):=by
 have la:=h.pr.la;have lb:=h.pr.lb;refine(Yd h.pr (nLr _)).dead XR (by rw[gAl la];exact h.x) (by rw[gAl lb];exact h.y) λu v hu h1 h2=>?_;have ne:=h.ne;unfold X0;by_cases hR:R u=true
 ·have:=h.nr hR;simp only[hR,true_or,true_and,iff_true]<;>omega
 ·simp only[hR,false_or,bFt]<;>omega
theorem QI(h:Pr N a b x y X){z:qB}:W (N++[z]) λu v=>(X u v/\u<N.length)\/u=N.length:=h.w.add z
theorem Yy(h:Pr N a b x y X)(hy:1<y.Ports.length){k l v:Int}{e:List Int}{n:Nat}(hn:0<n):W (zq (N++[qS k l v e n]) (pt b 1) (pt N.length 0)) λu v=>(X u v/\u<N.length)\/(u=N.length/\v≠0)\/(u=b/\v=1):=by
 have lb:=h.lb;have n1:=h.nb (q:=1) (by omega);refine((QI h).move (a:=b) (s:=1) (c:=N.length) (k:=0) (h.by' hy).app (zd hn) (by rintro(q | q);exact n1 q.1;omega) (.inr rfl)).mono λu v hb=>?_;by_cases hX:X u v<;>simp only[hX,true_and,false_and,false_or,true_or,and_true]<;>omega
theorem Wh{k l v:Int}{e:List Int}{n:Nat}{M:Ags}(hs:SameA (N++[qS k l v e n]) M)(h:Has M N.length s):s<n:=by
 have:=((hs.has.2 h).in (x:=qS k l v e n) (by simp));simpa[qS]using this
theorem qm2(h:Act R N a b x y)(hx:x.Ports.length=1)(hy:y.Ports.length=2):W (Xq v N b) (JQ R a b):=by
 have la:=h.pr.la;have lb:=h.pr.lb;have ne:=h.ne;have w:=Yy h.pr (by omega) (k:=6) (l:=0) (v:=v) (e:=[]) (n:=1) (by omega);have hs:SameA (N++[qS 6 0 v [] 1]) (Xq v N b):=JH _ _ _;refine W.mono w λu v hb=>?_;have h1:u=a->v<x.Ports.length:=λq=>by subst q;exact J1 hs (by rw[gAl la];exact h.x) hb
 have h2:u=b->v<y.Ports.length:=λq=>by subst q;exact J1 hs (by rw[gAl lb];exact h.y) hb
 have h3:u=N.length->v<1:=λq=>by subst q;exact Wh hs hb
 unfold X0 JQ;by_cases hR:R u=true
 ·have:=h.nr hR;simp only[hR,true_or,true_and,iff_true]<;>omega
 ·simp only[hR,false_or,bFt]<;>omega
theorem qoA(h:Act R N a b x y)(hx:x.Ports.length=1)(hy:y.Ports.length=2):W (Xv lev v N b) (JQ R a b):=by
 have la:=h.pr.la;have lb:=h.pr.lb;have ne:=h.ne;have w:=Yy h.pr (by omega) (k:=12) (l:=lev) (v:=v) (e:=[]) (n:=1) (by omega);have hs:SameA (N++[qS 12 lev v [] 1]) (Xv lev v N b):=JH _ _ _;refine W.mono w λu v hb=>?_;have h1:u=a->v<x.Ports.length:=λq=>by subst q;exact J1 hs (by rw[gAl la];exact h.x) hb
 have h2:u=b->v<y.Ports.length:=λq=>by subst q;exact J1 hs (by rw[gAl lb];exact h.y) hb
 have h3:u=N.length->v<1:=λq=>by subst q;exact Wh hs hb
 unfold X0 JQ;by_cases hR:R u=true
 ·have:=h.nr hR;simp only[hR,true_or,true_and,iff_true]<;>omega
 ·simp only[hR,false_or,bFt]<;>omega
theorem qeY(h:Act R N a b x y)(hy:y.Ports.length=3):W (Wj N b x y) λu v=>X0 R a b u v/\u<N.length\/(u=N.length/\v≠0)\/(u=b/\v=1):=
 Yy h.pr (by omega) (by omega)
theorem ZR:SameA (N++[qS 8 y.Level y.Value [x.Value] 2]) (Wj N b x y):=JH _ _ _
theorem qm3(h:Act R N a b x y)(hx:x.Ports.length=1)(hy:y.Ports.length=3):W (Z9 N b x y) (JQ R a b):=by
 have la:=h.pr.la;have lb:=h.pr.lb;have ne:=h.ne;have hs:SameA (N++[qS 8 y.Level y.Value [x.Value] 2]) (Z9 N b x y):=ZR.trans (JH _ _ _);refine((qeY h hy).move (a:=b) (s:=2) (c:=N.length) (k:=1) ((h.pr.by' (by omega)).app.same ZR) ((zd (by omega)).same ZR) (by rintro(q | q | q);exact h.pr.nb (by omega) q.1;omega;omega) (.inr (.inl ⟨rfl,by omega⟩))).mono λu v hb=>?_;have h1:u=a->v<x.Ports.length:=λq=>by subst q;exact J1 hs (by rw[gAl la];exact h.x) hb
 have h2:u=b->v<y.Ports.length:=λq=>by subst q;exact J1 hs (by rw[gAl lb];exact h.y) hb
 have h3:u=N.length->v<2:=λq=>by subst q;exact Wh hs hb
 unfold X0 JQ;by_cases hR:R u=true
 ·have:=h.nr hR;simp only[hR,true_or,true_and,iff_true]<;>omega
 ·simp only[hR,false_or,bFt]<;>omega
def zD(lev v:Int)(N:Ags):Ags:=N++[qS 12 lev v [] 1]
def zf(lev v:Int)(N:Ags)(a:Nat)(i:Nat):Ags:=XH lev a N.length i (zD lev v N)
theorem YP{i:Nat}:SameA (zD lev v N++List.replicate i (qS 3 lev 0 [] 3)) (zf lev v N a i):=qa4
theorem Vh{i:Nat}:(zf lev v N a i).length=N.length+1+i:=by rw[YP.len];simp[zD];omega
theorem WQ{i:Nat}(h:Has N c s):Has (zf lev v N a i) c s:=h.app.app.same YP
theorem WP{i:Nat}:Has (zf lev v N a i) (N.length+i) (zU i):=by
 refine Has.same YP ?_;unfold zU;split
 ·rename_i e;subst e;exact(zd (by omega)).app
 ·have:=UQ (N:=zD lev v N) (k:=3) (l:=lev) (v:=0) (e:=[]) (i:=i) (j:=i-1) (s:=2) (n:=3) (by omega) (by omega);rw[show (zD lev v N).length+(i-1)=N.length+i by simp[zD];omega]at this;exact this
theorem XI(h:Pr N a b x y X):∀{i:Nat},i<=x.Ports.length-1->W (zf lev v N a i) λu v=>(X u v/\u<N.length)\/(u=a/\1<=v/\v<=i)\/(u=N.length+i/\v=zU i)
 | 0,_=>(QI h).mono λu w hb=>by
   have h3:u=N.length->w<1:=λq=>by subst q;exact Wh (SameA.refl _) hb
   unfold zU;by_cases hX:X u w<;>simp only[hX,true_and,false_and,false_or,true_or,and_true,if_true]<;>omega
 | i+1,hi=>by
  have ih:=XI h (i:=i) (by omega);have la:=h.la;have hl:(zf lev v N a i).length=N.length+1+i:=Vh;have e0:zU i<=2:=by unfold zU;split<;>omega
  have w1:=(ih.add (qS 3 lev 0 [] 3)).link (a:=N.length+i) (s:=zU i) (c:=(zf lev v N a i).length) (k:=0) WP.app (zd (by omega)) (.inl ⟨.inr (.inr ⟨rfl,rfl⟩),by omega⟩) (.inr rfl) (by omega);have n1:=h.na (q:=i+1) (by omega);refine(w1.move (a:=a) (s:=i+1) (c:=(zf lev v N a i).length) (k:=1) ((WQ (h.ax (by omega))).app.same (zo _ _ _)) ((zd (by omega)).same (zo _ _ _)) ?_ ⟨.inr rfl,by omega,by omega⟩).mono λu w hb=>?_
  ·rintro⟨⟨(q | q | q),_⟩ | q,_⟩
   ·exact n1 q.1
   ·omega
   ·omega
   ·omega
  ·have hv:u=(zf lev v N a i).length->w<3:=λq=>by subst q;exact Wh ((zo _ _ _).trans (JH _ _ _)) hb
   have hu:=hb.lt;simp only[qmE,Xd,lAp,lCo,lNi]at hu;rw[hl]at hv hu|-;have e1:zU (i+1)=2:=rfl;rw[e1];by_cases hX:X u w<;>simp only[hX,true_and,false_and,false_or,true_or,and_true]<;>omega
def ZA(lev v:Int)(N:Ags)(a b n:Nat):Ags:=zq (zf lev v N a n) (pt b 1) (J6 N.length n)
theorem qiV(h:Act R N a b x y)(hx:0<x.Ports.length)(hy:y.Ports.length=2):W (ZA lev v N a b (x.Ports.length-1)) (JQ R a b):=by
 have la:=h.pr.la;have lb:=h.pr.lb;have ne:=h.ne;have hs:SameA (zD lev v N++List.replicate (x.Ports.length-1) (qS 3 lev 0 [] 3)) (ZA lev v N a b (x.Ports.length-1)):=YP.trans (JH _ _ _);have e0:∀{k:Nat},k<N.length->(zD lev v N++List.replicate (x.Ports.length-1) (qS 3 lev 0 [] 3))[k]?=N[k]?:=λhk=>by
  rw[gAl (by simp[zD];omega)];unfold zD;rw[gAl hk]
 refine((XI h.pr (nLr _)).move (a:=b) (s:=1) (c:=N.length+(x.Ports.length-1)) (k:=zU (x.Ports.length-1)) (WQ (h.pr.by' (by omega))) WP (by rintro(q | q | q);exact h.pr.nb (by omega) q.1;omega;omega) (.inr (.inr ⟨rfl,rfl⟩))).mono λu w hb=>?_;have k1:u=a->w<x.Ports.length:=λe=>by subst e;exact J1 hs (by rw[e0 la];exact h.x) hb
 have k2:u=b->w<y.Ports.length:=λe=>by subst e;exact J1 hs (by rw[e0 lb];exact h.y) hb
 unfold JQ X0;by_cases hR:R u=true
 ·have:=h.nr hR;simp only[hR,true_or,true_and,iff_true]<;>omega
 ·simp only[hR,false_or,bFt]<;>omega
end
theorem qaY:∀{l:List qB}{i:Nat},j7 l i=true->∀(k:Nat)(hk:k<l.length),(l[k].Kind=1↔i+k=0)
 |[],_,_,k,hk=>by simp at hk
 | y::l,i,h,k,hk=>by
  simp only[j7,bAt]at h;cases k with
  | zero=>have:=h.1.2;simp at this|-;simp[this]
  | succ k=>
   have:=qaY h.2 k (by simpa using hk);simp only[List.getElem_cons_succ,this];omega
theorem qaX{x:qB}(h:qe x=true):x.Kind≠0:=by
 intro e;simp only[qe,bAt]at h;have h1:=h.1.1.1;rw[e]at h1;simp[wk]at h1
theorem JX{n:qD}(h:zB n=true):j7 n.Agents 0=true:=by
 simp only[zB,wb,bAt]at h;exact h.1.2
theorem QC{x:qB}(h:qe x=true):wB x.Kind x.Level=true:=by
 simp only[qe,bAt]at h;exact h.1.2
theorem qfW{a b c d:Int}(h:zL a b c d=6):(a=6/\c=11)\/(a=9/\c=10):=by
 simp only[zL]at h;repeat' (split at h<;>try omega)
theorem U0{a b c d:Int}:jr a b c d=jr c d a b:=by
 simp only[jr];cases wB a b<;>cases wB c d<;>cases decide (a=1)<;>cases decide (c=1)<;>rfl
theorem qfV{a b c d:Int}:zL a b c d≠8:=by
 simp only[zL];repeat' (split<;>try omega)
theorem qb5{x y:qB}(_hx:qe x=true)(_hy:qe y=true)(h:zY x.Kind x.Level y.Kind y.Level=2):
  qN y x=if x.Kind=10/\y.Kind=9/\(x.Data.length:Int)<=y.Value then 8 else jL x.Kind x.Level y.Kind y.Level:=by
 have hp:jr x.Kind x.Level y.Kind y.Level=true:=by
  simp only[zY]at h;split at h
  ·assumption
  ·omega
 simp only[zY,hp,if_true]at h;have h1:zL x.Kind x.Level y.Kind y.Level=0:=by
  rcases Decidable.em (zL x.Kind x.Level y.Kind y.Level=0)with q | q
  ·exact q
  ·rw[if_pos q]at h;omega
 have h2:zL y.Kind y.Level x.Kind x.Level≠0:=by
  intro q;simp only[h1,q]at h;simp at h
 have e:jL y.Kind y.Level x.Kind x.Level=jL x.Kind x.Level y.Kind y.Level:=by
  simp only[jL,U0 (a:=y.Kind),hp,h1,if_true,if_pos h2];simp[]
 simp only[qN,e];have n1:¬(y.Kind=10/\x.Kind=9):=by
  rintro⟨a,b⟩;have:zL x.Kind x.Level y.Kind y.Level=6:=by simp[zL,a,b]
  omega
 by_cases q:y.Kind=9/\x.Kind=10/\(x.Data.length:Int)<=y.Value
 ·rw[if_pos q,if_pos ⟨q.2.1,q.1,q.2.2⟩]
 ·rw[if_neg q,if_neg (by rintro⟨a,b,c⟩;exact n1 ⟨a,b⟩),if_neg (by rintro⟨a,b,c⟩;exact q ⟨b,a,c⟩)]
theorem qb4{x y:qB}(hx:qe x=true)(hy:qe y=true)(h:zY x.Kind x.Level y.Kind y.Level≠2):
  qN x y=if x.Kind=9/\y.Kind=10/\(y.Data.length:Int)<=x.Value then 8 else jL x.Kind x.Level y.Kind y.Level:=by
 simp only[qN];have n1:¬(x.Kind=10/\y.Kind=9):=by
  rintro⟨a,b⟩;apply h;have hp:jr x.Kind x.Level y.Kind y.Level=true:=by
   have q1:=QC hx;have q2:=QC hy;rw[a]at q1;rw[b]at q2;simp only[jr,a,b,q1,q2];decide
  have r1:zL x.Kind x.Level y.Kind y.Level=0:=by simp[zL,a]
  have r2:zL y.Kind y.Level x.Kind x.Level=6:=by simp[zL,a,b]
  simp[zY,hp,r1,r2]
 by_cases q:x.Kind=9/\y.Kind=10/\(y.Data.length:Int)<=x.Value
 ·rw[if_pos q,if_pos q]
 ·rw[if_neg q,if_neg q,if_neg (by rintro⟨a,b,c⟩;exact n1 ⟨a,b⟩)]
theorem qb3{x y:qB}(h:jL x.Kind x.Level y.Kind y.Level=6):zY x.Kind x.Level y.Kind y.Level=1/\zL x.Kind x.Level y.Kind y.Level=6\/zY x.Kind x.Level y.Kind y.Level=2/\zL y.Kind y.Level x.Kind x.Level=6:=by
 simp only[jL,zY]at h|-
 repeat' (split at h)
 all_goals simp_all
theorem qeK{x y:qB}(hx:qe x=true)(hy:qe y=true)(a:x.Kind=9)(b:y.Kind=10):jL x.Kind x.Level y.Kind y.Level=6/\zY x.Kind x.Level y.Kind y.Level=1:=by
 have hp:jr x.Kind x.Level y.Kind y.Level=true:=by
  have q1:=QC hx;have q2:=QC hy;rw[a]at q1;rw[b]at q2;simp only[jr,a,b,q1,q2];decide
 have r1:zL x.Kind x.Level y.Kind y.Level=6:=by simp[zL,a,b]
 simp[jL,zY,hp,r1]
theorem qqA{x y:qB}(hx:qe x=true)(hy:qe y=true)(a:x.Kind=10)(b:y.Kind=9):jL x.Kind x.Level y.Kind y.Level=6/\zY x.Kind x.Level y.Kind y.Level=2:=by
 have hp:jr x.Kind x.Level y.Kind y.Level=true:=by
  have q1:=QC hx;have q2:=QC hy;rw[a]at q1;rw[b]at q2;simp only[jr,a,b,q1,q2];decide
 have r1:zL x.Kind x.Level y.Kind y.Level=0:=by simp[zL,a]
 have r2:zL y.Kind y.Level x.Kind x.Level=6:=by simp[zL,a,b]
 simp[jL,zY,hp,r1,r2]
def Jj(x y:qB):Int:=if zI x y then qN y x else qN x y
theorem qm6{x y:qB}(hx:qe x=true)(hy:qe y=true):
  Jj x y=if jL x.Kind x.Level y.Kind y.Level=6/\(if zI x y then x.Kind=10/\(x.Data.length:Int)<=y.Value else y.Kind=10/\(y.Data.length:Int)<=x.Value)then 8 else jL x.Kind x.Level y.Kind y.Level:=by
 by_cases h:zY x.Kind x.Level y.Kind y.Level=2
 ·have hs:zI x y=true:=by simp[zI,h]
  simp only[Jj,hs,if_true,qb5 hx hy h];by_cases q:x.Kind=10/\y.Kind=9/\(x.Data.length:Int)<=y.Value
  ·rw[if_pos q,if_pos ⟨(qqA hx hy q.1 q.2.1).1,q.1,q.2.2⟩]
  ·rw[if_neg q];by_cases q2:jL x.Kind x.Level y.Kind y.Level=6/\x.Kind=10/\(x.Data.length:Int)<=y.Value
   ·exfalso;rcases qb3 q2.1 with⟨a,_⟩ | ⟨_,a⟩
    ·omega
    ·rcases qfW a with⟨_,a⟩ | ⟨a,_⟩
     ·omega
     ·exact q ⟨q2.2.1,a,q2.2.2⟩
   ·rw[if_neg q2]
 ·have hs:zI x y=false:=by simp[zI,h]
  simp only[Jj,hs,bFt,if_false,qb4 hx hy h];by_cases q:x.Kind=9/\y.Kind=10/\(y.Data.length:Int)<=x.Value
  ·rw[if_pos q,if_pos ⟨(qeK hx hy q.1 q.2.1).1,q.2.1,q.2.2⟩]
  ·rw[if_neg q];by_cases q2:jL x.Kind x.Level y.Kind y.Level=6/\y.Kind=10/\(y.Data.length:Int)<=x.Value
   ·exfalso;rcases qb3 q2.1 with⟨_,a⟩ | ⟨a,_⟩
    ·rcases qfW a with⟨_,a⟩ | ⟨a,_⟩
     ·omega
     ·exact q ⟨a,q2.2.1,q2.2.2⟩
    ·omega
   ·rw[if_neg q2]
theorem qiN{k:Int}:Pure Gm 1502 [iI k] (.bool (WZ k)):=by
 refine pJ qAT ?_;simp only[qAT,qM,go_sem]
 repeat' (first | (refine qZ rfl ?_;simp only[go_sem]) | ((first | apply qk | apply qI)<;>intro hc<;>simp only[hc,go_sem]) | refine qO rfl ?_)
 all_goals (simp_all[WZ])
theorem qiM{l k m:Int}:Pure Gm 1501 [iI l,iI k,iI m] (.bool (Yc l k m)):=by
 refine pJ qAS ?_;simp only[qAS,qM,go_sem]
 repeat' (first | (refine qZ rfl ?_;simp only[go_sem]) | ((first | apply qk | apply qI)<;>intro hc<;>simp only[hc,go_sem]) | (refine qL (qbV) ?_;simp only[go_sem]) | (refine qL (qBM) ?_;simp only[go_sem]) | (refine qL (qBJ) ?_;simp only[go_sem]) | refine qO rfl ?_)
 all_goals (simp_all[Yc])
theorem qiE{ka la kb lb:Int}:Pure Gm 1398 [iI ka,iI la,iI kb,iI lb] (iI (zL ka la kb lb)):=by
 refine pJ qAA ?_;simp only[qAA,qM,go_sem]
 repeat' (first | (refine qZ rfl ?_;simp only[go_sem]) | ((first | apply qk | apply qI)<;>intro hc<;>simp only[hc,go_sem]) | (refine qL (qiM) ?_;simp only[go_sem]) | (refine qL (qiN) ?_;simp only[go_sem]) | refine qO rfl ?_)
 all_goals (simp_all[zL])
theorem qhY{ka la kb lb:Int}:Pure Gm 1115 [iI ka,iI la,iI kb,iI lb] (.tup [iI (jL ka la kb lb),iI (zY ka la kb lb)]):=by
 refine pJ Kg ?_;simp only[Kg,qM,go_sem]
 repeat' (first | ((first | apply qk | apply qI)<;>intro hc<;>simp only[hc,go_sem]) | (refine qL qBM ?_;simp only[go_sem]) | (refine qL qiE ?_;simp only[go_sem]) | refine JU rfl ?_)
 all_goals (try simp only[bNt,Bool.not_eq_false',dTe,decide_eq_false_iff_not,Bool.not_false]at*)
 all_goals (simp[jL,zY,jr, *])
def wF(xs:List Int)(k:Int)(m:Nat):Nat:=if xs=[]then 0 else((xs[k.toNat%xs.length]?).getD 0).toNat%m
def JM(xs:List Int)(ps:List qV)(k:Int):qV:=(ps[wF xs k ps.length]?).getD ⟨0,0⟩
theorem KI{xs:List Int}{k:Int}{m:Nat}(h:0<m):wF xs k m<m:=by
 unfold wF;split
 ·exact h
 ·exact Nat.mod_lt _ h
theorem qC9{n:qD}(h:zB n=true)(k:Nat)(hk:k<n.Agents.length):(n.Agents[k].Kind=1↔k=0):=by
 have:=qaY (JX h) k hk;rw[this];omega
theorem Wg{n:qD}(h:zB n=true):0<n.Agents.length:=by
 simp only[zB,wb,bAt]at h;have:=zK.1 h.1.1;omega
theorem c750{xs:List Int}{ps:List qV}{k:Int}(hk:0<=k)(hs:wm xs=true)(hp:0<ps.length):Pure Gm 750 [lQ xs,.lst 2 (ps.map qV.enc) false,iI k] ((JM xs ps k).enc):=by
 refine pI F750 (by simp[AV.trees,AV.tree,qa qV.isSh.tree,qa shI.tree]) (by exact qV.tr) ?_;simp only[F750,qM,go_sem];have sl:=KI (xs:=xs) (k:=k) hp;have e:JM xs ps k=ps[wF xs k ps.length]:=by simp[JM,gEg sl]
 rw[e];apply qI<;>intro hc<;>simp only[hc,go_sem]
 ·have h1:0<xs.length:=by have:=odT hc;omega
  rw[if_neg (by omega),qEN hk];have hlt:=Nat.mod_lt k.toNat h1;simp only[go_sem];simp only[gMp,gEg hlt,oMs,go_sem];simp only[qQ,go_sem];rw[if_neg (by omega),qEN (qf9 hs hlt)];have e2:xs[k.toNat%xs.length].toNat%ps.length=wF xs k ps.length:=by
   rw[wF,if_neg (by intro h;rw[h]at h1;cases h1),gEg hlt];rfl
  rw[e2];simp only[go_sem];simp only[gMp,gEg sl,oMs,go_sem];refine lsA ?_;simp only[go_sem];exact qO qV.tr rfl
 ·have h1:xs=[]:=by have:=odF hc;exact lEz (by omega)
  have e2:0=wF xs k ps.length:=by rw[wF,if_pos h1]
  rw[if_neg (by omega)];simp only[Int.zero_tmod];simp only[go_sem];simp only[<-e2]at sl|-;simp only[gMp,gEg sl,oMs,go_sem];refine lsA ?_;simp only[go_sem];exact qO qV.tr rfl
theorem QW{n:qD}(h:zB n=true):W n.Agents λ_ _=>False:=by
 intro a s q hq _;obtain⟨x,hx,hs⟩:=jd.1 hq;have hl:=(gSi.1 hx).1;have hl2:=(gSi.1 hs).1;have e1:n.Agents[a]=x:=(gSi.1 hx).2;have e2:x.Ports[s]=q:=(gSi.1 hs).2;unfold zB at h;simp only[bAt]at h;have h1:=qC8 h.2 a hl;rw[e1]at h1;have h2:=qEP h1 s hl2;rw[e2]at h2;simp only[nZa]at h2;unfold JO at h2;simp only[bAt,bNt,decide_eq_false_iff_not,dTe]at h2;obtain⟨⟨h3,h4⟩,h5⟩:=h2;obtain⟨b,t,rfl,hb,ht⟩:=qfC h4;exact⟨b,t,rfl,by rw[<-qfA];exact h5,λq=>q,λe=>h3 (by rw[e.1,e.2])⟩
theorem qaZ:∀{l:Ags}{i:Nat},(∀x∈l,qe x=true)->(∀(k:Nat)(hk:k<l.length),l[k].Kind=1↔i+k=0)->j7 l i=true
 |[],_,_,_=>rfl
 | x::xs,i,h1,h2=>by
  have:=qaZ (l:=xs) (i:=i+1) (λy hy=>h1 y (by simp[hy])) (λk hk=>by have:=h2 (k+1) (by simp;omega);simp only[List.getElem_cons_succ]at this;rw[this];omega);have h0:=h2 0 (by simp);simp only[List.getElem_cons_zero,nAz]at h0;simp[j7,this,h1 x (by simp),h0]
theorem qmX{n:qD}(h1:∀x∈n.Agents,qe x=true)(h2:∀(k:Nat)(hk:k<n.Agents.length),n.Agents[k].Kind=1↔k=0)(h3:1<=n.Agents.length)(h4:n.Agents.length<=600)(hw:W n.Agents λ_ _=>False):zB n=true:=by
 unfold zB wb;rw[qaZ h1 (λk hk=>by rw[h2 k hk];omega)];simp only[Bool.and_true,bAt];refine⟨by rw[zK];omega,qDA λk hk=>qEQ λm hm=>?_⟩;have hx:n.Agents[k]?=some n.Agents[k]:=gEg hk;obtain⟨b,t,e,h5,_,h6⟩:=hw k m _ (jd.2 ⟨_,hx,gEg hm⟩) id;rw[e];simp only[nZa];unfold JO;simp only[bAt,bNt,decide_eq_false_iff_not,dTe];refine⟨⟨λe=>h6 (wO.1 e), ?_⟩,by rw[qfA];exact h5⟩;obtain⟨y,hy,hs⟩:=jX.1 ⟨_,h5⟩;have hb:=(gSi.1 hy).1;unfold JL QF;simp only[pt,iTn,hy,bAt,zK];omega
theorem qDE{n:qD}(h:zB n=true){k:Nat}{x:qB}(hx:n.Agents[k]?=some x):qe x=true:=JT (JX h) x (lMo hx)
theorem Vc{x y:qB}(h:jQ y=jQ x):qe y=qe x:=by
 simp only[jQ,Prod.mk.injEq]at h;obtain⟨h1,h2,h3,h4,h5⟩:=h;unfold qe fieldsOf z7;rw[h1,h2,h3,h4,h5]
def qh(R:Nat->Bool)(n:Nat):List Nat:=(List.range n).filter λk=> !R k
def qT(R:Nat->Bool)(n:Nat):Nat:=(qh R n).length
def qu(R:Nat->Bool)(x:qB):qB:={x with Ports:=x.Ports.map λp=>⟨(qT R p.Agent.toNat:Nat),p.Slot⟩}
def qc(N:Ags)(R:Nat->Bool):Ags:=(qh R N.length).map λk=>qu R (N.getD k hole)
theorem Uu{R:Nat->Bool}{n:Nat}:qh R (n+1)=qh R n++if R n then []else [n]:=by
 unfold qh;rw[List.range_succ,List.filter_append];cases h:R n<;>simp[h]
theorem jP{R:Nat->Bool}{n:Nat}:qT R (n+1)=qT R n+if R n then 0 else 1:=by
 unfold qT;rw[Uu,lAp];split<;>rfl
theorem XN{R:Nat->Bool}{n:Nat}:qT R n<=n:=by
 unfold qT qh;exact nLt (List.length_filter_le _ _) (by simp)
theorem qDL{R:Nat->Bool}{n k:Nat}:k∈qh R n↔k<n/\R k=false:=by simp[qh]
theorem XO{R:Nat->Bool}{n m:Nat}(h:n<=m):qT R n<=qT R m:=by
 induction m with
 | zero=>
  obtain rfl:n=0:=by omega
  exact nLr _
 | succ m ih=>
  rcases Nat.lt_or_ge n (m+1)with q | q
  ·rw[jP];have:=ih (by omega);omega
  ·obtain rfl:n=m+1:=by omega
   exact nLr _
theorem Wl{R:Nat->Bool}{k:Nat}(hk:R k=false):∀{n:Nat},k<n->(qh R n)[qT R k]?=some k
 | 0,h=>by omega
 | n+1,h=>by
  rw[Uu];by_cases e:k=n
  ·subst e;rw[hk];unfold qT;simp
  ·have:=Wl hk (n:=n) (by omega);rw[gAl (gSi.1 this).1];exact this
theorem qDK{R:Nat->Bool}{n m k:Nat}(h:(qh R n)[m]?=some k):k<n/\R k=false/\qT R k=m:=by
 have hm:=qDL.1 (lMo h);have h2:=Wl hm.2 hm.1;have nd:(qh R n).Nodup:=List.Pairwise.filter _ List.nodup_range;refine⟨hm.1,hm.2, ?_⟩;obtain⟨q1,q2⟩:=gSi.1 h;obtain⟨q3,q4⟩:=gSi.1 h2;exact(List.getElem_inj nd).1 (q4.trans q2.symm)
theorem QE{N:Ags}{R:Nat->Bool}:(qc N R).length=qT R N.length:=by simp[qc,qT]
theorem Uy{N:Ags}{R:Nat->Bool}{m:Nat}{y:qB}(h:(qc N R)[m]?=some y):∃k x,N[k]?=some x/\R k=false/\qT R k=m/\y=qu R x:=by
 unfold qc at h;rw[gMp]at h;obtain⟨k,hk,e⟩:=oMi.1 h;obtain⟨h1,h2,h3⟩:=qDK hk;exact⟨k,N[k],gEg h1,h2,h3,by rw[<-e,lGd,gEg h1];rfl⟩
theorem Wm{N:Ags}{R:Nat->Bool}{k:Nat}{x:qB}(hx:N[k]?=some x)(hk:R k=false):(qc N R)[qT R k]?=some (qu R x):=by
 unfold qc;rw[gMp,Wl hk (gSi.1 hx).1,oMs,lGd,hx];rfl
theorem qnC{N:Ags}{R:Nat->Bool}(h:W N λu _=>R u=true):W (qc N R) λ_ _=>False:=by
 intro m s q hq _;obtain⟨y,hy,hs⟩:=jd.1 hq;obtain⟨k,x,hx,hk,rfl,rfl⟩:=Uy hy;simp only[qu,gMp,oMi]at hs;obtain⟨q0,hq0,rfl⟩:=hs;obtain⟨b,t,rfl,e2,e3,e4⟩:=h k s q0 (jd.2 ⟨x,hx,hq0⟩) (by simp[hk]);obtain⟨z,hz,hz2⟩:=jd.1 e2;have hb:R b=false:=by simpa using e3
 refine⟨qT R b,t,by simp[pt],jd.2 ⟨_,Wm hz hb, ?_⟩,id, ?_⟩
 ·simp only[qu,gMp,hz2,oMs];simp[pt]
 ·rintro⟨q1,rfl⟩;have f1:=Wl hb (n:=max b k+1) (by omega);have f2:=Wl hk (n:=max b k+1) (by omega);rw[q1,f2]at f1;exact e4 ⟨(Option.some.inj f1).symm,rfl⟩
theorem qoE{R:Nat->Bool}{x:qB}:jQ (qu R x)=jQ x:=by simp[jQ,qu]
theorem qnD{N:Ags}{R:Nat->Bool}(hw:W N λu _=>R u=true)(h1:∀(k:Nat)(x:qB),N[k]?=some x->R k=false->qe x=true/\(x.Kind=1↔k=0))(h0:R 0=false)(hl:0<N.length)(h4:qT R N.length<=600):zB ⟨qc N R⟩=true:=by
 refine qmX (λy hy=>?_) (λm hm=>?_) ?_ (by simpa[QE]using h4) (qnC hw)
 ·obtain⟨m,hm,e⟩:=List.getElem_of_mem hy;obtain⟨k,x,hx,hk,_,rfl⟩:=Uy (gSi.2 ⟨hm,e⟩);rw[Vc qoE];exact(h1 k x hx hk).1
 ·obtain⟨k,x,hx,hk,e,e2⟩:=Uy (gEg hm);have:(qc N R)[m].Kind=x.Kind:=by rw[e2];rfl
  simp only at this|-;rw[this,(h1 k x hx hk).2,<-e];constructor
  ·rintro rfl;rfl
  ·intro q;rcases Nat.eq_zero_or_pos k with w | w
   ·exact w
   ·have:=XO (R:=R) (n:=1) (m:=k) (by omega);rw[show qT R 1=1 by rw[jP,h0];rfl]at this;omega
 ·simp only[QE];have:=XO (R:=R) (n:=1) (m:=N.length) (by omega);rw[show qT R 1=1 by rw[jP,h0];rfl]at this;exact this
def w32(x:Int):Int:=IntKind.i64.wrap (IntKind.i32.wrap (IntKind.u32.wrap (IntKind.u64.wrap x)))
def opI(k a b:Int):Int:=
 if k=1 then w32 (IntKind.i64.wrap (w32 a+w32 b))else if k=2 then w32 (IntKind.i64.wrap (w32 a-w32 b))else if k=3 then w32 (IntKind.i64.wrap (w32 a*w32 b))
 else if k=4 then(if w32 b=0 then 0 else w32 (IntKind.i64.wrap ((w32 a).tdiv (w32 b))))else if k=5 then(if w32 a<w32 b then 1 else 0)else if k=6 then(if w32 a=w32 b then 1 else 0)else 0
theorem qgZ(x:Int):w32 x=IntKind.i64.wrap (IntKind.i32.wrap x):=by
 unfold w32;congr 1;simp only[IntKind.wrap,IntKind.bits,IntKind.signed];simp
theorem XK{x:Int}:Pure Gm 1125 [iI x] (iI (w32 x)):=by
 refine pJ Ki ?_;simp only[Ki,qM,go_sem];exact qO rfl rfl
theorem qbO{b:Bool}:Pure Gm 1126 [.bool b] (iI (if b then 1 else 0)):=by
 refine pJ Kj ?_;simp only[Kj,qM,go_sem];apply qI<;>intro hc<;>simp only[hc,go_sem]
 ·exact qO rfl rfl
 ·exact qO rfl rfl
theorem c762{k a b:Int}:Pure Gm 762 [iI k,iI a,iI b] (iI (opI k a b)):=by
 refine pJ F762 ?_;simp only[F762,qM,go_sem];refine qL XK ?_;simp only[go_sem];refine qL XK ?_;simp only[go_sem];unfold opI;apply qI<;>intro hc<;>simp only[hc,go_sem]
 ·rw[if_pos (odT hc)];refine qL XK ?_;simp only[go_sem];exact qO rfl rfl
 rw[if_neg (odF hc)];apply qI<;>intro hc<;>simp only[hc,go_sem]
 ·rw[if_pos (odT hc)];refine qL XK ?_;simp only[go_sem];exact qO rfl rfl
 rw[if_neg (odF hc)];apply qI<;>intro hc<;>simp only[hc,go_sem]
 ·rw[if_pos (odT hc)];refine qL XK ?_;simp only[go_sem];exact qO rfl rfl
 rw[if_neg (odF hc)];apply qI<;>intro hc<;>simp only[hc,go_sem]
 ·rw[if_pos (odT hc)];apply qI<;>intro hc<;>simp only[hc,go_sem]
  ·rw[if_pos (odT hc)];exact qO rfl rfl
  rw[if_neg (odF hc)];have hq:=odF hc;simp only[if_neg hq,go_sem];refine qL XK ?_;simp only[go_sem];exact qO rfl rfl
 rw[if_neg (odF hc)];apply qI<;>intro hc<;>simp only[hc,go_sem]
 ·rw[if_pos (odT hc)];refine qL qbO ?_;simp only[go_sem];exact qO rfl (by simp)
 rw[if_neg (odF hc)];apply qI<;>intro hc<;>simp only[hc,go_sem]
 ·rw[if_pos (odT hc)];refine qL qbO ?_;simp only[go_sem];exact qO rfl (by simp)
 rw[if_neg (odF hc)];exact qO rfl rfl
theorem Vp{b:Bool}:Pure Gm 566 [.bool b] (iI (if b then 1 else 0)):=by
 refine pJ F566 ?_;simp only[F566,qM,go_sem];apply qI<;>intro hc<;>simp only[hc,go_sem]
 ·exact qO rfl rfl
 ·exact qO rfl rfl
theorem XL{x:Int}:Pure Gm 1400 [iI x] (iI (w32 x)):=by
 refine pJ qAB ?_;simp only[qAB,qM,go_sem];exact qO rfl (by rw[qgZ])
theorem qhZ{k a b:Int}:Pure Gm 1118 [iI k,iI a,iI b] (iI (opI k a b)):=by
 refine pJ Kh ?_;simp only[Kh,qM,go_sem];refine qL XL ?_;simp only[go_sem];refine qL XL ?_;simp only[go_sem];unfold opI;apply qI<;>intro hc<;>simp only[hc,go_sem]
 ·rw[if_pos (odT hc)];refine qL XL ?_;simp only[go_sem];exact qO rfl rfl
 rw[if_neg (odF hc)];apply qI<;>intro hc<;>simp only[hc,go_sem]
 ·rw[if_pos (odT hc)];refine qL XL ?_;simp only[go_sem];exact qO rfl rfl
 rw[if_neg (odF hc)];apply qI<;>intro hc<;>simp only[hc,go_sem]
 ·rw[if_pos (odT hc)];refine qL XL ?_;simp only[go_sem];exact qO rfl rfl
 rw[if_neg (odF hc)];apply qI<;>intro hc<;>simp only[hc,go_sem]
 ·rw[if_pos (odT hc)];apply qI<;>intro hc<;>simp only[hc,go_sem]
  ·rw[if_pos (odT hc)];exact qO rfl rfl
  rw[if_neg (odF hc)];have hq:=odF hc;simp only[if_neg hq,go_sem];refine qL XL ?_;simp only[go_sem];exact qO rfl rfl
 rw[if_neg (odF hc)];apply qI<;>intro hc<;>simp only[hc,go_sem]
 ·rw[if_pos (odT hc)];refine qL Vp ?_;simp only[go_sem];exact qO rfl (by simp)
 rw[if_neg (odF hc)];apply qI<;>intro hc<;>simp only[hc,go_sem]
 ·rw[if_pos (odT hc)];refine qL Vp ?_;simp only[go_sem];exact qO rfl (by simp)
 rw[if_neg (odF hc)];exact qO rfl rfl
theorem qm1{k a b:Int}: -2147483648<=opI k a b/\opI k a b<=2147483647:=by
 have hw:∀n:Int,-2147483648<=w32 n/\w32 n<=2147483647:=λn=>by
  have h3: -2147483648<=IntKind.i32.wrap n/\IntKind.i32.wrap n<=2147483647:=by
   simp only[IntKind.wrap,IntKind.bits,IntKind.signed,Bool.true_and,dTe,Nat.reduceSub,Int.reducePow,ge_iff_le];split<;>constructor<;>omega
  rw[qgZ,wsA];exact h3
 unfold opI
 repeat' split
 all_goals first
  | exact hw _
  | omega
theorem Qz{ka la kb lb:Int}:(zL ka la kb lb=1->ka=2/\kb=3)/\(zL ka la kb lb=2->ka=4/\kb=4)/\(zL ka la kb lb=3->ka=4)/\(zL ka la kb lb=4->ka=5)/\(zL ka la kb lb=5->ka=6/\(kb=7\/kb=8))/\
  (zL ka la kb lb=6->(ka=6/\kb=11)\/(ka=9/\kb=10))/\(zL ka la kb lb=7->ka=12/\WZ kb=true)/\0<=zL ka la kb lb/\zL ka la kb lb<=7:=by
 unfold zL
 repeat' split
 all_goals (simp_all<;>omega)
theorem zi{x:qB}(h:qe x=true):(x.Ports.length:Int)=wk x.Kind (fieldsOf x)/\0<x.Ports.length:=by
 unfold qe at h;simp only[bAt,dTe]at h;omega
theorem Us{x:qB}(h:qe x=true)(hk:x.Kind=5\/x.Kind=6\/x.Kind=12):x.Ports.length=1:=by
 have:=(zi h).1;unfold fieldsOf wk at this;rcases hk with e | e | e<;>rw[e]at this<;>simp at this<;>omega
theorem Qu{x:qB}(h:qe x=true)(hk:x.Kind=8\/x.Kind=10\/x.Kind=11):x.Ports.length=2:=by
 have:=(zi h).1;unfold fieldsOf wk at this;rcases hk with e | e | e<;>rw[e]at this<;>simp at this<;>omega
theorem ji{x:qB}(h:qe x=true)(hk:x.Kind=2\/x.Kind=3\/x.Kind=4\/x.Kind=7):x.Ports.length=3:=by
 have:=(zi h).1;unfold fieldsOf wk at this;rcases hk with e | e | e | e<;>rw[e]at this<;>simp at this<;>omega
theorem Xp{x:qB}(h:qe x=true):x.Ports.length<=4:=by
 have h1:=(zi h).1;have:wk x.Kind (fieldsOf x)<=4:=by
  unfold wk;split
  ·split
   ·rename_i q;rw[zK]at q;omega
   ·omega
  ·split
   ·omega
   ·repeat' split
    all_goals omega
 omega
theorem qBS{x y:qB}(hx:qe x=true)(hy:qe y=true)(k1:x.Kind≠1)(k2:y.Kind≠1)(hf:zY x.Kind x.Level y.Kind y.Level≠2)(h8:qN x y≠8):
  zL x.Kind x.Level y.Kind y.Level=qN x y/\qN x y≠0/\¬(x.Kind=9/\y.Kind=10/\(y.Data.length:Int)<=x.Value):=by
 have e:=qb4 hx hy hf;have n1:¬(x.Kind=9/\y.Kind=10/\(y.Data.length:Int)<=x.Value):=λq=>h8 (by rw[e,if_pos q]);rw[if_neg n1]at e;have hp:jr x.Kind x.Level y.Kind y.Level=true:=by unfold jr;simp[QC hx,QC hy,k1,k2]
 unfold jL at e;rw[if_pos hp]at e;unfold zY at hf;rw[if_pos hp]at hf;by_cases q:zL x.Kind x.Level y.Kind y.Level≠0
 ·rw[if_pos q]at e;exact⟨e.symm,by rw[e];exact q,n1⟩
 ·rw[if_neg q]at hf e;by_cases q2:zL y.Kind y.Level x.Kind x.Level≠0
  ·rw[if_pos q2]at hf;exact absurd rfl hf
  ·rw[if_neg q2]at e;exact absurd e h8
def ZG(N:Ags)(t:qD)(lev:Int)(b:Nat):Ags:=ze (jJ N t lev) (pt (N.length-1+(z6 t.Agents (pt 0 0)).Agent.toNat) (z6 t.Agents (pt 0 0)).Slot.toNat) (pt b 0)
def J3(x y:qB):Int:=if x.Value≠0 then y.Data.getD 0 0 else y.Data.getD 1 0
def zA(bk:List qD)(N:Ags)(a b:Nat)(x y:qB):Ags:=
 if qN x y=1\/qN x y=2 then XZ N a b else if qN x y=3 then Qj N a b x y else if qN x y=4 then jo b (y.Ports.length-1) N
 else if qN x y=5 then(if y.Kind=8 then Xq (opI y.Value (y.Data.getD 0 0) x.Value) N b else Z9 N b x y)
 else if qN x y=6 then(if y.Kind=11 then Xv y.Level (J3 x y) N b else ZA y.Level (y.Data.getD x.Value.toNat 0) N a b (x.Ports.length-1))
 else ZG N (zP bk x.Value) x.Level b
def wI(c:Int)(a b:Nat)(u:Nat):Bool:=decide (u=a) || (decide (c≠7)&&decide (u=b))
def ZP(bk:List qD)(n:Nat)(x y:qB):Ags:=
 if qN x y=1\/qN x y=2 then []else if qN x y=3 then [qS y.Kind y.Level y.Value y.Data y.Ports.length,qS y.Kind y.Level y.Value y.Data y.Ports.length]++List.replicate (y.Ports.length-1) (qS 4 x.Level 0 [] 3)
 else if qN x y=4 then List.replicate (y.Ports.length-1) (qS 5 0 0 [] 1)
 else if qN x y=5 then(if y.Kind=8 then [qS 6 0 (opI y.Value (y.Data.getD 0 0) x.Value) [] 1]else [qS 8 y.Level y.Value [x.Value] 2])
 else if qN x y=6 then(if y.Kind=11 then [qS 12 y.Level (J3 x y) [] 1]else qS 12 y.Level (y.Data.getD x.Value.toNat 0) [] 1::List.replicate (x.Ports.length-1) (qS 3 y.Level 0 [] 3))
 else((zP bk x.Value).Agents.drop 1).map (zF x.Level ((n:Int)-1))
theorem WM(bk:List qD)(N:Ags)(a b:Nat)(x y:qB):SameA (N++ZP bk N.length x y) (zA bk N a b x y):=by
 unfold zA ZP;split
 ·simp only[lAn];exact(JD _ _ _).trans (JD _ _ _)
 split
 ·have:=(ZE (N:=N) (x:=x) (y:=y)).trans (WV (N:=N) (a:=a) (b:=b) (i:=y.Ports.length-1));unfold wJ at this;simpa[Qj]using this
 split
 ·exact XR
 split
 ·split
  ·exact JH _ _ _
  ·exact ZR.trans (JH _ _ _)
 split
 ·split
  ·exact JH _ _ _
  ·have:=(YP (lev:=y.Level) (v:=y.Data.getD x.Value.toNat 0) (N:=N) (a:=a) (i:=x.Ports.length-1)).trans (JH _ (pt b 1) (J6 N.length (x.Ports.length-1)));unfold zD at this;simpa[ZA]using this
 ·exact zo _ _ _
theorem qmJ{y:qB}:jQ (qS y.Kind y.Level y.Value y.Data y.Ports.length)=jQ y:=by simp[jQ,qS]
theorem qeP{k l v:Int}(hk:k=5\/k=6\/k=12)(hl:wB k l=true)(hc:z7 (qS k l v [] 1)=true):qe (qS k l v [] 1)=true:=by
 unfold qe;rw[hc];simp only[qS,hl,Bool.and_true,fieldsOf,wk,lLr];rcases hk with e | e | e<;>subst e<;>simp
theorem qeQ{k l:Int}(hk:k=3\/k=4)(hl:wB k l=true):qe (qS k l 0 [] 3)=true:=by
 unfold qe;have:z7 (qS k l 0 [] 3)=true:=by unfold z7 qS;rcases hk with e | e<;>subst e<;>simp
 rw[this];simp only[qS,hl,Bool.and_true,fieldsOf,wk,lLr];rcases hk with e | e<;>subst e<;>simp
theorem ZQ{x:qB}(h:qe x=true):z7 x=true:=by unfold qe at h;simp only[bAt]at h;exact h.2
theorem qa0{p:Int->Bool}{xs:List Int}(h:xs.all p=true){i:Nat}(hi:i<xs.length):p (xs.getD i 0)=true:=by
 rw[lGd,gEg hi];exact lAt.1 h _ (gMm hi)
theorem qeR{l v:Int}(hl:inI l 0 8=true)(hv:wS v=true):qe (qS 12 l v [] 1)=true:=
 qeP (.inr (.inr rfl)) (by unfold wB;rw[if_pos (by decide)];exact hl) (by unfold z7 qS;simp[hv])
theorem qDG{x:qB}(h:qe x=true)(hk:wx x.Kind=true):inI x.Level 0 8=true:=by have:=QC h;unfold wB at this;rwa[if_pos hk]at this
theorem qmY{z:qB}{lev base:Int}(h:qe z=true)(h1:wx z.Kind=true->inI (z.Level+lev) 0 8=true):qe (zF lev base z)=true:=by
 unfold qe at*;have e1:fieldsOf (zF lev base z)=fieldsOf z:=by unfold fieldsOf zF;simp
 have e2:z7 (zF lev base z)=z7 z:=by unfold z7 zF;rfl
 rw[e1,e2];simp only[zF,lMp];simp only[bAt]at h|-;refine⟨⟨h.1.1, ?_⟩,h.2⟩;unfold wB at*;by_cases q:wx z.Kind=true
 ·rw[if_pos q,if_pos q];exact h1 q
 ·rw[if_neg q,if_neg q];have:=h.1.2;rwa[if_neg q]at this
theorem qDI{y:qB}(h:qe y=true)(hk:y.Kind=11):y.Data.length=2/\y.Data.all wS=true:=by
 have:=ZQ h;unfold z7 at this;rw[hk]at this;simp at this;exact⟨by omega,by simpa using this.2⟩
theorem qmV{y:qB}(h:qe y=true)(hk:y.Kind=10):y.Data.all wS=true:=by
 have:=ZQ h;unfold z7 at this;rw[hk]at this;simp at this;simpa using this.2
theorem qmW{x:qB}(h:qe x=true)(hk:x.Kind=6):inI x.Value (-2147483648) 2147483647=true:=by
 have:=ZQ h;unfold z7 at this;rw[hk]at this;simp at this;exact this.2
theorem qDF{x:qB}(h:qe x=true)(hk:x.Kind=9):inI x.Value 0 3=true:=by
 have:=ZQ h;unfold z7 at this;rw[hk]at this;simp at this;exact this.2
theorem qDH{x:qB}(h:qe x=true)(hk:x.Kind=12):wS x.Value=true:=by
 have:=ZQ h;unfold z7 at this;rw[hk]at this;simp at this;exact this.2
structure Hol(R:Nat->Bool)(N:Ags):Prop where
 w:W N λu _=>R u=true
 k:∀(k:Nat)(z:qB),N[k]?=some z->R k=false->qe z=true/\(z.Kind=1↔k=0)
 r0:R 0=false
 rl:∀u,R u=true->u<N.length
 l0:0<N.length
 c:qT R N.length<=600
theorem Hol.of{n:qD}(h:zB n=true):Hol (λ_=>false) n.Agents:=
 ⟨(QW h).mono λ_ _ _=>by simp,λk z hz _=>⟨qDE h hz,by
  obtain⟨q1,q2⟩:=gSi.1 hz;have:=qC9 h k q1;rw[q2]at this;exact this⟩,rfl,λ_ e=>(by cases e),Wg h,nLt XN (by unfold zB wb at h;simp only[bAt,zK]at h;omega)⟩
structure zW(R:Nat->Bool)(bk:List qD)(N:Ags)(a b:Nat)(x y:qB):Prop where
 ok:Hol R N
 bo:ju bk=true
 act:Act R N a b x y
 a0:a≠0
 b0:b≠0
 f:zY x.Kind x.Level y.Kind y.Level≠2
 g:(ql bk x y).2=0
 full:(qT R N.length:Int)+(ql bk x y).1<=600
section
variable {R:Nat->Bool} {bk:List qD} {N:Ags} {a b:Nat} {x y:qB}
theorem qEO(hb:ju bk=true){v:Int}(h0:0<=v)(h:v<bk.length):zB (zP bk v)=true:=by
 unfold ju at hb;simp only[bAt]at hb;have hv:v.toNat<bk.length:=by omega
 unfold zP;rw[gEg hv];exact lAt.1 hb.2 _ (gMm hv)
theorem zW.kx(h:zW R bk N a b x y):qe x=true/\x.Kind≠1:=by
 have hx:=h.act.x;have q:=h.ok.k _ _ hx h.act.ra;exact⟨q.1,λe=>h.a0 (q.2.1 e)⟩
theorem zW.ky(h:zW R bk N a b x y):qe y=true/\y.Kind≠1:=by
 have hx:=h.act.y;have q:=h.ok.k _ _ hx h.act.rb;exact⟨q.1,λe=>h.b0 (q.2.1 e)⟩
theorem zW.c8(h:zW R bk N a b x y):qN x y≠8:=λe=>by have:=h.g;unfold ql at this;rw[if_pos e]at this;cases this
theorem zW.rule(h:zW R bk N a b x y):zL x.Kind x.Level y.Kind y.Level=qN x y/\qN x y≠0/\¬(x.Kind=9/\y.Kind=10/\(y.Data.length:Int)<=x.Value):=qBS h.kx.1 h.ky.1 h.kx.2 h.ky.2 h.f h.c8
theorem zW.cls(h:zW R bk N a b x y):1<=qN x y/\qN x y<=7:=by
 obtain⟨e,n0,_⟩:=h.rule;have:=(Qz (ka:=x.Kind) (la:=x.Level) (kb:=y.Kind) (lb:=y.Level)).2.2.2.2.2.2.2;omega
theorem zW.t7(h:zW R bk N a b x y)(c:qN x y=7):x.Kind=12/\0<=x.Value/\x.Value<bk.length/\zB (zP bk x.Value)=true/\IntKind.i64.wrap (hiI (zP bk x.Value).Agents+x.Level)<=8/\WZ y.Kind=true:=by
 obtain⟨e,n0,_⟩:=h.rule;have k:=(Qz (ka:=x.Kind) (la:=x.Level) (kb:=y.Kind) (lb:=y.Level)).2.2.2.2.2.2.1 (e.trans c);have hv:=qDH h.kx.1 k.1;unfold wS at hv;rw[zK]at hv;have hg:=h.g;unfold ql at hg;rw[if_neg h.c8]at hg;have q1:¬(qN x y=7/\(bk.length:Int)<=x.Value):=λq=>by rw[if_pos q]at hg;cases hg
 rw[if_neg q1]at hg;have q2:¬(qN x y=7/\8<IntKind.i64.wrap (hiI (zP bk x.Value).Agents+x.Level)):=λq=>by rw[if_pos q]at hg;cases hg
 have h1:x.Value<bk.length:=by omega
 exact⟨k.1,hv.1,h1,qEO h.bo hv.1 h1,by omega,k.2⟩
theorem zW.gro(h:zW R bk N a b x y):(ql bk x y).1=(jB (qN x y) (jU bk x y (qN x y))).1:=by
 have hg:=h.g;unfold ql at hg|-;rw[if_neg h.c8]at hg|-;split at hg
 ·cases hg
 split at hg
 ·cases hg
 rename_i q1 q2;rw[if_neg q1,if_neg q2]
theorem qdD:∀{xs:Ags}{x:qB},x∈xs->x.Level<=hiI xs:=by
 have key:∀(xs:Ags)(m:Int),m<=xs.foldl (λm x=>if x.Level<m then m else x.Level) m/\∀x∈xs,x.Level<=xs.foldl (λm x=>if x.Level<m then m else x.Level) m:=by
  intro xs
  induction xs with
  | nil=>intro m;exact⟨Int.le_refl _,by simp⟩
  | cons y ys ih=>
   intro m;simp only[List.foldl_cons];have hm:m<=(if y.Level<m then m else y.Level)/\y.Level<=(if y.Level<m then m else y.Level):=by split<;>omega
   obtain⟨h1,h2⟩:=ih (if y.Level<m then m else y.Level);refine⟨Int.le_trans hm.1 h1,λx hx=>?_⟩;rcases List.mem_cons.1 hx with rfl | q
   ·exact Int.le_trans hm.2 h1
   ·exact h2 x q
 intro xs x hx;exact(key xs 0).2 x hx
theorem qdC{xs:Ags}(h:∀x∈xs,0<=x.Level/\x.Level<=8):0<=hiI xs/\hiI xs<=8:=by
 have key:∀(xs:Ags)(m:Int),0<=m->m<=8->(∀x∈xs,0<=x.Level/\x.Level<=8)->0<=xs.foldl (λm x=>if x.Level<m then m else x.Level) m/\xs.foldl (λm x=>if x.Level<m then m else x.Level) m<=8:=by
  intro xs
  induction xs with
  | nil=>intro m h1 h2 _;exact⟨h1,h2⟩
  | cons y ys ih=>
   intro m h1 h2 h3;have:=h3 y (by simp);have hm:0<=(if y.Level<m then m else y.Level)/\(if y.Level<m then m else y.Level)<=8:=by split<;>omega
   exact ih _ hm.1 hm.2 λx hx=>h3 x (by simp[hx])
 exact key xs 0 (by omega) (by omega) h
theorem QX{x:qB}(h:qe x=true):0<=x.Level/\x.Level<=8:=by
 have:=QC h;unfold wB at this;split at this
 ·rwa[zK]at this
 ·simp at this;omega
theorem qB0{α:Type}{xs:List α}{k:Nat}:(xs.drop 1)[k]?=xs[k+1]?:=by rw[gDr,Nat.add_comm]
theorem qeF(h:zW R bk N a b x y):∀z∈ZP bk N.length x y,qe z=true/\z.Kind≠1:=by
 obtain⟨hx,kx⟩:=h.kx;obtain⟨hy,ky⟩:=h.ky;obtain⟨e,n0,n9⟩:=h.rule;obtain⟨r1,r2,r3,r4,r5,r6,r7,r8⟩:=Qz (ka:=x.Kind) (la:=x.Level) (kb:=y.Kind) (lb:=y.Level);intro z hz;unfold ZP at hz;split at hz
 ·simp at hz
 split at hz
 ·rename_i c;have k4:=r3 (e.trans c);simp only[zw,List.mem_cons,List.mem_nil_iff,or_false,List.mem_replicate,or_self]at hz;rcases hz with rfl | ⟨_,rfl⟩
  ·exact⟨by rw[Vc qmJ];exact hy,ky⟩
  ·exact⟨qeQ (.inr rfl) (by have:=QC hx;rwa[k4]at this),by simp[qS]⟩
 split at hz
 ·rw[List.mem_replicate]at hz;rw[hz.2];exact⟨by decide,by decide⟩
 split at hz
 ·rename_i c;obtain⟨k6,k78⟩:=r5 (e.trans c);split at hz
  ·simp only[List.mem_cons,List.mem_nil_iff,or_false]at hz;subst hz;refine⟨qeP (.inr (.inl rfl)) (by decide) ?_,by simp[qS]⟩;have:=qm1 (k:=y.Value) (a:=y.Data.getD 0 0) (b:=x.Value);unfold z7 qS;simp only[if_true,lNi,inI,bAt,dTe];omega
  ·rename_i k8;have k7:y.Kind=7:=by omega
   simp only[List.mem_cons,List.mem_nil_iff,or_false]at hz;subst hz;have c7:=ZQ hy;unfold z7 at c7;rw[k7]at c7;simp at c7;have l7:=qDG hy (by rw[k7];decide);have v6:=qmW hx k6;refine⟨?_,by simp[qS]⟩;unfold qe fieldsOf wk wB z7 qS;simp[l7,v6,c7.2,wx]
 split at hz
 ·rename_i c;have k6:=r6 (e.trans c);split at hz
  ·rename_i k11;simp only[List.mem_cons,List.mem_nil_iff,or_false]at hz;subst hz;obtain⟨d1,d2⟩:=qDI hy k11;exact⟨qeR (qDG hy (by rw[k11];decide)) (by unfold J3;split<;>exact qa0 d2 (by omega)),by simp[qS]⟩
  ·rename_i k11;obtain⟨q9,q10⟩:x.Kind=9/\y.Kind=10:=by omega
   have l10:=qDG hy (by rw[q10];decide);have v9:=qDF hx q9;rw[zK]at v9;rcases List.mem_cons.1 hz with rfl | hz
   ·exact⟨qeR l10 (qa0 (qmV hy q10) (by omega)),by simp[qS]⟩
   ·rw[List.mem_replicate]at hz;rw[hz.2];exact⟨qeQ (.inl rfl) (by unfold wB;rw[if_pos (by decide)];exact l10),by simp[qS]⟩
 ·rename_i c1 c3 c4 c5 c6;have c7:qN x y=7:=by have:=h.cls;omega
  obtain⟨_,_,_,t1,t2,_⟩:=h.t7 c7;rw[List.mem_map]at hz;obtain⟨w,hw,rfl⟩:=hz;have hwm:=List.mem_of_mem_drop hw;have hw1:=JT (JX t1) w hwm;have hb:=qdC (xs:=(zP bk x.Value).Agents) λz hz=>QX (JT (JX t1) z hz);have hl:=QX hx;rw[wsA]at t2;have hg:=qdD hwm;have hw8:=QX hw1;refine⟨qmY hw1 λ_=>by rw[zK];omega, ?_⟩;obtain⟨k,hk,e⟩:=List.getElem_of_mem hw;have hk1:k+1<(zP bk x.Value).Agents.length:=by simp at hk;omega
  have ek:(zP bk x.Value).Agents[k+1]=w:=by
   have:=gEg hk;rw[qB0,gEg hk1,e]at this;exact Option.some.inj this
  have:=qC9 t1 (k+1) hk1;rw[ek]at this;show w.Kind≠1;omega
end
section
variable {R:Nat->Bool} {bk:List qD} {N:Ags} {a b:Nat} {x y:qB} {t:qD} {lev:Int}
theorem qD0(ht:zB t=true){z:qB}(hz:t.Agents[0]?=some z):z.Ports.length=1:=by
 obtain⟨q1,q2⟩:=gSi.1 hz;have k:=(qC9 ht 0 q1).2 rfl;rw[q2]at k;have:=(zi (qDE ht hz)).1;unfold fieldsOf wk at this;rw[k]at this;simp at this;omega
theorem qfS(ht:zB t=true):∃c r,z6 t.Agents (pt 0 0)=pt (c+1) r/\atP t.Agents 0 0=some (pt (c+1) r)/\atP t.Agents (c+1) r=some (pt 0 0)/\c+1<t.Agents.length:=by
 have h0:=Wg ht;have hz:t.Agents[0]?=some t.Agents[0]:=gEg h0;have hp:=qD0 ht hz;obtain⟨c,r,e1,e2,e3,_,e5,e6⟩:=(QW ht).live (a:=0) (s:=0) (jX.2 ⟨_,hz,by omega⟩) id;cases c with
 | zero=>
  have:=e3.in hz;obtain rfl:r=0:=by omega
  exact absurd ⟨rfl,rfl⟩ e6
 | succ c=>exact⟨c,r,e1,e2,e5,Jc e5⟩
theorem WW{k:Nat}:(jJ N t lev)[N.length+k]?=(t.Agents[k+1]?).map (zF lev ((N.length:Int)-1)):=by
 unfold jJ;rw[gAr (by omega),gMp,Nat.add_sub_cancel_left,qB0]
theorem qkI{k s c r:Nat}(h:atP t.Agents (k+1) s=some (pt (c+1) r))(hN:0<N.length):atP (jJ N t lev) (N.length+k) s=some (pt (N.length+c) r):=by
 obtain⟨z,hz,hs⟩:=jd.1 h;refine jd.2 ⟨_,by rw[WW,hz];rfl, ?_⟩;simp only[zF,gMp,hs,oMs,pt,oSi,qE.mk.injEq];constructor
 ·push_cast;omega
 ·trivial
theorem qkK{k s:Nat}(h:Has t.Agents (k+1) s):Has (jJ N t lev) (N.length+k) s:=by
 obtain⟨z,hz,hs⟩:=jX.1 h;exact jX.2 ⟨_,by rw[WW,hz];rfl,by simpa[zF]using hs⟩
theorem qkH(h:Act R N a b x y)(ht:zB t=true){c r:Nat}(hp:atP t.Agents 0 0=some (pt (c+1) r)):W (jJ N t lev) λu v=>R u=true\/(u=N.length+c/\v=r):=by
 have hN:0<N.length:=by have:=h.pr.la;omega
 have wt:=QW ht;intro u s q hq hX;rcases Nat.lt_or_ge u N.length with hu | hu
 ·unfold jJ at hq;rw[Q7 hu]at hq;obtain⟨b',t',e1,e2,e3,e4⟩:=h.w u s q hq λe=>hX (.inl e);have:=Jc e2;exact⟨b',t',e1,by unfold jJ;rw[Q7 this];exact e2,by rintro(e | e);exact e3 e;omega,e4⟩
 ·obtain⟨k,rfl⟩:∃k,u=N.length+k:=⟨u-N.length,by omega⟩;obtain⟨z',hz',hs'⟩:=jd.1 hq;rw[WW,oMi]at hz';obtain⟨z,hz,rfl⟩:=hz';simp only[zF,gMp,oMi]at hs';obtain⟨q0,hq0,rfl⟩:=hs';have hq1:atP t.Agents (k+1) s=some q0:=jd.2 ⟨z,hz,hq0⟩;obtain⟨b',t',rfl,e2,_,e4⟩:=wt (k+1) s q0 hq1 id;cases b' with
  | zero=>
   obtain⟨z0,hz0,ht0⟩:=jX.1 ⟨_,e2⟩;have:=qD0 ht hz0;obtain rfl:t'=0:=by omega
   rw[e2]at hp;have:=wO.1 (Option.some.inj hp);exact absurd (.inr ⟨by omega,this.2⟩) hX
  | succ c'=>
   refine⟨N.length+c',t',by simp only[pt,qE.mk.injEq];exact⟨by push_cast;omega,trivial⟩,qkI e2 hN, ?_,by omega⟩;rintro(e | ⟨e,rfl⟩)
   ·have:=h.rl _ e;omega
   obtain rfl:c'=c:=by omega
   have:=(QW ht) 0 0 _ hp id;obtain⟨b2,t2,f1,f2,_,_⟩:=this;have f3:=wO.1 f1;rw[<-f3.1,<-f3.2,e2]at f2;have:=wO.1 (Option.some.inj f2);omega
theorem Ye(ht:zB t=true)(hN:0<N.length):∃c r,z6 t.Agents (pt 0 0)=pt (c+1) r/\atP t.Agents 0 0=some (pt (c+1) r)/\Has (jJ N t lev) (N.length+c) r/\ZG N t lev b=ze (jJ N t lev) (pt (N.length+c) r) (pt b 0):=by
 obtain⟨c,r,e1,e2,e3,e4⟩:=qfS ht;refine⟨c,r,e1,e2,qkK ⟨_,e3⟩, ?_⟩;unfold ZG;rw[e1];simp only[pt,iTn];rw[show N.length-1+(c+1)=N.length+c by omega]
theorem qkF(h:Act R N a b x y)(hx:x.Ports.length=1)(ht:zB t=true):W (ZG N t lev b) λu _=>R u=true\/u=a:=by
 have la:=h.pr.la;have lb:=h.pr.lb;obtain⟨c,r,e1,e2,e3,e4⟩:=Ye (N:=N) (b:=b) (lev:=lev) ht (by omega);rw[e4];have hpa:Has N a 0:=⟨_,h.pa⟩;have w:=(qkH (lev:=lev) h ht e2).move (a:=a) (s:=0) (c:=N.length+c) (k:=r) (by unfold jJ;exact hpa.app) e3 (by rw[h.ra];simp;omega) (.inr ⟨rfl,rfl⟩);have ep:z6 (jJ N t lev) (pt a 0)=pt b 0:=Wq (by unfold jJ;rw[Q7 la];exact h.pa);unfold zq at w;rw[ep]at w;refine w.mono λu v hb=>?_;have:u=a->v<1:=λe=>by
  subst e;have:=((zo _ _ _).has.2 hb).in (x:=x) (by unfold jJ;rw[gAl la];exact h.x);omega
 by_cases hR:R u=true
 ·have:=h.nr hR;simp only[hR,true_or,true_and,iff_true]<;>omega
 ·simp only[hR,false_or,bFt]<;>omega
def z8(R:Nat->Bool)(c:Int)(a b:Nat)(u:Nat):Bool:=R u || wI c a b u
theorem qg6(h:zW R bk N a b x y):W (zA bk N a b x y) λu _=>z8 R (qN x y) a b u=true:=by
 obtain⟨e,n0,n9⟩:=h.rule;obtain⟨r1,r2,r3,r4,r5,r6,r7,r8⟩:=Qz (ka:=x.Kind) (la:=x.Level) (kb:=y.Kind) (lb:=y.Level);have hx:=h.kx.1;have hy:=h.ky.1;have dead:qN x y≠7->∀{M:Ags},W M (JQ R a b)->W M λu _=>z8 R (qN x y) a b u=true:=λc M w=>w.mono λu v _=>by unfold JQ z8 wI;simp[c]
 unfold zA;split
 ·rename_i c;refine dead (by omega) (qlI h.act ?_ ?_)
  ·rcases c with c | c
   ·exact ji hx (.inl (r1 (e.trans c)).1)
   ·exact ji hx (.inr (.inr (.inl (r2 (e.trans c)).1)))
  ·rcases c with c | c
   ·exact ji hy (.inr (.inl (r1 (e.trans c)).2))
   ·exact ji hy (.inr (.inr (.inl (r2 (e.trans c)).2)))
 split
 ·rename_i c;exact dead (by omega) (qj3 h.act (ji hx (.inr (.inr (.inl (r3 (e.trans c)))))) (zi hy).2)
 split
 ·rename_i c;exact dead (by omega) (qkD h.act (Us hx (.inl (r4 (e.trans c)))) (zi hy).2)
 split
 ·rename_i c;have k5:=r5 (e.trans c);have p1:=Us hx (.inr (.inl k5.1));split
  ·rename_i k8;exact dead (by omega) (qm2 h.act p1 (Qu hy (.inl k8)))
  ·rename_i k8;exact dead (by omega) (qm3 h.act p1 (ji hy (.inr (.inr (.inr (by omega))))))
 split
 ·rename_i c;have k6:=r6 (e.trans c);split
  ·rename_i k11;exact dead (by omega) (qoA h.act (Us hx (.inr (.inl (by omega)))) (Qu hy (.inr (.inr k11))))
  ·rename_i k11;exact dead (by omega) (qiV h.act (zi hx).2 (Qu hy (.inr (.inl (by omega)))))
 ·have c7:qN x y=7:=by have:=h.cls;omega
  obtain⟨k12,_,_,t1,_,_⟩:=h.t7 c7;refine(qkF h.act (Us hx (.inr (.inr k12))) t1).mono λu v _=>?_;unfold z8 wI;simp[c7]
theorem Vw{a:Nat}:∀{n:Nat},a<n->qT (λu=>decide (u=a)) n+1=n
 | 0,h=>by omega
 | n+1,h=>by
  rw[jP];by_cases e:n=a
  ·subst e;have:∀{m:Nat},m<=n->qT (λu=>decide (u=n)) m=m:=by
    intro m
    induction m with
    | zero=>intro _;rfl
    | succ m ih=>intro hm;rw[jP,ih (by omega),if_neg (by simp;omega)]
   rw[this (nLr _)];simp
  ·rw[if_neg (by simpa using e)];have:=Vw (a:=a) (n:=n) (by omega);omega
theorem qcC{a b:Nat}(hne:a≠b):∀{n:Nat},a<n->b<n->qT (λu=>decide (u=a) || decide (u=b)) n+2=n
 | 0,h,_=>by omega
 | n+1,h1,h2=>by
  rw[jP];have key:∀c d:Nat,c≠d->c=n->d<n->qT (λu=>decide (u=c) || decide (u=d)) n+1=n:=by
   intro c d _ hc hd;subst hc;have:∀{m:Nat},m<=c->qT (λu=>decide (u=c) || decide (u=d)) m=qT (λu=>decide (u=d)) m:=by
    intro m
    induction m with
    | zero=>intro _;rfl
    | succ m ih=>intro hm;rw[jP,jP,ih (by omega)];congr 1;rw[show decide (m=c)=false by simp;omega];simp
   rw[this (nLr _)];exact Vw hd
  by_cases e1:n=a
  ·have:=key a b hne e1.symm (by omega);rw[if_pos (by simp[e1])];omega
  ·by_cases e2:n=b
   ·have:=key b a (Ne.symm hne) e2.symm (by omega);have sw:(λu=>decide (u=a) || decide (u=b))=λu=>decide (u=b) || decide (u=a):=by funext u;rw[Bool.or_comm]
    rw[if_pos (by simp[e2]),sw];omega
   ·have:=qcC hne (n:=n) (by omega) (by omega);rw[if_neg (by simp[e1,e2])];omega
theorem qkW{c:Int}(h:c=1\/c=2):(jB c (jU bk x y c)).1= -2:=by
 rcases h with e | e<;>subst e<;>rfl
theorem gro3(h0:0<y.Ports.length)(h1:y.Ports.length<=4):(jB 3 (jU bk x y 3)).1=(y.Ports.length:Int)-1:=by
 show (jB 3 ((y.Ports.length:Int)-1)).1=_;unfold jB;rw[if_neg (by decide),if_pos rfl,if_pos (by rw[zK];omega)]
theorem gro4(h0:0<y.Ports.length)(h1:y.Ports.length<=4):(jB 4 (jU bk x y 4)).1=(y.Ports.length:Int)-1-2:=by
 show (jB 4 ((y.Ports.length:Int)-1)).1=_;unfold jB;rw[if_neg (by decide),if_neg (by decide),if_pos rfl,if_pos (by rw[zK];omega)]
theorem gro5:(jB 5 (jU bk x y 5)).1= -1:=rfl
theorem gro6(h0:0<=fieldsOf x)(h1:fieldsOf x<=3):(jB 6 (jU bk x y 6)).1=fieldsOf x-1:=by
 show (jB 6 (fieldsOf x)).1=_;unfold jB;rw[if_neg (by decide),if_neg (by decide),if_neg (by decide),if_neg (by decide),if_pos rfl,if_pos (by rw[zK];omega)]
theorem gro7(h0:2<=(zP bk x.Value).Agents.length)(h1:(zP bk x.Value).Agents.length<=600):(jB 7 (jU bk x y 7)).1=((zP bk x.Value).Agents.length:Int)-2:=by
 show (jB 7 ((zP bk x.Value).Agents.length:Int)).1=_;unfold jB;rw[if_neg (by decide),if_neg (by decide),if_neg (by decide),if_neg (by decide),if_neg (by decide),if_pos rfl,if_pos (by rw[zK];omega)]
theorem qg9(h:zW R bk N a b x y):(qT (wI (qN x y) a b) (zA bk N a b x y).length:Int)=N.length+(ql bk x y).1:=by
 have la:=h.act.pr.la;have lb:=h.act.pr.lb;obtain⟨e,n0,n9⟩:=h.rule;obtain⟨r1,r2,r3,r4,r5,r6,r7,r8⟩:=Qz (ka:=x.Kind) (la:=x.Level) (kb:=y.Kind) (lb:=y.Level);have hx:=h.kx.1;have hy:=h.ky.1;have hl:(zA bk N a b x y).length=N.length+(ZP bk N.length x y).length:=by rw[(WM bk N a b x y).len];simp
 have hc:=h.cls;have yp:=Xp hy;have y0:=(zi hy).2;have xp:=Xp hx;have x0:=(zi hx).2;have c2:qN x y≠7->qT (wI (qN x y) a b) (zA bk N a b x y).length+2=(zA bk N a b x y).length:=λc=>by
  have:wI (qN x y) a b=λu=>decide (u=a) || decide (u=b):=by funext u;unfold wI;simp[c]
  rw[this];exact qcC h.act.ne (by omega) (by omega)
 rw[h.gro];unfold ZP at hl;by_cases c:qN x y=1\/qN x y=2
 ·rw[if_pos c]at hl;have:=c2 (by omega);rw[qkW c];simp at hl;omega
 rw[if_neg c]at hl;by_cases c3:qN x y=3
 ·rw[if_pos c3]at hl;have:=c2 (by omega);rw[c3,gro3 y0 yp];simp at hl;rw[c3]at this;omega
 rw[if_neg c3]at hl;by_cases c4:qN x y=4
 ·rw[if_pos c4]at hl;have:=c2 (by omega);rw[c4,gro4 y0 yp];simp at hl;rw[c4]at this;omega
 rw[if_neg c4]at hl;by_cases c5:qN x y=5
 ·rw[if_pos c5]at hl;have:=c2 (by omega);rw[c5,gro5];rw[c5]at this;split at hl<;>simp at hl<;>omega
 rw[if_neg c5]at hl;by_cases c6:qN x y=6
 ·rw[if_pos c6]at hl;have:=c2 (by omega);have k6:=r6 (e.trans c6);rw[c6]at this|-;by_cases k11:y.Kind=11
  ·rw[if_pos k11]at hl;have f0:fieldsOf x=0:=by unfold fieldsOf;rw[if_neg (by omega)]
   rw[gro6 (by omega) (by omega),f0];simp at hl;omega
  ·rw[if_neg k11]at hl;have f0:fieldsOf x=(x.Ports.length:Int)-1:=by unfold fieldsOf;rw[if_pos (by omega)]
   rw[gro6 (by omega) (by omega),f0];simp at hl;omega
 rw[if_neg c6]at hl;have c7:qN x y=7:=by omega
 obtain⟨_,_,_,t1,_,_⟩:=h.t7 c7;have t6:(zP bk x.Value).Agents.length<=600:=by
  unfold zB wb at t1;simp only[bAt,zK]at t1;omega
 obtain⟨c,r,_,_,_,t2⟩:=qfS t1;have e1:wI (qN x y) a b=λu=>decide (u=a):=by funext u;unfold wI;simp[c7]
 rw[e1,c7,gro7 (by omega) t6];have:=Vw (a:=a) (n:=(zA bk N a b x y).length) (by omega);simp at hl;omega
def qEE(bk:List qD)(N:Ags)(a b:Nat)(x y:qB):Ags:=qc (zA bk N a b x y) (wI (qN x y) a b)
theorem qBT{R P:Nat->Bool}(h:∀u,R u=true->P u=false):∀{n:Nat},qT (λu=>R u || P u) n+n=qT R n+qT P n
 | 0=>rfl
 | n+1=>by
  have:=qBT h (n:=n);rw[jP,jP,jP];cases hR:R n<;>cases hP:P n<;>simp
  ·omega
  ·omega
  ·omega
  ·rw[h n hR]at hP;cases hP
theorem Vx{R:Nat->Bool}{n:Nat}(h:∀u,R u=true->u<n):∀{k:Nat},qT R (n+k)=qT R n+k
 | 0=>rfl
 | k+1=>by
  rw[<-Nat.add_assoc,jP,Vx h (k:=k),if_neg]
  ·omega
  ·intro e;have:=h _ e;omega
theorem qjH(h:Act R N a b x y){c:Int}:∀u,R u=true->wI c a b u=false:=λu e=>by
 have:=h.nr e;unfold wI;simp;omega
theorem qhA(h:zW R bk N a b x y):(qT (z8 R (qN x y) a b) (zA bk N a b x y).length:Int)=qT R N.length+(ql bk x y).1:=by
 have h1:=qg9 h;have h2:=qBT (qjH h.act (c:=qN x y)) (n:=(zA bk N a b x y).length);have hl:(zA bk N a b x y).length=N.length+(ZP bk N.length x y).length:=by rw[(WM bk N a b x y).len];simp
 have h3:=Vx h.act.rl (k:=(ZP bk N.length x y).length);rw[<-hl]at h3;unfold z8;omega
theorem qhB(h:zW R bk N a b x y):∀(k:Nat)(z:qB),(zA bk N a b x y)[k]?=some z->R k=false->qe z=true/\(z.Kind=1↔k=0):=by
 intro k z hz hr;have hs:=WM bk N a b x y;have la:=h.act.pr.la;obtain⟨w,hw,e⟩:=hs.back.at hz;have ek:w.Kind=z.Kind:=congrArg Prod.fst e;rw[<-ek,<-Vc e];rcases Nat.lt_or_ge k N.length with q | q
 ·rw[gAl q]at hw;exact h.ok.k _ _ hw hr
 ·rw[gAr q]at hw;have:=qeF h w (lMo hw);exact⟨this.1,by constructor;(intro k1;exact absurd k1 this.2);(intro k0;omega)⟩
theorem qEH(h:zW R bk N a b x y):Hol (z8 R (qN x y) a b) (zA bk N a b x y):=by
 have la:=h.act.pr.la;have lb:=h.act.pr.lb;have hl:(zA bk N a b x y).length=N.length+(ZP bk N.length x y).length:=by rw[(WM bk N a b x y).len];simp
 refine⟨qg6 h,λk z hz hr=>?_, ?_,λu e=>?_,by omega, ?_⟩
 ·exact qhB h k z hz (by unfold z8 at hr;simp at hr;exact hr.1)
 ·have:=h.a0;have:=h.b0;unfold z8 wI;rw[h.ok.r0];simp;omega
 ·unfold z8 wI at e;simp only[Bool.or_eq_true,bAt,dTe]at e;rcases e with e | e | e
  ·have:=h.act.rl u e;omega
  ·omega
  ·omega
 ·have:=qhA h;have:=h.full;omega
theorem qp3(h:Hol R N):zB ⟨qc N R⟩=true:=qnD h.w h.k h.r0 h.l0 h.c
end
section
variable {w:Nat} {post:List AV} {base:Nat->Prop} {nid:Nat} {h:List qC} {N:Ags} {K:AV->List qC->Prop} {a b s c k:Nat} {x y:qB} {X:Nat->Nat->Prop}
theorem qjG{n:Nat}{o:qC}:(J2 n++[o])[n]?=some o:=by
 have:(J2 n).length=n:=by simp[J2]
 rw[gAr (by omega),this,nSs];rfl
theorem s837{id q:Nat}{el:List AV}(ho:h[id]?=some (.row 5 el true))(he:el[k]?=some (encR x q))(hq:h[q]?=some (.row 2 (x.Ports.map qE.enc) true))(h0:0<x.Ports.length)(hz:x.sz<=1048576)(hK:∀ex,K x.enc (h++ex)):SCall Gm 837 [.ptr id k 0] h K:=by
 unfold qB.sz at hz;refine SCall.tree [] [] (gk _ YG) (by kernel_rfl) rfl (qB.tr (x:=x)) ?_ hK;simp only[YG,qM,go_sem,ho,he,nZa];refine qL (c402 x.Data (by omega)) ?_;simp only[go_sem];rw[Qc h0];refine qa6 (Els.row hq (by simp)) (by simp;omega) ?_;simp only[go_sem];refine lsA ?_;simp only[go_sem];refine FinT.of (Yg (.agg rfl ?_));refine w9 (.refl rfl) (w9 (.refl rfl) (w9 (.refl rfl) (w9 (.refl ?_) (w9 (Cv.row qjG ?_ (qa qE.isSh.tree _) (by decide)) (λp hp=>by simp at hp)))))
 ·simp[AV.tree,qa shI.tree]
 ·simp
theorem qD8(hN:NE w post base nid h N)(hx:N[k]?=some x)(h0:0<x.Ports.length)(hz:x.sz<=1048576):∃aid,(∀K,(∀ex,K x.enc (h++ex))->SCall Gm 837 [.ptr aid k 0] h K)/\h[nid]?=some (.row w [.agg (sQ 5 aid N.length::post)] true):=by
 obtain⟨aid,ps,hN⟩:=hN;obtain⟨q,hq,ha,hr,_⟩:=hN.at hx h0;exact⟨aid,λK hK=>s837 hN.a ha hr h0 hz hK,hN.o⟩
theorem Wy{kk lv v:Int}{n:Nat}(hN:NE w post base nid h N)(hn:n<=1048576)(hl:N.length<=1048576)
  (hK:∀h',NE w post base nid h' (N++[qS kk lv v [] n])->Keep base h h'->K (iI (N.length:Nat)) h') (h0:0<n:=by omega):SCall Gm 949 [.ptr nid 0 0,iI kk,iI lv,iI v,.nils,iI (n:Nat)] h K:=
 SCall.arg (Wks.same (Wks.same (Wks.same (Wks.same (.cons .nilL (Wks.same .nil)))))) (KH (d:=[]) hN (by simp) hn hl hK h0)
theorem NE.rd(hN:NE w post base nid h N)(hx:N[k]?=some x):∃aid ps q,NA w post base nid aid ps h N/\h[nid]?=some (.row w [.agg (sQ 5 aid N.length::post)] true)/\h[aid]?=some (.row 5 (zC N ps) true)/\(zC N ps)[k]?=some (encR x q):=by
 obtain⟨aid,ps,hN⟩:=hN;have hk:k<ps.length:=by rw[hN.l];exact qR hx
 exact⟨aid,ps,ps[k],hN,hN.o,hN.a,Qk hx (gEg hk)⟩
theorem qoV(hP:Pr N a b x y X)(hN:NE w post base nid h N)(hx:x.Ports.length=3)(hy:0<y.Ports.length)(hz:y.sz<=1000)(hl:N.length<=10000)
  (hK:∀h',NE w post base nid h' (Qj N a b x y)->Keep base h h'->K (.tup []) h'):SCall Gm 1299 [.ptr nid 0 0,iI (a:Nat),iI (b:Nat)] h K:=by
 have la:=hP.la;have lb:=hP.lb;have hz':=hz;unfold qB.sz at hz';refine sI K9 ?_;simp only[K9,qM,go_sem];obtain⟨aid,ps,q,_,o1,o2,o3⟩:=hN.rd hP.x;simp only[o1,zH la,o2,o3,go_sem];obtain⟨aid',f837,o4⟩:=qD8 hN hP.y hy (by omega);rw[o1]at o4;cases o4;simp only[zH lb,go_sem];refine qU (f837 _ λex=>?_);simp only[go_sem];refine lsA ?_;simp only[go_sem];have hbl:=hN.bl;have k0:Keep base h (h++ex):=Keep.app hbl;refine qU (KH (hN.app ex) (by omega) (by omega) (by omega) λh1 n1 k1=>?_);simp only[go_sem];refine qU (KH n1 (by omega) (by omega) (by simp;omega) λh2 n2 k2=>?_);rw[show (N++[qS y.Kind y.Level y.Value y.Data y.Ports.length]).length=N.length+1 by simp];simp only[go_sem];refine Sem.loop (α:=Nat×List qC) (λq=>q.1+1<=y.Ports.length/\NE w post base nid q.2 (zG N x y q.1)/\Keep base h q.2)
  (λq=>(⟨[(0,.ptr nid 0 0),(1,iI (a:Nat)),(2,iI (b:Nat)),(6,iI x.Level),(8,iI (y.Ports.length:Nat)),(9,iI (N.length:Nat)),(10,iI (N.length+1:Nat)),(11,iI ((q.1+1:Nat):Int))],[],q.2⟩:VSt)) (λq=>y.Ports.length-q.1) (0,h2) (by kernel_rfl)
  ⟨by simp only;omega,n2,k0.trans (k1.trans k2)⟩ csA ?_
 rintro⟨i,g⟩ ⟨hi,hn,hk⟩;simp only at hi hn hk;simp only[go_sem];have hg:(zG N x y i).length=N.length+2+i:=qB3;apply qI<;>intro hc<;>simp only[hc,go_sem]
 ·have hlt:i+1<y.Ports.length:=by have:=odT hc;omega
  clear hc;refine qU (Wy (n:=3) hn (by omega) (by omega) λg1 m1 j1=>?_);simp only[go_sem];have f1:Has (zG N x y i++[qS 4 x.Level 0 [] 3]) (zG N x y i).length 1:=zd (by omega);have f2:Has (zG N x y i++[qS 4 x.Level 0 [] 3]) (zG N x y i).length 2:=zd (by omega);have c1:Has (zG N x y i++[qS 4 x.Level 0 [] 3]) N.length (i+1):=(Qi (by omega)).1.app;have c2:Has (zG N x y i++[qS 4 x.Level 0 [] 3]) (N.length+1) (i+1):=(Qi (by omega)).2.app;refine qL zS ?_;simp only[go_sem];refine qL zS ?_;simp only[go_sem];refine qU (X2 (s:=1) (k:=i+1) m1 f1 c1 λg2 m2 j2=>?_);simp only[go_sem];refine qL zS ?_;simp only[go_sem];refine qL zS ?_;simp only[go_sem];refine qU (X2 (s:=2) (k:=i+1) m2 (f2.same (zo _ _ _)) (c2.same (zo _ _ _)) λg3 m3 j3=>?_);simp only[go_sem,wuA (n:=i+1)];refine qb (i+1,g3) ⟨by simp only;omega,m3,hk.trans (j1.trans (j2.trans j3))⟩ (by simp only;omega) csA
 ·have hlt:i=y.Ports.length-1:=by have:=odF hc;omega
  clear hc;subst hlt;have w0:=V7 (x:=x) hP hy;have w1:=V9 hP hx hy;have w2:=qB4 hP hx hy;have a1:Has (zG N x y (y.Ports.length-1)) a 1:=J4 (hP.ax (by omega));have a2:Has (Zj N a x y) a 2:=(J4 (hP.ax (by omega))).same Zk;refine qL zS ?_;simp only[go_sem];refine qL zS ?_;simp only[go_sem];refine qU (Qd (s:=1) (k:=0) hn a1 (Qi hy).1 (w0.peer a1 (by rintro(q | q);exact hP.nx (by omega) q.1;omega)) λg1 m1 j1=>?_);simp only[go_sem];refine qL zS ?_;simp only[go_sem];refine qL zS ?_;simp only[go_sem];refine qU (Qd (s:=2) (k:=0) m1 a2 ((Qi hy).2.same Zk) (w1.peer a2 (by rintro(q | q | q);exact hP.nx (by omega) q.1;omega;omega)) λg2 m2 j2=>?_);simp only[go_sem];refine Sem.loop (α:=Nat×List qC) (λq=>q.1+1<=y.Ports.length/\NE w post base nid q.2 (QN N a b x y q.1)/\Keep base h q.2)
   (λq=>(⟨[(0,.ptr nid 0 0),(2,iI (b:Nat)),(8,iI (y.Ports.length:Nat)),(10,iI (N.length+1:Nat)),(13,iI ((q.1+1:Nat):Int))],[],q.2⟩:VSt)) (λq=>y.Ports.length-q.1) (0,g2) (by kernel_rfl)
   ⟨by simp only;omega,m2,hk.trans (j1.trans j2)⟩ csA ?_
  clear hn hk m1 m2 j1 j2 hg hi;rintro⟨i,g⟩ ⟨hi,hn,hk⟩;simp only at hi hn hk;simp only[go_sem];apply qI<;>intro hc<;>simp only[hc,go_sem]
  ·have hlt:i+1<y.Ports.length:=by have:=odT hc;omega
   clear hc;have b1:Has (QN N a b x y i) b (i+1):=(J4 (hP.by' (by omega))).same WV;have b2:=V8 (N:=N) (x:=x) (y:=y) (i:=y.Ports.length-1) (j:=i) (s:=0) (by omega) (by omega);rw[show N.length+2+i=N.length+1+(i+1) by omega]at b2;have b3:Has (QN N a b x y i) (N.length+1+(i+1)) 0:=b2.same WV;refine qL zS ?_;simp only[go_sem];have e1:IntKind.i64.wrap (((N.length+1:Nat):Int)+((i+1:Nat):Int))=((N.length+1+(i+1):Nat):Int):=by rw[wsA];omega
   simp only[e1];refine qL zS ?_;simp only[go_sem];refine qU (Qd (s:=i+1) (k:=0) hn b1 b3 ((qB5 hP hx hy (i:=i) (by omega)).peer b1 (by rintro(⟨(q | q | q),_⟩ | q);exact hP.nx (by omega) q.1;omega;exact hP.ne q.1.symm;omega)) λg1 m1 j1=>?_);simp only[go_sem,wuA (n:=i+1)];refine qb (i+1,g1) ⟨by simp only;omega,m1,hk.trans j1⟩ (by simp only;omega) csA
  ·have hlt:i=y.Ports.length-1:=by have:=odF hc;omega
   subst hlt;exact hK _ hn hk
end
section
variable {w:Nat} {post:List AV} {base:Nat->Prop} {nid:Nat} {h:List qC} {N:Ags} {K:AV->List qC->Prop} {a b s c k:Nat} {x y:qB} {X:Nat->Nat->Prop}
theorem Keep.wo{b:Nat->Prop}{h h':List qC}{ids:List Nat}(hk:Keep b h h')(hi:∀i∈ids,¬b i):Keep b h (without ids h'):=
 ⟨by rw[QG];exact hk.l,λj hj=>by rw[Jy (λq=>hi j q hj)];exact hk.k j hj⟩
theorem qpC{kk lv v d:Int}{n:Nat}(hN:NE w post base nid h N)(hn:n<=1048576)(hl:N.length<=1048576)
  (hK:∀h',NE w post base nid h' (N++[qS kk lv v [d] n])->Keep base h h'->K (iI (N.length:Nat)) h') (h0:0<n:=by omega):
  SCall Gm 949 [.ptr nid 0 0,iI kk,iI lv,iI v,sQ 1 h.length 1,iI (n:Nat)] (h++[.row 1 [iI d] true]) K:=by
 have hbl:=hN.bl;have hk:Keep (Lo h.length) h (without [h.length] (h++[.row 1 [iI d] true])):=(Keep.app (λ_ q=>q)).wo (by simp[Lo]);refine SCall.giveH [h.length] (vs':=[.ptr nid 0 0,iI kk,iI lv,iI v,.lst 1 ([d].map qQ) false,iI (n:Nat)]) ?_ (KH (d:=[d]) (hN.keep hk) (by simp) hn hl λh' n1 k1=>hK h' n1 ((hk.up hbl).trans k1));refine HCv.list (.same _) (HCv.list (.same _) (HCv.list (.same _) (HCv.list (.same _) (HCv.list (.cv (Cv.row (by rw[QY (by simp)];simp[qQ]) rfl rfl (by decide)) rfl) (HCv.list (.same _) (HCv.refls []))))))
theorem Zi{y:qB}{i:Nat}(h:i<y.Data.length):(y.Data.map qQ)[i]?=some (iI (y.Data.getD i 0)):=by
 rw[gMp,lGd,gEg h];rfl
theorem qB7{q:Nat}(hr:0<x.Ports.length->h[q]?=some (.row 2 (x.Ports.map qE.enc) true)):Cv h (encR x q) x.enc:=by
 rcases Nat.eq_zero_or_pos x.Ports.length with e | e
 ·rw[qj8 e];exact .refl qB.tr
 have hr:=hr e;unfold encR;rw[Qc e];exact .agg rfl (w9 (.refl rfl) (w9 (.refl rfl) (w9 (.refl rfl) (w9 (.refl (by simp only[AV.tree];exact qa shI.tree _)) (w9 (Cv.row hr (by simp) (qa qE.isSh.tree _) (by decide)) (λp hp=>by simp at hp))))))
theorem NA.cva{aid:Nat}{ps:List Nat}(hN:NA w post base nid aid ps h N)(hx:N[k]?=some x):Cv h (.ptr aid k 0) (.ept x.enc 0):=by
 have hk:k<ps.length:=by rw[hN.l];exact qR hx
 exact .ptr hN.a (by decide) (Qk hx (gEg hk)) (qB7 (hN.p k x _ hx (gEg hk)))
theorem qoW(hP:Pr N a b x y X)(hN:NE w post base nid h N)(h8:y.Kind=8->y.Ports.length=2/\0<y.Data.length)(h7:y.Kind≠8->y.Ports.length=3)(hz:y.sz<=1000)(hl:N.length<=10000)
  (hK:∀h',NE w post base nid h' (if y.Kind=8 then Xq (opI y.Value (y.Data.getD 0 0) x.Value) N b else Z9 N b x y)->Keep base h h'->K (.tup []) h'):SCall Gm 1301 [.ptr nid 0 0,iI (a:Nat),iI (b:Nat)] h K:=by
 have la:=hP.la;have lb:=hP.lb;have hz':=hz;unfold qB.sz at hz';have hbl:=hN.bl;refine sI kE ?_;simp only[kE,qM,go_sem];obtain⟨aid',f837,o4⟩:=qD8 hN hP.y (by omega) (by omega);simp only[o4,zH lb,go_sem];refine qU (f837 _ λex=>?_);simp only[go_sem];refine lsA ?_;simp only[go_sem];have hN1:=hN.app ex;have k0:Keep base h (h++ex):=Keep.app hbl;generalize h++ex=h1 at hN1 k0|-;obtain⟨aid,ps,q,_,o1,o2,o3⟩:=hN1.rd hP.x;simp only[o1,zH la,o2,o3,go_sem];apply qI<;>intro hc<;>simp only[hc,go_sem]
 ·have e8:y.Kind=8:=by simpa using hc
  rw[if_pos e8]at hK;obtain⟨p2,d1⟩:=h8 e8;simp only[Zi d1,oMs,go_sem];refine qL c762 ?_;simp only[go_sem];refine qU (Wy (n:=1) hN1 (by omega) (by omega) λh2 n2 k2=>?_);simp only[go_sem];refine qL zS ?_;simp only[go_sem];refine qL zS ?_;simp only[go_sem];have b1:Has (N++[qS 6 0 (opI y.Value (y.Data.getD 0 0) x.Value) [] 1]) b 1:=(hP.by' (by omega)).app;refine qU (Qd (s:=1) (k:=0) n2 b1 (zd (by omega)) ((QI hP).peer b1 (by rintro(q | q);exact hP.nx (by omega) q.1;omega)) λh3 n3 k3=>?_);simp only[go_sem];exact hK _ n3 (k0.trans (k2.trans k3))
 ·have e8:y.Kind≠8:=by simpa using hc
  rw[if_neg e8]at hK;have p3:=h7 e8;refine qU (qpC (n:=2) hN1 (by omega) (by omega) λh2 n2 k2=>?_);simp only[go_sem];refine qL zS ?_;simp only[go_sem];refine qL zS ?_;simp only[go_sem];have b1:Has (N++[qS 8 y.Level y.Value [x.Value] 2]) b 1:=(hP.by' (by omega)).app;refine qU (Qd (s:=1) (k:=0) n2 b1 (zd (by omega)) ((QI hP).peer b1 (by rintro(q | q);exact hP.nx (by omega) q.1;omega)) λh3 n3 k3=>?_);simp only[go_sem];refine qL zS ?_;simp only[go_sem];refine qL zS ?_;simp only[go_sem];have b2:Has (Wj N b x y) b 2:=(hP.by' (by omega)).app.same ZR;have w2:W (Wj N b x y) _:=Yy hP (by omega) (by omega);refine qU (Qd (s:=2) (k:=1) n3 b2 ((zd (by omega)).same ZR) (w2.peer b2 (by rintro(q | q | q);exact hP.nx (by omega) q.1;omega;omega)) λh4 n4 k4=>?_);simp only[go_sem];exact hK _ n4 (k0.trans (k2.trans (k3.trans k4)))
theorem qoX(hP:Pr N a b x y X)(hN:NE w post base nid h N)(hy:y.Ports.length=2)(h11:y.Kind=11->y.Data.length=2)(h10:y.Kind≠11->x.Kind=9/\0<x.Ports.length/\0<=x.Value/\x.Value<y.Data.length)(hz:y.sz<=1000)(hzx:x.sz<=1000)(hl:N.length<=10000)
  (hK:∀h',NE w post base nid h' (if y.Kind=11 then Xv y.Level (J3 x y) N b else ZA y.Level (y.Data.getD x.Value.toNat 0) N a b (x.Ports.length-1))->Keep base h h'->K (.tup []) h'):SCall Gm 1302 [.ptr nid 0 0,iI (a:Nat),iI (b:Nat)] h K:=by
 have la:=hP.la;have lb:=hP.lb;have hz':=hz;unfold qB.sz at hz';have hzx':=hzx;unfold qB.sz at hzx';have hbl:=hN.bl;refine sI kF ?_;simp only[kF,qM,go_sem];obtain⟨aid',f837,o4⟩:=qD8 hN hP.y (by omega) (by omega);simp only[o4,zH lb,go_sem];refine qU (f837 _ λex=>?_);simp only[go_sem];refine lsA ?_;simp only[go_sem];have hN1:=hN.app ex;have k0:Keep base h (h++ex):=Keep.app hbl;generalize h++ex=h1 at hN1 k0|-;obtain⟨aid,ps,q,hNA,o1,o2,o3⟩:=hN1.rd hP.x;apply qI<;>intro hc<;>simp only[hc,go_sem]
 ·have e11:y.Kind=11:=by simpa using hc
  clear hc;rw[if_pos e11]at hK;have d2:=h11 e11;simp only[Zi (y:=y) (i:=1) (by omega),oMs,o1,zH la,o2,o3,go_sem];have b1:∀v,Has (N++[qS 12 y.Level v [] 1]) b 1:=λv=>(hP.by' (by omega)).app;apply qI<;>intro hc<;>simp only[hc,go_sem]
  ·have ed:y.Data.getD 0 0=J3 x y:=by unfold J3;rw[if_pos (by simpa using hc)]
   simp only[Zi (y:=y) (i:=0) (by omega),oMs,ed,go_sem];refine qU (Wy (n:=1) hN1 (by omega) (by omega) λh2 n2 k2=>?_);simp only[go_sem];refine qL zS ?_;simp only[go_sem];refine qL zS ?_;simp only[go_sem];refine qU (Qd (s:=1) (k:=0) n2 (b1 _) (zd (by omega)) ((QI hP).peer (b1 _) (by rintro(q | q);exact hP.nx (by omega) q.1;omega)) λh3 n3 k3=>?_);simp only[go_sem];exact hK _ n3 (k0.trans (k2.trans k3))
  ·have ed:y.Data.getD 1 0=J3 x y:=by unfold J3;rw[if_neg (by simpa using hc)]
   simp only[ed];refine qU (Wy (n:=1) hN1 (by omega) (by omega) λh2 n2 k2=>?_);simp only[go_sem];refine qL zS ?_;simp only[go_sem];refine qL zS ?_;simp only[go_sem];refine qU (Qd (s:=1) (k:=0) n2 (b1 _) (zd (by omega)) ((QI hP).peer (b1 _) (by rintro(q | q);exact hP.nx (by omega) q.1;omega)) λh3 n3 k3=>?_);simp only[go_sem];exact hK _ n3 (k0.trans (k2.trans k3))
 ·have e11:y.Kind≠11:=by simpa using hc
  clear hc;rw[if_neg e11]at hK;obtain⟨e9,x0,v0,v1⟩:=h10 e11;have ef:fieldsOf x=((x.Ports.length-1:Nat):Int):=by unfold fieldsOf;rw[if_pos e9];omega
  simp only[o1,zH la,go_sem];refine jx (Cvs.cons (hNA.cva hP.x) Cvs.nil) (qBK (x:=x) (by omega)) rfl ?_;rw[ef];simp only[o1,zH la,o2,o3,Qn v0,Zi (y:=y) (i:=x.Value.toNat) (by omega),oMs,go_sem];refine qU (Wy (n:=1) hN1 (by omega) (by omega) λh2 n2 k2=>?_);simp only[go_sem];refine qL zS ?_;simp only[go_sem];refine lsA ?_;simp only[go_sem];generalize y.Data.getD x.Value.toNat 0=v at hK n2|-;refine Sem.loop (α:=Nat×List qC) (λq=>q.1+1<=x.Ports.length/\NE w post base nid q.2 (zf y.Level v N a q.1)/\Keep base h q.2)
   (λq=>(⟨[(0,.ptr nid 0 0),(1,iI (a:Nat)),(2,iI (b:Nat)),(9,iI ((x.Ports.length-1:Nat):Int)),(12,iI ((q.1+1:Nat):Int))],[(6,y.enc),(11,(J6 N.length q.1).enc)],q.2⟩:VSt)) (λq=>x.Ports.length-q.1) (0,h2) (by kernel_rfl)
   ⟨by simp only;omega,n2,k0.trans k2⟩ (Can.sub (by simp[go_sem]) (by simp[go_sem];rfl)) ?_
  rintro⟨i,g⟩ ⟨hi,hn,hk⟩;simp only at hi hn hk;have hg:(zf y.Level v N a i).length=N.length+1+i:=Vh;have wi:=XI (lev:=y.Level) (v:=v) hP (i:=i) (by omega);simp only[go_sem];apply qI<;>intro hc<;>simp only[hc,go_sem]
  ·have hlt:i+1<x.Ports.length:=by have:=odT hc;omega
   clear hc;refine qU (Wy (n:=3) hn (by omega) (by omega) λg1 m1 j1=>?_);simp only[go_sem];refine qL zS ?_;simp only[go_sem];have f0:Has (zf y.Level v N a i++[qS 3 y.Level 0 [] 3]) (zf y.Level v N a i).length 0:=zd (by omega);have f1:Has (zf y.Level v N a i++[qS 3 y.Level 0 [] 3]) (zf y.Level v N a i).length 1:=zd (by omega);refine qU (X2 (k:=0) m1 WP.app f0 λg2 m2 j2=>?_);simp only[go_sem];refine qL zS ?_;simp only[go_sem];refine qL zS ?_;simp only[go_sem];have e0:zU i<=2:=by unfold zU;split<;>omega
   have n1:=hP.na (q:=i+1) (by omega);have a1:Has (ze (zf y.Level v N a i++[qS 3 y.Level 0 [] 3]) (pt (N.length+i) (zU i)) (pt (zf y.Level v N a i).length 0)) a (i+1):=(WQ (hP.ax (by omega))).app.same (zo _ _ _);have w1:=(wi.add (qS 3 y.Level 0 [] 3)).link (a:=N.length+i) (s:=zU i) (c:=(zf y.Level v N a i).length) (k:=0) WP.app f0 (.inl ⟨.inr (.inr ⟨rfl,rfl⟩),by omega⟩) (.inr rfl) (by omega);refine qU (Qd (s:=i+1) (k:=1) m2 a1 (f1.same (zo _ _ _)) (w1.peer a1 (by rintro⟨⟨(q | q | q),_⟩ | q,_⟩;exact n1 q.1;omega;omega;omega)) λg3 m3 j3=>?_);simp only[go_sem];refine qL zS ?_;simp only[go_sem];refine lsA ?_;simp only[go_sem,wuA (n:=i+1)];refine qb (i+1,g3) ⟨by simp only;omega,m3,hk.trans (j1.trans (j2.trans j3))⟩ (by simp only;omega) (Can.sub (by simp[go_sem]) ?_);simp[go_sem];rw[hg,show N.length+1+i=N.length+(i+1) by omega];rfl
  ·have hlt:i=x.Ports.length-1:=by have:=odF hc;omega
   clear hc;subst hlt;refine qL zS ?_;simp only[go_sem];have b1:Has (zf y.Level v N a (x.Ports.length-1)) b 1:=WQ (hP.by' (by omega));refine qU (Qd (s:=1) (k:=zU (x.Ports.length-1)) hn b1 WP (wi.peer b1 (by rintro(q | q | q);exact hP.nx (by omega) q.1;exact hP.ne q.1.symm;omega)) λg1 m1 j1=>?_);simp only[go_sem];exact hK _ m1 (hk.trans j1)
end
section
variable {w:Nat} {post:List AV} {base:Nat->Prop} {nid:Nat} {h:List qC} {N:Ags} {K:AV->List qC->Prop} {a b s c k:Nat} {x y:qB} {X:Nat->Nat->Prop} {t:qD}
theorem KN{g:List qC}{A B C:qC}:(g++[A,B]).set (g.length+1) C=g++[A,C]:=by
 rw[lSr _ _ (by omega)];simp
theorem qgX{g:List qC}{A B:qC}:(g++[A,B])[g.length]?=some A:=by rw[gAr (by omega)];simp
theorem Q2{g:List qC}{A B:qC}:(g++[A,B])[g.length+1]?=some B:=by rw[gAr (by omega)];simp
theorem NA.push3{aid:Nat}{ps:List Nat}{g:List qC}(hN:NA w post base nid aid ps g N)(h00:0<x.Ports.length){dl:List AV}(hd:dl=x.Data.map qQ){X:AV}(hX:X=.agg [iI x.Kind,iI x.Level,iI x.Value,sQ 1 g.length x.Data.length,sQ 2 (g.length+1) x.Ports.length]):
  ∀G,G=(((g++[qC.row 1 dl true,qC.row 2 (x.Ports.map qE.enc) true]++[qC.row 5 [X] true]).set aid .dead)++[qC.row 5 (zC N ps++[X]) true]).set nid (.row w [.agg (sQ 5 (g.length+3) (N.length+1)::post)] true)->
  ∃G',(∀b s m,Can b ⟨s,m,G⟩ ⟨s,m,G'⟩)/\NE w post base nid G' (N++[x])/\Keep base g G':=by
 intro G hG;have k0:=hN.lt;have k1:=hN.lta;have n1:=hN.n1;have c1:=hN.b1;have c2:=hN.b2;have el:=Ql hN.l;have lG:G.length=g.length+4:=by rw[hG];simp
 have eG:∀j,j<g.length->j≠nid->j≠aid->G[j]?=g[j]?:=λj hj j1 j2=>by
  rw[hG,gSn (Ne.symm j1),gAl (by simp;omega),gSn (Ne.symm j2),gAl (by simp;omega),gAl hj]
 have e0:G[g.length]?=some (.row 1 dl true):=by
  rw[hG,gSn (by omega),gAl (by simp),gSn (by omega),gAl (by simp)];exact qgX
 have e1:G[g.length+1]?=some (.row 2 (x.Ports.map qE.enc) true):=by
  rw[hG,gSn (by omega),gAl (by simp),gSn (by omega),gAl (by simp)];exact Q2
 have e3:G[g.length+3]?=some (.row 5 (zC N ps++[X]) true):=by
  rw[hG,gSn (by omega),gAr (by simp)];simp
 have en:G[nid]?=some (.row w [.agg (sQ 5 (g.length+3) (N.length+1)::post)] true):=by
  rw[hG,gSs (by simp;omega)]
 refine⟨(without [g.length] G).set (g.length+3) (.row 5 (zC N ps++[encR x (g.length+1)]) true),λb s m=>Can.giveH [g.length] (by simp) e3 (by simp) (HCv.apps _ ?_), ?_,⟨by simp[QG];omega,λj hj=>?_⟩⟩
 ·rw[hX];unfold encR;rw[Qc h00];refine HCv.list (.agg rfl (HCv.list (.same _) (HCv.list (.same _) (HCv.list (.same _) (HCv.list (.cv (Cv.row (by rw[QY (by simp)];rw[e0,hd]) (by simp) (qa shI.tree _) (by decide)) (by simp only[AV.tree];exact qa shI.tree _)) (HCv.list (.same _) (HCv.refls [])))))).2) (HCv.refls [])
 ·have hN0:NA w post base nid aid ps (g++[qC.dead,.row 2 (x.Ports.map qE.enc) true,.row 5 [X] true]) N:=hN.app _;have:=hN0.push (x:=x) (q:=g.length+1) (h2:=(without [g.length] G).set (g.length+3) (.row 5 (zC N ps++[encR x (g.length+1)]) true)) (by rw[gAr (by omega)];simp) (λq=>by have:=hN.bl _ q;omega) (by omega) (by omega) (λq=>by have:=hN.ltp q;omega) ?_ ?_ ?_
  ·exact⟨_,_,this⟩
  ·simp only[lAp,lCo,lNi];rw[gSn (by omega),Jy (by simp;omega)];exact en
  ·simp only[lAp,lCo,lNi];rw[gSs (by rw[QG];omega)]
  ·intro j hj j1 j2;simp only[lAp,lCo,lNi]at hj;rw[gSn (by omega)];by_cases q:j=g.length
   ·subst q;have:(without [g.length] G)[g.length]?=some .dead:=by
     unfold without;rw[List.getElem?_mapIdx,e0];simp
    rw[this,gAr (by omega)];simp
   ·rw[Jy (by simpa using q)];by_cases q2:j<g.length
    ·rw[eG j q2 j1 j2,gAl q2]
    ·by_cases q3:j=g.length+1
     ·subst q3;rw[e1,gAr (by omega)];simp
     ·obtain rfl:j=g.length+2:=by omega
      rw[gAr (by omega),hG,gSn (by omega),gAl (by simp),gSn (by omega),gAr (by simp)];simp
 ·have:=hN.bl j hj;rw[gSn (by omega),Jy (by simp;omega)];exact eG j (by omega) (Ne.symm (nbe c1 hj)) (Ne.symm (nbe c2 hj))
theorem ZJ{ps:List qE}{c:Bool}{n:Nat}:(lay (.lst 2 (ps.map qE.enc) c) n).2=[.row 2 (ps.map qE.enc) true]:=by simp[lay,qE.flat]
theorem ZI{ps:List Int}{c:Bool}{n:Nat}:(lay (.lst 1 (ps.map qQ) c) n).2=[.row 1 (ps.map qQ) true]:=by simp[lay,lI]
def jp(N:Ags)(t:qD)(lev:Int)(j:Nat):Ags:=N++((t.Agents.drop 1).take j).map (zF lev ((N.length:Int)-1))
theorem qCC{lev:Int}{j:Nat}(h:j+1<=t.Agents.length):(jp N t lev j).length=N.length+j:=by unfold jp;simp;omega
theorem qcS{lev:Int}{j:Nat}(h:j+1<t.Agents.length):jp N t lev (j+1)=jp N t lev j++[zF lev ((N.length:Int)-1) t.Agents[j+1]]:=by
 unfold jp;have e:(t.Agents.drop 1)[j]?=some t.Agents[j+1]:=by rw[qB0,gEg h]
 have hj:j<(t.Agents.drop 1).length:=by simp;omega
 have e2:(t.Agents.drop 1)[j]=t.Agents[j+1]:=by rw[gEg hj]at e;exact Option.some.inj e
 rw[lTs hj,e2];simp
theorem qcR{lev:Int}{j:Nat}(h:j+1=t.Agents.length):jp N t lev j=jJ N t lev:=by
 unfold jp jJ;rw[List.take_of_length_le (by simp;omega)]
def shP(base:Int)(p:qE):qE:=⟨p.Agent+base,p.Slot⟩
def wC(f:qE->qE)(ps:List qE)(j:Nat):List qE:=(ps.take j).map f++ps.drop j
theorem Yq{f:qE->qE}{ps:List qE}:wC f ps 0=ps:=by simp[wC]
theorem Ys{f:qE->qE}{ps:List qE}:wC f ps ps.length=ps.map f:=by simp[wC]
theorem Yr{f:qE->qE}{ps:List qE}{j:Nat}(h:j<ps.length):(wC f ps j)[j]?=some ps[j]:=by
 unfold wC;rw[gAr (by simp;omega)];simp only[lMp,lLt,nMl (Nat.le_of_lt h),nSs,gDr,nAz];exact gEg h
theorem Yt{f:qE->qE}{ps:List qE}{j:Nat}(h:j<ps.length):(wC f ps j).set j (f ps[j])=wC f ps (j+1):=by
 unfold wC;rw[lSr _ _ (by simp;omega)];simp only[lMp,lLt,nMl (Nat.le_of_lt h),nSs];rw[lDc h,lSz,lTs h,lMa];simp only[lMc,List.map_nil,lAa,lCa,lNa]
theorem Y2{p:qE}{v:Int}:p.enc.put 0 (iI v)=some ((⟨v,p.Slot⟩:qE).enc):=by cases p;rfl
theorem qoY(hP:Pr N a b x y X)(hN:NE w post base nid h N)(ht:zB t=true)(hy:0<y.Ports.length)(hts:∀z∈t.Agents,z.sz<=1000)(htl:t.Agents.length<=600)(hl:N.length<=10000)(hlev:0<=x.Level/\x.Level<=8)
  (htp:∀(k s:Nat)(q:qE),atP t.Agents k s=some q->0<=q.Agent/\q.Agent<=600) (htv:∀z∈t.Agents,0<=z.Level/\z.Level<=8)
  (hK:∀h',NE w post base nid h' (ZG N t x.Level b)->Keep base h h'->K (.tup []) h'):SCall Gm 1303 [.ept t.enc 0,.ptr nid 0 0,iI (a:Nat),iI (b:Nat)] h K:=by
 have la:=hP.la;have lb:=hP.lb;have hbl:=hN.bl;refine sI kJ ?_;simp only[kJ,qM,go_sem];obtain⟨aid,ps,q,hNA,o1,o2,o3⟩:=hN.rd hP.x;simp only[o1,zH la,o2,o3,go_sem];have eb:IntKind.i64.wrap ((N.length:Int)-1)=((N.length-1:Nat):Int):=by rw[wsA];omega
 have eb2:(N.length:Int)-1=((N.length-1:Nat):Int):=by omega
 simp only[eb];clear o1 o2 o3 hNA;refine Sem.loop (α:=Nat×List qC) (λq=>q.1+1<=t.Agents.length/\NE w post base nid q.2 (jp N t x.Level q.1)/\Keep base h q.2)
  (λq=>(⟨[(0,.ept t.enc 0),(1,.ptr nid 0 0),(3,iI (b:Nat)),(8,iI x.Level),(9,iI ((N.length-1:Nat):Int)),(10,iI ((q.1+1:Nat):Int))],[],q.2⟩:VSt)) (λq=>t.Agents.length-q.1) (0,h) (by kernel_rfl)
  ⟨by have:=Wg ht;simp only;omega,by unfold jp;simpa using hN,Keep.refl⟩ csA ?_
 rintro⟨i,g⟩ ⟨hi,hn,hk⟩;simp only at hi hn hk;simp only[go_sem];apply qI<;>intro hc<;>simp only[hc,go_sem]
 ·have hlt:i+1<t.Agents.length:=by have:=odT hc;omega
  clear hc;have hz:=hts _ (gMm hlt);have hv8:=htv _ (gMm hlt);have hzp:0<t.Agents[i+1].Ports.length:=(zi (qDE ht (gEg hlt))).2;have hpp:∀(s:Nat)(hs:s<t.Agents[i+1].Ports.length),0<=t.Agents[i+1].Ports[s].Agent/\t.Agents[i+1].Ports[s].Agent<=600:=λs hs=>htp (i+1) s _ (jd.2 ⟨_,gEg hlt,gEg hs⟩);have es:=qcS (N:=N) (lev:=x.Level) hlt;simp only[gMp,gEg hlt,oMs,go_sem];generalize t.Agents[i+1]=z at hz hv8 hzp hpp es|-;have hz':=hz;unfold qB.sz at hz';refine zk (n837 z (by omega)) ?_;simp only[qB.layE,AV.rows,ZJ,ZI,lNa,lAn,lCa,Wr,nZa,go_sem];refine lsA ?_;simp only[go_sem];refine qL qBI ?_;simp only[go_sem];obtain⟨L,hL⟩:∃L,L=(zF x.Level ((N.length:Int)-1) z).Level:=⟨_,rfl⟩;apply qI<;>intro hc<;>simp only[hc,go_sem]
  ·have el:IntKind.i64.wrap (z.Level+x.Level)=L:=by rw[hL,wsA];unfold zF;simp[hc]
   clear hc;refine Sem.loop (λj:Nat=>j<=z.Ports.length/\True) (λj=>(⟨[(0,.ept t.enc 0),(1,.ptr nid 0 0),(3,iI (b:Nat)),(8,iI x.Level),(9,iI ((N.length-1:Nat):Int)),(10,iI ((i+1:Nat):Int)),(12,iI (j:Nat))],
    [(11,.agg [iI z.Kind,iI L,iI z.Value,sQ 1 g.length z.Data.length,sQ 2 (g.length+1) z.Ports.length])],g++[.row 1 (z.Data.map qQ) true,.row 2 ((wC (shP ((N.length:Int)-1)) z.Ports j).map qE.enc) true]⟩:VSt)) (λj=>z.Ports.length-j) 0 (by kernel_rfl) ⟨nZl _,trivial⟩
    (by rw[Yq];exact Can.sub (by simp[go_sem]) (by simp[go_sem,el])) ?_
   rintro j ⟨hj,_⟩;simp only[go_sem];apply qI<;>intro hc<;>simp only[hc,go_sem]
   ·have hlj:j<z.Ports.length:=by have:=odT hc;omega
    clear hc;have hq:=hpp j hlj;have hm:((wC (shP ((N.length:Int)-1)) z.Ports j).map qE.enc)[j]?=some (z.Ports[j].enc):=by rw[gMp,Yr hlj];rfl
    simp only[JW hlj,Q2,hm,go_sem];refine qn rfl Q2 hm Y2 ?_;have ep:(⟨IntKind.i64.wrap (z.Ports[j].Agent+((N.length-1:Nat):Int)),z.Ports[j].Slot⟩:qE)=shP ((N.length:Int)-1) z.Ports[j]:=by
     unfold shP;rw[eb2,wsA]
    rw[ep,<-List.map_set,Yt hlj,KN];simp only[go_sem];simp only[wuA (n:=j)];refine qb (j+1) ⟨by omega, ?_⟩ (by omega) csA;trivial
   ·have hlj:j=z.Ports.length:=by have:=odF hc;omega
    clear hc;subst hlj;rw[Ys];obtain⟨aid,ps,hNA⟩:=hn;have k0:=hNA.lt;have k1:=hNA.lta;have on:∀{o:List qC},(g++o)[nid]?=some (.row w [.agg (.slice 5 aid 0 (jp N t x.Level i).length false::post)] true):=λ{o}=>by rw[gAl k0];exact hNA.o
    simp only[on,go_sem];have l5:=Ql hNA.l;have lS:=qCC (N:=N) (lev:=x.Level) hi;refine jO (len:=(jp N t x.Level i).length) (x:=.agg [iI z.Kind,iI L,iI z.Value,sQ 1 g.length z.Data.length,sQ 2 (g.length+1) z.Ports.length]) (w:=5) (by simp) (by rw[gAl (by simp;omega),gAl k1];exact hNA.a) l5 (by omega) ?_;have eP:z.Ports.map (shP ((N.length:Int)-1))=(zF x.Level ((N.length:Int)-1) z).Ports:=rfl;rw[eP];simp only[lAp,nZa,go_sem];refine qn rfl (by rw[gAl (by simp;omega),gSn (Ne.symm hNA.n1),gAl (by simp;omega)];exact on) rfl Xu ?_;simp only[lSz];have hX:(AV.agg [iI z.Kind,iI L,iI z.Value,sQ 1 g.length z.Data.length,sQ 2 (g.length+1) z.Ports.length])=.agg [iI (zF x.Level ((N.length:Int)-1) z).Kind,iI (zF x.Level ((N.length:Int)-1) z).Level,iI (zF x.Level ((N.length:Int)-1) z).Value,.slice 1 g.length 0 (zF x.Level ((N.length:Int)-1) z).Data.length false,.slice 2 (g.length+1) 0 (zF x.Level ((N.length:Int)-1) z).Ports.length false]:=by
     rw[hL];simp[zF]
    obtain⟨G',c1,n1,q1⟩:=hNA.push3 (x:=zF x.Level ((N.length:Int)-1) z) (by simpa[zF]using hzp) (dl:=z.Data.map qQ) rfl hX _ rfl;rw[<-es]at n1;simp only[go_sem,wuA (n:=i+1)];refine qb (i+1,G') ⟨by simp only;omega,n1,hk.trans q1⟩ (by simp only;omega) ((c1 _ _ _).trans csA)
  ·have el:z.Level=L:=by rw[hL];unfold zF;simp[hc]
   clear hc;refine Sem.loop (λj:Nat=>j<=z.Ports.length/\True) (λj=>(⟨[(0,.ept t.enc 0),(1,.ptr nid 0 0),(3,iI (b:Nat)),(8,iI x.Level),(9,iI ((N.length-1:Nat):Int)),(10,iI ((i+1:Nat):Int)),(12,iI (j:Nat))],
    [(11,.agg [iI z.Kind,iI L,iI z.Value,sQ 1 g.length z.Data.length,sQ 2 (g.length+1) z.Ports.length])],g++[.row 1 (z.Data.map qQ) true,.row 2 ((wC (shP ((N.length:Int)-1)) z.Ports j).map qE.enc) true]⟩:VSt)) (λj=>z.Ports.length-j) 0 (by kernel_rfl) ⟨nZl _,trivial⟩
    (by rw[Yq];exact Can.sub (by simp[go_sem]) (by simp[go_sem,el])) ?_
   rintro j ⟨hj,_⟩;simp only[go_sem];apply qI<;>intro hc<;>simp only[hc,go_sem]
   ·have hlj:j<z.Ports.length:=by have:=odT hc;omega
    clear hc;have hq:=hpp j hlj;have hm:((wC (shP ((N.length:Int)-1)) z.Ports j).map qE.enc)[j]?=some (z.Ports[j].enc):=by rw[gMp,Yr hlj];rfl
    simp only[JW hlj,Q2,hm,go_sem];refine qn rfl Q2 hm Y2 ?_;have ep:(⟨IntKind.i64.wrap (z.Ports[j].Agent+((N.length-1:Nat):Int)),z.Ports[j].Slot⟩:qE)=shP ((N.length:Int)-1) z.Ports[j]:=by
     unfold shP;rw[eb2,wsA]
    rw[ep,<-List.map_set,Yt hlj,KN];simp only[go_sem];simp only[wuA (n:=j)];refine qb (j+1) ⟨by omega, ?_⟩ (by omega) csA;trivial
   ·have hlj:j=z.Ports.length:=by have:=odF hc;omega
    clear hc;subst hlj;rw[Ys];obtain⟨aid,ps,hNA⟩:=hn;have k0:=hNA.lt;have k1:=hNA.lta;have on:∀{o:List qC},(g++o)[nid]?=some (.row w [.agg (.slice 5 aid 0 (jp N t x.Level i).length false::post)] true):=λ{o}=>by rw[gAl k0];exact hNA.o
    simp only[on,go_sem];have l5:=Ql hNA.l;have lS:=qCC (N:=N) (lev:=x.Level) hi;refine jO (len:=(jp N t x.Level i).length) (x:=.agg [iI z.Kind,iI L,iI z.Value,sQ 1 g.length z.Data.length,sQ 2 (g.length+1) z.Ports.length]) (w:=5) (by simp) (by rw[gAl (by simp;omega),gAl k1];exact hNA.a) l5 (by omega) ?_;have eP:z.Ports.map (shP ((N.length:Int)-1))=(zF x.Level ((N.length:Int)-1) z).Ports:=rfl;rw[eP];simp only[lAp,nZa,go_sem];refine qn rfl (by rw[gAl (by simp;omega),gSn (Ne.symm hNA.n1),gAl (by simp;omega)];exact on) rfl Xu ?_;simp only[lSz];have hX:(AV.agg [iI z.Kind,iI L,iI z.Value,sQ 1 g.length z.Data.length,sQ 2 (g.length+1) z.Ports.length])=.agg [iI (zF x.Level ((N.length:Int)-1) z).Kind,iI (zF x.Level ((N.length:Int)-1) z).Level,iI (zF x.Level ((N.length:Int)-1) z).Value,.slice 1 g.length 0 (zF x.Level ((N.length:Int)-1) z).Data.length false,.slice 2 (g.length+1) 0 (zF x.Level ((N.length:Int)-1) z).Ports.length false]:=by
     rw[hL];simp[zF]
    obtain⟨G',c1,n1,q1⟩:=hNA.push3 (x:=zF x.Level ((N.length:Int)-1) z) (by simpa[zF]using hzp) (dl:=z.Data.map qQ) rfl hX _ rfl;rw[<-es]at n1;simp only[go_sem,wuA (n:=i+1)];refine qb (i+1,G') ⟨by simp only;omega,n1,hk.trans q1⟩ (by simp only;omega) ((c1 _ _ _).trans csA)
 ·have hlt:i+1=t.Agents.length:=by have:=odF hc;omega
  clear hc;have w0:=qcR (N:=N) (lev:=x.Level) hlt;obtain⟨c,r,e1,e2,e3,e4⟩:=Ye (N:=N) (b:=b) (lev:=x.Level) ht (by omega);have hz0:t.Agents[0]?=some t.Agents[0]:=gEg (Wg ht);obtain⟨z0,hz1,hz2⟩:=jd.1 e2;rw[hz0]at hz1;cases hz1;simp only[gMp,hz0,hz2,oMs,go_sem];refine lsA ?_;simp only[go_sem];have hc8:=htp 0 0 _ e2;simp only[pt]at hc8;have ec:IntKind.i64.wrap (((N.length-1:Nat):Int)+((c+1:Nat):Int))=((N.length+c:Nat):Int):=by rw[wsA];omega
  simp only[ec];refine qL zS ?_;simp only[go_sem];refine qL zS ?_;simp only[go_sem];rw[w0]at hn;have b0:Has (jJ N t x.Level) b 0:=by unfold jJ;exact(hP.by' hy).app
  refine qU (X2 (s:=r) (k:=0) hn e3 b0 λg1 m1 j1=>?_);simp only[go_sem];exact hK _ (by rw[e4];exact m1) (hk.trans j1)
end
theorem qjF{x:qB}(h:qe x=true):x.Data.length<=4:=by
 have:=ZQ h;unfold z7 at this;simp only[bAt,dTe,inI]at this
 repeat' split at this
 all_goals (simp only[bAt,dTe]at this;omega)
theorem Z8{x:qB}(h:qe x=true):x.sz<=8:=by
 have:=qjF h;have:=Xp h;unfold qB.sz;omega
theorem VL{α:Type}{f:α->Nat}{k:Nat}:∀{xs:List α},(∀x∈xs,f x<=k)->qH f xs<=k*xs.length
 |[],_=>nZl _
 | x::xs,h=>by
  have h1:=h x (by simp);have h2:=VL (xs:=xs) λy hy=>h y (by simp[hy]);simp only[qH,lCo,Nat.mul_add];omega
theorem Z7{n:qD}(h:zB n=true):n.sz<=5400/\n.Agents.length<=600:=by
 have h1:n.Agents.length<=600:=by
  have:=h;unfold zB wb at this;simp only[bAt,zK]at this;omega
 have h2:=VL (f:=qB.sz) (k:=8) λx hx=>Z8 (JT (JX h) x hx);unfold qD.sz;omega
section
variable {w:Nat} {post:List AV} {base:Nat->Prop} {nid:Nat} {h:List qC} {N:Ags} {K:AV->List qC->Prop} {a b s c k:Nat} {x y:qB} {X:Nat->Nat->Prop} {bk:List qD} {R:Nat->Bool}
theorem qB9:∀{N:Ags}{ps:List Nat},ps.length=N.length->(∀(k:Nat)(x:qB)(q:Nat),N[k]?=some x->ps[k]?=some q->0<x.Ports.length->h[q]?=some (.row 2 (x.Ports.map qE.enc) true))->
  ∀p∈(zC N ps).zip (N.map qB.enc),Cv h p.1 p.2
 |[],[],_,_=>λp hp=>by simp[zC]at hp
 |[],_::_,e,_=>by simp at e
 | _::_,[],e,_=>by simp at e
 | x::N,q::ps,e,hp=>w9 (qB7 (hp 0 x q rfl rfl)) (qB9 (N:=N) (ps:=ps) (by simpa using e) λk x q hx hq=>hp (k+1) x q hx hq)
abbrev Um(N:Ags)(post:List AV):AV:=.agg (.lst 5 (N.map qB.enc) false::post)
theorem NE.cvn{post':List AV}(hN:NE w post base nid h N)(hw:0<w)(hp:Cvs h post post'):Cv h (.ptr nid 0 0) (.ept (Um N post') 0):=by
 obtain⟨aid,ps,hN⟩:=hN;have el:=Ql hN.l;refine .ptr hN.o hw rfl (.agg (by simp[hp.1]) (w9 (.slc hN.a (by omega) (by decide) (by simp[el]) ?_) hp.2));rw[List.drop_zero,<-el,lTl];exact qB9 hN.l hN.p
theorem qC7{post:List AV}(ht:AV.trees post=true):(Um N post).tree=true:=by
 simp only[AV.tree,AV.trees,qa qB.isSh.tree,ht,Bool.and_self]
theorem qC6{post:List AV}:(Um N post).part 0 (some 1)=some (qD.enc ⟨N⟩):=rfl
theorem qjD:Cv h (.lst 1 (bk.map qD.enc) false) (.lst 1 (bk.map qD.enc) false):=.refl (by simp only[AV.tree];exact qa qD.isSh.tree _)
def j9(bk:List qD)(N:Ags)(a b:Nat)(x y:qB):Ags:=if qN x y=7 then(zA bk N a b x y).set a hole else((zA bk N a b x y).set a hole).set b hole
theorem qaR(bk:List qD)(N:Ags)(a b:Nat)(x y:qB):N.length<=(zA bk N a b x y).length:=by rw[(WM bk N a b x y).len];simp
theorem qkY{c p:Int}: -2<=(jB c p).1/\(jB c p).1<=600:=by
 unfold jB
 repeat' split
 all_goals (rename_i q;first | (rw[zK]at q;simp only;omega) | (simp only;omega))
theorem qc8: -2<=(ql bk x y).1/\(ql bk x y).1<=600:=by
 unfold ql
 repeat' split
 all_goals first
  | (simp only;omega)
  | exact qkY
structure SP(R:Nat->Bool)(N:Ags):Prop where
 hol:Hol R N
 z:∀(k:Nat)(x:qB),N[k]?=some x->R k=true->x=hole
theorem SP.sz(h:SP R N){x:qB}(hx:x∈N):x.sz<=8:=by
 obtain⟨k,hk,e⟩:=List.getElem_of_mem hx;have hx:=gSi.2 ⟨hk,e⟩;cases q:R k with
 | true=>rw[h.z k x hx q];decide
 | false=>exact Z8 (h.hol.k k x hx q).1
theorem SP.kind(h:SP R N){k:Nat}{x:qB}(hx:N[k]?=some x):x.Kind=0↔R k=true:=by
 cases q:R k with
 | true=>rw[h.z k x hx q];simp
 | false=>simp[qaX (h.hol.k k x hx q).1]
theorem SP.live(h:SP R N):Jh N=qT R N.length:=by
 have key:∀i,i<=N.length->Jh (N.take i)=qT R i:=by
  intro i
  induction i with
  | zero=>intro _;rfl
  | succ i ih=>
   intro hi;rw[qdY (show i<N.length by omega),ih (by omega),jP];have:=h.kind (gEg (show i<N.length by omega));by_cases e:R i=true
   ·rw[if_pos (this.2 e),if_pos e]
   ·rw[if_neg (λq=>e (this.1 q)),if_neg e]
 have:=key N.length (nLr _);rwa[lTl]at this
theorem s979{post':List AV}(hN:NE w post base nid h N)(hw:0<w)(hpc:Cvs h post post')(htp:AV.trees post'=true)(sp:SP R N)(hbk:ju bk=true){A B:Nat}{u v:qB}(hu:N[A]?=some u)(hv0:N[B]?=some v)(hor:(zI u v=true/\a=B/\b=A/\x=v/\y=u)\/(zI u v=false/\a=A/\b=B/\x=u/\y=v))(hA:Act R N a b x y)(a0:a≠0)(b0:b≠0)(hf:zY x.Kind x.Level y.Kind y.Level≠2)(hl:N.length<=10000)
  (hK1:(ql bk x y).2≠0->K (iI (ql bk x y).2) h) (hK2:(ql bk x y).2=0->600<(qT R N.length:Int)+(ql bk x y).1->K (iI 4) h)
  (hK3:zW R bk N a b x y->∀h',NE w post base nid h' (j9 bk N a b x y)->Keep base h h'->K (iI 0) h'):SCall Gm 979 [.lst 1 (bk.map qD.enc) false,.ptr nid 0 0,iI (A:Nat),iI (B:Nat)] h K:=by
 have la:=hA.pr.la;have lb:=hA.pr.lb;have hbl:=hN.bl;have ok:=sp.hol;have qx:=ok.k _ _ hA.x hA.ra;have qy:=ok.k _ _ hA.y hA.rb;have xok:qe x=true:=qx.1;have yok:qe y=true:=qy.1;have nsz:(qD.mk N).sz<=100000:=by
  have:=VL (f:=qB.sz) (k:=8) λz hz=>sp.sz hz;unfold qD.sz;simp only;omega
 have lA0:=qR hu;have lB0:=qR hv0;have exx:N[A]=u:=(gSi.1 hu).2;have eyy:N[B]=v:=(gSi.1 hv0).2;have hord:QZ u v=(x,y):=by
  unfold QZ;rcases hor with⟨e,_,_,rfl,rfl⟩ | ⟨e,_,_,rfl,rfl⟩<;>rw[e]<;>rfl
 have hsw:(if zI u v=true then AV.tup [iI (B:Int),iI (A:Int)]else .tup [iI (A:Int),iI (B:Int)])=.tup [iI (a:Int),iI (b:Int)]:=by
  rcases hor with⟨e,rfl,rfl,_,_⟩ | ⟨e,rfl,rfl,_,_⟩<;>rw[e]<;>rfl
 have hbz:∀t∈bk,t.sz<=600000:=λt ht=>by
  unfold ju at hbk;simp only[bAt]at hbk;have:=Z7 (lAt.1 hbk.2 t ht);omega
 have c1:=qh7 (bk:=bk) (n:=⟨N⟩) (a:=A) (b:=B) lA0 lB0 (λz hz=>by have:=sp.sz hz;omega) hbz (by
  simp only[exx,eyy,hord];intro c;have kx:x.Kind≠1:=λe=>a0 (qx.2.1 e);have ky:y.Kind≠1:=λe=>b0 (qy.2.1 e);obtain⟨e,_,_⟩:=qBS xok yok kx ky hf (by omega);have k:=(Qz (ka:=x.Kind) (la:=x.Level) (kb:=y.Kind) (lb:=y.Level)).2.2.2.2.2.2.1 (e.trans c);have hv:=qDH xok k.1;unfold wS at hv;rw[zK]at hv;exact hv.1)
 simp only[exx,eyy,hord]at c1;have tP:=qC7 (N:=N) htp;have pP:=qC6 (N:=N) (post:=post');have hc1:0<(qD.enc ⟨N⟩).cells.length:=Nat.zero_lt_one;refine sI F979 ?_;simp only[F979,qM,go_sem];refine jx (Cvs.cons qjD (Cvs.cons (hN.cvn hw hpc) (Cvs.cons (.refl rfl) (Cvs.cons (.refl rfl) Cvs.nil)))) (Pure.lk1 tP pP hc1 c1) rfl ?_;simp only[go_sem];apply qI<;>intro hc<;>simp only[hc,go_sem]
 ·exact hK1 (by simpa using hc)
 have hg:(ql bk x y).2=0:=by simpa using hc
 clear hc c1;refine jx (Cvs.cons (hN.cvn hw hpc) Cvs.nil) (Pure.lk0 tP pP hc1 (qbR (n:=⟨N⟩) (by omega))) rfl ?_;have hcl:=XN (R:=R) (n:=N.length);rw[sp.live];have gb:=qc8 (bk:=bk) (x:=x) (y:=y);have ew:IntKind.i64.wrap (((qT R N.length:Nat):Int)+(ql bk x y).1)=(qT R N.length:Int)+(ql bk x y).1:=wsA;simp only[go_sem,ew];apply qI<;>intro hc<;>simp only[hc,go_sem]
 ·exact hK2 hg (by simpa using hc)
 have hfull:(qT R N.length:Int)+(ql bk x y).1<=600:=by simpa using hc
 clear hc;have G:zW R bk N a b x y:=⟨ok,hbk,hA,a0,b0,hf,hg,hfull⟩;have hK:=hK3 G;clear hK1 hK2 hK3;refine jx (Cvs.cons (hN.cvn hw hpc) (Cvs.cons (.refl rfl) (Cvs.cons (.refl rfl) Cvs.nil))) (Pure.lk0 tP pP hc1 (c743 (n:=⟨N⟩) lA0 lB0)) (by split<;>rfl) ?_;simp only[exx,eyy];rw[hsw];simp only[go_sem];obtain⟨aid,ps,hNA⟩:=hN;have hN:NE w post base nid h N:=⟨_,_,hNA⟩;simp only[hNA.o,zH la,zH lb,go_sem];refine jx (Cvs.cons (hNA.cva hA.x) (Cvs.cons (hNA.cva hA.y) Cvs.nil)) c744 rfl ?_;simp only[go_sem];have lA:=qaR bk N a b x y;have tl:∀(g:List qC)(s m:qv),get s 1=some (.ptr nid 0 0)->get s 3=some (iI (b:Nat))->get s 11=some (iI (qN x y))->NE w post base nid g (zA bk N a b x y)->Keep base h g->
   wR ⟨Gm,h.length,[],[]⟩ (some (1304,[.ptr nid 0 0,iI (a:Nat)])) false (some 128) [] [.code qA7] ⟨s,m,g⟩ (Jq [.t 8] K):=by
  intro g s m e1 e3 e11 nA kA;refine qU (qf7 nA (Nat.lt_of_lt_of_le la lA) λg1 n1 k1=>?_);simp only[go_sem,e1,e3,e11];apply qI<;>intro hc<;>simp only[hc,go_sem]
  ·have c7:qN x y≠7:=by simpa using hc
   simp only[e1,e3,go_sem];refine qU (qf7 n1 (by rw[lLs];exact Nat.lt_of_lt_of_le lb lA) λg2 n2 k2=>?_);simp only[go_sem];exact hK g2 (by unfold j9;rw[if_neg c7];exact n2) (kA.trans (k1.trans k2))
  ·have c7:qN x y=7:=by simpa using hc
   exact hK g1 (by unfold j9;rw[if_pos c7];exact n1) (kA.trans k1)
 have P:=hA.pr;obtain⟨e,n0,n9⟩:=G.rule;obtain⟨r1,r2,r3,r4,r5,r6,r7,r8⟩:=Qz (ka:=x.Kind) (la:=x.Level) (kb:=y.Kind) (lb:=y.Level);have xz:=Z8 xok;have yz:=Z8 yok;have c17:=G.cls;apply qI<;>intro hc<;>simp only[hc,go_sem]
 ·have c1:qN x y=1:=by simpa using hc
  have p1:x.Ports.length=3:=ji xok (by have:=r1;have:=r2;omega);have p2:y.Ports.length=3:=ji yok (by have:=r1;have:=r2;omega);refine qL zS ?_;simp only[go_sem];refine qL zS ?_;simp only[go_sem];have w1:=XY P p1 p2;refine qU (KE (s:=1) (k:=1) hN (P.ax (by omega)) (P.by' (by omega)) (P.w.peer (P.ax (by omega)) (P.na (by omega))) (P.w.peer (P.by' (by omega)) (P.nb (by omega))) λg n k=>?_);simp only[go_sem];refine qL zS ?_;simp only[go_sem];refine qL zS ?_;simp only[go_sem];have a2:Has (jf N (pt a 1) (pt b 1)) a 2:=(P.ax (by omega)).same (JD _ _ _);have b2:Has (jf N (pt a 1) (pt b 1)) b 2:=(P.by' (by omega)).same (JD _ _ _);refine qU (KE (s:=2) (k:=2) n a2 b2 (w1.peer a2 (by rintro(q | q | q);exact P.na (by omega) q;omega;omega)) (w1.peer b2 (by rintro(q | q | q);exact P.nb (by omega) q;omega;omega)) λg2 n2 k2=>?_);simp only[go_sem];exact tl _ _ _ (by simp[go_sem]) (by simp[go_sem]) (by simp[go_sem]) (by unfold zA;rw[if_pos (by omega)];exact n2) (k.trans k2)
 have n1:qN x y≠1:=by simpa using hc
 clear hc;apply qI<;>intro hc<;>simp only[hc,go_sem]
 ·have c2:qN x y=2:=by simpa using hc
  have p1:x.Ports.length=3:=ji xok (by have:=r1;have:=r2;omega);have p2:y.Ports.length=3:=ji yok (by have:=r1;have:=r2;omega);refine qL zS ?_;simp only[go_sem];refine qL zS ?_;simp only[go_sem];have w1:=XY P p1 p2;refine qU (KE (s:=1) (k:=1) hN (P.ax (by omega)) (P.by' (by omega)) (P.w.peer (P.ax (by omega)) (P.na (by omega))) (P.w.peer (P.by' (by omega)) (P.nb (by omega))) λg n k=>?_);simp only[go_sem];refine qL zS ?_;simp only[go_sem];refine qL zS ?_;simp only[go_sem];have a2:Has (jf N (pt a 1) (pt b 1)) a 2:=(P.ax (by omega)).same (JD _ _ _);have b2:Has (jf N (pt a 1) (pt b 1)) b 2:=(P.by' (by omega)).same (JD _ _ _);refine qU (KE (s:=2) (k:=2) n a2 b2 (w1.peer a2 (by rintro(q | q | q);exact P.na (by omega) q;omega;omega)) (w1.peer b2 (by rintro(q | q | q);exact P.nb (by omega) q;omega;omega)) λg2 n2 k2=>?_);simp only[go_sem];exact tl _ _ _ (by simp[go_sem]) (by simp[go_sem]) (by simp[go_sem]) (by unfold zA;rw[if_pos (by omega)];exact n2) (k.trans k2)
 have n2:qN x y≠2:=by simpa using hc
 clear hc;apply qI<;>intro hc<;>simp only[hc,go_sem]
 ·have c3:qN x y=3:=by simpa using hc
  refine qU (qoV P hN (ji xok (.inr (.inr (.inl (r3 (e.trans c3)))))) (zi yok).2 (by omega) (by omega) λg n k=>?_);simp only[go_sem];exact tl _ _ _ (by simp[go_sem]) (by simp[go_sem]) (by simp[go_sem]) (by unfold zA;rw[if_neg (by omega),if_pos c3];exact n) k
 have n3:qN x y≠3:=by simpa using hc
 clear hc;apply qI<;>intro hc<;>simp only[hc,go_sem]
 ·have c4:qN x y=4:=by simpa using hc
  have y0:=(zi yok).2;obtain⟨q,hq,ha,hr,hv⟩:=hNA.at hA.y y0;simp only[hNA.o,zH lb,hNA.a,ha,hv,go_sem];refine Sem.loop (α:=Nat×List qC) (λq=>q.1+1<=y.Ports.length/\NE w post base nid q.2 (jo b q.1 N)/\Keep base h q.2)
   (λq=>(⟨[(1,.ptr nid 0 0),(2,iI (a:Nat)),(3,iI (b:Nat)),(11,iI (qN x y)),(12,iI (y.Ports.length:Nat)),(13,iI ((q.1+1:Nat):Int))],[],q.2⟩:VSt)) (λq=>y.Ports.length-q.1) (0,h) (by kernel_rfl)
   ⟨by simp only;omega,hN,Keep.refl⟩ csA ?_
  rintro⟨i,g⟩ ⟨hi,hn,hk⟩;simp only at hi hn hk;have hg2:(jo b i N).length=N.length+i:=UG;have yz':=yz;unfold qB.sz at yz';simp only[go_sem];apply qI<;>intro hc<;>simp only[hc,go_sem]
  ·have hlt:i+1<y.Ports.length:=by have:=odT hc;omega
   clear hc;refine qU (Wy (n:=1) hn (by omega) (by omega) λg1 m1 j1=>?_);simp only[go_sem];refine qL zS ?_;simp only[go_sem];refine qL zS ?_;simp only[go_sem];have b1:Has (jo b i N++[qS 5 0 0 [] 1]) b (i+1):=(UH (P.by' (by omega))).app;refine qU (Qd (s:=i+1) (k:=0) m1 b1 (zd (by omega)) (((Yd P (i:=i) (by omega)).add (qS 5 0 0 [] 1)).peer b1 (by rintro(⟨(q | q),_⟩ | q);exact P.nb (by omega) q.1;omega;omega)) λg2 m2 j2=>?_);simp only[go_sem,wuA (n:=i+1)];refine qb (i+1,g2) ⟨by simp only;omega,m2,hk.trans (j1.trans j2)⟩ (by simp only;omega) csA
  ·have hlt:i=y.Ports.length-1:=by have:=odF hc;omega
   clear hc;subst hlt;exact tl _ _ _ (by simp[go_sem]) (by simp[go_sem]) (by simp[go_sem]) (by unfold zA;rw[if_neg (by omega),if_neg n3,if_pos c4];exact hn) hk
 have n4:qN x y≠4:=by simpa using hc
 clear hc;apply qI<;>intro hc<;>simp only[hc,go_sem]
 ·have c5:qN x y=5:=by simpa using hc
  have k5:=r5 (e.trans c5);refine qU (qoW P hN (λk8=>⟨Qu yok (.inl k8), ?_⟩) (λk8=>ji yok (.inr (.inr (.inr (by omega))))) (by omega) (by omega) λg n k=>?_)
  ·have:=ZQ yok;unfold z7 at this;rw[k8]at this;simp at this;omega
  simp only[go_sem];exact tl _ _ _ (by simp[go_sem]) (by simp[go_sem]) (by simp[go_sem]) (by unfold zA;rw[if_neg (by omega),if_neg n3,if_neg n4,if_pos c5];exact n) k
 have n5:qN x y≠5:=by simpa using hc
 clear hc;apply qI<;>intro hc<;>simp only[hc,go_sem]
 ·have c6:qN x y=6:=by simpa using hc
  have k6:=r6 (e.trans c6);refine qU (qoX P hN (Qu yok (by omega)) (λk11=>(qDI yok k11).1) (λk11=>?_) (by omega) (by omega) (by omega) λg n k=>?_)
  ·have q:x.Kind=9/\y.Kind=10:=by omega
   have v9:=qDF xok q.1;rw[zK]at v9;exact⟨q.1,(zi xok).2,v9.1,by omega⟩
  simp only[go_sem];exact tl _ _ _ (by simp[go_sem]) (by simp[go_sem]) (by simp[go_sem]) (by unfold zA;rw[if_neg (by omega),if_neg n3,if_neg n4,if_neg n5,if_pos c6];exact n) k
 have n6:qN x y≠6:=by simpa using hc
 clear hc;apply qI<;>intro hc<;>simp only[hc,go_sem]
 ·have c7:qN x y=7:=by simpa using hc
  obtain⟨k12,v0,v1,t1,t2,t3⟩:=G.t7 c7;obtain⟨q,hq,ha,hr,_⟩:=hNA.at hA.x (zi xok).2;have hv:x.Value.toNat<bk.length:=by omega
  have et:zP bk x.Value=bk[x.Value.toNat]:=by unfold zP;rw[gEg hv];rfl
  simp only[hNA.o,zH la,hNA.a,ha,Qn v0,gMp,gEg hv,oMs,go_sem];rw[<-et];have ts:=Z7 t1;refine qU (qoY hA.pe hN t1 (zi yok).2 (λz hz=>by have:=Z8 (JT (JX t1) z hz);omega) ts.2 (by omega) (QX xok) (λk s q hq=>?_) (λz hz=>QX (JT (JX t1) z hz)) λg n k=>?_)
  ·obtain⟨b',t',rfl,e2,_,_⟩:=QW t1 k s q hq id;have:=Jc e2;simp only[pt];omega
  simp only[go_sem];exact tl _ _ _ (by simp[go_sem]) (by simp[go_sem]) (by simp[go_sem]) (by unfold zA;rw[if_neg (by omega),if_neg n3,if_neg n4,if_neg n5,if_neg n6];exact n) k
 ·have:qN x y≠7:=by simpa using hc
  omega
end
section
variable {w:Nat} {post:List AV} {base:Nat->Prop} {nid aid:Nat} {h:List qC} {N M:Ags} {K:AV->List qC->Prop} {a b s c k:Nat} {x y:qB} {R:Nat->Bool}
structure NR(base aid:Nat)(ps:List Nat)(h:List qC)(N:Ags):Prop where
 a:h[aid]?=some (.row 5 (zC N ps) true)
 l:ps.length=N.length
 p:∀(k:Nat)(x:qB)(q:Nat),N[k]?=some x->ps[k]?=some q->0<x.Ports.length->h[q]?=some (.row 2 (x.Ports.map qE.enc) true)
 nd:ps.Nodup
 n3:aid∉ps
 b2:base<=aid
 b3:∀q∈ps,base<=q
 b4:∀q∈ps,∃el,h[q]?=some (.row 2 el true)
theorem NR.lt{base aid:Nat}{ps:List Nat}{h:List qC}{N:Ags}(hN:NR base aid ps h N){q:Nat}(hq:q∈ps):q<h.length:=by obtain⟨el,e⟩:=hN.b4 q hq;exact qR e
theorem NR.push{base oid:Nat}{ps:List Nat}{g:List qC}(hN:NR base oid ps g N)(h00:0<x.Ports.length){X:AV}(hX:X=.agg [iI x.Kind,iI x.Level,iI x.Value,sQ 1 g.length x.Data.length,sQ 2 (g.length+1) x.Ports.length]):
  ∀G,G=((g++[qC.row 1 (x.Data.map qQ) true,qC.row 2 (x.Ports.map qE.enc) true]++[qC.row 5 [X] true]).set oid .dead)++[qC.row 5 (zC N ps++[X]) true]->
  ∃G',(∀b s m,Can b ⟨s,m,G⟩ ⟨s,m,G'⟩)/\NR base (g.length+3) (ps++[g.length+1]) G' (N++[x])/\(base<=g.length->Keep (Lo base) g G'):=by
 intro G hG;have k0:=qR hN.a;have c2:=hN.b2;have lG:G.length=g.length+4:=by rw[hG];simp
 have eG:∀j,j<g.length->j≠oid->G[j]?=g[j]?:=λj hj j1=>by
  rw[hG,gAl (by simp;omega),gSn (Ne.symm j1),gAl (by simp;omega),gAl hj]
 have e0:G[g.length]?=some (.row 1 (x.Data.map qQ) true):=by
  rw[hG,gAl (by simp),gSn (by omega),gAl (by simp)];exact qgX
 have e1:G[g.length+1]?=some (.row 2 (x.Ports.map qE.enc) true):=by
  rw[hG,gAl (by simp),gSn (by omega),gAl (by simp)];exact Q2
 have e3:G[g.length+3]?=some (.row 5 (zC N ps++[X]) true):=by rw[hG,gAr (by simp)];simp
 obtain⟨G',hG'⟩:∃G',G'=(without [g.length] G).set (g.length+3) (.row 5 (zC N ps++[encR x (g.length+1)]) true):=⟨_,rfl⟩;have lG':G'.length=g.length+4:=by rw[hG'];simp[QG,lG]
 have eK:∀j,j<g.length->j≠oid->G'[j]?=g[j]?:=λj hj j1=>by
  rw[hG',gSn (by omega),Jy (by simp;omega)];exact eG j hj j1
 have hh:[X].length=[encR x (g.length+1)].length/\∀p∈[X].zip [encR x (g.length+1)],HCv (only [g.length] G) p.1 p.2:=by
  rw[hX];unfold encR;rw[Qc h00];refine HCv.list (.agg rfl (HCv.list (.same _) (HCv.list (.same _) (HCv.list (.same _) (HCv.list (.cv (Cv.row (by rw[QY (by simp)];exact e0) (by simp) (qa shI.tree _) (by decide)) (by simp only[AV.tree];exact qa shI.tree _)) (HCv.list (.same _) (HCv.refls [])))))).2) (HCv.refls [])
 refine⟨G',λb s m=>by rw[hG'];exact Can.giveH [g.length] (by simp) e3 (by simp) (HCv.apps _ hh),⟨?_,by simp[hN.l],λk y r hy hr h0=>?_, ?_, ?_,by omega, ?_, ?_⟩,λhb=>⟨by omega,λj hj=>eK j (by omega) (by omega)⟩⟩
 ·rw[hG',gSs (by rw[QG];omega),qB8 hN.l];rfl
 ·rcases Nat.lt_or_ge k N.length with hk | hk
  ·rw[gAl hk]at hy;rw[gAl (by rw[hN.l];exact hk)]at hr;have hm:=lMo hr;rw[eK r (hN.lt hm) (λe=>hN.n3 (e▸hm))];exact hN.p k y r hy hr h0
  ·rw[gAr hk]at hy;rw[gAr (by rw[hN.l];exact hk),hN.l]at hr;have:k-N.length=0:=by have:=qR hy;simp at this;omega
   rw[this]at hy hr;cases hy;cases hr;rw[hG',gSn (by omega),Jy (by simp)];exact e1
 ·rw[List.nodup_append];exact⟨hN.nd,by simp,λa ha b hb=>by simp at hb;subst hb;intro e;subst e;have:=hN.lt ha;omega⟩
 ·simp only[zw,lMg,not_or];exact⟨λe=>by have:=hN.lt e;omega,by omega⟩
 ·intro r hr;rcases zw.1 hr with hr | hr
  ·exact hN.b3 r hr
  ·simp at hr;subst hr;omega
 ·intro r hr;rcases zw.1 hr with hr | hr
  ·obtain⟨el,e⟩:=hN.b4 r hr;exact⟨el,by rw[eK r (qR e) (λe=>hN.n3 (e▸hr))];exact e⟩
  ·simp at hr;subst hr;exact⟨_,by rw[hG',gSn (by omega),Jy (by simp)];exact e1⟩
def QB(R:Nat->Bool)(i:Nat):List Int:=(List.range i).map λk=>(qT R k:Int)
theorem qmS{i:Nat}:QB R (i+1)=QB R i++[(qT R i:Int)]:=by unfold QB;rw[List.range_succ];simp
theorem qmR{i j:Nat}(h:j<i):((QB R i).map qQ)[j]?=some (iI (qT R j:Nat)):=by unfold QB;simp[h,qQ]
def JK(M:Ags)(R:Nat->Bool)(i:Nat):Ags:=(qh R i).map λk=>qu R (M.getD k hole)
theorem qnG{i:Nat}:JK M R (i+1)=JK M R i++if R i then []else [qu R (M.getD i hole)]:=by
 unfold JK;rw[Uu,lMa];split<;>rfl
theorem qnF{i:Nat}:(JK M R i).length<=i:=by simp only[JK,lMp];exact XN
def WC(R:Nat->Bool)(p:qE):qE:=⟨(qT R p.Agent.toNat:Nat),p.Slot⟩
theorem s981(hN:NE w post base nid h M)(hR:∀k x,M[k]?=some x->(x.Kind=0↔R k=true))(hp0:∀k x,M[k]?=some x->R k=false->0<x.Ports.length)(hp:∀k x,M[k]?=some x->R k=false->∀(s:Nat)(q:qE),x.Ports[s]?=some q->0<=q.Agent/\q.Agent<M.length)(hz:∀x∈M,x.sz<=1000)(hl:M.length<=100000)
  (hK:∀h',NE w post base nid h' (qc M R)->Keep base h h'->K (.tup []) h'):SCall Gm 981 [.ptr nid 0 0] h K:=by
 obtain⟨aid,ps,hN⟩:=hN;have k0:=hN.lt;have k1:=hN.lta;have b1:=hN.b1;have b2:=hN.b2;have n1:=hN.n1;refine SCall.run [] [85] (gk _ F981) (by kernel_rfl) rfl ?_;simp only[F981,qM,go_sem];simp only[bPl,go_sem];refine Sem.loop (α:=Nat×List qC×Nat) (λq=>q.1<=M.length/\Keep (Lo h.length) h q.2.1/\h.length<=q.2.2/\q.2.1[q.2.2]?=some (.row 1 ((QB R q.1).map qQ) true))
  (λq=>(⟨[(0,.ptr nid 0 0),(2,sQ 1 q.2.2 q.1),(3,iI (qT R q.1:Nat)),(4,iI (q.1:Nat))],[],q.2.1⟩:VSt)) (λq=>M.length-q.1) (0,h++[.row 1 [] true],h.length) (by kernel_rfl)
  ⟨nZl _,Keep.app (λ_ q=>q),nLr _,by simp[QB]⟩
  (Can.ph (WkN.same rfl (WkN.cons rfl (Wk.ph2 (by simp)) (WkN.same rfl (WkN.same rfl WkN.nil)))) WkN.nil) ?_
 rintro⟨i,g,pid⟩ ⟨hi,hk,hpid,hr⟩;simp only at hi hk hpid hr;have on:∀{o:List qC},(g++o)[nid]?=some (.row w [.agg (sQ 5 aid M.length::post)] true):=λ{o}=>by rw[gAl (by have:=hk.l;omega),hk.k _ k0];exact hN.o
 have on0:=on (o:=[]);have oa:g[aid]?=some (.row 5 (zC M ps) true):=by rw[hk.k _ k1];exact hN.a
 rw[lAn]at on0;simp only[bPl,go_sem];simp only[on0,go_sem];apply qI<;>intro hc<;>simp only[hc,go_sem]
 ·have hlt:i<M.length:=by have:=odT hc;omega
  clear hc;have cl:=XN (R:=R) (n:=i);obtain⟨r1,r2⟩:=Qb (tmp:=.row 1 [iI (qT R i:Nat)] true) hr;simp only[bPl,go_sem];refine jO r2 r1 (by simp[QB]) (by omega) ?_;obtain⟨q1,q2⟩:=Uw (x:=iI (qT R i:Nat)) (tmp:=.row 1 [iI (qT R i:Nat)] true) hk (λ_ q=>q) (Nat.not_lt.2 hpid) hr;have em:(QB R i).map qQ++[AV.int .i64 (qT R i:Nat)]=(QB R (i+1)).map qQ:=by rw[qmS];simp[qQ]
  rw[em]at q1 q2|-;simp only[lAp,lCo,lNi,nZa];have on2:∀{o o':List qC},((g++o).set pid .dead++o')[nid]?=some (.row w [.agg (sQ 5 aid M.length::post)] true):=λ{o o'}=>by
   rw[gAl (by have:=hk.l;simp;omega),gSn (by omega)];exact on
  have oa2:∀{o o':List qC},((g++o).set pid .dead++o')[aid]?=some (.row 5 (zC M ps) true):=λ{o o'}=>by
   have:=qR oa;rw[gAl (by simp;omega),gSn (by omega),gAl this];exact oa
  have hx:M[i]?=some M[i]:=gEg hlt;have hce:(zC M ps)[i]?=some (encR M[i] (ps[i]'(by rw[hN.l];exact hlt))):=Qk hx (gEg _);simp only[bPl,go_sem];simp only[on2,zH hlt,oa2,hce,go_sem];have hk0:=hR i _ hx;apply qI<;>intro hc<;>simp only[hc,go_sem]
  ·have hr0:R i=false:=by
    have:¬M[i].Kind=0:=by simpa using hc
    rw[hk0]at this;simpa using this
   have ec:=jP (R:=R) (n:=i);rw[hr0]at ec;simp only[bFt,if_false]at ec;simp only[bPl,go_sem];simp only[wuA (n:=i),wuA (n:=qT R i),<-ec];exact qb (i+1,_,g.length+1) ⟨hlt,q1,by have:=hk.l;simp only;omega,q2⟩ (by simp only;omega) csA
  ·have hr0:R i=true:=hk0.1 (by simpa using hc);have ec:=jP (R:=R) (n:=i);rw[hr0]at ec;simp only[if_true,nAz]at ec;simp only[bPl,go_sem];simp only[wuA (n:=i)];exact qb (i+1,_,g.length+1) ⟨hlt,q1,by have:=hk.l;simp only;omega,q2⟩ (by simp only;omega) (Can.sub (by simp[go_sem,ec]) (by simp[go_sem]))
 ·have hlt:i=M.length:=by have:=odF hc;omega
  clear hc;subst hlt;simp only[bPl,go_sem];have gl:=hk.l;have pl:=qR hr;have lpk:∀i,(JK M R i).length<=i:=λi=>qnF;refine Sem.loop (α:=Nat×List qC×Nat) (λq=>q.1<=M.length/\Keep (Lo g.length) g q.2.1/\g.length<=q.2.2/\∃qs,NR g.length q.2.2 qs q.2.1 (JK M R q.1))
   (λq=>(⟨[(0,.ptr nid 0 0),(2,sQ 1 pid M.length),(5,.slice 5 q.2.2 0 (JK M R q.1).length false),(6,iI (q.1:Nat))],[],q.2.1⟩:VSt)) (λq=>M.length-q.1) (0,g++[.row 5 [] true],g.length) (by kernel_rfl)
   ⟨nZl _,Keep.app (λ_ q=>q),nLr _,[],⟨by simp[JK,qh,zC],by simp[JK,qh],by simp,by simp,by simp,nLr _,by simp,by simp⟩⟩
   (Can.ph (WkN.same rfl (WkN.same rfl (WkN.cons rfl (Wk.ph2 (by simp)) (WkN.same rfl WkN.nil)))) WkN.nil) ?_
  rintro⟨i,f,oid⟩ ⟨hi,jk,hoid,qs,ho⟩;simp only at hi jk hoid ho;have fl:=jk.l;have fn:f[nid]?=some (.row w [.agg (sQ 5 aid M.length::post)] true):=by rw[jk.k _ (by omega)];exact on0
  have fa:f[aid]?=some (.row 5 (zC M ps) true):=by rw[jk.k _ (qR oa)];exact oa
  have hNf:NA w post base nid aid ps f M:=hN.heap (by rw[jk.k _ (by omega),hk.k _ k0]) (by rw[jk.k _ (by omega),hk.k _ k1]) λq hq=>by have:=hN.ltp hq;rw[jk.k _ (by omega),hk.k _ this]
  have fp:f[pid]?=some (.row 1 ((QB R M.length).map qQ) true):=by rw[jk.k _ pl];exact hr
  simp only[bPl,go_sem];simp only[fn,go_sem];apply qI<;>intro hc<;>simp only[hc,go_sem]
  ·have hlt:i<M.length:=by have:=odT hc;omega
   clear hc;have hx:M[i]?=some M[i]:=gEg hlt;have hxd:M.getD i hole=M[i]:=by rw[lGd,hx];rfl
   have hkx:=hR i _ hx;have hce:(zC M ps)[i]?=some (encR M[i] (ps[i]'(by rw[hN.l];exact hlt))):=Qk hx (gEg _);have hcv:=hNf.cva hx;have h0x:=hp0 i _ hx;have hpx:=hp i _ hx;have hzx:=hz _ (gMm hlt);have pks:=qnG (M:=M) (R:=R) (i:=i);rw[hxd]at pks;simp only[bPl,go_sem];simp only[fn,zH hlt,fa,hce,go_sem];clear hce;generalize M[i]=x at hx hkx hpx hzx hcv h0x pks|-;apply qI<;>intro hc<;>simp only[hc,go_sem]
   ·have hr0:R i=false:=by
     have:¬x.Kind=0:=by simpa using hc
     rw[hkx]at this;simpa using this
    clear hc;rw[hr0]at pks;simp only[bFt,if_false]at pks;have hzx':=hzx;unfold qB.sz at hzx';simp only[bPl,go_sem];simp only[fn,zH hlt,go_sem];refine Q9 (Cvs.cons hcv Cvs.nil) (n837 x (by omega)) ?_;simp only[qB.layE,AV.rows,ZJ,ZI,lNa,lAn,lCa,Wr,nZa];simp only[bPl,go_sem];refine lsA ?_;simp only[bPl,go_sem];have fp2:∀{o:List qC},(f++o)[pid]?=some (.row 1 ((QB R M.length).map qQ) true):=λ{o}=>by rw[gAl (qR fp)];exact fp
    refine Sem.loop (λj:Nat=>j<=x.Ports.length/\True) (λj=>(⟨[(0,.ptr nid 0 0),(2,sQ 1 pid M.length),(5,.slice 5 oid 0 (JK M R i).length false),(6,iI (i:Nat)),(8,iI (j:Nat))],
     [(7,.agg [iI x.Kind,iI x.Level,iI x.Value,sQ 1 f.length x.Data.length,sQ 2 (f.length+1) x.Ports.length])],f++[.row 1 (x.Data.map qQ) true,.row 2 ((wC (WC R) x.Ports j).map qE.enc) true]⟩:VSt)) (λj=>x.Ports.length-j) 0 (by kernel_rfl) ⟨nZl _,trivial⟩
     (by rw[Yq];exact csA) ?_
    rintro j ⟨hj,_⟩;simp only[bPl,go_sem];apply qI<;>intro hc<;>simp only[hc,go_sem]
    ·have hlj:j<x.Ports.length:=by have:=odT hc;omega
     clear hc;have hq:=hpx hr0 j _ (gEg hlj);have hm:((wC (WC R) x.Ports j).map qE.enc)[j]?=some (x.Ports[j].enc):=by rw[gMp,Yr hlj];rfl
     have hnw:=qmR (R:=R) (i:=M.length) (j:=x.Ports[j].Agent.toNat) (by omega);simp only[bPl,go_sem];simp only[JW hlj,Q2,hm,qdH hq.1 hq.2,nZa,fp2,hnw,go_sem];refine qn rfl Q2 hm Y2 ?_;have ep:(⟨(qT R x.Ports[j].Agent.toNat:Nat),x.Ports[j].Slot⟩:qE)=WC R x.Ports[j]:=rfl;rw[ep,<-List.map_set,Yt hlj,KN];simp only[bPl,go_sem];simp only[wuA (n:=j)];refine qb (j+1) ⟨by omega, ?_⟩ (by omega) csA;trivial
    ·have hlj:j=x.Ports.length:=by have:=odF hc;omega
     clear hc;subst hlj;rw[Ys];simp only[bPl,go_sem];have lo:=qR ho.a;have li:=lpk i;refine jO (len:=(JK M R i).length) (x:=.agg [iI x.Kind,iI x.Level,iI x.Value,sQ 1 f.length x.Data.length,sQ 2 (f.length+1) x.Ports.length]) (w:=5) (by simp) (by rw[gAl (by simp;omega),gAl lo];exact ho.a) (Ql ho.l) (by omega) ?_;have eP:x.Ports.map (WC R)=(qu R x).Ports:=rfl;rw[eP];have hX:(AV.agg [iI x.Kind,iI x.Level,iI x.Value,sQ 1 f.length x.Data.length,sQ 2 (f.length+1) x.Ports.length])=.agg [iI (qu R x).Kind,iI (qu R x).Level,iI (qu R x).Value,.slice 1 f.length 0 (qu R x).Data.length false,.slice 2 (f.length+1) 0 (qu R x).Ports.length false]:=by simp[qu]
     obtain⟨G',c1,m1,q1⟩:=ho.push (x:=qu R x) (by simpa[qu]using h0x hr0) hX _ rfl;have el:(JK M R i).length+1=(JK M R (i+1)).length:=by rw[pks];simp
     rw[<-pks]at m1;simp only[bPl,go_sem];simp only[lAp,lCo,lNi,nZa,el,wuA (n:=i)];exact qb (i+1,G',f.length+3) ⟨hlt,jk.trans (q1 jk.l),by simp only;omega,_,m1⟩ (by simp only;omega) ((c1 _ _ _).trans csA)
   ·have hr0:R i=true:=hkx.1 (by simpa using hc);clear hc;rw[hr0,if_pos rfl,lAn]at pks;simp only[bPl,go_sem];simp only[wuA (n:=i)];exact qb (i+1,f,oid) ⟨hlt,jk,hoid,qs,by simp only;rw[pks];exact ho⟩ (by simp only;omega) (Can.sub (by simp[go_sem,pks]) (by simp[go_sem]))
  ·have hlt:i=M.length:=by have:=odF hc;omega
   clear hc;subst hlt;simp only[bPl,go_sem];refine Sem.can (Can.sub (s':=[(0,.ptr nid 0 0),(5,.slice 5 oid 0 (JK M R M.length).length false)]) (m':=[]) (by simp[go_sem]) (by simp[go_sem])) (Sem.reg (by kernel_rfl) ?_);simp only[bPl,go_sem];refine qn (e:=.agg (sQ 5 aid M.length::post)) rfl fn rfl Xu ?_;simp only[bPl,go_sem];have jl:=jk.l;have c2:=ho.b2;have ko:=qR ho.a;have eo:∀j,j≠nid->(f.set nid (.row w [.agg (.slice 5 oid 0 (JK M R M.length).length false::post)] true))[j]?=f[j]?:=λj hj=>gSn (Ne.symm hj);refine hK _ ⟨oid,qs,⟨?_, ?_,ho.l,λk x q hx hq h00=>?_,ho.nd,by omega,λe=>by have:=ho.b3 _ e;omega,ho.n3,b1,λq=>by have:=hN.bl _ q;have:=hk.l;omega,λq hq qq=>by have:=ho.b3 q hq;have:=hN.bl _ qq;have:=hk.l;omega,λq hq=>by have:=ho.b3 q hq;rw[lSz,gSn (by omega)];exact ho.b4 q hq,λj hj=>by have:=hN.bl j hj;have:=hk.l;rw[lLs];omega⟩⟩ ⟨by rw[lLs];omega,λj hj=>?_⟩
   ·rw[lSz,gSs (by omega)];rfl
   ·rw[lSz,eo _ (by omega)];exact ho.a
   ·have:=ho.b3 q (lMo hq);rw[lSz,eo _ (by omega)];exact ho.p k x q hx hq h00
   ·have:=hN.bl j hj;have:=hk.l;rw[lSz,eo _ (Ne.symm (nbe b1 hj)),jk.k _ (by omega),hk.k _ (by omega)]
end
structure KM(base:Nat->Prop)(h h':List qC):Prop extends Keep base h h' where
 m:∀(j:Nat) es,h[j]?=some (.map es)->h'[j]?=some (.map es)
theorem KM.refl{b:Nat->Prop}{h:List qC}:KM b h h:=⟨Keep.refl,λ_ _ q=>q⟩
theorem KM.trans{b:Nat->Prop}{h h1 h2:List qC}(x:KM b h h1)(y:KM b h1 h2):KM b h h2:=⟨x.toKeep.trans y.toKeep,λj es q=>y.m j es (x.m j es q)⟩
theorem KM.app{b:Nat->Prop}{h ex:List qC}(hb:∀j,b j->j<h.length):KM b h (h++ex):=⟨Keep.app hb,λj es q=>by rw[gAl (qR q)];exact q⟩
theorem KM.set{b:Nat->Prop}{i w:Nat}{h:List qC}{el:List AV}{rw':Bool}{o:qC}(hb:¬b i)(hr:h[i]?=some (.row w el rw')):KM b h (h.set i o):=
 ⟨Keep.set hb,λj es q=>by rw[gSn (λe=>by rw[e]at hr;rw[hr]at q;cases q)];exact q⟩
theorem KM.wo{b:Nat->Prop}{h h':List qC}{ids:List Nat}(hk:KM b h h')(hb:∀j,b j->j<h.length)(hi:∀i∈ids,h.length<=i):KM b h (without ids h'):=
 ⟨hk.toKeep.wo λi q r=>by have:=hi i q;have:=hb _ r;omega,λj es q=>by rw[Jy (λe=>by have:=hi j e;have:=qR q;omega)];exact hk.m j es q⟩
theorem KM.up{b c:Nat->Prop}{h h':List qC}(hb:∀j,b j->c j)(hk:KM c h h'):KM b h h':=⟨hk.toKeep.up hb,hk.m⟩
structure K1(base:Nat->Prop)(h h':List qC):Prop extends KM base h h' where
 r:∀(j:Nat) el,h[j]?=some (.row 1 el true)->h'[j]?=some (.row 1 el true)
theorem K1.refl{b:Nat->Prop}{h:List qC}:K1 b h h:=⟨KM.refl,λ_ _ q=>q⟩
theorem K1.trans{b:Nat->Prop}{h h1 h2:List qC}(x:K1 b h h1)(y:K1 b h1 h2):K1 b h h2:=⟨x.toKM.trans y.toKM,λj es q=>y.r j es (x.r j es q)⟩
theorem K1.app{b:Nat->Prop}{h ex:List qC}(hb:∀j,b j->j<h.length):K1 b h (h++ex):=⟨KM.app hb,λj es q=>by rw[gAl (qR q)];exact q⟩
theorem K1.set{b:Nat->Prop}{i w:Nat}{h:List qC}{el:List AV}{rw':Bool}{o:qC}(hb:¬b i)(hr:h[i]?=some (.row w el rw'))(hw:w≠1):K1 b h (h.set i o):=
 ⟨KM.set hb hr,λj es q=>by rw[gSn (λe=>by rw[e]at hr;rw[hr]at q;simp only[oSi,qC.row.injEq]at q;exact hw q.1)];exact q⟩
theorem K1.wo{b:Nat->Prop}{h h':List qC}{ids:List Nat}(hk:K1 b h h')(hb:∀j,b j->j<h.length)(hi:∀i∈ids,h.length<=i):K1 b h (without ids h'):=
 ⟨hk.toKM.wo hb hi,λj es q=>by rw[Jy (λe=>by have:=hi j e;have:=qR q;omega)];exact hk.r j es q⟩
theorem K1.up{b c:Nat->Prop}{h h':List qC}(hb:∀j,b j->c j)(hk:K1 c h h'):K1 b h h':=⟨hk.toKM.up hb,hk.r⟩
section
variable {w:Nat} {post:List AV} {base:Nat->Prop} {nid:Nat} {h:List qC} {N:Ags} {K:AV->List qC->Prop} {a s c k:Nat}
theorem s555(hN:NE w post base nid h N)(hp:Has N a s)(hK:K (z6 N (pt a s)).enc h):SCall Gm 555 [.ptr nid 0 0,(pt a s).enc] h K:=by
 obtain⟨aid,ps,hN⟩:=hN;obtain⟨x,hx,hs⟩:=jX.1 hp;obtain⟨q,hq,ha,hr,hv⟩:=hN.at hx (Nat.zero_lt_of_lt hs);have e:z6 N (pt a s)=x.Ports[s]:=Wq (jd.2 ⟨x,hx,gEg hs⟩);rw[e]at hK;refine sI WL ?_;simp only[WL,qM,go_sem];refine qZ rfl ?_;simp only[go_sem,hN.o,pt,zH (qR hx),hN.a,ha,hv,JW hs,hr,Xt hs];refine lsA ?_;simp only[go_sem];exact hK
theorem Xz(hN:NE w post base nid h N)(h1:Has N a s)(h2:Has N c k)(hK:∀h',NE w post base nid h' (ze N (pt a s) (pt c k))->K1 base h h'->K (.tup []) h'):SCall Gm 1196 [.ptr nid 0 0,(pt a s).enc,(pt c k).enc] h K:=by
 obtain⟨aid,ps,hN⟩:=hN;obtain⟨x,hx,hs⟩:=jX.1 h1;obtain⟨q,hq,ha,hr,hv⟩:=hN.at hx (Nat.zero_lt_of_lt hs);have b1:=hN.b3 _ (lMo hq);have hN1:=hN.write (s:=s) (r:=pt c k) hx hq;obtain⟨y,hy,hk⟩:=jX.1 ((X4 N (pt a s) (pt c k)).has.1 h2);obtain⟨q',hq',ha',hr',hv'⟩:=hN1.at hy (Nat.zero_lt_of_lt hk);have b2:=hN1.b3 _ (lMo hq');have hN2:=hN1.write (s:=k) (r:=pt a s) hy hq';refine sI Km ?_;simp only[Km,qM,go_sem];refine qZ rfl ?_;simp only[go_sem];refine qZ rfl ?_;simp only[go_sem,hN.o,pt,zH (qR hx),hN.a,ha,hv,JW hs];refine qn rfl hr (Xt hs) U6 ?_;rw[KL];simp only[go_sem,hN1.o,zH (qR hy),hN1.a,ha',hv',JW hk];refine qn rfl hr' (Xt hk) U6 ?_;rw[KL];simp only[go_sem];exact hK _ ⟨aid,ps,hN2⟩ ((K1.set b1 hr (by decide)).trans (K1.set b2 hr' (by decide)))
theorem qBA{A B:Ags}(h:SameA A B)(e:∀b u,atP A b u=atP B b u):A=B:=by
 refine List.ext_getElem? λi=>?_;cases hx:A[i]? with
 | none=>
  have l:=h.len;have:=List.getElem?_eq_none_iff.1 hx;rw[gEn (by omega)]
 | some x=>
  obtain⟨y,hy,c⟩:=h.at hx;rw[hy];have ep:x.Ports=y.Ports:=List.ext_getElem? λu=>by
   have:=e i u;unfold atP at this;rwa[hx,hy]at this
  simp only[jQ,Prod.mk.injEq]at c;obtain⟨c1,c2,c3,c4,_⟩:=c;cases x;cases y;simp_all
theorem qCV{p q r t:Nat}(hne:¬(p=r/\q=t))(h1:Has N p q)(h2:Has N r t):ze N (pt p q) (pt r t)=ze N (pt r t) (pt p q):=by
 have l1:=zo N (pt p q) (pt r t);have l2:=zo N (pt r t) (pt p q);refine qBA (l1.back.trans l2) λb u=>?_;rw[wq h1 h2,wq h2 h1];by_cases e1:b=r/\u=t
 ·rw[if_pos e1,if_neg (by omega),if_pos e1]
 ·rw[if_neg e1];by_cases e2:b=p/\u=q
  ·rw[if_pos e2,if_pos e2]
  ·rw[if_neg e2,if_neg e2,if_neg e1]
theorem Q0(hN:NE w post base nid h N)(h1:Has N a s)(h2:Has N c k)(h3:∃b t,z6 N (pt a s)=pt b t/\Has N b t/\¬(c=b/\k=t))(hK:∀h',NE w post base nid h' (zq N (pt a s) (pt c k))->K1 base h h'->K (.tup []) h'):SCall Gm 1310 [.ptr nid 0 0,(pt a s).enc,(pt c k).enc] h K:=by
 obtain⟨b,t,e,h3,ne⟩:=h3;refine sI kP ?_;simp only[kP,qM,go_sem];refine qZ rfl ?_;simp only[go_sem];refine qZ rfl ?_;simp only[go_sem];refine qU (s555 hN h1 ?_);simp only[go_sem,e];refine qU (Xz hN h3 h2 λh' hN' hk=>?_);simp only[go_sem];exact hK _ (by unfold zq;rw[e,qCV ne h2 h3];exact hN') hk
theorem KF(hN:NE w post base nid h N)(h1:Has N a s)(h2:Has N c k)(h3:∃b t,z6 N (pt a s)=pt b t/\Has N b t)(h4:∃b t,z6 N (pt c k)=pt b t/\Has N b t)
  (hK:∀h',NE w post base nid h' (jf N (pt a s) (pt c k))->K1 base h h'->K (.tup []) h'):SCall Gm 1308 [.ptr nid 0 0,(pt a s).enc,(pt c k).enc] h K:=by
 obtain⟨b,t,e,h3⟩:=h3;obtain⟨b',t',e',h4⟩:=h4;refine sI kN ?_;simp only[kN,qM,go_sem];refine qZ rfl ?_;simp only[go_sem];refine qZ rfl ?_;simp only[go_sem];refine qU (s555 hN h1 ?_);simp only[go_sem,e];refine qU (s555 hN h2 ?_);simp only[go_sem,e'];refine lsA ?_;simp only[go_sem];refine lsA ?_;simp only[go_sem];apply qI<;>intro hc<;>simp only[hc,go_sem]
 ·refine qU (Xz hN h3 h4 λh' hN' hk=>?_);simp only[go_sem];refine hK _ ?_ hk;unfold jf;rw[e,e',if_neg (λq=>by rw[q]at hc;simp at hc)];exact hN'
 ·refine hK _ ?_ K1.refl;unfold jf;rw[e,if_pos (by simpa using hc)];exact hN
theorem c401(xs:List Int)(hz:xs.length<=4194304):Pure Gm 401 [lQ xs] (lQ xs):=
 (Uk xs hz).pure (by simp only[AV.cn];simp[ZC (enc:=qQ) (λ_=>rfl)]) (by simp only[AV.tree];exact qa shI.tree _)
theorem KG{kk lv v:Int}{d:List Int}{n:Nat}(hw:w≠1)(hN:NE w post base nid h N)(hd:d.length<=1048576)(hn:n<=1048576)(hl:N.length<=1048576)
  (hK:∀h',NE w post base nid h' (N++[qS kk lv v d n])->K1 base h h'->K (iI (N.length:Nat)) h') (h0:0<n:=by omega):SCall Gm 1311 [.ptr nid 0 0,iI kk,iI lv,iI v,lQ d,iI (n:Nat)] h K:=by
 obtain⟨aid,ps,hN⟩:=hN;have hbl:=hN.bl;have k0:=hN.lt;have k1:=hN.lta;refine sI kQ ?_;simp only[kQ,qM,go_sem,hN.o];refine qL (c401 d (by omega)) ?_;simp only[go_sem];refine Xi (by show n<=4294967296;omega) ?_;simp only[go_sem];have hr:(h++[qC.row 2 (List.replicate n (AV.agg [iI 0,iI 0])) true])[h.length]?=some (.row 2 ((qS kk lv v d n).Ports.map qE.enc) true):=by rw[gCl];simp[qS,qE.enc]
 have hN1:NA w post base nid aid ps (h++[qC.row 2 (List.replicate n (AV.agg [iI 0,iI 0])) true]) N:=hN.app _;have eX:encR (qS kk lv v d n) h.length=.agg [iI kk,iI lv,iI v,lQ d,sQ 2 h.length n]:=by simp only[encR,qS,pv,lLr];rw[if_neg (by omega)]
 obtain⟨r1,r2⟩:=Qb (tmp:=.row 5 [.agg [iI kk,iI lv,iI v,lQ d,sQ 2 h.length n]] true) hN1.a;have hl5:=Ql hN.l;refine jO r2 r1 hl5 (by omega) ?_;obtain⟨h2,e2,e3⟩:=hN1.pushed (x:=qS kk lv v d n) (q:=h.length) (b:=h.length) (tmp:=.row 5 [.agg [iI kk,iI lv,iI v,lQ d,sQ 2 h.length n]] true) hr (λq=>by have:=hbl _ q;omega) (nLr _) (λq=>hN.ltp q) k0 k1;rw[eX]at h2 e2 e3;simp only[lAp,nZa,go_sem]at h2 e2 e3|-;refine qn rfl h2 rfl Xu ?_;simp only[lSz];have km:∀{g:List qC}{tm nw o:qC},g[aid]?=some (.row 5 (zC N ps) true)->g[nid]?=some (.row w [.agg (sQ 5 aid N.length::post)] true)->(∀j,base j->j<g.length)->K1 base g ((((g++[tm]).set aid .dead)++[nw]).set nid o):=λ{g tm nw o} q1 q2 q3=>by
  have t1:K1 base g (g++[tm]):=K1.app q3;have t2:K1 base (g++[tm]) ((g++[tm]).set aid .dead):=K1.set hN.b2 (by rw[gAl (qR q1)];exact q1) (by decide);have t3:K1 base ((g++[tm]).set aid .dead) (((g++[tm]).set aid .dead)++[nw]):=K1.app (λj hj=>by have:=q3 j hj;simp;omega);have t4:K1 base (((g++[tm]).set aid .dead)++[nw]) ((((g++[tm]).set aid .dead)++[nw]).set nid o):=K1.set hN.b1 (by
   rw[gAl (by have:=qR q2;simp;omega),gSn (Ne.symm hN.n1),gAl (qR q2)];exact q2) hw
  exact((t1.trans t2).trans t3).trans t4
 have e3:=km (tm:=qC.row 5 [.agg [iI kk,iI lv,iI v,lQ d,sQ 2 h.length n]] true) (nw:=qC.row 5 (zC N ps++[.agg [iI kk,iI lv,iI v,lQ d,sQ 2 h.length n]]) true) (o:=.row w [.agg (sQ 5 (h.length+1+1) (N.length+1)::post)] true) hN1.a hN1.o hN1.bl;generalize hg:List.set _ _ _=h3;rw[hg]at e2 e3;simp only[go_sem,e2.o];have e5:IntKind.i64.wrap (((N.length+1:Nat):Int)-1)=((N.length:Nat):Int):=by rw[wsA];omega
 simp only[lAp,nZa,e5,go_sem];exact hK _ ⟨_,_,e2⟩ ((K1.app hbl).trans e3)
theorem X1{kk lv v:Int}{n:Nat}(hw:w≠1)(hN:NE w post base nid h N)(hn:n<=1048576)(hl:N.length<=1048576)
  (hK:∀h',NE w post base nid h' (N++[qS kk lv v [] n])->K1 base h h'->K (iI (N.length:Nat)) h') (h0:0<n:=by omega):SCall Gm 1311 [.ptr nid 0 0,iI kk,iI lv,iI v,.nils,iI (n:Nat)] h K:=
 SCall.arg (Wks.same (Wks.same (Wks.same (Wks.same (.cons .nilL (Wks.same .nil)))))) (KG (d:=[]) hw hN (by simp) hn hl hK)
theorem qo3{kk lv v d:Int}{n:Nat}(hw:w≠1)(hN:NE w post base nid h N)(hn:n<=1048576)(hl:N.length<=1048576)
  (hK:∀h',NE w post base nid h' (N++[qS kk lv v [d] n])->K1 base h h'->K (iI (N.length:Nat)) h') (h0:0<n:=by omega):
  SCall Gm 1311 [.ptr nid 0 0,iI kk,iI lv,iI v,sQ 1 h.length 1,iI (n:Nat)] (h++[.row 1 [iI d] true]) K:=by
 have hbl:=hN.bl;have hk:K1 (Lo h.length) h (without [h.length] (h++[.row 1 [iI d] true])):=(K1.app (λ_ q=>q)).wo (λ_ q=>q) (by simp);refine SCall.giveH [h.length] (vs':=[.ptr nid 0 0,iI kk,iI lv,iI v,.lst 1 ([d].map qQ) false,iI (n:Nat)]) ?_ (KG (d:=[d]) hw (hN.keep hk.toKeep) (by simp) hn hl λh' n1 k1=>hK h' n1 ((hk.up hbl).trans k1));refine HCv.list (.same _) (HCv.list (.same _) (HCv.list (.same _) (HCv.list (.same _) (HCv.list (.cv (Cv.row (by rw[QY (by simp)];simp[qQ]) rfl rfl (by decide)) rfl) (HCv.list (.same _) (HCv.refls []))))))
end
theorem XM{c p:Int}(h0: -1000000<=p)(h1:p<=1000000):Pure Gm 1461 [iI c,iI p] (.tup [iI (jB c p).1,iI (jB c p).2]):=by
 refine pJ qAK ?_;simp only[qAK,qM,go_sem];have w2:IntKind.i64.wrap (p+ -2)=p-2:=by rw[wsA];omega
 have w1:IntKind.i64.wrap (p+ -1)=p-1:=by rw[wsA];omega
 have w0:IntKind.i64.wrap (p+0)=p:=by rw[wsA];omega
 unfold jB
 repeat' (first | ((first | apply qk | apply qI)<;>intro hc<;>simp only[hc,go_sem]) | (refine JU (by rfl) ?_))
 all_goals simp_all[inI]
 all_goals first
  | omega
  | (rw[if_neg (by omega)];exact⟨rfl,rfl⟩)
def lvA(by':Int)(x:qB):qB:=if wx x.Kind then{x with Level:=x.Level+by'}else x
def JF(by':Int)(x:qB):Bool:= !wx x.Kind || decide (x.Level+by'<=8)
def Jk(n:qD)(by':Int):qD×Bool:=if n.Agents.all (JF by')then(⟨n.Agents.map (lvA by')⟩,true)else(⟨[]⟩,false)
def Qw(r:qD×Bool):AV:=.tup [r.1.enc,.bool r.2]
def Jt(by':Int)(xs:Ags)(i:Nat):Ags:=(xs.take i).map (lvA by')++xs.drop i
theorem Wd:∀{N:Ags}{m k:Nat}{x:qB},N[k]?=some x->(qK (N.map qB.enc) m).1[k]?=some (.agg [.int .i64 x.Kind,.int .i64 x.Level,.int .i64 x.Value,sQ 1 (m+2*k) x.Data.length,sQ 2 (m+2*k+1) x.Ports.length])
 | y::ys,m,0,x,h=>by
  cases h;simp only[lMc,qK,qB.layE,AV.rows,Wr,nZa,List.getElem?_cons_zero,Nat.mul_zero,nAz]
 | y::ys,m,k+1,x,h=>by
  have:=Wd (N:=ys) (m:=m+2) (k:=k) (x:=x) h;simp only[lMc,qK,qB.layE,ZJ,ZI,lCa,lNa,lCo,lNi,List.getElem?_cons_succ];rw[show m+2*(k+1)=m+2+2*k by omega];exact this
theorem qdT:∀{A B:Ags}{m:Nat},A.map (λx=>(x.Data,x.Ports))=B.map (λx=>(x.Data,x.Ports))->(qK (A.map qB.enc) m).2=(qK (B.map qB.enc) m).2
 |[],[],_,_=>rfl
 |[],_::_,_,h=>by simp at h
 | _::_,[],_,h=>by simp at h
 | x::A,y::B,m,h=>by
  simp only[lMc,List.cons.injEq,Prod.mk.injEq]at h;simp only[lMc,qK,qB.layE,ZJ,ZI,h.1.1,h.1.2,lCa,lNa,lCo,lNi,qdT (A:=A) (B:=B) h.2]
theorem ql5{by':Int}{x:qB}:((lvA by' x).Data,(lvA by' x).Ports)=(x.Data,x.Ports):=by unfold lvA;split<;>rfl
theorem qmB{by':Int}{xs:Ags}{i:Nat}(h:i<xs.length):(Jt by' xs i)[i]?=some xs[i]:=by
 unfold Jt;rw[gAr (by simp;omega)];simp only[lMp,lLt,nMl (Nat.le_of_lt h),nSs,gDr,nAz];exact gEg h
theorem qmC{by':Int}{xs:Ags}{i:Nat}(h:i<xs.length):(Jt by' xs i).set i (lvA by' xs[i])=Jt by' xs (i+1):=by
 unfold Jt;rw[lSr _ _ (by simp;omega)];simp only[lMp,lLt,nMl (Nat.le_of_lt h),nSs];rw[lDc h,lSz,lTs h,lMa];simp only[lMc,List.map_nil,lAa,lCa,lNa]
theorem qlX{N:Ags}{m k:Nat}{x y:qB}(hx:N[k]?=some x)(e1:y.Data=x.Data)(e2:y.Ports=x.Ports):
  (qK (N.map qB.enc) m).1.set k (.agg [.int .i64 y.Kind,.int .i64 y.Level,.int .i64 y.Value,sQ 1 (m+2*k) x.Data.length,sQ 2 (m+2*k+1) x.Ports.length])=(qK ((N.set k y).map qB.enc) m).1:=by
 have hk:=qR hx;refine List.ext_getElem? λi=>?_;rcases Nat.lt_or_ge i N.length with q | q
 ·by_cases e:i=k
  ·subst e;rw[gSs (by rw[jK];simpa using hk),Wd (x:=y) (gSs hk),e1,e2]
  ·rw[gSn (Ne.symm e),Wd (gEg q),Wd (x:=N[i]) (by rw[gSn (Ne.symm e)];exact gEg q)]
 ·rw[gEn (by rw[lLs,jK];simpa using q),gEn (by rw[jK];simpa using q)]
theorem qeZ(r:qD×Bool):(Qw r).pl=true:=by unfold Qw;simp[AV.pl,AV.pls,qD.plx]
theorem qpO{h:List qC}:Zd (some [.agg [.nils],.bool false]) h (Qw (⟨[]⟩,false)):=by
 refine⟨[none],rfl,⟨.ph,trivial⟩, ?_⟩;have a:VR2 [none] (.agg [.nils]) (.agg [sQ 5 0 0]):=.agg rfl (VR2s.cons (.ph rfl) VR2s.nil).2;exact .tup rfl (VR2s.cons a (VR2s.cons (.tree rfl) VR2s.nil)).2
theorem qeE(n:qD)(b:Int)(hz:n.sz<=1048576)(hb:0<=b/\b<=8)(hl:∀x∈n.Agents,0<=x.Level/\x.Level<=8):Fresh Gm 1456 [n.enc,.int .i64 b] (Qw (Jk n b)):=by
 refine fI qAI (by simp[AV.trees,AV.tree,qD.tr]) (qeZ _) ?_;simp only[qAI,qM,go_sem];refine qZ rfl ?_;simp only[go_sem];refine zk (Ul n hz) ?_;simp only[lNa,lNi];have eL:(lay n.enc 0)=(.agg [sQ 5 0 n.Agents.length],.row 5 (qK (n.Agents.map qB.enc) 1).1 true::(qK (n.Agents.map qB.enc) 1).2):=by rw[qD.layE,lAn];rfl
 rw[eL];simp only[go_sem];unfold qD.sz at hz;refine Sem.loop (λi:Nat=>i<=n.Agents.length/\(n.Agents.take i).all (JF b)=true) (λi=>(⟨[(1,.int .i64 b),(13,.int .i64 (n.Agents.length:Nat)),(14,.int .i64 (i:Nat))],[(6,.agg [sQ 5 0 n.Agents.length]),(4,.agg [.nils])],.row 5 (qK ((Jt b n.Agents i).map qB.enc) 1).1 true::(qK (n.Agents.map qB.enc) 1).2⟩:VSt)) (λi=>n.Agents.length-i) 0 (by kernel_rfl) ⟨nZl _,by simp⟩ (by rw[show Jt b n.Agents 0=n.Agents by simp[Jt]];exact csA) ?_;rintro i ⟨hi,hI⟩;simp only[go_sem];apply qI<;>intro hc<;>simp only[hc,go_sem]
 ·have hlt:i<n.Agents.length:=by have:=odT hc;omega
  clear hc;have hx:=qmB (by':=b) hlt;have hg:=Wd (m:=1) hx;have hlx:=hl _ (gMm hlt);have ms:=qmC (by':=b) hlt;have al:(n.Agents.take (i+1)).all (JF b)=((n.Agents.take i).all (JF b)&&JF b n.Agents[i]):=by rw[lTs hlt,List.all_append];simp only[lAc,List.all_nil,Bool.and_true]
  rw[hI,Bool.true_and]at al;have alf:JF b n.Agents[i]=false->n.Agents.all (JF b)=false:=λe=>by
   rw[<-Bool.not_eq_true,lAt];intro q;have:=q _ (gMm hlt);rw[e]at this;cases this
  generalize n.Agents[i]=x at hx hg hlx ms al alf;simp only[zH hlt,hg,go_sem];refine qL qBJ ?_;simp only[go_sem];apply qI<;>intro hc<;>simp only[hc,go_sem]
  ·have hv:wx x.Kind=false:=by simpa using hc
   have e1:lvA b x=x:=by unfold lvA;simp[hv]
   rw[e1]at ms;have e2:(Jt b n.Agents i).set i x=Jt b n.Agents i:=by
    refine List.ext_getElem? λj=>?_;by_cases e:j=i
    ·subst e;rw[gSs (qR hx),hx]
    ·rw[gSn (Ne.symm e)]
   rw[e2]at ms;rw[ms];simp only[wuA (n:=i)];refine qb (i+1) ⟨by omega, ?_⟩ (by omega) csA;rw[al];unfold JF;simp[hv]
  ·have hv:wx x.Kind=true:=by simpa using hc
   clear hc;have e1:lvA b x={x with Level:=x.Level+b}:=by unfold lvA;simp[hv]
   have ew:IntKind.i64.wrap (x.Level+b)=x.Level+b:=wsA;simp only[hg,ew,go_sem];refine qn (e':=.agg [.int .i64 x.Kind,.int .i64 (x.Level+b),.int .i64 x.Value,sQ 1 (1+2*i) x.Data.length,sQ 2 (1+2*i+1) x.Ports.length]) rfl (by rfl) hg rfl ?_;simp only[lSz];have es:=qlX (m:=1) (y:={x with Level:=x.Level+b}) hx rfl rfl;simp only at es;rw[es,<-e1,ms];have hx2:(Jt b n.Agents (i+1))[i]?=some (lvA b x):=by rw[<-ms,gSs (qR hx)]
   have hg2:=Wd (m:=1) hx2;rw[e1]at hg2;simp only at hg2;simp only[hg2,go_sem];apply qI<;>intro hc<;>simp only[hc,go_sem]
   ·have eo:JF b x=false:=by unfold JF;have:=odT hc;simp[hv];omega
    have er:Jk n b=(⟨[]⟩,false):=by unfold Jk;rw[alf eo];rfl
    rw[er];exact qpO
   ·have eo:JF b x=true:=by unfold JF;have:=odF hc;simp[hv];omega
    simp only[wuA (n:=i)];refine qb (i+1) ⟨by omega, ?_⟩ (by omega) csA;rw[al,eo]
 ·have hlt:i=n.Agents.length:=by have:=odF hc;omega
  subst hlt;rw[lTl]at hI;have er:Jk n b=(⟨n.Agents.map (lvA b)⟩,true):=by unfold Jk;rw[hI];rfl
  have em:Jt b n.Agents n.Agents.length=n.Agents.map (lvA b):=by simp[Jt]
  rw[er,em];have e2:(qK (n.Agents.map qB.enc) 1).2=(qK ((n.Agents.map (lvA b)).map qB.enc) 1).2:=(qdT (by rw[List.map_map];exact List.map_congr_left λx _=>ql5)).symm;rw[e2];refine wv (pre:=[]) (post:=[]) (qeZ _) ?_ ?_
  ·simp[zT,Qw,lay,qK,qD.layE]
  ·simp[Qw,lay,qK,qD.layE]
def BKh(bk:List qD)(bid:Nat)(h:List qC):Prop:=∃bvs:List AV,h[bid]?=some (.row 1 bvs true)/\bvs.length=bk.length/\
 ∀(i:Nat)(n:qD),bk[i]?=some n->∃a,bvs[i]?=some (.agg [sQ 5 a n.Agents.length])/\Cv h (sQ 5 a n.Agents.length) (.lst 5 (n.Agents.map qB.enc) false)
def BK(bk:List qD)(bid:Nat)(base:Nat->Prop)(h:List qC):Prop:=∀h',Keep base h h'->BKh bk bid h'
theorem BK.keep{bk:List qD}{base:Nat->Prop}{bid:Nat}{h h':List qC}(b:BK bk bid base h)(k:Keep base h h'):BK bk bid base h':=λg kg=>b g (k.trans kg)
theorem BK.now{bk:List qD}{base:Nat->Prop}{bid:Nat}{h:List qC}(b:BK bk bid base h):BKh bk bid h:=b h Keep.refl
structure RW(bk:List qD)(bid:Nat)(es:List (AV×AV))(mid:Nat)(base:Nat->Prop)(nid:Nat)(h:List qC)(N:Ags):Prop where
 n:NE 3 [sQ 1 bid bk.length,.map mid] base nid h N
 m:h[mid]?=some (.map es)
 b:BK bk bid base h
theorem RW.km{bk:List qD}{bid:Nat}{es:List (AV×AV)}{base:Nat->Prop}{mid nid:Nat}{h h':List qC}{N M:Ags}(hN:RW bk bid es mid base nid h N)(n':NE 3 [sQ 1 bid bk.length,.map mid] base nid h' M)(hk:KM base h h'):RW bk bid es mid base nid h' M:=⟨n',hk.m _ _ hN.m,hN.b.keep hk.toKeep⟩
theorem BKh.at{bk:List qD}{bid:Nat}{h:List qC}(b:BKh bk bid h){v:Int}(h0:0<=v)(h1:v<bk.length):∃bvs a,idx 1 (some (sQ 1 bid bk.length)) (some (.int .i64 v))=some (.ptr bid v.toNat 0)/\h[bid]?=some (.row 1 bvs true)/\
  bvs[v.toNat]?=some (.agg [.slice 5 a 0 (zP bk v).Agents.length false])/\Cv h (.slice 5 a 0 (zP bk v).Agents.length false) (.lst 5 ((zP bk v).Agents.map qB.enc) false):=by
 obtain⟨bvs,q1,q2,q3⟩:=b;have hv:v.toNat<bk.length:=by omega
 obtain⟨a,r1,r2⟩:=q3 _ _ (gEg hv);have e:zP bk v=bk[v.toNat]:=by unfold zP;rw[gEg hv];rfl
 rw[e];refine⟨bvs,a, ?_,q1,r1,r2⟩;simp[idx,inI];omega
theorem qk7{m:Int}(h0:0<=m){xs:Ags}(h:∀x∈xs,x.Level<=m):hiI xs<=m:=by
 have key:∀(xs:Ags)(k:Int),k<=m->(∀x∈xs,x.Level<=m)->xs.foldl (λm x=>if x.Level<m then m else x.Level) k<=m:=by
  intro xs
  induction xs with
  | nil=>intro k h1 _;exact h1
  | cons y ys ih=>
   intro k h1 h2;have:=h2 y (by simp);exact ih _ (by simp only;split<;>omega) λx hx=>h2 x (by simp[hx])
 exact key xs 0 h0 h
theorem qgF{t:qD}{lev:Int}(ht:zB t=true)(hl:0<=lev/\lev<=8):t.Agents.all (JF lev)=true↔¬8<IntKind.i64.wrap (hiI t.Agents+lev):=by
 have hb:=qdC (xs:=t.Agents) λx hx=>QX (JT (JX ht) x hx);rw[wsA,lAt];constructor
 ·intro h;have:=qk7 (m:=8-lev) (by omega) (xs:=t.Agents) λx hx=>by
   have h1:=h x hx;unfold JF at h1;have h2:=QC (JT (JX ht) x hx);unfold wB at h2;by_cases q:wx x.Kind=true
   ·simp[q]at h1;omega
   ·rw[if_neg q]at h2;simp at h2;omega
  omega
 ·intro h x hx;have:=qdD hx;unfold JF;simp;right;omega
section
variable {w:Nat} {post:List AV} {bk:List qD} {bid:Nat} {es:List (AV×AV)} {base:Nat->Prop} {mid nid:Nat} {h:List qC} {N:Ags} {K:AV->List qC->Prop} {a b s c k:Nat} {x y:qB}
theorem s751(hN:NE w post base nid h N)(hx:N[a]?=some x)(hy:N[b]?=some y)(oa:qe x=true)(ob:qe y=true)(hK:K (.tup [.int .i64 (Jj x y),.bool (zI x y&& !decide (Jj x y=8))]) h):
  SCall Gm 751 [.ptr nid 0 0,(⟨(a:Int),(b:Int)⟩:qV).enc] h K:=by
 obtain⟨aid,ps,q,hNA,ho,ha,hq⟩:=hN.rd hx;obtain⟨q',hq',ha',hr',_⟩:=hNA.at hy (zi ob).2;have la:=qR hx;have lb:=qR hy;have fin:∀v,v=AV.tup [.int .i64 (Jj x y),.bool (zI x y&& !decide (Jj x y=8))]->K v h:=λv e=>e▸hK;have key:=qm6 oa ob;refine sI F751 ?_;simp only[F751,qM,go_sem,qV.enc];refine qZ rfl ?_;simp only[go_sem,ho,zH la,zH lb,ha,hq,ha'];refine lsA ?_;simp only[go_sem];refine lsA ?_;simp only[go_sem];refine qL qhY ?_;simp only[go_sem];have c8:jL x.Kind x.Level y.Kind y.Level=8->zY x.Kind x.Level y.Kind y.Level=2->False:=by
  intro h1 h2;simp only[jL,zY]at h1 h2;split at h1
  ·rename_i hp;simp only[hp,if_true]at h2;split at h1
   ·exact qfV h1
   ·split at h1
    ·exact qfV h1
    ·rename_i q1 q2;rw[if_neg q1,if_neg q2]at h2;omega
  ·omega
 have k8:jL x.Kind x.Level y.Kind y.Level=6->(if zI x y then x.Kind=10/\(x.Data.length:Int)<=y.Value else y.Kind=10/\(y.Data.length:Int)<=x.Value)->Jj x y=8:=λh1 h2=>by rw[key,if_pos ⟨h1,h2⟩]
 have kn:¬(jL x.Kind x.Level y.Kind y.Level=6/\(if zI x y then x.Kind=10/\(x.Data.length:Int)<=y.Value else y.Kind=10/\(y.Data.length:Int)<=x.Value))->Jj x y=jL x.Kind x.Level y.Kind y.Level:=λh1=>by rw[key,if_neg h1]
 clear key oa ob hK hx hy hNA ho ha hq hq' ha' hr';have hs:zI x y=decide (zY x.Kind x.Level y.Kind y.Level=2):=rfl;generalize zI x y=S at*;generalize Jj x y=O at*;generalize jL x.Kind x.Level y.Kind y.Level=C at*;generalize zY x.Kind x.Level y.Kind y.Level=F at*;subst hs
 repeat' (first | ((first | apply qk | apply qI)<;>intro hc<;>simp only[hc,go_sem]) | (refine lsA ?_;simp only[go_sem]) | refine fin _ ?_)
 all_goals clear fin
 all_goals simp only[Bool.not_true,dTe,decide_eq_false_iff_not,AV.tup.injEq]at*
 all_goals try delta iI at*
 all_goals first
  | (have e:=k8 (by assumption) (by simp[*];done);simp[e];done)
  | (have e:=kn (by simp[*];try omega);simp only[e];simp[*];try first | omega | (intro h8;exact c8 h8 (by assumption)))
def QD(bk:List qD)(x y:qB)(a b:Nat):AV:=if (ql bk x y).2=0 then .tup [.int .i64 (qN x y),.int .i64 (a:Nat),.int .i64 (b:Nat),.int .i64 0]else .tup [.int .i64 0,.int .i64 0,.int .i64 0,.int .i64 (ql bk x y).2]
theorem qk0(h:qN x y=8):(ql bk x y).2=11:=by unfold ql;rw[if_pos h]
theorem qdA(h:qN x y=7)(q:(bk.length:Int)<=x.Value):(ql bk x y).2=3:=by unfold ql;rw[if_neg (by omega),if_pos ⟨h,q⟩]
theorem qk1(h:qN x y=7)(q:¬(bk.length:Int)<=x.Value)(r:8<IntKind.i64.wrap (hiI (zP bk x.Value).Agents+x.Level)):(ql bk x y).2=9:=by unfold ql;rw[if_neg (by omega),if_neg (by omega),if_pos ⟨h,r⟩]
theorem qc9(h8:qN x y≠8)(q:qN x y=7->¬(bk.length:Int)<=x.Value/\¬8<IntKind.i64.wrap (hiI (zP bk x.Value).Agents+x.Level)):(ql bk x y).2=0:=by
 unfold ql;rw[if_neg h8,if_neg (λe=>(q e.1).1 e.2),if_neg (λe=>(q e.1).2 e.2)]
theorem qoZ{u v:qB}{A B:Nat}(hR:RW bk bid es mid base nid h N)(ou:qe u=true)(ov:qe v=true)(hbk:ju bk=true)(hu:N[A]?=some u)(hv:N[B]?=some v)
  (ho:(zI u v=true/\a=B/\b=A/\x=v/\y=u)\/(zI u v=false/\a=A/\b=B/\x=u/\y=v)) (h7:qN x y=7->0<=x.Value) (hK:∀ex,K (QD bk x y a b) (h++ex)):
  SCall Gm 1305 [.ptr nid 0 0,(⟨(A:Int),(B:Int)⟩:qV).enc] h K:=by
 have eo:Jj u v=qN x y:=by unfold Jj;rcases ho with⟨e,_,_,rfl,rfl⟩ | ⟨e,_,_,rfl,rfl⟩<;>rw[e]<;>rfl
 have hx:N[a]?=some x:=by rcases ho with⟨_,rfl,_,rfl,_⟩ | ⟨_,rfl,_,rfl,_⟩<;>assumption
 have xok0:qe x=true:=by rcases ho with⟨_,_,_,rfl,_⟩ | ⟨_,_,_,rfl,_⟩<;>assumption
 have xok:=QX xok0;obtain⟨aid,ps,q,hNA,hq1,hq2,hq3⟩:=hR.n.rd hx;have la:=qR hx;refine sI kL ?_;simp only[kL,qM,go_sem,qV.enc];refine qZ rfl ?_;simp only[go_sem];refine qU (s751 hR.n hu hv ou ov ?_);rw[eo];by_cases c8:qN x y=8
 ·have eC:QD bk x y a b=.tup [.int .i64 0,.int .i64 0,.int .i64 0,.int .i64 11]:=by unfold QD;rw[qk0 c8,if_neg (by decide)]
  rw[eC]at hK;have eb:(zI u v&& !decide (qN x y=8))=false:=by simp[c8]
  rw[eb,c8];simp only[go_sem];exact lAn h▸hK []
 ·have eb:(zI u v&& !decide (qN x y=8))=zI u v:=by simp[c8]
  rw[eb];have hab:∃A' B':Nat,A'=A/\B'=B:=⟨A,B,rfl,rfl⟩;rcases ho with⟨hs,ha,hb,h1,h2⟩ | ⟨hs,ha,hb,h1,h2⟩<;>subst ha hb<;>rw[hs]<;>simp only[go_sem]
  all_goals
   simp only[show decide (qN x y=8)=false from decide_eq_false c8,go_sem];apply qI<;>intro hc<;>simp only[hc,go_sem]
   ·have c7:qN x y=7:=by simpa using hc
    clear hc;have v0:=h7 c7;simp only[hq1,zH la,hq2,hq3,go_sem];refine lsA ?_;simp only[go_sem];simp only[hq1,go_sem];apply qI<;>intro hc<;>simp only[hc,go_sem]
    ·have q3:(bk.length:Int)<=x.Value:=by simpa using hc
     have eC:QD bk x y a b=.tup [.int .i64 0,.int .i64 0,.int .i64 0,.int .i64 3]:=by unfold QD;rw[qdA c7 q3,if_neg (by decide)]
     try delta iI
     exact lAn h▸eC▸hK []
    ·have q3:¬(bk.length:Int)<=x.Value:=by simpa using hc
     clear hc;have ot:=qEO hbk v0 (show x.Value<bk.length by omega);obtain⟨bvs,ta,b1,b2,b3,b4⟩:=hR.b.now.at v0 (show x.Value<bk.length by omega);simp only[hq1,b1,b2,b3,go_sem];refine Q9 (vs':=[(zP bk x.Value).enc,.int .i64 x.Level]) (Cvs.cons (.agg rfl (w9 b4 λp hp=>by simp at hp)) (Cvs.cons (.refl rfl) Cvs.nil)) (qeE (zP bk x.Value) x.Level (by have:=Z7 ot;omega) xok λz hz=>QX (JT (JX ot) z hz)) ?_;have sh:=qgF ot xok;have eL:∀n,(lay (Qw (Jk (zP bk x.Value) x.Level)) n).1=.tup [.agg [.slice 5 n 0 (Jk (zP bk x.Value) x.Level).1.Agents.length false],.bool (Jk (zP bk x.Value) x.Level).2]:=λn=>by simp[Qw,lay,qK,qD.layE]
     rw[eL];simp only[go_sem];by_cases q9:8<IntKind.i64.wrap (hiI (zP bk x.Value).Agents+x.Level)
     ·have e9:(Jk (zP bk x.Value) x.Level).2=false:=by unfold Jk;rw[if_neg (λe=>sh.1 e q9)]
      have eC:QD bk x y a b=.tup [.int .i64 0,.int .i64 0,.int .i64 0,.int .i64 9]:=by unfold QD;rw[qk1 c7 q3 q9,if_neg (by decide)]
      rw[e9];simp only[go_sem]
      try delta iI
      exact eC▸hK _
     ·have e9:(Jk (zP bk x.Value) x.Level).2=true:=by unfold Jk;rw[if_pos (sh.2 q9)]
      have eC:∀a b,QD bk x y a b=.tup [.int .i64 (qN x y),.int .i64 (a:Nat),.int .i64 (b:Nat),.int .i64 0]:=λa b=>by unfold QD;rw[if_pos (qc9 c8 λ_=>⟨q3,q9⟩)]
      rw[e9];simp only[go_sem]
      try delta iI
      exact eC _ _▸hK _
   ·have n7:qN x y≠7:=by simpa using hc
    have eC:∀a b,QD bk x y a b=.tup [.int .i64 (qN x y),.int .i64 (a:Nat),.int .i64 (b:Nat),.int .i64 0]:=λa b=>by unfold QD;rw[if_pos (qc9 c8 λe=>absurd e n7)]
    try delta iI
    exact lAn h▸eC _ _▸hK []
theorem qo1{c:Int}(hR:RW bk bid es mid base nid h N)(hx:N[a]?=some x)(hy:N[b]?=some y)(px:0<x.Ports.length/\x.Ports.length<=4)(py:0<y.Ports.length/\y.Ports.length<=4)(h7:c=7->0<=x.Value/\x.Value<bk.length/\(zP bk x.Value).Agents.length<=600)
  (hK:K (.int .i64 (jB c (jU bk x y c)).1) h):SCall Gm 1307 [.ptr nid 0 0,.int .i64 c,.int .i64 (a:Nat),.int .i64 (b:Nat)] h K:=by
 obtain⟨aid,ps,q,hNA,ho,ha,hq⟩:=hR.n.rd hx;obtain⟨q',hq',ha',hr',hv'⟩:=hNA.at hy py.1;have hvx:pv x q=sQ 2 q x.Ports.length:=Qc px.1;have la:=qR hx;have lb:=qR hy;have fin:∀p:Int,jU bk x y c=p->K (.int .i64 (jB c p).1) h:=λp e=>e▸hK;have ep:IntKind.i64.wrap (((x.Ports.length:Nat):Int)-1)=(x.Ports.length:Int)-1:=wsA;have eq:IntKind.i64.wrap (((y.Ports.length:Nat):Int)-1)=(y.Ports.length:Int)-1:=wsA;clear hK;refine sI kM ?_;simp only[kM,qM,go_sem];apply qI<;>intro hc<;>simp only[hc,go_sem]
 ·have e:c=3:=by simpa using hc
  simp only[ho,zH lb,ha,ha',hv',eq,go_sem];refine qL (XM (by omega) (by omega)) ?_;simp only[go_sem];exact fin _ (by unfold jU;rw[if_pos (.inl e)])
 have n3:c≠3:=by simpa using hc
 clear hc;apply qI<;>intro hc<;>simp only[hc,go_sem]
 ·have e:c=4:=by simpa using hc
  simp only[ho,zH lb,ha,ha',hv',eq,go_sem];refine qL (XM (by omega) (by omega)) ?_;simp only[go_sem];exact fin _ (by unfold jU;rw[if_pos (.inr e)])
 have n4:c≠4:=by simpa using hc
 clear hc;apply qI<;>intro hc<;>simp only[hc,go_sem]
 ·have e:c=6:=by simpa using hc
  clear hc;simp only[ho,zH la,ha,hq,go_sem];apply qI<;>intro hc<;>simp only[hc,go_sem]
  ·have k9:x.Kind=9:=by simpa using hc
   simp only[ho,zH la,ha,hq,hvx,ep,go_sem];refine qL (XM (by omega) (by omega)) ?_;simp only[go_sem];exact fin _ (by unfold jU fieldsOf;rw[if_neg (by omega),if_pos e,if_pos k9])
  ·have k9:¬x.Kind=9:=by simpa using hc
   refine qL (XM (by omega) (by omega)) ?_;simp only[go_sem];exact fin _ (by unfold jU fieldsOf;rw[if_neg (by omega),if_pos e,if_neg k9])
 have n6:c≠6:=by simpa using hc
 clear hc;apply qI<;>intro hc<;>simp only[hc,go_sem]
 ·have e:c=7:=by simpa using hc
  obtain⟨v0,v1,v2⟩:=h7 e;simp only[ho,zH la,ha,hq,go_sem];obtain⟨bvs,ta,b1,b2,b3,b4⟩:=hR.b.now.at v0 v1;simp only[b1,b2,b3,go_sem];refine qL (XM (by omega) (by omega)) ?_;simp only[go_sem];exact fin _ (by unfold jU;rw[if_neg (by omega),if_neg n6,if_pos e])
 ·have n7:c≠7:=by simpa using hc
  refine qL (XM (by omega) (by omega)) ?_;simp only[go_sem];exact fin _ (by unfold jU;rw[if_neg (by omega),if_neg n6,if_neg n7])
end
section
variable {w:Nat} {post:List AV} {base:Nat->Prop} {nid:Nat} {h:List qC} {N:Ags} {K:AV->List qC->Prop} {a b s c k:Nat} {x y:qB} {X:Nat->Nat->Prop}
theorem W.peerX(h:W N X)(h1:Has N a s)(x1:¬X a s)(x2:X c k):∃b t,z6 N (pt a s)=pt b t/\Has N b t/\¬(c=b/\k=t):=by
 obtain⟨c',k',e,_,h2,x3,_⟩:=h.live h1 x1;exact⟨c',k',e,h2,λq=>x3 (q.1▸q.2▸x2)⟩
def Jo(c n:Nat):List AV:=(List.range n).map λj=>iI ((c+j:Nat):Int)
theorem qcX{n:Nat}:Jo c (n+1)=Jo c n++[iI ((c+n:Nat):Int)]:=by simp[Jo,List.range_succ]
theorem qcW{n:Nat}:(Jo c n).length=n:=by simp[Jo]
theorem qcV{n i:Nat}(h:i<n):(Jo c n)[i]?=some (iI ((c+i:Nat):Int)):=by simp[Jo,h]
theorem J8{id n i:Nat}(h:i<n):idx 1 (some (sQ 1 id n)) (some (iI (i:Nat)))=some (.ptr id i 0):=by simp[idx,inI];omega
theorem NE.app1{g:List qC}{f:Nat}{el:List AV}{v:AV}{tmp:qC}(hw:w≠1)(hN:NE w post base nid g N)(hf:g[f]?=some (.row 1 el true))(hb:¬base f):
  NE w post base nid ((g++[tmp]).set f .dead++[.row 1 (el++[v]) true]) N/\KM base g ((g++[tmp]).set f .dead++[.row 1 (el++[v]) true])/\((g++[tmp]).set f .dead++[.row 1 (el++[v]) true])[g.length+1]?=some (.row 1 (el++[v]) true)/\¬base (g.length+1):=by
 have hbl:=hN.bl;have hk:KM base g ((g++[tmp]).set f .dead++[.row 1 (el++[v]) true]):=((KM.app hbl).trans (KM.set hb (by rw[gAl (qR hf)];exact hf))).trans (KM.app (λj hj=>by have:=hbl j hj;simp;omega));refine⟨?_,hk, ?_,λq=>by have:=hbl _ q;omega⟩
 ·obtain⟨aid,ps,hN⟩:=hN;have e:∀{j:Nat}{o:qC},g[j]?=some o->o≠.row 1 el true->((g++[tmp]).set f .dead++[.row 1 (el++[v]) true])[j]?=g[j]?:=λ{j o} q ne=>by
   have:=qR q;rw[gAl (by simp;omega),gSn (λe=>by rw[<-e,hf]at q;cases q;exact ne rfl),gAl this]
  refine⟨aid,ps,hN.heap (e hN.o λq=>by simp only[qC.row.injEq]at q;exact hw q.1) (e hN.a λq=>by simp at q) λq hq=>?_⟩;obtain⟨el2,e2⟩:=hN.b4 q hq;exact e e2 λq=>by simp at q
 ·rw[gAr (by simp)];simp
theorem qo2(hw:w≠1)(hP:Pr N a b x y X)(hN:NE w post base nid h N)(hx:x.Ports.length=3)(hy:0<y.Ports.length)(hz:y.sz<=1000)(hl:N.length<=10000)
  (hK:∀h',NE w post base nid h' (Qj N a b x y)->KM base h h'->K (.tup []) h'):SCall Gm 1309 [.ptr nid 0 0,iI (a:Nat),iI (b:Nat)] h K:=by
 have la:=hP.la;have lb:=hP.lb;have hz':=hz;unfold qB.sz at hz';refine sI kO ?_;simp only[kO,qM,go_sem];obtain⟨aid,ps,q,_,o1,o2,o3⟩:=hN.rd hP.y;have hvy:pv y q=sQ 2 q y.Ports.length:=Qc hy;simp only[o1,zH lb,o2,o3,go_sem];refine lsA ?_;simp only[hvy,go_sem];refine qU (KG hw hN (by omega) (by omega) (by omega) λh1 n1 k1=>?_);simp only[hvy,go_sem];refine qU (KG hw n1 (by omega) (by omega) (by simp;omega) λh2 n2 k2=>?_);rw[show (N++[qS y.Kind y.Level y.Value y.Data y.Ports.length]).length=N.length+1 by simp];simp only[hvy,go_sem];have hbl:=n2.bl;refine Sem.loop (α:=Nat×Nat×List qC) (λq=>q.1+1<=y.Ports.length/\NE w post base nid q.2.2 (zG N x y q.1)/\KM base h q.2.2/\q.2.2[q.2.1]?=some (.row 1 (Jo (N.length+2) q.1) true)/\¬base q.2.1)
  (λz=>(⟨[(0,.ptr nid 0 0),(1,iI (a:Nat)),(2,iI (b:Nat)),(7,iI (N.length:Nat)),(8,iI (N.length+1:Nat)),(9,sQ 1 z.2.1 z.1),(10,iI ((z.1+1:Nat):Int))],[(6,encR y q)],z.2.2⟩:VSt)) (λq=>y.Ports.length-q.1) (0,h2.length,h2++[.row 1 [] true]) (by kernel_rfl)
  ⟨by simp only;omega,n2.app _,(k1.toKM.trans k2.toKM).trans (KM.app hbl),by simp[Jo],λq=>by have:=hbl _ q;simp only at this;omega⟩
  (Can.ph (WkN.same rfl (WkN.same rfl (WkN.same rfl (WkN.same rfl (WkN.same rfl (WkN.cons rfl (Wk.ph (by simp)) (WkN.same rfl WkN.nil))))))) (WkN.same rfl WkN.nil)) ?_
 rintro⟨i,f,g⟩ ⟨hi,hn,hk,hf,hfb⟩;simp only at hi hn hk hf hfb;simp only[hvy,go_sem];have hg:(zG N x y i).length=N.length+2+i:=qB3;apply qI<;>intro hc<;>simp only[hc,hvy,go_sem]
 ·have hlt:i+1<y.Ports.length:=by have:=odT hc;omega
  clear hc;obtain⟨x',hx',cx⟩:=(ZE (N:=N) (x:=x) (y:=y) (i:=i)).at (a:=a) (x:=x) (by unfold wJ;rw[gAl (by simp;omega),gAl (by simp;omega),gAl la];exact hP.x);obtain⟨aid1,ps1,q1,_,p1,p2,p3⟩:=hn.rd hx';rw[UD cx]at p3;simp only[p1,zH (show a<(zG N x y i).length by omega),p2,p3,go_sem];refine qU (X1 (n:=3) hw hn (by omega) (by omega) λg1 m1 j1=>?_);simp only[hvy,go_sem];have f1:Has (zG N x y i++[qS 4 x.Level 0 [] 3]) (zG N x y i).length 1:=zd (by omega);have f2:Has (zG N x y i++[qS 4 x.Level 0 [] 3]) (zG N x y i).length 2:=zd (by omega);have c1:Has (zG N x y i++[qS 4 x.Level 0 [] 3]) N.length (i+1):=(Qi (by omega)).1.app;have c2:Has (zG N x y i++[qS 4 x.Level 0 [] 3]) (N.length+1) (i+1):=(Qi (by omega)).2.app;refine qU (Xz (s:=1) (k:=i+1) m1 f1 c1 λg2 m2 j2=>?_);simp only[hvy,go_sem];refine qU (Xz (s:=2) (k:=i+1) m2 (f2.same (zo _ _ _)) (c2.same (zo _ _ _)) λg3 m3 j3=>?_);simp only[hvy,go_sem];have hf3:=(j1.trans (j2.trans j3)).r _ _ hf;obtain⟨r1,r2⟩:=Qb (tmp:=.row 1 [iI ((zG N x y i).length:Nat)] true) hf3;refine jO r2 r1 qcW (by omega) ?_;obtain⟨z1,z2,z3,z4⟩:=m3.app1 (v:=iI ((zG N x y i).length:Nat)) (tmp:=.row 1 [iI ((zG N x y i).length:Nat)] true) hw hf3 hfb;simp only[go_sem,wuA (n:=i+1)];refine qb (i+1,g3.length+1,_) ⟨by simp only;omega,z1,hk.trans (((j1.trans (j2.trans j3)).toKM).trans z2), ?_,z4⟩ (by simp only;omega) csA;rw[qcX,<-hg];exact z3
 ·have hlt:i=y.Ports.length-1:=by have:=odF hc;omega
  clear hc;subst hlt;have w0:=V7 (x:=x) hP hy;have w1:=V9 hP hx hy;have a1:Has (zG N x y (y.Ports.length-1)) a 1:=J4 (hP.ax (by omega));have a2:Has (Zj N a x y) a 2:=(J4 (hP.ax (by omega))).same Zk;refine qU (Q0 (s:=1) (k:=0) hn a1 (Qi hy).1 (w0.peerX a1 (by rintro(q | q);exact hP.nx (by omega) q.1;omega) (.inr ⟨nLr _,rfl⟩)) λg1 m1 j1=>?_);simp only[hvy,go_sem];refine qU (Q0 (s:=2) (k:=0) m1 a2 ((Qi hy).2.same Zk) (w1.peerX a2 (by rintro(q | q | q);exact hP.nx (by omega) q.1;omega;omega) (.inr (.inl ⟨nLr _,rfl⟩))) λg2 m2 j2=>?_);simp only[hvy,go_sem];have hf2:=(j1.trans j2).r _ _ hf;refine Sem.loop (α:=Nat×List qC) (λq=>q.1+1<=y.Ports.length/\NE w post base nid q.2 (QN N a b x y q.1)/\KM base h q.2/\q.2[f]?=some (.row 1 (Jo (N.length+2) (y.Ports.length-1)) true))
   (λq=>(⟨[(0,.ptr nid 0 0),(2,iI (b:Nat)),(100,sQ 1 f (y.Ports.length-1)),(101,iI (y.Ports.length-1:Nat)),(102,iI (q.1:Nat))],[],q.2⟩:VSt)) (λq=>y.Ports.length-q.1) (0,g2) (by kernel_rfl)
   ⟨by simp only;omega,m2,hk.trans (j1.trans j2).toKM,hf2⟩ csA ?_
  clear hn hk m1 m2 j1 j2 hg hi hf hf2;rintro⟨i,g⟩ ⟨hi,hn,hk,hf⟩;simp only at hi hn hk hf;simp only[hvy,go_sem];apply qI<;>intro hc<;>simp only[hc,hvy,go_sem]
  ·have hlt:i+1<y.Ports.length:=by have:=odT hc;omega
   clear hc;have b1:Has (QN N a b x y i) b (i+1):=(J4 (hP.by' (by omega))).same WV;have b2:=V8 (N:=N) (x:=x) (y:=y) (i:=y.Ports.length-1) (j:=i) (s:=0) (by omega) (by omega);rw[show N.length+2+i=N.length+1+(i+1) by omega]at b2;have b3:Has (QN N a b x y i) (N.length+1+(i+1)) 0:=b2.same WV;simp only[J8 (show i<y.Ports.length-1 by omega),hf,qcV (c:=N.length+2) (show i<y.Ports.length-1 by omega),go_sem];rw[show N.length+2+i=N.length+1+(i+1) by omega];simp only[wuA (n:=i),go_sem];refine qU (Q0 (s:=i+1) (k:=0) hn b1 b3 ((qB5 hP hx hy (i:=i) (by omega)).peerX b1 (by rintro(⟨(q | q | q),_⟩ | q);exact hP.nx (by omega) q.1;omega;exact hP.ne q.1.symm;omega) (.inl ⟨.inr (.inl ⟨by omega,rfl⟩),by omega⟩)) λg1 m1 j1=>?_);simp only[go_sem,wuA (n:=i)];refine qb (i+1,g1) ⟨by simp only;omega,m1,hk.trans j1.toKM,j1.r _ _ hf⟩ (by simp only;omega) csA
  ·have hlt:i=y.Ports.length-1:=by have:=odF hc;omega
   subst hlt;exact hK _ hn hk
end
section
variable {N M A:Ags} {a b c d s k t u:Nat} {x y:qB} {lev v:Int} {X:Nat->Nat->Prop}
theorem ql1(h1:Has N a s)(h2:Has N c k)(h3:Has N b t)(h4:Has N d u)(n1:¬(a=b/\s=t))(n2:¬(a=d/\s=u))(n3:¬(c=b/\k=t))(n4:¬(c=d/\k=u)):
  ze (ze N (pt a s) (pt c k)) (pt b t) (pt d u)=ze (ze N (pt b t) (pt d u)) (pt a s) (pt c k):=by
 have s1:=zo N (pt a s) (pt c k);have s2:=zo N (pt b t) (pt d u);refine qBA ((s1.trans (zo _ _ _)).back.trans (s2.trans (zo _ _ _))) λe v=>?_;rw[wq (s1.has.1 h3) (s1.has.1 h4),wq h1 h2,wq (s2.has.1 h1) (s2.has.1 h2),wq h3 h4];by_cases e1:e=d/\v=u
 ·rw[if_pos e1,if_neg (by omega),if_neg (by omega),if_pos e1]
 ·by_cases e2:e=b/\v=t
  ·rw[if_neg e1,if_pos e2,if_neg (by omega),if_neg (by omega),if_neg e1,if_pos e2]
  ·rw[if_neg e1,if_neg e2,if_neg e1,if_neg e2]
theorem ql0(h1:Has N a s)(h2:Has N c k):ze (N++M) (pt a s) (pt c k)=ze N (pt a s) (pt c k)++M:=by
 refine qBA ((zo (N++M) (pt a s) (pt c k)).back.trans ((zo N (pt a s) (pt c k)).app (SameA.refl M))) λe v=>?_;have l1:=h1.lt;have l2:=h2.lt;rw[wq h1.app h2.app];by_cases hb:e<N.length
 ·rw[Q7 hb,Q7 (by rw[Xd];exact hb),wq h1 h2]
 ·obtain⟨e',rfl⟩:=Nat.exists_eq_add_of_le (Nat.le_of_not_lt hb);rw[if_neg (by omega),if_neg (by omega),qa9];have:=qa9 (N:=ze N (pt a s) (pt c k)) (M:=M) (a:=e') (s:=v);rw[Xd]at this;rw[this]
def XA(X:Nat->Nat->Prop)(c i p q:Nat):Prop:=(X p q/\p<c)\/(c+1<=p/\p<=c+i/\q=1)\/(p=c+i/\q=zU i)
theorem Vg{i:Nat}:Has (zR lev N.length i (zD lev v N)) (N.length+i) (zU i):=by
 refine Has.same YO ?_;unfold zU;split
 ·rename_i e;subst e;exact(zd (by omega)).app
 ·have:=UQ (N:=zD lev v N) (k:=3) (l:=lev) (v:=0) (e:=[]) (i:=i) (j:=i-1) (s:=2) (n:=3) (by omega) (by omega);rw[show (zD lev v N).length+(i-1)=N.length+i by simp[zD];omega]at this;exact this
theorem qa3{i:Nat}(h:Has N c s):Has (zR lev N.length i (zD lev v N)) c s:=h.app.app.same YO
theorem qBD{i j:Nat}(h1:1<=j)(h2:j<=i):Has (zR lev N.length i (zD lev v N)) (N.length+j) 1:=by
 have:=UQ (N:=zD lev v N) (k:=3) (l:=lev) (v:=0) (e:=[]) (i:=i) (j:=j-1) (s:=1) (n:=3) (by omega) (by omega);rw[show (zD lev v N).length+(j-1)=N.length+j by simp[zD];omega]at this;exact this.same YO
theorem YN{i:Nat}:(zR lev N.length i (zD lev v N)).length=N.length+1+i:=by rw[qhF];simp[zD]
theorem qa2(h:Pr N a b x y X):∀{i:Nat},W (zR lev N.length i (zD lev v N)) (XA X N.length i)
 | 0=>(QI h).mono λu w hb=>by
   have h3:u=N.length->w<1:=λq=>by subst q;exact Wh (SameA.refl _) hb
   unfold XA zU;by_cases hX:X u w<;>simp only[hX,true_and,false_and,false_or,true_or,and_true,if_true]<;>omega
 | i+1=>by
  have ih:=qa2 h (i:=i);have hl:(zR lev N.length i (zD lev v N)).length=N.length+1+i:=YN;have e0:zU i=0\/zU i=2:=by unfold zU;split<;>simp
  refine((ih.add (qS 3 lev 0 [] 3)).link (a:=(zR lev N.length i (zD lev v N)).length) (s:=0) (c:=N.length+i) (k:=zU i) (zd (by omega)) Vg.app (.inr rfl) (.inl ⟨.inr (.inr ⟨rfl,rfl⟩),by omega⟩) (by omega)).mono λu w hb=>?_;have hv:u=(zR lev N.length i (zD lev v N)).length->w<3:=λq=>by subst q;exact Wh (zo _ _ _) hb
  have hu:=hb.lt;simp only[Xd,lAp,lCo,lNi]at hu;rw[hl]at hv hu|-;have e1:zU (i+1)=2:=rfl;unfold XA;rw[e1];by_cases hX:X u w<;>simp only[hX,true_and,false_and,false_or,true_or,and_true]<;>omega
theorem qd8(h:Pr N a b x y X){i n:Nat}(hn:n<=x.Ports.length-1)(hi:i<=n):W (jz a N.length 1 i (zR lev N.length n (zD lev v N))) λp q=>(XA X N.length n p q/\¬(N.length+1<=p/\p<=N.length+i/\q=1))\/(p=a/\1<=q/\q<=i):=
 Uj (qa2 h) (Nat.le_of_lt h.la) (λk h1 h2=>⟨qa3 (h.ax (by omega)),by
  have la:=h.la;rintro(q | q | q)
  ·exact h.nx (by omega) q.1
  ·omega
  ·omega⟩) (λk h1 h2=>⟨qBD h1 h2,.inr (.inl ⟨by omega,by omega,rfl⟩)⟩) hi
theorem qeA{i n:Nat}(h:Has N c s):Has (jz a N.length 1 i (zR lev N.length n (zD lev v N))) c s:=(qa3 h).same Qt
theorem qd9(h:Pr N a b x y X){i:Nat}(hn:i+1<=x.Ports.length-1):∀{j:Nat},j<=i->
  jz a N.length 1 j (zR lev N.length (i+1) (zD lev v N))=ze (jz a N.length 1 j (zR lev N.length i (zD lev v N))++[qS 3 lev 0 [] 3]) (J6 N.length i) (pt (N.length+1+i) 0)
 | 0,_=>by
  show ze (zR lev N.length i (zD lev v N)++[qS 3 lev 0 [] 3]) (pt (zR lev N.length i (zD lev v N)).length 0) (J6 N.length i)=_;rw[qCV (by rw[YN];omega) (zd (by omega)) Vg.app,YN];rfl
 | j+1,hj=>by
  have la:=h.la;have ih:=qd9 h hn (j:=j) (by omega);have hw:=qd8 (lev:=lev) (v:=v) h (i:=j) (n:=i) (by omega) (by omega);have hl:(jz a N.length 1 j (zR lev N.length i (zD lev v N))).length=N.length+1+i:=by rw[(Qt).len,YN]
  have p1:Has (jz a N.length 1 j (zR lev N.length i (zD lev v N))) a (j+1):=qeA (h.ax (by omega));have p2:Has (jz a N.length 1 j (zR lev N.length i (zD lev v N))) (N.length+(j+1)) 1:=(qBD (by omega) hj).same Qt;have p3:Has (jz a N.length 1 j (zR lev N.length i (zD lev v N))) (N.length+i) (zU i):=Vg.same Qt;have e0:zU i=0\/zU i=2:=by unfold zU;split<;>simp
  obtain⟨g,z,e,hg,ne⟩:=hw.peerX (c:=N.length+i) (k:=zU i) p1 (by
   rintro(⟨(q | q | q),_⟩ | q)
   ·exact h.nx (by omega) q.1
   ·omega
   ·omega
   ·omega) (.inl ⟨.inr (.inr ⟨rfl,rfl⟩),by omega⟩)
  show zq (jz a N.length 1 j (zR lev N.length (i+1) (zD lev v N))) (pt a (j+1)) (pt (N.length+(j+1)) 1)=ze (zq (jz a N.length 1 j (zR lev N.length i (zD lev v N))) (pt a (j+1)) (pt (N.length+(j+1)) 1)++[qS 3 lev 0 [] 3]) (J6 N.length i) (pt (N.length+1+i) 0);rw[ih];generalize jz a N.length 1 j (zR lev N.length i (zD lev v N))=B at hl p1 p2 p3 e hg|-;have q0:Has (B++[qS 3 lev 0 [] 3]) (N.length+1+i) 0:=by rw[<-hl];exact zd (by omega)
  have pe:z6 (ze (B++[qS 3 lev 0 [] 3]) (J6 N.length i) (pt (N.length+1+i) 0)) (pt a (j+1))=pt g z:=by
   obtain⟨r,hr⟩:=p1;have:=Wq hr;rw[e]at this;subst this;refine Wq ?_;rw[wq p3.app q0,if_neg (by omega),if_neg (by omega),Q7 (Jc hr),hr]
  unfold zq;rw[pe,e,<-ql0 p2 hg];have lg:=hg.lt;exact ql1 p3.app q0 p2.app hg.app (by omega) (by omega) (by omega) (by omega)
theorem qb1(h:Pr N a b x y X):∀{i:Nat},i<=x.Ports.length-1->jz a N.length 1 i (zR lev N.length i (zD lev v N))=zf lev v N a i
 | 0,_=>rfl
 | i+1,hi=>by
  have ih:=qb1 h (i:=i) (by omega);have hl:(zf lev v N a i).length=N.length+1+i:=Vh;show zq (jz a N.length 1 i (zR lev N.length (i+1) (zD lev v N))) (pt a (i+1)) (pt (N.length+(i+1)) 1)=zq (ze (zf lev v N a i++[qS 3 lev 0 [] 3]) (J6 N.length i) (pt (zf lev v N a i).length 0)) (pt a (i+1)) (pt (zf lev v N a i).length 1);rw[qd9 h (by omega) (nLr _),ih,hl,show N.length+(i+1)=N.length+1+i by omega]
end
section
variable {w:Nat} {post:List AV} {base:Nat->Prop} {nid:Nat} {h:List qC} {N:Ags} {K:AV->List qC->Prop} {a b s c k:Nat} {x y:qB} {X:Nat->Nat->Prop}
theorem qo4(hw:w≠1)(hP:Pr N a b x y X)(hN:NE w post base nid h N)(h8:y.Kind=8->y.Ports.length=2/\0<y.Data.length)(h7:y.Kind≠8->y.Kind=7/\y.Ports.length=3)(hz:y.sz<=1000)(hl:N.length<=10000)
  (hK:∀h',NE w post base nid h' (if y.Kind=8 then Xq (opI y.Value (y.Data.getD 0 0) x.Value) N b else Z9 N b x y)->KM base h h'->K (.tup []) h'):SCall Gm 1312 [.ptr nid 0 0,iI (a:Nat),iI (b:Nat)] h K:=by
 have la:=hP.la;have lb:=hP.lb;have hz':=hz;unfold qB.sz at hz';have hbl:=hN.bl;refine sI kR ?_;simp only[kR,qM,go_sem];obtain⟨aid,ps,q,hNA,o1,o2,o3⟩:=hN.rd hP.x;have hk4:b<ps.length:=by rw[hNA.l];exact hP.lb
 obtain⟨q',hq',o4⟩:∃q',ps[b]?=some q'/\(zC N ps)[b]?=some (encR y q'):=⟨ps[b],gEg hk4,Qk hP.y (gEg hk4)⟩;simp only[o1,zH la,zH lb,o2,o3,o4,go_sem];refine lsA ?_;simp only[go_sem];apply qI<;>intro hc<;>simp only[hc,go_sem]
 ·have e7:y.Kind=7:=by simpa using hc
  have e8:y.Kind≠8:=by omega
  rw[if_neg e8]at hK;have p3:=(h7 e8).2;refine qU (qo3 (n:=2) hw hN (by omega) (by omega) λh2 n2 k2=>?_);simp only[go_sem];have b1:Has (N++[qS 8 y.Level y.Value [x.Value] 2]) b 1:=(hP.by' (by omega)).app;refine qU (Q0 (s:=1) (k:=0) n2 b1 (zd (by omega)) ((QI hP).peerX b1 (by rintro(q | q);exact hP.nx (by omega) q.1;omega) (.inr rfl)) λh3 n3 k3=>?_);simp only[go_sem];have b2:Has (Wj N b x y) b 2:=(hP.by' (by omega)).app.same ZR;have w2:W (Wj N b x y) _:=Yy hP (by omega) (by omega);refine qU (Q0 (s:=2) (k:=1) n3 b2 ((zd (by omega)).same ZR) (w2.peerX b2 (by rintro(q | q | q);exact hP.nx (by omega) q.1;omega;omega) (.inr (.inl ⟨rfl,by omega⟩))) λh4 n4 k4=>?_);simp only[go_sem];exact hK _ n4 (k2.toKM.trans (k3.toKM.trans k4.toKM))
 ·have e7:y.Kind≠7:=by simpa using hc
  have e8:y.Kind=8:=by rcases Classical.em (y.Kind=8)with q | q;exact q;exact absurd (h7 q).1 e7
  rw[if_pos e8]at hK;obtain⟨p2,d1⟩:=h8 e8;simp only[Zi d1,oMs,go_sem];refine qL qhZ ?_;simp only[go_sem];refine qU (X1 (n:=1) hw hN (by omega) (by omega) λh2 n2 k2=>?_);simp only[go_sem];have b1:Has (N++[qS 6 0 (opI y.Value (y.Data.getD 0 0) x.Value) [] 1]) b 1:=(hP.by' (by omega)).app;refine qU (Q0 (s:=1) (k:=0) n2 b1 (zd (by omega)) ((QI hP).peerX b1 (by rintro(q | q);exact hP.nx (by omega) q.1;omega) (.inr rfl)) λh3 n3 k3=>?_);simp only[go_sem];exact hK _ n3 (k2.toKM.trans k3.toKM)
end
end Go.Ab
