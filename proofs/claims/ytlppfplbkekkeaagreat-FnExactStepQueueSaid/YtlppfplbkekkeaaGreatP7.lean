/- Texts DbgO .. Net33: the abstract machine, its laws and contracts of functions: lemmas for the statement. No condition. -/
import Derived.Test.YtlppfplbkekkeaaGreatP6
set_option linter.unusedSimpArgs false
set_option linter.unusedVariables false
namespace Go.Ab
open Go
set_option maxRecDepth 10000
set_option maxHeartbeats 2000000
theorem rwI:∀(xs:List Int)(k:Int),AV.rowss ((mkL mkI ctI xs k).map qP)=AV.rowss (xs.map qP):=Q2 mkI ctI (enc:=qP) (λ_ _=>rfl)
theorem qE.plx(x:qE):x.enc.pl=true:=by simp[qE.enc,AV.pl,AV.pls]
theorem qE.cnx(x:qE):x.enc.cn=true:=by simp[qE.enc,AV.cn,AV.cns]
theorem qE.layE(x:qE)(n:Nat):lay x.enc n=(.agg [iI x.Agent,iI x.Slot],[]):=by
 simp[qE.enc,lay,qK]
theorem qE.rowsE(x:qE):x.enc.rows=0:=by simp[qE.enc,AV.rows,AV.rowss]
def qE.mrk(_x:qE)(k:Int):qE:={Agent:=k,Slot:=k+1}
def qE.ct(_x:qE):Nat:=1+1
theorem qE.rowsM(x:qE)(k:Int):(x.mrk k).enc.rows=x.enc.rows:=by simp[qE.rowsE,qE.mrk]
theorem qfR:∀(xs:List qE)(k:Int),AV.rowss ((mkL qE.mrk qE.ct xs k).map qE.enc)=AV.rowss (xs.map qE.enc):=Q2 qE.mrk qE.ct (enc:=qE.enc) qE.rowsM
theorem qE.ctle(x:qE):x.ct<=16:=by simp[qE.ct]
theorem qB.plx(x:qB):x.enc.pl=true:=by simp[qB.enc,AV.pl,AV.pls,zj (enc:=qP) (λ_=>rfl),zj qE.plx]
theorem qB.cnx(x:qB):x.enc.cn=true:=by simp[qB.enc,AV.cn,AV.cns,ZG (enc:=qP) (λ_=>rfl),ZG qE.cnx]
theorem qB.layE(x:qB)(n:Nat):lay x.enc n=(.agg [iI x.Kind,iI x.Level,iI x.Value,sQ 1 (n) x.Data.length,.slice 2 (n+AV.rows (lQ x.Data)) 0 x.Ports.length false],(lay (lQ x.Data) (n)).2++((lay (.lst 2 (x.Ports.map qE.enc) false) (n+AV.rows (lQ x.Data))).2++[])):=by
 simp[qB.enc,lay,qK,jB,AV.rows,Nat.add_comm,Nat.add_left_comm]
theorem qB.rowsE(x:qB):x.enc.rows=AV.rows (lQ x.Data)+AV.rows (.lst 2 (x.Ports.map qE.enc) false):=by simp[qB.enc,AV.rows,AV.rowss,Nat.add_assoc]
def qB.mrk(x:qB)(k:Int):qB:={Kind:=k,Level:=k+1,Value:=k+1+1,Data:=mkL mkI ctI x.Data (k+1+1+1),Ports:=mkL qE.mrk qE.ct x.Ports (k+1+1+1+((qH ctI x.Data:Nat):Int))}
def qB.ct(x:qB):Nat:=1+1+1+qH ctI x.Data+qH qE.ct x.Ports
theorem qB.rowsM(x:qB)(k:Int):(x.mrk k).enc.rows=x.enc.rows:=by simp[qB.rowsE,qB.mrk,AV.rows,qfR,rwI]
theorem ZY:∀(xs:List qB)(k:Int),AV.rowss ((mkL qB.mrk qB.ct xs k).map qB.enc)=AV.rowss (xs.map qB.enc):=Q2 qB.mrk qB.ct (enc:=qB.enc) qB.rowsM
theorem qB.ctle(x:qB):x.ct<=16+16*x.sz:=by
 have h0:=VG (c:=ctI) (λ_=>by simp[ctI]) x.Data;have h1:=VG (c:=qE.ct) (λy=>by have:=qE.ctle y;simpa using this) x.Ports;simp only[qB.ct,qB.sz];omega
theorem qD.plx(x:qD):x.enc.pl=true:=by simp[qD.enc,AV.pl,AV.pls,zj qB.plx]
theorem qD.cnx(x:qD):x.enc.cn=true:=by simp[qD.enc,AV.cn,AV.cns,ZG qB.cnx]
theorem qD.layE(x:qD)(n:Nat):lay x.enc n=(.agg [sQ 5 (n) x.Agents.length],(lay (.lst 5 (x.Agents.map qB.enc) false) (n)).2++[]):=by
 simp[qD.enc,lay,qK]
theorem qD.rowsE(x:qD):x.enc.rows=AV.rows (.lst 5 (x.Agents.map qB.enc) false):=by simp[qD.enc,AV.rows,AV.rowss]
def qD.mrk(x:qD)(k:Int):qD:={Agents:=mkL qB.mrk qB.ct x.Agents (k)}
def qD.ct(x:qD):Nat:=qH qB.ct x.Agents
theorem qD.rowsM(x:qD)(k:Int):(x.mrk k).enc.rows=x.enc.rows:=by simp[qD.rowsE,qD.mrk,AV.rows,ZY]
theorem Ww:∀(xs:List qD)(k:Int),AV.rowss ((mkL qD.mrk qD.ct xs k).map qD.enc)=AV.rowss (xs.map qD.enc):=Q2 qD.mrk qD.ct (enc:=qD.enc) qD.rowsM
theorem qD.ctle(x:qD):x.ct<=16+16*x.sz:=by
 have h0:=VH (c:=qB.ct) (z:=qB.sz) qB.ctle x.Agents;simp only[qD.ct,qD.sz];omega
theorem n147(xs:List Int)(hl:xs.length<=1048576):Fresh Gm 147 [lQ xs] (lQ xs):=qpU (gk _ F147) xs hl
theorem ql0(x:qE):Fresh Gm 1419 [x.enc] x.enc:=by
 refine fI YB (by simp[AV.trees,qE.tr]) (qE.plx x) ?_;simp only[YB,qM,go_sem];refine qZ rfl ?_;simp only[go_sem];refine qi rfl rfl ⟨_,rfl⟩ (by decide) ?_;simp only[go_sem];exact wy (pre:=[]) (post:=[]) (qE.plx x) (by simp[zT,qE.layE]) (by simp[qE.layE])
theorem qlY(xs:List qE)(hl:xs.length<=1048576):Fresh Gm 1178 [.lst 2 (xs.map qE.enc) false] (.lst 2 (xs.map qE.enc) false):=
 KS qE.isSh qE.plx rfl rfl (by simp) (gk _ Km) xs (λx hm=>ql0 x) (by omega)
theorem n858(x:qB)(hz:x.sz<=1048576):Fresh Gm 858 [x.enc] x.enc:=by
 refine fI YG (by simp[AV.trees,qB.tr]) (qB.plx x) ?_;simp only[YG,qM,go_sem];refine qZ rfl ?_;simp only[go_sem];unfold qB.sz at hz;refine zk (n147 _ (by omega)) ?_;simp only[go_sem,zn];refine zk (qlY _ (by omega)) ?_;simp only[go_sem,zn];refine qi rfl rfl ⟨_,rfl⟩ (by decide) ?_;simp only[go_sem];exact wy (pre:=[]) (post:=[]) (qB.plx x) (by simp[zT,qB.layE,qf]) (by simp[qB.layE,qf])
theorem n504(xs:List qB)(hl:xs.length+qH qB.sz xs<=1048576):Fresh Gm 504 [.lst 5 (xs.map qB.enc) false] (.lst 5 (xs.map qB.enc) false):=
 KS qB.isSh qB.plx rfl rfl (by simp) (gk _ F504) xs (λx hm=>n858 x (by have:=zw (f:=qB.sz) hm;omega)) (by omega)
theorem n185(x:qD)(hz:x.sz<=1048576):Fresh Gm 185 [x.enc] x.enc:=by
 refine fI YC (by simp[AV.trees,qD.tr]) (qD.plx x) ?_;simp only[YC,qM,go_sem];refine qZ rfl ?_;simp only[go_sem];unfold qD.sz at hz;refine zk (n504 _ (by omega)) ?_;simp only[go_sem,zn];exact wy (pre:=[]) (post:=[]) (qD.plx x) (by simp[zT,qD.layE]) (by simp[qD.layE])
theorem n184(xs:List qD)(hl:xs.length+qH qD.sz xs<=1048576):Fresh Gm 184 [.lst 1 (xs.map qD.enc) false] (.lst 1 (xs.map qD.enc) false):=
 KS qD.isSh qD.plx rfl rfl (by simp) (gk _ F184) xs (λx hm=>n185 x (by have:=zw (f:=qD.sz) hm;omega)) (by omega)
theorem k90(xs:List Int)(k:Int)(h0:0<=k)(hk:k+(qH ctI xs:Nat)<=4611686018427387904)(hz:xs.length<=1073741824):Mark Gm 90 (lQ xs) (lQ (mkL mkI ctI xs k)) k (k+(qH ctI xs:Nat)):=qlS (gk _ F90) rfl xs k h0 hk hz
theorem k885(xs:List qE)(k:Int)(h0:0<=k)(hk:k+(qH qE.ct xs:Nat)<=4611686018427387904)(hz:xs.length<=1073741824):Mark Gm 885 (.lst 2 (xs.map qE.enc) false) (.lst 2 ((mkL qE.mrk qE.ct xs k).map qE.enc) false) k (k+(qH qE.ct xs:Nat)):=by
 refine Mark.intro (gk _ F885) (by kernel_rfl) rfl (zj qE.plx xs) (zj qE.plx _) (by simp only[AV.rows,qfR]) ?_;simp only[F885,qM,zn,go_sem,nZa];refine Sem.loop (λi:Nat=>i<=xs.length) (λi=>(⟨[(0,sQ 2 0 xs.length),(1,iI (k+((qH qE.ct (xs.take i):Nat):Int))),(5,iI (i:Nat))],[],(lay (.lst 2 ((mkL qE.mrk qE.ct (xs.take i) k++xs.drop i).map qE.enc) false) 0).2⟩:VSt)) (λi=>xs.length-i) 0 (by kernel_rfl) (nZl _) (by simp only[List.take_zero,mkL,lNa,List.drop_zero,qH,Int.ofNat_zero,Int.add_zero];exact csA) ?_;intro i hi;simp only[go_sem];apply qI<;>intro hc<;>simp only[hc,go_sem]
 ·have hlt:i<xs.length:=by have:=odT hc;omega
  have hct:=WJ qE.ct hlt;have hcl:=WI qE.ct xs (i+1);have hrow:=qE.rowsM;rw[lDc hlt,Zt];obtain⟨K,hK⟩:∃K:Int,K=k+((qH qE.ct (xs.take i):Nat):Int):=⟨_,rfl⟩;have hend:k+((qH qE.ct (xs.take (i+1)):Nat):Int)=K+((qE.ct xs[i]:Nat):Int):=by rw[hct,hK];omega
  have hKb:0<=K/\K+((qE.ct xs[i]:Nat):Int)<=4611686018427387904:=by rw[<-hend];omega
  have hmk:(mkL qE.mrk qE.ct (xs.take (i+1)) k++xs.drop (i+1))=mkL qE.mrk qE.ct (xs.take i) k++qE.mrk xs[i] K::xs.drop (i+1):=by rw[Ys qE.mrk qE.ct hlt,<-hK,lAa];rfl
  have hrx:=hrow xs[i] K;rw[<-hK];obtain⟨y,hy⟩:∃y,y=xs[i]:=⟨_,rfl⟩;rw[<-hy]at hmk hend hKb hrx|-;have hcy:qE.ct y=1+1:=rfl;rw[hcy]at hend hKb;have hA:(qK ((mkL qE.mrk qE.ct (xs.take i) k).map qE.enc) 1).1.length=i:=by rw[jJ,lMp,w6];simp;omega
  have hoA:=jB ((mkL qE.mrk qE.ct (xs.take i) k).map qE.enc) 1;have e2:=Zt (enc:=qE.enc) (w:=2) (c:=false) (A:=mkL qE.mrk qE.ct (xs.take i) k) (B:=xs.drop (i+1)) (z:=qE.mrk y K);rw[hrx]at e2;rw[qE.layE]at e2|-;obtain⟨p,hp⟩:∃p,p=1+AV.rowss ((mkL qE.mrk qE.ct (xs.take i) k).map qE.enc):=⟨_,rfl⟩;rw[<-hp]at e2|-;generalize (qK ((xs.drop (i+1)).map qE.enc) (p+y.enc.rows)).1=vB at e2|-;generalize (qK ((xs.drop (i+1)).map qE.enc) (p+y.enc.rows)).2=oB at e2|-;generalize (qK ((mkL qE.mrk qE.ct (xs.take i) k).map qE.enc) 1).1=vA at e2 hA|-;generalize (qK ((mkL qE.mrk qE.ct (xs.take i) k).map qE.enc) 1).2=oA at e2 hoA|-;simp only[zO hlt,go_sem,nZa];refine ql (e':=.agg [iI (K),iI y.Slot]) (by rfl) (by rfl) (zV hA) (by rfl) ?_;simp only[jL hA,zO hlt,lSz,go_sem,nZa];rw[wsA (n:=K+1)]
  try simp only[zV hA,jL hA,zO hlt,lSz,go_sem,nZa]
  refine ql (e':=.agg [iI (K),iI (K+1)]) (by rfl) (by rfl) (zV hA) (by rfl) ?_;simp only[jL hA,lSz,go_sem];rw[wsA (n:=K+1+1)];simp only[wuA (n:=i)];refine qb (i+1) (by omega) (by omega) ?_;have e3:K+1+1=k+((qH qE.ct (xs.take (i+1)):Nat):Int):=by first | (rw[hend];done) | (rw[hend];omega)
  rw[e3];rw[hmk,e2];simp only[qE.mrk,AV.rows,lNa];exact csA
 ·have hge:i=xs.length:=by have:=odF hc;omega
  subst hge;refine XU (by rw[lTl]) ?_;rw[lTl,List.drop_length,lAn]
theorem k524(xs:List qB)(k:Int)(h0:0<=k)(hk:k+(qH qB.ct xs:Nat)<=4611686018427387904)(hz:xs.length+qH qB.sz xs<=1073741824):Mark Gm 524 (.lst 5 (xs.map qB.enc) false) (.lst 5 ((mkL qB.mrk qB.ct xs k).map qB.enc) false) k (k+(qH qB.ct xs:Nat)):=by
 refine Mark.intro (gk _ F524) (by kernel_rfl) rfl (zj qB.plx xs) (zj qB.plx _) (by simp only[AV.rows,ZY]) ?_;simp only[F524,qM,zn,go_sem,nZa];refine Sem.loop (λi:Nat=>i<=xs.length) (λi=>(⟨[(0,sQ 5 0 xs.length),(1,iI (k+((qH qB.ct (xs.take i):Nat):Int))),(5,iI (i:Nat))],[],(lay (.lst 5 ((mkL qB.mrk qB.ct (xs.take i) k++xs.drop i).map qB.enc) false) 0).2⟩:VSt)) (λi=>xs.length-i) 0 (by kernel_rfl) (nZl _) (by simp only[List.take_zero,mkL,lNa,List.drop_zero,qH,Int.ofNat_zero,Int.add_zero];exact csA) ?_;intro i hi;simp only[go_sem];apply qI<;>intro hc<;>simp only[hc,go_sem]
 ·have hlt:i<xs.length:=by have:=odT hc;omega
  have hct:=WJ qB.ct hlt;have hcl:=WI qB.ct xs (i+1);have hrow:=qB.rowsM;rw[lDc hlt,Zt];have hsz:qB.sz xs[i]<=qH qB.sz xs:=zw (f:=qB.sz) (gMm hlt);obtain⟨K,hK⟩:∃K:Int,K=k+((qH qB.ct (xs.take i):Nat):Int):=⟨_,rfl⟩;have hend:k+((qH qB.ct (xs.take (i+1)):Nat):Int)=K+((qB.ct xs[i]:Nat):Int):=by rw[hct,hK];omega
  have hKb:0<=K/\K+((qB.ct xs[i]:Nat):Int)<=4611686018427387904:=by rw[<-hend];omega
  have hmk:(mkL qB.mrk qB.ct (xs.take (i+1)) k++xs.drop (i+1))=mkL qB.mrk qB.ct (xs.take i) k++qB.mrk xs[i] K::xs.drop (i+1):=by rw[Ys qB.mrk qB.ct hlt,<-hK,lAa];rfl
  have hrx:=hrow xs[i] K;rw[<-hK];obtain⟨y,hy⟩:∃y,y=xs[i]:=⟨_,rfl⟩;rw[<-hy]at hmk hend hKb hrx hsz|-;have hcy:qB.ct y=1+1+1+qH ctI y.Data+qH qE.ct y.Ports:=rfl;rw[hcy]at hend hKb;simp only[qB.sz]at hsz;have hA:(qK ((mkL qB.mrk qB.ct (xs.take i) k).map qB.enc) 1).1.length=i:=by rw[jJ,lMp,w6];simp;omega
  have hoA:=jB ((mkL qB.mrk qB.ct (xs.take i) k).map qB.enc) 1;have e2:=Zt (enc:=qB.enc) (w:=5) (c:=false) (A:=mkL qB.mrk qB.ct (xs.take i) k) (B:=xs.drop (i+1)) (z:=qB.mrk y K);rw[hrx]at e2;rw[qB.layE]at e2|-;obtain⟨p,hp⟩:∃p,p=1+AV.rowss ((mkL qB.mrk qB.ct (xs.take i) k).map qB.enc):=⟨_,rfl⟩;rw[<-hp]at e2|-;generalize (qK ((xs.drop (i+1)).map qB.enc) (p+y.enc.rows)).1=vB at e2|-;generalize (qK ((xs.drop (i+1)).map qB.enc) (p+y.enc.rows)).2=oB at e2|-;generalize (qK ((mkL qB.mrk qB.ct (xs.take i) k).map qB.enc) 1).1=vA at e2 hA|-;generalize (qK ((mkL qB.mrk qB.ct (xs.take i) k).map qB.enc) 1).2=oA at e2 hoA|-;simp only[zO hlt,go_sem,nZa];refine ql (e':=.agg [iI (K),iI y.Level,iI y.Value,sQ 1 (p) y.Data.length,.slice 2 (p+AV.rows (lQ y.Data)) 0 y.Ports.length false]) (by rfl) (by rfl) (zV hA) (by rfl) ?_;simp only[jL hA,zO hlt,lSz,go_sem,nZa];rw[wsA (n:=K+1)]
  try simp only[zV hA,jL hA,zO hlt,lSz,go_sem,nZa]
  refine ql (e':=.agg [iI (K),iI (K+1),iI y.Value,sQ 1 (p) y.Data.length,.slice 2 (p+AV.rows (lQ y.Data)) 0 y.Ports.length false]) (by rfl) (by rfl) (zV hA) (by rfl) ?_;simp only[jL hA,zO hlt,lSz,go_sem,nZa];rw[wsA (n:=K+1+1)]
  try simp only[zV hA,jL hA,zO hlt,lSz,go_sem,nZa]
  refine ql (e':=.agg [iI (K),iI (K+1),iI (K+1+1),sQ 1 (p) y.Data.length,.slice 2 (p+AV.rows (lQ y.Data)) 0 y.Ports.length false]) (by rfl) (by rfl) (zV hA) (by rfl) ?_;simp only[zV hA,jL hA,zO hlt,lSz,go_sem,nZa];rw[wsA (n:=K+1+1+1)]
  try simp only[zV hA,jL hA,zO hlt,lSz,go_sem,nZa]
  refine Qj (n:=p) (pre:=.row 5 (vA++.agg [iI (K),iI (K+1),iI (K+1+1),sQ 1 (p) y.Data.length,.slice 2 (p+AV.rows (lQ y.Data)) 0 y.Ports.length false]::vB) true::(oA++[])) (post:=((lay (.lst 2 (y.Ports.map qE.enc) false) (p+AV.rows (lQ y.Data))).2++[])++oB) (t:=(lQ y.Data)) (t':=(lQ (mkL mkI ctI y.Data (K+1+1+1)))) (k90 y.Data (K+1+1+1) (by omega) (by omega) (by omega)) ?_ ?_ (by rw[zn,lMp]) ?_
  ·first | rfl | (simp only[lCo,lAp,lNi,hoA,AV.rows]<;>omega)
  ·first | rfl | (simp only[lAa,lAn,lCa];done)
  simp only[zV hA,zO hlt,lCa,go_sem,nZa];refine Qj (n:=p+AV.rows (lQ y.Data)) (pre:=.row 5 (vA++.agg [iI (K),iI (K+1),iI (K+1+1),sQ 1 (p) y.Data.length,.slice 2 (p+AV.rows (lQ y.Data)) 0 y.Ports.length false]::vB) true::(oA++((lay (lQ (mkL mkI ctI y.Data (K+1+1+1))) (p)).2))) (post:=([])++oB) (t:=(.lst 2 (y.Ports.map qE.enc) false)) (t':=(.lst 2 ((mkL qE.mrk qE.ct y.Ports (K+1+1+1+((qH ctI y.Data:Nat):Int))).map qE.enc) false)) (k885 y.Ports (K+1+1+1+((qH ctI y.Data:Nat):Int)) (by omega) (by omega) (by omega)) ?_ ?_ (by rw[zn,lMp]) ?_
  ·first | rfl | (simp only[lCo,lAp,hoA,qf,AV.rows,rwI]<;>omega)
  ·first | rfl | (simp only[lAa,lNa,lAn,lCa];done)
  simp only[lCa,go_sem];simp only[wuA (n:=i)];refine qb (i+1) (by omega) (by omega) ?_;have e3:K+1+1+1+((qH ctI y.Data:Nat):Int)+((qH qE.ct y.Ports:Nat):Int)=k+((qH qB.ct (xs.take (i+1)):Nat):Int):=by first | (rw[hend];done) | (rw[hend];omega)
  rw[e3];rw[hmk,e2];simp only[qB.mrk,w6,AV.rows,lAa,lNa,lAn,rwI];exact csA
 ·have hge:i=xs.length:=by have:=odF hc;omega
  subst hge;refine XU (by rw[lTl]) ?_;rw[lTl,List.drop_length,lAn]
theorem k225(xs:List qD)(k:Int)(h0:0<=k)(hk:k+(qH qD.ct xs:Nat)<=4611686018427387904)(hz:xs.length+qH qD.sz xs<=1073741824):Mark Gm 225 (.lst 1 (xs.map qD.enc) false) (.lst 1 ((mkL qD.mrk qD.ct xs k).map qD.enc) false) k (k+(qH qD.ct xs:Nat)):=by
 refine Mark.intro (gk _ F225) (by kernel_rfl) rfl (zj qD.plx xs) (zj qD.plx _) (by simp only[AV.rows,Ww]) ?_;simp only[F225,qM,zn,go_sem,nZa];refine Sem.loop (λi:Nat=>i<=xs.length) (λi=>(⟨[(0,sQ 1 0 xs.length),(1,iI (k+((qH qD.ct (xs.take i):Nat):Int))),(5,iI (i:Nat))],[],(lay (.lst 1 ((mkL qD.mrk qD.ct (xs.take i) k++xs.drop i).map qD.enc) false) 0).2⟩:VSt)) (λi=>xs.length-i) 0 (by kernel_rfl) (nZl _) (by simp only[List.take_zero,mkL,lNa,List.drop_zero,qH,Int.ofNat_zero,Int.add_zero];exact csA) ?_;intro i hi;simp only[go_sem];apply qI<;>intro hc<;>simp only[hc,go_sem]
 ·have hlt:i<xs.length:=by have:=odT hc;omega
  have hct:=WJ qD.ct hlt;have hcl:=WI qD.ct xs (i+1);have hrow:=qD.rowsM;rw[lDc hlt,Zt];have hsz:qD.sz xs[i]<=qH qD.sz xs:=zw (f:=qD.sz) (gMm hlt);obtain⟨K,hK⟩:∃K:Int,K=k+((qH qD.ct (xs.take i):Nat):Int):=⟨_,rfl⟩;have hend:k+((qH qD.ct (xs.take (i+1)):Nat):Int)=K+((qD.ct xs[i]:Nat):Int):=by rw[hct,hK];omega
  have hKb:0<=K/\K+((qD.ct xs[i]:Nat):Int)<=4611686018427387904:=by rw[<-hend];omega
  have hmk:(mkL qD.mrk qD.ct (xs.take (i+1)) k++xs.drop (i+1))=mkL qD.mrk qD.ct (xs.take i) k++qD.mrk xs[i] K::xs.drop (i+1):=by rw[Ys qD.mrk qD.ct hlt,<-hK,lAa];rfl
  have hrx:=hrow xs[i] K;rw[<-hK];obtain⟨y,hy⟩:∃y,y=xs[i]:=⟨_,rfl⟩;rw[<-hy]at hmk hend hKb hrx hsz|-;have hcy:qD.ct y=qH qB.ct y.Agents:=rfl;rw[hcy]at hend hKb;simp only[qD.sz]at hsz;have hA:(qK ((mkL qD.mrk qD.ct (xs.take i) k).map qD.enc) 1).1.length=i:=by rw[jJ,lMp,w6];simp;omega
  have hoA:=jB ((mkL qD.mrk qD.ct (xs.take i) k).map qD.enc) 1;have e2:=Zt (enc:=qD.enc) (w:=1) (c:=false) (A:=mkL qD.mrk qD.ct (xs.take i) k) (B:=xs.drop (i+1)) (z:=qD.mrk y K);rw[hrx]at e2;rw[qD.layE]at e2|-;obtain⟨p,hp⟩:∃p,p=1+AV.rowss ((mkL qD.mrk qD.ct (xs.take i) k).map qD.enc):=⟨_,rfl⟩;rw[<-hp]at e2|-;generalize (qK ((xs.drop (i+1)).map qD.enc) (p+y.enc.rows)).1=vB at e2|-;generalize (qK ((xs.drop (i+1)).map qD.enc) (p+y.enc.rows)).2=oB at e2|-;generalize (qK ((mkL qD.mrk qD.ct (xs.take i) k).map qD.enc) 1).1=vA at e2 hA|-;generalize (qK ((mkL qD.mrk qD.ct (xs.take i) k).map qD.enc) 1).2=oA at e2 hoA|-;simp only[zV hA,zO hlt,go_sem,nZa];refine Qj (n:=p) (pre:=.row 1 (vA++.agg [sQ 5 (p) y.Agents.length]::vB) true::(oA++[])) (post:=([])++oB) (t:=(.lst 5 (y.Agents.map qB.enc) false)) (t':=(.lst 5 ((mkL qB.mrk qB.ct y.Agents (K)).map qB.enc) false)) (k524 y.Agents (K) (by omega) (by omega) (by omega)) ?_ ?_ (by rw[zn,lMp]) ?_
  ·first | rfl | (simp only[lCo,lAp,lNi,hoA]<;>omega)
  ·first | rfl | (simp only[lNa,lAn,lCa];done)
  simp only[lCa,go_sem];simp only[wuA (n:=i)];refine qb (i+1) (by omega) (by omega) ?_;have e3:K+((qH qB.ct y.Agents:Nat):Int)=k+((qH qD.ct (xs.take (i+1)):Nat):Int):=by first | (rw[hend];done) | (rw[hend];omega)
  rw[e3];rw[hmk,e2];simp only[qD.mrk,w6,AV.rows,lNa,lAn];exact csA
 ·have hge:i=xs.length:=by have:=odF hc;omega
  subst hge;refine XU (by rw[lTl]) ?_;rw[lTl,List.drop_length,lAn]
theorem q92(xs:List Int)(k:Int)(h0:0<=k)(hk:k+(qH ctI xs:Nat)<=4611686018427387904)(hz:xs.length<=1073741824):Pure Gm 92 [lQ (mkL mkI ctI xs k),iI k] (iI (k+(qH ctI xs:Nat))):=qkP (gk _ F92) rfl xs k h0 hk hz
theorem q886(xs:List qE)(k:Int)(h0:0<=k)(hk:k+(qH qE.ct xs:Nat)<=4611686018427387904)(hz:xs.length<=1073741824):Pure Gm 886 [(.lst 2 ((mkL qE.mrk qE.ct xs k).map qE.enc) false),iI k] (iI (k+(qH qE.ct xs:Nat))):=by
 refine pI F886 (by simp[AV.trees,AV.tree,qa qE.isSh.tree]) rfl ?_;simp only[F886,qM,go_sem,nZa];refine Sem.loop (λi:Nat=>i<=xs.length) (λi=>(⟨[(0,(.lst 2 ((mkL qE.mrk qE.ct xs k).map qE.enc) false)),(1,iI (k+((qH qE.ct (xs.take i):Nat):Int))),(5,iI (i:Nat))],[],[]⟩:VSt)) (λi=>xs.length-i) 0 (by kernel_rfl) (nZl _) (by simp only[List.take_zero,qH,Int.ofNat_zero,Int.add_zero];exact csA) ?_;intro i hi;simp only[w6,go_sem];apply qI<;>intro hc<;>simp only[hc,go_sem]
 ·have hlt:i<xs.length:=by have:=odT hc;omega
  have hct:=WJ qE.ct hlt;have hcl:=WI qE.ct xs (i+1);have hget:=Yr qE.mrk qE.ct hlt k;obtain⟨K,hK⟩:∃K:Int,K=k+((qH qE.ct (xs.take i):Nat):Int):=⟨_,rfl⟩;have hend:k+((qH qE.ct (xs.take (i+1)):Nat):Int)=K+((qE.ct xs[i]:Nat):Int):=by rw[hct,hK];omega
  have hKb:0<=K/\K+((qE.ct xs[i]:Nat):Int)<=4611686018427387904:=by rw[<-hend];omega
  rw[<-hK]at hget|-;obtain⟨y,hy⟩:∃y,y=xs[i]:=⟨_,rfl⟩;rw[<-hy]at hget hend hKb;have hcy:qE.ct y=1+1:=rfl;rw[hcy]at hend hKb;simp only[gMp,hget,oMs,go_sem,nZa]
  try simp only[gMp,hget,oMs,qE.mrk,go_sem,nZa]
  rw[wsA (n:=K+1)]
  try simp only[go_sem]
  try simp only[gMp,hget,oMs,qE.mrk,go_sem,nZa]
  rw[wsA (n:=K+1+1)]
  try simp only[gMp,hget,oMs,qE.mrk,go_sem,nZa]
  simp only[wuA (n:=i)];refine qb (i+1) (by omega) (by omega) ?_;have e3:K+1+1=k+((qH qE.ct (xs.take (i+1)):Nat):Int):=by first | (rw[hend];done) | (rw[hend];omega)
  rw[e3];exact csA
 ·have hge:i=xs.length:=by have:=odF hc;omega
  subst hge;refine qO rfl ?_;rw[lTl]
theorem q525(xs:List qB)(k:Int)(h0:0<=k)(hk:k+(qH qB.ct xs:Nat)<=4611686018427387904)(hz:xs.length+qH qB.sz xs<=1073741824):Pure Gm 525 [(.lst 5 ((mkL qB.mrk qB.ct xs k).map qB.enc) false),iI k] (iI (k+(qH qB.ct xs:Nat))):=by
 refine pI F525 (by simp[AV.trees,AV.tree,qa qB.isSh.tree]) rfl ?_;simp only[F525,qM,go_sem,nZa];refine Sem.loop (λi:Nat=>i<=xs.length) (λi=>(⟨[(0,(.lst 5 ((mkL qB.mrk qB.ct xs k).map qB.enc) false)),(1,iI (k+((qH qB.ct (xs.take i):Nat):Int))),(5,iI (i:Nat))],[],[]⟩:VSt)) (λi=>xs.length-i) 0 (by kernel_rfl) (nZl _) (by simp only[List.take_zero,qH,Int.ofNat_zero,Int.add_zero];exact csA) ?_;intro i hi;simp only[w6,go_sem];apply qI<;>intro hc<;>simp only[hc,go_sem]
 ·have hlt:i<xs.length:=by have:=odT hc;omega
  have hct:=WJ qB.ct hlt;have hcl:=WI qB.ct xs (i+1);have hget:=Yr qB.mrk qB.ct hlt k;have hsz:qB.sz xs[i]<=qH qB.sz xs:=zw (f:=qB.sz) (gMm hlt);obtain⟨K,hK⟩:∃K:Int,K=k+((qH qB.ct (xs.take i):Nat):Int):=⟨_,rfl⟩;have hend:k+((qH qB.ct (xs.take (i+1)):Nat):Int)=K+((qB.ct xs[i]:Nat):Int):=by rw[hct,hK];omega
  have hKb:0<=K/\K+((qB.ct xs[i]:Nat):Int)<=4611686018427387904:=by rw[<-hend];omega
  rw[<-hK]at hget|-;obtain⟨y,hy⟩:∃y,y=xs[i]:=⟨_,rfl⟩;rw[<-hy]at hget hend hKb hsz;have hcy:qB.ct y=1+1+1+qH ctI y.Data+qH qE.ct y.Ports:=rfl;rw[hcy]at hend hKb;simp only[qB.sz]at hsz;simp only[gMp,hget,oMs,go_sem,nZa]
  try simp only[gMp,hget,oMs,qB.mrk,go_sem,nZa]
  rw[wsA (n:=K+1)]
  try simp only[gMp,hget,oMs,qB.mrk,go_sem,nZa]
  try simp only[gMp,hget,oMs,qB.mrk,go_sem,nZa]
  rw[wsA (n:=K+1+1)]
  try simp only[gMp,hget,oMs,qB.mrk,go_sem,nZa]
  try simp only[gMp,hget,oMs,qB.mrk,go_sem,nZa]
  rw[wsA (n:=K+1+1+1)]
  try simp only[gMp,hget,oMs,qB.mrk,go_sem,nZa]
  try simp only[gMp,hget,oMs,qB.mrk,go_sem,nZa]
  refine qL (q92 y.Data (K+1+1+1) (by omega) (by omega) (by omega)) ?_;simp only[go_sem];rw[show decide (K+1+1+1+((qH ctI y.Data:Nat):Int)<0)=false from decide_eq_false (by omega)];simp only[gMp,hget,oMs,qB.mrk,go_sem,nZa]
  try simp only[gMp,hget,oMs,qB.mrk,go_sem,nZa]
  refine qL (q886 y.Ports (K+1+1+1+((qH ctI y.Data:Nat):Int)) (by omega) (by omega) (by omega)) ?_;simp only[go_sem];rw[show decide (K+1+1+1+((qH ctI y.Data:Nat):Int)+((qH qE.ct y.Ports:Nat):Int)<0)=false from decide_eq_false (by omega)];simp only[go_sem];simp only[wuA (n:=i)];refine qb (i+1) (by omega) (by omega) ?_;have e3:K+1+1+1+((qH ctI y.Data:Nat):Int)+((qH qE.ct y.Ports:Nat):Int)=k+((qH qB.ct (xs.take (i+1)):Nat):Int):=by first | (rw[hend];done) | (rw[hend];omega)
  rw[e3];exact csA
 ·have hge:i=xs.length:=by have:=odF hc;omega
  subst hge;refine qO rfl ?_;rw[lTl]
theorem q230(xs:List qD)(k:Int)(h0:0<=k)(hk:k+(qH qD.ct xs:Nat)<=4611686018427387904)(hz:xs.length+qH qD.sz xs<=1073741824):Pure Gm 230 [(.lst 1 ((mkL qD.mrk qD.ct xs k).map qD.enc) false),iI k] (iI (k+(qH qD.ct xs:Nat))):=by
 refine pI F230 (by simp[AV.trees,AV.tree,qa qD.isSh.tree]) rfl ?_;simp only[F230,qM,go_sem,nZa];refine Sem.loop (λi:Nat=>i<=xs.length) (λi=>(⟨[(0,(.lst 1 ((mkL qD.mrk qD.ct xs k).map qD.enc) false)),(1,iI (k+((qH qD.ct (xs.take i):Nat):Int))),(5,iI (i:Nat))],[],[]⟩:VSt)) (λi=>xs.length-i) 0 (by kernel_rfl) (nZl _) (by simp only[List.take_zero,qH,Int.ofNat_zero,Int.add_zero];exact csA) ?_;intro i hi;simp only[w6,go_sem];apply qI<;>intro hc<;>simp only[hc,go_sem]
 ·have hlt:i<xs.length:=by have:=odT hc;omega
  have hct:=WJ qD.ct hlt;have hcl:=WI qD.ct xs (i+1);have hget:=Yr qD.mrk qD.ct hlt k;have hsz:qD.sz xs[i]<=qH qD.sz xs:=zw (f:=qD.sz) (gMm hlt);obtain⟨K,hK⟩:∃K:Int,K=k+((qH qD.ct (xs.take i):Nat):Int):=⟨_,rfl⟩;have hend:k+((qH qD.ct (xs.take (i+1)):Nat):Int)=K+((qD.ct xs[i]:Nat):Int):=by rw[hct,hK];omega
  have hKb:0<=K/\K+((qD.ct xs[i]:Nat):Int)<=4611686018427387904:=by rw[<-hend];omega
  rw[<-hK]at hget|-;obtain⟨y,hy⟩:∃y,y=xs[i]:=⟨_,rfl⟩;rw[<-hy]at hget hend hKb hsz;have hcy:qD.ct y=qH qB.ct y.Agents:=rfl;rw[hcy]at hend hKb;simp only[qD.sz]at hsz;simp only[gMp,hget,oMs,go_sem,nZa]
  try simp only[qD.mrk,go_sem]
  refine qL (q525 y.Agents (K) (by omega) (by omega) (by omega)) ?_;simp only[go_sem];rw[show decide (K+((qH qB.ct y.Agents:Nat):Int)<0)=false from decide_eq_false (by omega)];simp only[go_sem];simp only[wuA (n:=i)];refine qb (i+1) (by omega) (by omega) ?_;have e3:K+((qH qB.ct y.Agents:Nat):Int)=k+((qH qD.ct (xs.take (i+1)):Nat):Int):=by first | (rw[hend];done) | (rw[hend];omega)
  rw[e3];exact csA
 ·have hge:i=xs.length:=by have:=odF hc;omega
  subst hge;refine qO rfl ?_;rw[lTl]
theorem qlW{E:Ev}{d w:Nat}{z:AV}{k k':IntKind}{n m:Nat}{l:List qA}{ks:List Fr1}{s lo:qu}{h:List qC}{Q:qh->VSt->Prop}(hnm:n<=m)(hm:m<=4294967296)
  (hr:JE E (some d) (.row w (List.replicate n z) true) (sQ w h.length n) l ks ⟨s,lo,h⟩ Q):Mks E (some d) w z (some (.int k (n:Nat))) (some (.int k' (m:Nat))) l ks ⟨s,lo,h⟩ Q:=by
 unfold Mks;refine⟨by omega,by omega,by simp only[LIM];omega, ?_⟩;simpa only [iTn]using hr
theorem flat{α:Type}{enc:α->AV}(h:∀x n,lay (enc x) n=(enc x,[])):∀(xs:List α)(n:Nat),qK (xs.map enc) n=(xs.map enc,[])
 |[],_=>rfl
 | x::xs,n=>by simp only[lMc,qK,h,lNi,nAz,flat h xs,lNa]
theorem qE.flat(xs:List qE)(n:Nat):qK (xs.map qE.enc) n=(xs.map qE.enc,[]):=Go.Ab.flat (λx n=>qE.layE x n) xs n
theorem Ul(xs:List Int)(hz:xs.length<=4194304):Fresh Gm 401 [lQ xs] (lQ xs):=
 qbR (w:=1) (gk _ F401) (lI xs) (zj (λ_=>rfl) xs) (qa shI.tree xs) (by simpa using hz)
theorem qlZ(xs:List qE)(hz:xs.length<=4194304):Fresh Gm 1373 [.lst 2 (xs.map qE.enc) false] (.lst 2 (xs.map qE.enc) false):=
 qbR (w:=2) (gk _ qLS) (qE.flat xs) (zj qE.plx xs) (qa qE.isSh.tree xs) (by simpa using hz)
theorem qd0(x:qB)(hz:x.sz<=1048576):Fresh Gm 1085 [x.enc] x.enc:=by
 unfold qB.sz at hz;refine fI Kc (by simp[AV.trees,go_sem]) (qB.plx x) ?_;simp only[Kc,qM,go_sem];refine qZ rfl ?_;simp only[qB.enc];simp only[go_sem];refine zk (Ul x.Data (by omega)) ?_;simp only[go_sem,zn];refine zk (qlZ x.Ports (by omega)) ?_;simp only[go_sem,zn];refine qi rfl rfl ⟨_,rfl⟩ (by decide) ?_;simp only[go_sem];exact wy (pre:=[]) (post:=[]) (t:=x.enc) (qB.plx x) (by simp[zT,qB.layE,qf]) (by simp[qB.layE,qf])
theorem Um(n:qD)(hz:n.sz<=1048576):Fresh Gm 798 [n.enc] n.enc:=by
 unfold qD.sz at hz;refine fI F798 (by simp[AV.trees,go_sem]) (qD.plx n) ?_;simp only[F798,qM,go_sem];refine qZ rfl ?_;simp only[go_sem];refine qlW (n:=0) (by omega) (by omega) ?_;simp only[go_sem];refine Sem.loop (λi:Nat=>i<=n.Agents.length) (λi=>(⟨[(14,iI (i:Nat)),(13,iI (n.Agents.length:Nat)),(12,.lst 5 (n.Agents.map qB.enc) false)],[(3,.agg [sQ 5 0 i]),(2,.agg [.nils])],.row 5 (qK ((n.Agents.take i).map qB.enc) 1).1 true::(qK ((n.Agents.take i).map qB.enc) 1).2⟩:VSt)) (λi=>n.Agents.length-i) 0 (by kernel_rfl) (nZl _) csA ?_;rintro i hi;simp only[go_sem];apply qI<;>intro hc<;>simp only[hc,go_sem]
 ·have hlt:i<n.Agents.length:=by have:=odT hc;omega
  have hsz:qB.sz n.Agents[i]<=qH qB.sz n.Agents:=zw (f:=qB.sz) (gMm hlt);simp only[gMp,gEg hlt,oMs,go_sem];refine qi (k:=5) (by rfl) (by rfl) (by exact⟨_,rfl⟩) (by decide) ?_;simp only[go_sem];refine zk (qd0 n.Agents[i] (by omega)) ?_;simp only[go_sem];refine Vk (by rw[ZP (qB.plx _)];rfl) ?_;simp only[go_sem];have hA:(qK ((n.Agents.take i).map qB.enc) 1).1.length=i:=by rw[jJ];simp;omega
  refine jN (len:=i) (el:=(qK ((n.Agents.take i).map qB.enc) 1).1) Zs rfl hA (by omega) ?_;simp only[go_sem];simp only[wuA (n:=i)];refine qb (i+1) (by omega) (by omega) ?_;have e:(n.Agents.take (i+1)).map qB.enc=(n.Agents.take i).map qB.enc++[qB.enc n.Agents[i]]:=by
   rw[lTs hlt,lMa];rfl
  refine Can.push (w:=5) (ps:=[]) (A:=(n.Agents.take i).map qB.enc) (t:=n.Agents[i].enc) (b:=0) rfl (zj qB.plx _) (qB.plx _) rfl rfl ?_ ?_
   ⟨⟨_,rfl,.tree rfl⟩,⟨_,rfl,.tree rfl⟩,⟨_,rfl,.tree (by simp[AV.tree,qa qB.isSh.tree])⟩,trivial⟩ ⟨⟨_,rfl,.agg rfl (VR2s.cons (.slice (KA.trans ?_)) VR2s.nil).2⟩,⟨_,rfl,.tree rfl⟩,trivial⟩
  ·simp only[qK,jB,lCa,lNa,lSz,lAa,nZa,Nat.add_comm 1]
  ·rw[e];simp only[qK,lNa,nZa]
  ·simp only[lAp,lCo,lNi,jB,qf];congr 2;omega
 ·obtain rfl:i=n.Agents.length:=by have:=odF hc;omega
  simp only[lTl];exact wy (t:=n.enc) (pre:=[]) (post:=[]) (qD.plx n) (by simp[zT,qD.layE]) (by simp[qD.layE,lay])
theorem n797(xs:List qD)(hz:xs.length<=1048576/\∀x∈xs,x.sz<=1048576):Fresh Gm 797 [.lst 1 (xs.map qD.enc) false] (.lst 1 (xs.map qD.enc) false):=by
 refine fI F797 (by simp[AV.trees,AV.tree,qa qD.isSh.tree]) (zj qD.plx xs) ?_;simp only[F797,qM,go_sem];refine Sem.loop (λi:Nat=>i<=xs.length) (λi=>(⟨[(8,iI (i:Nat)),(7,iI (xs.length:Nat)),(6,.lst 1 (xs.map qD.enc) false),(3,sQ 1 0 i)],[],.row 1 (qK ((xs.take i).map qD.enc) 1).1 true::(qK ((xs.take i).map qD.enc) 1).2⟩:VSt)) (λi=>xs.length-i) 0 (by kernel_rfl) (nZl _) (Can.renum [none] rfl ⟨.ph,trivial⟩ ⟨⟨_,rfl,.tree rfl⟩,⟨_,rfl,.tree rfl⟩,⟨_,rfl,.tree (by simp[AV.tree,qa qD.isSh.tree])⟩,⟨_,rfl,.ph rfl⟩,trivial⟩ trivial) ?_;rintro i hi;simp only[go_sem];apply qI<;>intro hc<;>simp only[hc,go_sem]
 ·have hlt:i<xs.length:=by have:=odT hc;omega
  have hsz:=hz.2 _ (gMm hlt);simp only[gMp,gEg hlt,oMs,go_sem];refine zk (Um xs[i] (by omega)) ?_;simp only[go_sem];refine Vk (by rw[ZP (qD.plx _)];rfl) ?_;simp only[go_sem];have hA:(qK ((xs.take i).map qD.enc) 1).1.length=i:=by rw[jJ];simp;omega
  refine jN (len:=i) (el:=(qK ((xs.take i).map qD.enc) 1).1) Zs rfl hA (by omega) ?_;simp only[go_sem];simp only[wuA (n:=i)];refine qb (i+1) (by omega) (by omega) ?_;have e:(xs.take (i+1)).map qD.enc=(xs.take i).map qD.enc++[qD.enc xs[i]]:=by
   rw[lTs hlt,lMa];rfl
  refine Can.push (w:=1) (ps:=[]) (A:=(xs.take i).map qD.enc) (t:=xs[i].enc) (b:=0) rfl (zj qD.plx _) (qD.plx _) rfl rfl ?_ ?_
   ⟨⟨_,rfl,.tree rfl⟩,⟨_,rfl,.tree rfl⟩,⟨_,rfl,.tree (by simp[AV.tree,qa qD.isSh.tree])⟩,⟨_,rfl,.slice (KA.trans ?_)⟩,trivial⟩ trivial
  ·simp only[qK,jB,lCa,lNa,lSz,lAa,nZa,Nat.add_comm 1]
  ·rw[e];simp only[qK,lNa,nZa]
  ·simp only[lAp,lCo,lNi,jB,qf];congr 2;omega
 ·obtain rfl:i=xs.length:=by have:=odF hc;omega
  simp only[lTl];exact wy (t:=.lst 1 (xs.map qD.enc) false) (pre:=[]) (post:=[]) (zj qD.plx xs) (by simp[zT,lay]) (by simp[lay])
theorem n402(xs:List Int)(hz:xs.length<=4194304):Fresh Gm 402 [lQ xs] (lQ xs):=by
 refine fI YE (by simp[AV.trees,AV.tree,qa shI.tree]) (zj (λ_=>rfl) xs) ?_;simp only[YE,qM,go_sem];refine Vh Els.lst (by simp;omega) ?_;simp only[go_sem];exact wy (t:=lQ xs) (pre:=[]) (post:=[]) (zj (λ_=>rfl) xs) (by simp[zT,lay]) (by simp[lay,lI])
theorem n837(x:qB)(hz:x.sz<=1048576):Fresh Gm 837 [.ept x.enc 0] x.enc:=by
 unfold qB.sz at hz;refine fI YF (by simp[AV.trees,AV.tree,go_sem]) (qB.plx x) ?_;simp only[YF,qM,go_sem];refine zk (n402 x.Data (by omega)) ?_;simp only[go_sem,zn,lNa];refine qaR Els.lst (by simp;omega) ?_;simp only[go_sem,qf];refine qi (k:=5) (by rfl) (by rfl) (by exact⟨_,rfl⟩) (by decide) ?_;simp only[go_sem];exact wy (t:=x.enc) (pre:=[]) (post:=[]) (qB.plx x) (by simp[zT,qB.layE]) (by simp[qB.layE,lay,qE.flat])
theorem n489(n:qD)(hz:n.sz<=1048576):Fresh Gm 489 [.ept n.enc 0] n.enc:=by
 unfold qD.sz at hz;refine fI F489 (by simp[AV.trees,AV.tree,go_sem]) (qD.plx n) ?_;simp only[F489,qM,go_sem];refine Sem.loop (λi:Nat=>i<=n.Agents.length) (λi=>(⟨[(0,.ept n.enc 0),(4,iI (i:Nat))],[(2,.agg [.nils]),(3,.agg [sQ 5 0 i])],.row 5 (qK ((n.Agents.take i).map qB.enc) 1).1 true::(qK ((n.Agents.take i).map qB.enc) 1).2⟩:VSt)) (λi=>n.Agents.length-i) 0 (by kernel_rfl) (nZl _) (Can.renum [none] rfl ⟨.ph,trivial⟩ ⟨⟨_,rfl,.tree (by simp only[AV.tree,qD.tr])⟩,⟨_,rfl,.tree rfl⟩,trivial⟩ ⟨⟨_,rfl,.tree rfl⟩,⟨_,rfl,.agg rfl (VR2s.cons (.ph rfl) VR2s.nil).2⟩,trivial⟩) ?_;rintro i hi;simp only[go_sem];apply qI<;>intro hc<;>simp only[hc,go_sem]
 ·have hlt:i<n.Agents.length:=by have:=odT hc;omega
  have hsz:qB.sz n.Agents[i]<=qH qB.sz n.Agents:=zw (f:=qB.sz) (gMm hlt);simp only[gMp,gEg hlt,oMs,go_sem];refine zk (n837 n.Agents[i] (by omega)) ?_;simp only[go_sem];refine Vk (by rw[ZP (qB.plx _)];rfl) ?_;simp only[go_sem];have hA:(qK ((n.Agents.take i).map qB.enc) 1).1.length=i:=by rw[jJ];simp;omega
  refine jN (len:=i) (el:=(qK ((n.Agents.take i).map qB.enc) 1).1) Zs rfl hA (by omega) ?_;simp only[go_sem];simp only[wuA (n:=i)];refine qb (i+1) (by omega) (by omega) ?_;have e:(n.Agents.take (i+1)).map qB.enc=(n.Agents.take i).map qB.enc++[qB.enc n.Agents[i]]:=by
   rw[lTs hlt,lMa];rfl
  refine Can.push (w:=5) (ps:=[]) (A:=(n.Agents.take i).map qB.enc) (t:=n.Agents[i].enc) (b:=0) rfl (zj qB.plx _) (qB.plx _) rfl rfl ?_ ?_
   ⟨⟨_,rfl,.tree (by simp only[AV.tree,qD.tr])⟩,⟨_,rfl,.tree rfl⟩,trivial⟩ ⟨⟨_,rfl,.tree rfl⟩,⟨_,rfl,.agg rfl (VR2s.cons (.slice (KA.trans ?_)) VR2s.nil).2⟩,trivial⟩
  ·simp only[qK,jB,lCa,lNa,lSz,lAa,nZa,Nat.add_comm 1]
  ·rw[e];simp only[qK,lNa,nZa]
  ·simp only[lAp,lCo,lNi,jB,qf];congr 2;omega
 ·obtain rfl:i=n.Agents.length:=by have:=odF hc;omega
  simp only[lTl];exact wy (t:=n.enc) (pre:=[]) (post:=[]) (qD.plx n) (by simp[zT,qD.layE]) (by simp[qD.layE,lay])
theorem qR{α:Type}{xs:List α}{i:Nat}{x:α}(h:xs[i]?=some x):i<xs.length:=(gSi.1 h).1
def pv(x:qB)(p:Nat):AV:=if x.Ports.length=0 then .lst 2 [] false else sQ 2 p x.Ports.length
theorem Qe{x:qB}{p:Nat}(h:0<x.Ports.length):pv x p=sQ 2 p x.Ports.length:=if_neg (by omega)
def encR(x:qB)(p:Nat):AV:=.agg [iI x.Kind,iI x.Level,iI x.Value,lQ x.Data,pv x p]
section
variable {x:qB} {p:Nat}
@[go_sem] theorem encR.all:(encR x p).part 0 (some 5)=some (encR x p):=nr rfl
@[go_sem] theorem encR.cs:(encR x p).cells=[iI x.Kind,iI x.Level,iI x.Value,lQ x.Data,pv x p]:=nr rfl
@[go_sem] theorem encR.p0:(encR x p).part 0 none=some (iI x.Kind):=nr rfl
@[go_sem] theorem encR.p1:(encR x p).part 1 none=some (iI x.Level):=nr rfl
@[go_sem] theorem encR.p2:(encR x p).part 2 none=some (iI x.Value):=nr rfl
@[go_sem] theorem encR.p3:(encR x p).part 3 none=some (lQ x.Data):=nr rfl
@[go_sem] theorem encR.p4:(encR x p).part 4 none=some (pv x p):=nr rfl
end
def zB:Ags->List Nat->List AV
 | x::N,p::ps=>encR x p::zB N ps
 | _,_=>[]
theorem Qm:∀{N:Ags}{ps:List Nat}{k:Nat}{x:qB}{p:Nat},N[k]?=some x->ps[k]?=some p->(zB N ps)[k]?=some (encR x p)
 | x::N,p::ps,0,_,_,h1,h2=>by cases h1;cases h2;rfl
 | x::N,p::ps,k+1,_,_,h1,h2=>Qm (N:=N) (ps:=ps) (k:=k) h1 h2
 |[],_,_,_,_,h1,_=>by simp at h1
 | _::_,[],_,_,_,_,h2=>by simp at h2
theorem Qn:∀{N:Ags}{ps:List Nat},ps.length=N.length->(zB N ps).length=N.length
 | x::N,p::ps,h=>by simp[zB,Qn (N:=N) (ps:=ps) (by simpa using h)]
 |[],[],_=>rfl
 |[],_::_,h=>by simp at h
 | _::_,[],h=>by simp at h
theorem qB7:∀{N M:Ags}{ps qs:List Nat},ps.length=N.length->zB (N++M) (ps++qs)=zB N ps++zB M qs
 | x::N,M,p::ps,qs,h=>by simp[zB,qB7 (N:=N) (ps:=ps) (by simpa using h)]
 |[],_,[],_,_=>rfl
 |[],_,_::_,_,h=>by simp at h
 | _::_,_,[],_,h=>by simp at h
theorem UE{x y:qB}{p:Nat}(h:jP y=jP x):encR y p=encR x p:=by
 simp only[jP,Prod.mk.injEq]at h;obtain⟨h1,h2,h3,h4,h5⟩:=h;unfold encR pv;rw[h1,h2,h3,h4,h5]
theorem qb6:∀{N M:Ags}{ps:List Nat},SameA N M->zB M ps=zB N ps
 |[],[],_,_=>rfl
 |[],_::_,_,h=>by simp[SameA]at h
 | _::_,[],_,h=>by simp[SameA]at h
 | x::N,y::M,[],h=>rfl
 | x::N,y::M,p::ps,h=>by
  unfold SameA at h;simp only[lMc,List.cons.injEq]at h;simp only[zB,UE h.1,qb6 (N:=N) (M:=M) (ps:=ps) h.2]
structure NA(w:Nat)(post:List AV)(base:Nat->Prop)(nid aid:Nat)(ps:List Nat)(h:List qC)(N:Ags):Prop where
 o:h[nid]?=some (.row w [.agg (sQ 5 aid N.length::post)] true)
 a:h[aid]?=some (.row 5 (zB N ps) true)
 l:ps.length=N.length
 p:∀(k:Nat)(x:qB)(q:Nat),N[k]?=some x->ps[k]?=some q->0<x.Ports.length->h[q]?=some (.row 2 (x.Ports.map qE.enc) true)
 nd:ps.Nodup
 n1:nid≠aid
 n2:nid∉ps
 n3:aid∉ps
 b1:¬base nid
 b2:¬base aid
 b3:∀q∈ps,¬base q
 b4:∀q∈ps,∃el,h[q]?=some (.row 2 el true)
 bl:∀j,base j->j<h.length
def NE(w:Nat)(post:List AV)(base:Nat->Prop)(nid:Nat)(h:List qC)(N:Ags):Prop:=∃aid ps,NA w post base nid aid ps h N
abbrev Lo(n:Nat):Nat->Prop:=λj=>j<n
structure Keep(base:Nat->Prop)(h h':List qC):Prop where
 l:h.length<=h'.length
 k:∀j,base j->h'[j]?=h[j]?
theorem Keep.refl{b:Nat->Prop}{h:List qC}:Keep b h h:=⟨nLr _,λ_ _=>rfl⟩
theorem Keep.trans{b:Nat->Prop}{h h1 h2:List qC}(x:Keep b h h1)(y:Keep b h1 h2):Keep b h h2:=⟨nLt x.l y.l,λj hj=>(y.k j hj).trans (x.k j hj)⟩
theorem nbe{P:Nat->Prop}{i j:Nat}(h:¬P i)(hj:P j):i≠j:=λe=>h (by rw[e];exact hj)
theorem Keep.app{b:Nat->Prop}{h ex:List qC}(hb:∀j,b j->j<h.length):Keep b h (h++ex):=⟨by simp,λj hj=>gAl (hb j hj)⟩
theorem Keep.set{b:Nat->Prop}{i:Nat}{h:List qC}{o:qC}(hb:¬b i):Keep b h (h.set i o):=⟨by simp,λj hj=>gSn λe=>hb (by rw[e];exact hj)⟩
section
variable {w:Nat} {post:List AV} {base:Nat->Prop} {nid aid:Nat} {ps:List Nat} {h h':List qC} {N:Ags}
theorem NA.lt(hN:NA w post base nid aid ps h N):nid<h.length:=qR hN.o
theorem NA.lta(hN:NA w post base nid aid ps h N):aid<h.length:=qR hN.a
theorem NA.ltp(hN:NA w post base nid aid ps h N){q:Nat}(hq:q∈ps):q<h.length:=by obtain⟨el,e⟩:=hN.b4 q hq;exact qR e
theorem NE.bl(hN:NE w post base nid h N):∀j,base j->j<h.length:=by obtain⟨_,_,hN⟩:=hN;exact hN.bl
theorem NA.at(hN:NA w post base nid aid ps h N){k:Nat}{x:qB}(hx:N[k]?=some x)(h0:0<x.Ports.length):∃q,ps[k]?=some q/\(zB N ps)[k]?=some (encR x q)/\h[q]?=some (.row 2 (x.Ports.map qE.enc) true)/\pv x q=sQ 2 q x.Ports.length:=by
 have hk:=qR hx;rw[<-hN.l]at hk;exact⟨ps[k],gEg hk,Qm hx (gEg hk),hN.p k x _ hx (gEg hk) h0,Qe h0⟩
theorem NA.heap(hN:NA w post base nid aid ps h N)(e1:h'[nid]?=h[nid]?)(e2:h'[aid]?=h[aid]?)(e3:∀q∈ps,h'[q]?=h[q]?)(hl:h.length<=h'.length:=by first | omega | (simp;done) | (simp;omega)):NA w post base nid aid ps h' N:=
 {hN with o:=e1.trans hN.o,a:=e2.trans hN.a,p:=λk x q hx hq h0=>(e3 q (lMo hq)).trans (hN.p k x q hx hq h0),b4:=λq hq=>by obtain⟨el,e⟩:=hN.b4 q hq;exact⟨el,(e3 q hq).trans e⟩,bl:=λj hj=>Nat.lt_of_lt_of_le (hN.bl j hj) hl}
theorem NA.app(hN:NA w post base nid aid ps h N)(ex:List qC):NA w post base nid aid ps (h++ex) N:=
 hN.heap (gAl hN.lt) (gAl hN.lta) λq hq=>gAl (hN.ltp hq)
theorem NE.app(hN:NE w post base nid h N)(ex:List qC):NE w post base nid (h++ex) N:=by
 obtain⟨aid,ps,hN⟩:=hN;exact⟨aid,ps,hN.app ex⟩
theorem NE.keep(hN:NE w post base nid h N)(hk:Keep (Lo h.length) h h'):NE w post base nid h' N:=by
 obtain⟨aid,ps,hN⟩:=hN;exact⟨aid,ps,hN.heap (hk.k _ hN.lt) (hk.k _ hN.lta) (λq hq=>hk.k _ (hN.ltp hq)) hk.l⟩
theorem Keep.up{b c:Nat->Prop}{h h':List qC}(hb:∀j,b j->c j)(hk:Keep c h h'):Keep b h h':=⟨hk.l,λj hj=>hk.k j (hb j hj)⟩
theorem NA.write(hN:NA w post base nid aid ps h N){a s q0:Nat}{x:qB}{r:qE}(hx:N[a]?=some x)(hq:ps[a]?=some q0):
  NA w post base nid aid ps (h.set q0 (.row 2 ((x.Ports.set s r).map qE.enc) true)) (w8 N (pt a s) r):=by
 have hm:=lMo hq;have h0:=hN.ltp hm;have e1:nid≠q0:=λe=>hN.n2 (e▸hm);have e2:aid≠q0:=λe=>hN.n3 (e▸hm);refine⟨?_, ?_,by rw[W3];exact hN.l,λk y q hy hq' h00=>?_,hN.nd,hN.n1,hN.n2,hN.n3,hN.b1,hN.b2,hN.b3,λq hq'=>by
  by_cases e:q=q0
  ·subst e;exact⟨_,gSs h0⟩
  ·rw[gSn (Ne.symm e)];exact hN.b4 q hq',λj hj=>by rw[lLs];exact hN.bl j hj⟩
 ·rw[gSn (Ne.symm e1),W3];exact hN.o
 ·rw[gSn (Ne.symm e2),qb6 (X5 N (pt a s) r)];exact hN.a
 ·rw[W2 hx]at hy;by_cases hk:k=a
  ·subst hk;rw[hq]at hq';cases hq';rw[gSs (qR hx)]at hy;cases hy;rw[gSs h0]
  ·rw[gSn (λe=>hk e.symm)]at hy;have:q0≠q:=by
    intro e;subst e;have k1:=qR hq;have k2:=qR hq';have f1:=(gSi.1 hq).2;have f2:=(gSi.1 hq').2;exact hk (((List.getElem_inj hN.nd).1 (f1.trans f2.symm)).symm)
   rw[gSn this];exact hN.p k y q hy hq' h00
theorem NA.push(hN:NA w post base nid aid ps h N){x:qB}{q:Nat}(hq:h[q]?=some (.row 2 (x.Ports.map qE.enc) true))(b:¬base q)(q1:q≠nid)(q2:q≠aid)(q3:q∉ps){h2:List qC}
  (e1:h2[nid]?=some (.row w [.agg (sQ 5 h.length (N.length+1)::post)] true)) (e2:h2[h.length]?=some (.row 5 (zB N ps++[encR x q]) true)) (e3:∀j,j<h.length->j≠nid->j≠aid->h2[j]?=h[j]?):
  NA w post base nid h.length (ps++[q]) h2 (N++[x]):=by
 have k0:=hN.lt;have k1:=hN.lta;have k2:=qR hq;refine⟨by simpa using e1,by rw[qB7 hN.l];exact e2,by simp[hN.l],λk y r hy hr h00=>?_, ?_,by omega, ?_, ?_,hN.b1,λq=>Nat.lt_irrefl _ (hN.bl _ q), ?_, ?_,λj hj=>Nat.lt_trans (hN.bl j hj) (qR e2)⟩
 ·rcases Nat.lt_or_ge k N.length with hk | hk
  ·rw[gAl hk]at hy;rw[gAl (by rw[hN.l];exact hk)]at hr;have hm:=lMo hr;rw[e3 r (hN.ltp hm) (λe=>hN.n2 (e▸hm)) (λe=>hN.n3 (e▸hm))];exact hN.p k y r hy hr h00
  ·rw[gAr hk]at hy;rw[gAr (by rw[hN.l];exact hk),hN.l]at hr;have:k-N.length=0:=by have:=qR hy;simp at this;omega
   rw[this]at hy hr;cases hy;cases hr;rw[e3 q k2 q1 q2];exact hq
 ·rw[List.nodup_append];exact⟨hN.nd,by simp,λa ha b hb=>by simp at hb;subst hb;intro e;exact q3 (e▸ha)⟩
 ·simp only[zu,lMg,not_or];exact⟨hN.n2,Ne.symm q1⟩
 ·simp only[zu,lMg,not_or];exact⟨λe=>by have:=hN.ltp e;omega,by omega⟩
 ·intro r hr;rcases zu.1 hr with hr | hr
  ·exact hN.b3 r hr
  ·simp at hr;subst hr;exact b
 ·have k3:=qR e2;intro r hr;rcases zu.1 hr with hr | hr
  ·obtain⟨el,e⟩:=hN.b4 r hr;have hl:=qR e;exact⟨el,by rw[e3 r hl (λe=>hN.n2 (e▸hr)) (λe=>hN.n3 (e▸hr))];exact e⟩
  ·simp at hr;subst hr;exact⟨_,by rw[e3 _ k2 q1 q2];exact hq⟩
end
theorem zS{a s:Int}:Pure Gm 952 [iI a,iI s] ((⟨a,s⟩:qE).enc):=by
 refine pJ F952 ?_;simp only[F952,qM,go_sem];refine qi rfl rfl ⟨_,rfl⟩ (by decide) ?_;simp only[go_sem];exact qO qE.tr rfl
section
variable {w:Nat} {post:List AV} {base:Nat->Prop} {nid:Nat} {h:List qC} {N:Ags} {K:AV->List qC->Prop} {a s c k:Nat}
theorem zH{len id a:Nat}(h:a<len):idx 5 (some (sQ 5 id len)) (some (iI (a:Int)))=some (.ptr id a 0):=by rw[zO h,nZa]
theorem JZ{len id a:Nat}(h:a<len):idx 2 (some (sQ 2 id len)) (some (iI (a:Int)))=some (.ptr id a 0):=by rw[zO h,nZa]
theorem Xu{x:qB}{s:Nat}(h:s<x.Ports.length):(x.Ports.map qE.enc)[s]?=some (x.Ports[s].enc):=by rw[gMp,gEg h];rfl
theorem U7{p q:qE}:p.enc.put 0 q.enc=some q.enc:=by cases p;cases q;rfl
theorem KN{x:qB}{s:Nat}{q:qE}:(x.Ports.map qE.enc).set s q.enc=(x.Ports.set s q).map qE.enc:=by rw[List.map_set]
theorem s490(hN:NE w post base nid h N)(hp:Has N a s)(hK:K (zy N (pt a s)).enc h):SCall Gm 490 [.ptr nid 0 0,(pt a s).enc] h K:=by
 obtain⟨aid,ps,hN⟩:=hN;obtain⟨x,hx,hs⟩:=jX.1 hp;obtain⟨q,hq,ha,hr,hv⟩:=hN.at hx (Nat.zero_lt_of_lt hs);have e:zy N (pt a s)=x.Ports[s]:=Wr (je.2 ⟨x,hx,gEg hs⟩);rw[e]at hK;refine sI F490 ?_;simp only[F490,qM,go_sem];refine qZ rfl ?_;simp only[go_sem,hN.o,pt,zH (qR hx),hN.a,ha,hv,JZ hs,hr,Xu hs];refine qi rfl rfl ⟨_,rfl⟩ (by decide) ?_;simp only[go_sem];exact hK
theorem X3(hN:NE w post base nid h N)(h1:Has N a s)(h2:Has N c k)(hK:∀h',NE w post base nid h' (ze N (pt a s) (pt c k))->Keep base h h'->K (.tup []) h'):SCall Gm 491 [.ptr nid 0 0,(pt a s).enc,(pt c k).enc] h K:=by
 obtain⟨aid,ps,hN⟩:=hN;obtain⟨x,hx,hs⟩:=jX.1 h1;obtain⟨q,hq,ha,hr,hv⟩:=hN.at hx (Nat.zero_lt_of_lt hs);have b1:=hN.b3 _ (lMo hq);have hN1:=hN.write (s:=s) (r:=pt c k) hx hq;obtain⟨y,hy,hk⟩:=jX.1 ((X5 N (pt a s) (pt c k)).has.1 h2);obtain⟨q',hq',ha',hr',hv'⟩:=hN1.at hy (Nat.zero_lt_of_lt hk);have b2:=hN1.b3 _ (lMo hq');have hN2:=hN1.write (s:=k) (r:=pt a s) hy hq';refine sI F491 ?_;simp only[F491,qM,go_sem];refine qZ rfl ?_;simp only[go_sem];refine qZ rfl ?_;simp only[go_sem,hN.o,pt,zH (qR hx),hN.a,ha,hv,JZ hs];refine ql rfl hr (Xu hs) U7 ?_;rw[KN];simp only[go_sem,hN1.o,zH (qR hy),hN1.a,ha',hv',JZ hk];refine ql rfl hr' (Xu hk) U7 ?_;rw[KN];simp only[go_sem];exact hK _ ⟨aid,ps,hN2⟩ ((Keep.set b1).trans (Keep.set b2))
theorem Qf(hN:NE w post base nid h N)(h1:Has N a s)(h2:Has N c k)(h3:∃b t,zy N (pt a s)=pt b t/\Has N b t)(hK:∀h',NE w post base nid h' (zq N (pt a s) (pt c k))->Keep base h h'->K (.tup []) h'):SCall Gm 1300 [.ptr nid 0 0,(pt a s).enc,(pt c k).enc] h K:=by
 obtain⟨b,t,e,h3⟩:=h3;refine sI kE ?_;simp only[kE,qM,go_sem];refine qZ rfl ?_;simp only[go_sem];refine qZ rfl ?_;simp only[go_sem];refine qU (s490 hN h1 ?_);simp only[go_sem,e];refine qU (X3 hN h2 h3 λh' hN' hk=>?_);simp only[go_sem];exact hK _ (by unfold zq;rw[e];exact hN') hk
theorem KF(hN:NE w post base nid h N)(h1:Has N a s)(h2:Has N c k)(h3:∃b t,zy N (pt a s)=pt b t/\Has N b t)(h4:∃b t,zy N (pt c k)=pt b t/\Has N b t)
  (hK:∀h',NE w post base nid h' (jg N (pt a s) (pt c k))->Keep base h h'->K (.tup []) h'):SCall Gm 1298 [.ptr nid 0 0,(pt a s).enc,(pt c k).enc] h K:=by
 obtain⟨b,t,e,h3⟩:=h3;obtain⟨b',t',e',h4⟩:=h4;refine sI K9 ?_;simp only[K9,qM,go_sem];refine qZ rfl ?_;simp only[go_sem];refine qZ rfl ?_;simp only[go_sem];refine qU (s490 hN h1 ?_);simp only[go_sem,e];refine qi rfl rfl ⟨_,rfl⟩ (by decide) ?_;simp only[go_sem];refine qU (s490 hN h2 ?_);simp only[go_sem,e'];refine qi rfl rfl ⟨_,rfl⟩ (by decide) ?_;simp only[go_sem];apply qI<;>intro hc<;>simp only[hc,go_sem]
 ·refine qU (X3 hN h3 h4 λh' hN' hk=>?_);simp only[go_sem];refine hK _ ?_ hk;unfold jg;rw[e,e',if_neg (λq=>by rw[q]at hc;simp at hc)];exact hN'
 ·refine hK _ ?_ Keep.refl;unfold jg;rw[e,if_pos (by simpa using hc)];exact hN
end
theorem Ux{b:Nat->Prop}{pid w:Nat}{h g:List qC}{el:List AV}{x:AV}{tmp:qC}(hk:Keep b h g)(hh:∀j,b j->j<h.length)(hb:¬b pid)(h1:g[pid]?=some (.row w el true)):
  Keep b h (((g++[tmp]).set pid .dead)++[.row w (el++[x]) true])/\(((g++[tmp]).set pid .dead)++[.row w (el++[x]) true])[g.length+1]?=some (.row w (el++[x]) true):=by
 have hl:=hk.l;refine⟨⟨by simp;omega,λj hj=>?_⟩, ?_⟩
 ·have:=hh j hj;rw[gAl (by simp;omega),gSn (nbe hb hj),gAl (by omega)];exact hk.k j hj
 ·rw[gAr (by simp)];simp
theorem Qd{pid w:Nat}{g:List qC}{el:List AV}{tmp:qC}(h1:g[pid]?=some (.row w el true)):(g++[tmp])[pid]?=some (.row w el true)/\(g++[tmp])[g.length]?=some tmp:=by
 exact⟨by rw[gAl (qR h1)];exact h1,by simp⟩
theorem Xv{a b c d:Nat}{e:Bool}{v:AV}{post:List AV}:(AV.agg (v::post)).put 0 (.slice a b c d e)=some (.agg (.slice a b c d e::post)):=by simp[AV.put,AV.cells]
theorem NA.pushed{base:Nat->Prop}{w nid aid b:Nat}{post:List AV}{ps:List Nat}{g:List qC}{N:Ags}{x:qB}{q:Nat}{tmp:qC}(hN:NA w post base nid aid ps g N)(hq:g[q]?=some (.row 2 (x.Ports.map qE.enc) true))(hb:¬base q)(b1:b<=q)
  (b2:∀{r},r∈ps->r<b) (b3:nid<b) (b4:aid<b):
  (((g++[tmp]).set aid .dead)++[qC.row 5 (zB N ps++[encR x q]) true])[nid]?=some (.row w [.agg (sQ 5 aid N.length::post)] true)/\
  NA w post base nid (g.length+1) (ps++[q]) ((((g++[tmp]).set aid .dead)++[qC.row 5 (zB N ps++[encR x q]) true]).set nid (.row w [.agg (sQ 5 (g.length+1) (N.length+1)::post)] true)) (N++[x])/\
  Keep base g ((((g++[tmp]).set aid .dead)++[qC.row 5 (zB N ps++[encR x q]) true]).set nid (.row w [.agg (sQ 5 (g.length+1) (N.length+1)::post)] true)):=by
 have k0:=hN.lt;have k1:=hN.lta;have k2:=qR hq;have n1:=hN.n1;have hl:=hN.bl;have c1:=hN.b1;have c2:=hN.b2;refine⟨?_, ?_,⟨by simp;omega,λj hj=>?_⟩⟩
 ·rw[gAl (by simp;omega),gSn (by omega),gAl k0];exact hN.o
 ·have hN':NA w post base nid aid ps (g++[tmp]) N:=hN.app _;have:=hN'.push (x:=x) (q:=q) (h2:=(((g++[tmp]).set aid .dead)++[qC.row 5 (zB N ps++[encR x q]) true]).set nid (.row w [.agg (sQ 5 (g.length+1) (N.length+1)::post)] true))
   (by rw[gAl k2];exact hq) hb (by omega) (by omega) (λhm=>by have:=b2 hm;omega) ?_ ?_ ?_
  ·simpa using this
  ·rw[gSs (by simp;omega)];simp
  ·rw[gSn (by simp;omega),gAr (by simp)];simp
  ·intro j hj j1 j2;rw[gSn (Ne.symm j1),gAl (by simpa using hj),gSn (Ne.symm j2)]
 ·have:=hl j hj;rw[gSn (nbe c1 hj),gAl (by simp;omega),gSn (nbe c2 hj),gAl (by omega)]
abbrev zp:qE:=⟨0,0⟩
theorem qfC{i:Nat}:List.replicate i zp.enc++[zp.enc]=List.replicate (i+1) zp.enc:=by rw[List.replicate_succ']
section
variable {w:Nat} {post:List AV} {base:Nat->Prop} {nid:Nat} {h:List qC} {N:Ags} {K:AV->List qC->Prop} {a s c k:Nat}
theorem KI{kk lv v:Int}{d:List Int}{n:Nat}(hN:NE w post base nid h N)(hd:d.length<=1048576)(hn:n<=1048576)(hl:N.length<=1048576)
  (hK:∀h',NE w post base nid h' (N++[qS kk lv v d n])->Keep base h h'->K (iI (N.length:Nat)) h') (h0:0<n:=by omega):SCall Gm 949 [.ptr nid 0 0,iI kk,iI lv,iI v,lQ d,iI (n:Nat)] h K:=by
 have hbl:=hN.bl;refine sI F949 ?_;simp only[F949,qM,go_sem];refine qL (c402 d (by omega)) ?_;simp only[go_sem];refine qi rfl rfl ⟨_,rfl⟩ (by decide) ?_;simp only[go_sem];refine Sem.loop (α:=Nat×List qC×Nat) (λq=>q.1<=n/\Keep (Lo h.length) h q.2.1/\h.length<=q.2.2/\q.2.1[q.2.2]?=some (.row 2 (List.replicate q.1 zp.enc) true))
  (λq=>(⟨[(0,.ptr nid 0 0),(14,iI ((n-q.1:Nat):Int))],[(13,.agg [iI kk,iI lv,iI v,lQ d,sQ 2 q.2.2 q.1])],q.2.1⟩:VSt)) (λq=>n-q.1) (0,h++[.row 2 [] true],h.length) (by kernel_rfl)
  ⟨nZl _,Keep.app (λ_ q=>q),nLr _,by simp⟩
  (Can.ph (WkN.same rfl (WkN.same rfl WkN.nil)) (WkN.cons rfl (Wk.agg (Wks.same (Wks.same (Wks.same (Wks.same (.cons (Wk.ph (by simp)) .nil)))))) WkN.nil)) ?_
 rintro⟨i,g,pid⟩ ⟨hi,hk,hp,hr⟩;simp only at hi hk hp hr;simp only[go_sem];apply qI<;>intro hc<;>simp only[hc,go_sem]
 ·have hlt:i<n:=by have:=odT hc;omega
  obtain⟨r1,r2⟩:=Qd (tmp:=.row 2 [zp.enc] true) hr;refine jN r2 r1 (by simp) (by omega) ?_;simp only[lAp,nZa,go_sem];have e1:IntKind.i64.wrap (((n-i:Nat):Int)-1)=((n-(i+1):Nat):Int):=by rw[wsA];omega
  simp only[e1];obtain⟨q1,q2⟩:=Ux (x:=zp.enc) (tmp:=.row 2 [zp.enc] true) hk (λ_ q=>q) (Nat.not_lt.2 hp) hr;rw[qfC]at q1 q2;rw[qfC];refine qb (i+1,_,g.length+1) ⟨hlt,q1,by have:=hk.l;simp only;omega,q2⟩ (by simp only;omega) (Can.sub ?_ ?_)<;>simp[go_sem]
 ·have:i=n:=by have:=odF hc;omega
  subst this;obtain⟨aid,ps,hN0⟩:=hN;have k0:=hN0.lt;have k1:=hN0.lta;have hN1:NA w post base nid aid ps g N:=hN0.heap (hk.k _ k0) (hk.k _ k1) (λq hq=>hk.k _ (hN0.ltp hq)) hk.l;have eX:encR (qS kk lv v d i) pid=.agg [iI kk,iI lv,iI v,lQ d,sQ 2 pid i]:=by simp only[encR,qS,pv,lLr];rw[if_neg (by omega)]
  obtain⟨r1,r2⟩:=Qd (tmp:=.row 5 [.agg [iI kk,iI lv,iI v,lQ d,sQ 2 pid i]] true) hN1.a;have hl5:=Qn hN0.l;simp only[hN1.o,go_sem];refine jN r2 r1 hl5 (by omega) ?_;obtain⟨h2,e2,e3⟩:=hN1.pushed (x:=qS kk lv v d i) (q:=pid) (tmp:=.row 5 [.agg [iI kk,iI lv,iI v,lQ d,sQ 2 pid i]] true) (by rw[hr];simp[qS]) (λq=>by have:=hbl _ q;omega) hp (λq=>hN0.ltp q) k0 k1;rw[eX]at h2 e2 e3;simp only[lAp,nZa,go_sem];refine ql rfl h2 rfl Xv ?_;simp only[lSz];generalize hg:List.set _ _ _=h3;rw[hg]at e2 e3;simp only[go_sem,e2.o];have e5:IntKind.i64.wrap (((N.length+1:Nat):Int)-1)=((N.length:Nat):Int):=by rw[wsA];omega
  simp only[lAp,nZa,e5,go_sem];exact hK _ ⟨_,_,e2⟩ ((Keep.up hbl hk).trans e3)
end
theorem qjR{x:qB}{q:Nat}(h:x.Ports.length=0):encR x q=x.enc:=by
 unfold encR pv qB.enc;rw[if_pos h,lEz h];rfl
section
variable {w:Nat} {post:List AV} {base:Nat->Prop} {nid aid:Nat} {ps:List Nat} {h:List qC} {N:Ags} {K:AV->List qC->Prop} {a s c k:Nat}
abbrev hole:qB:=⟨0,0,0,[],[]⟩
theorem qkS:Wk [] (.agg [iI 0,iI 0,iI 0,.nils,.nils]) hole.enc:=.agg (Wks.same (Wks.same (Wks.same (.cons .nilL (.cons .nilL .nil)))))
theorem Wks.setA{xs:List AV}{i:Nat}{a b:AV}(h:Wk [] a b):Wks [] (xs.set i a) (xs.set i b):=by
 induction xs generalizing i with
 | nil=>exact .nil
 | cons x xs ih=>cases i with
  | zero=>exact .cons h (Wks.refl _)
  | succ i=>exact .same ih
theorem qb7:∀{N:Ags}{ps:List Nat}{a:Nat},ps.length=N.length->(zB N ps).set a hole.enc=zB (N.set a hole) ps
 |[],[],_,_=>rfl
 |[],_::_,_,h=>by simp at h
 | _::_,[],_,h=>by simp at h
 | x::N,q::ps,0,_=>rfl
 | x::N,q::ps,a+1,h=>by
  simp only[zB,List.set_cons_succ];rw[qb7 (N:=N) (ps:=ps) (by simpa using h)]
theorem qfS(hN:NE w post base nid h N)(ha:a<N.length)(hK:∀h',NE w post base nid h' (N.set a hole)->Keep base h h'->K (.tup []) h'):SCall Gm 1304 [.ptr nid 0 0,iI (a:Nat)] h K:=by
 obtain⟨aid,ps,hN⟩:=hN;have hl:=hN.l;have e0:(zB N ps)[a]?=some (encR N[a] ps[a]):=Qm (gEg ha) (gEg (by omega));refine SCall.runW [] [] (gk _ kL) (by kernel_rfl) rfl ?_;simp only[kL,qM,go_sem,hN.o,zH ha];refine ql (e:=encR N[a] ps[a]) (e':=.agg [iI 0,iI 0,iI 0,.nils,.nils]) rfl hN.a e0 rfl ?_;simp only[go_sem];refine⟨_,_,Wk.refl _,WkH.set (Wks.setA qkS),hK _ ⟨aid,ps, ?_, ?_,by rw[lLs];exact hl,λk x q hx hq h00=>?_,hN.nd,hN.n1,hN.n2,hN.n3,hN.b1,hN.b2,hN.b3,λq hq=>by rw[gSn (λe=>hN.n3 (by rw[e];exact hq))];exact hN.b4 q hq,λj hj=>by rw[lLs];exact hN.bl j hj⟩ (Keep.set hN.b2)⟩
 ·rw[gSn (Ne.symm hN.n1),lLs];exact hN.o
 ·rw[gSs (qR hN.a),qb7 hl]
 ·have hk:k≠a:=λe=>by
   subst e;rw[gSs ha]at hx;cases hx;simp at h00
  rw[gSn (Ne.symm hk)]at hx;have hm:=lMo hq;rw[gSn (λe=>hN.n3 (by rw[e];exact hm))];exact hN.p k x q hx hq h00
end
def hiI(xs:Ags):Int:=xs.foldl (λm x=>if x.Level<m then m else x.Level) 0
def Jk(xs:Ags):Nat:=(xs.filter λx=>decide (x.Kind≠0)).length
theorem qkR{xs:Ags}{i:Nat}(h:i<xs.length):hiI (xs.take (i+1))=if xs[i].Level<hiI (xs.take i)then hiI (xs.take i)else xs[i].Level:=by
 unfold hiI;rw[lTs h,List.foldl_append];rfl
theorem qdK{xs:Ags}{i:Nat}(h:i<xs.length):Jk (xs.take (i+1))=Jk (xs.take i)+if xs[i].Kind=0 then 0 else 1:=by
 unfold Jk;rw[lTs h,List.filter_append,lAp];by_cases e:xs[i].Kind=0<;>simp[e]
theorem qlL(xs:Ags):Jk xs<=xs.length:=List.length_filter_le _ _
def jA(c p:Int):Int×Int:=
 if c=1\/c=2 then(if inI p 0 0 then(-2,0)else(0,2))else if c=3 then(if inI p 0 3 then(p,0)else(0,2))else if c=4 then(if inI p 0 3 then(p-2,0)else(0,2))
 else if c=5 then(if inI p 0 0 then(-1,0)else(0,2))else if c=6 then(if inI p 0 3 then(p-1,0)else(0,2))else if c=7 then(if inI p 2 600 then(p-2,0)else(0,2))else(0,2)
def zQ(bk:List qD)(v:Int):qD:=(bk[v.toNat]?).getD ⟨[]⟩
def jT(bk:List qD)(x y:qB)(c:Int):Int:=if c=3\/c=4 then(y.Ports.length:Int)-1 else if c=6 then fieldsOf x else if c=7 then((zQ bk x.Value).Agents.length:Int)else 0
def qk(bk:List qD)(x y:qB):Int×Int:=
 if qN x y=8 then(0,11)else if qN x y=7/\(bk.length:Int)<=x.Value then(0,3)else if qN x y=7/\8<IntKind.i64.wrap (hiI (zQ bk x.Value).Agents+x.Level)then(0,9)
 else((jA (qN x y) (jT bk x y (qN x y))).1,0)
theorem c856{a b:Int}:Pure Gm 856 [iI a,iI b] (iI (if b<a then a else b)):=by
 refine pJ F856 ?_;simp only[F856,qM,go_sem]
 repeat' (first | (refine qZ rfl ?_;simp only[go_sem]) | (first | (apply qj<;>intro hc<;>simp only[hc,go_sem]) | (apply qI<;>intro hc<;>simp only[hc,go_sem])) | refine qO rfl ?_ | refine JY (by rfl) ?_)
 all_goals (simp_all<;>omega)
theorem qhK{n:qD}(hz:n.sz<=1048576):Pure Gm 1177 [.ept n.enc 0] (iI (hiI n.Agents)):=by
 refine pJ Kl ?_;simp only[Kl,qM,go_sem];unfold qD.sz at hz;refine Sem.loop (λi:Nat=>i<=n.Agents.length/\True) (λi=>(⟨[(0,.ept n.enc 0),(3,iI (hiI (n.Agents.take i))),(4,iI (i:Nat))],[],[]⟩:VSt)) (λi=>n.Agents.length-i) 0 (by kernel_rfl) ⟨nZl _,by trivial⟩ (Can.sub (by simp[go_sem,hiI]) (by simp[go_sem])) ?_;rintro i ⟨hi,hI⟩;simp only[go_sem];apply qI<;>intro hc<;>simp only[hc,go_sem]
 ·have hlt:i<n.Agents.length:=by have:=odT hc;omega
  simp only[gMp,gEg hlt,oMs,go_sem];refine qL c856 ?_;simp only[go_sem];rw[<-qkR hlt];simp only[wuA (n:=i)];refine qb (i+1) ⟨by omega, ?_⟩ (by omega) csA;trivial
 ·obtain rfl:i=n.Agents.length:=by have:=odF hc;omega
  exact qO rfl (by rw[lTl])
theorem qbC{n:qD}(hz:n.sz<=1048576):Pure Gm 1297 [.ept n.enc 0] (iI (Jk n.Agents:Nat)):=by
 refine pJ K8 ?_;simp only[K8,qM,go_sem];unfold qD.sz at hz;refine Sem.loop (λi:Nat=>i<=n.Agents.length/\True) (λi=>(⟨[(0,.ept n.enc 0),(3,iI (Jk (n.Agents.take i):Nat)),(4,iI (i:Nat))],[],[]⟩:VSt)) (λi=>n.Agents.length-i) 0 (by kernel_rfl) ⟨nZl _,by trivial⟩ (Can.sub (by simp[go_sem,Jk]) (by simp[go_sem])) ?_;rintro i ⟨hi,hI⟩;simp only[go_sem];apply qI<;>intro hc<;>simp only[hc,go_sem]
 ·have hlt:i<n.Agents.length:=by have:=odT hc;omega
  have hv:=qlL (n.Agents.take i);rw[lLt]at hv;have hs:=qdK hlt;clear hc;simp only[gMp,gEg hlt,oMs,go_sem];apply qI<;>intro hc<;>simp only[hc,go_sem]
  ·rw[if_neg (by simpa using hc)]at hs;simp only[QJ (show Jk (n.Agents.take i)<4611686018427387904 by omega),<-hs];simp only[wuA (n:=i)];refine qb (i+1) ⟨by omega, ?_⟩ (by omega) csA;trivial
  ·have hs2:Jk (n.Agents.take i)=Jk (n.Agents.take (i+1)):=by rw[hs,if_pos (by simpa using hc)];rfl
   rw[hs2];simp only[wuA (n:=i)];refine qb (i+1) ⟨by omega, ?_⟩ (by omega) csA;trivial
 ·obtain rfl:i=n.Agents.length:=by have:=odF hc;omega
  exact qO rfl (by rw[lTl])
theorem YQ{c p:Int}(h0: -1000000<=p)(h1:p<=1000000):Pure Gm 1460 [iI c,iI p] (.tup [iI (jA c p).1,iI (jA c p).2]):=by
 refine pJ qAK ?_;simp only[qAK,qM,go_sem];have w2:IntKind.i64.wrap (p-2)=p-2:=wsA;have w1:IntKind.i64.wrap (p-1)=p-1:=wsA;unfold jA
 repeat' (first | (first | (apply qj<;>intro hc<;>simp only[hc,go_sem]) | (apply qI<;>intro hc<;>simp only[hc,go_sem])) | (refine qL JX ?_;simp only[go_sem]) | (refine JY (by rfl) ?_))
 all_goals simp_all
def Qc(x y:qB):qB×qB:=if zI x y then(y,x)else(x,y)
theorem qhQ{bk:List qD}{n:qD}{a b:Nat}(ha:a<n.Agents.length)(hb:b<n.Agents.length)(hs:∀x∈n.Agents,x.sz<=600000)(hbk:∀t∈bk,t.sz<=600000)(hv:qN (Qc n.Agents[a] n.Agents[b]).1 (Qc n.Agents[a] n.Agents[b]).2=7->0<=(Qc n.Agents[a] n.Agents[b]).1.Value):Pure Gm 1296 [.lst 1 (bk.map qD.enc) false,.ept n.enc 0,iI (a:Int),iI (b:Int)] (.tup [iI (qk bk (Qc n.Agents[a] n.Agents[b]).1 (Qc n.Agents[a] n.Agents[b]).2).1,iI (qk bk (Qc n.Agents[a] n.Agents[b]).1 (Qc n.Agents[a] n.Agents[b]).2).2]):=by
 refine pI K7 (by simp[AV.trees,AV.tree,go_sem];exact qa qD.isSh.tree _) rfl ?_;simp only[K7,qM,go_sem];refine qL (c743 ha hb) ?_;obtain⟨a',b',hA,hB,e1,e2⟩:∃(a' b':Nat)(ha':a'<n.Agents.length)(hb':b'<n.Agents.length),(if zI n.Agents[a] n.Agents[b]then AV.tup [iI (b:Int),iI (a:Int)]else .tup [iI (a:Int),iI (b:Int)])=.tup [iI (a':Int),iI (b':Int)]/\
   Qc n.Agents[a] n.Agents[b]=(n.Agents[a'],n.Agents[b']):=by
  unfold Qc;by_cases q:zI n.Agents[a] n.Agents[b]=true
  ·exact⟨b,a,hb,ha,by rw[if_pos q],by rw[if_pos q]⟩
  ·exact⟨a,b,ha,hb,by rw[if_neg q],by rw[if_neg q]⟩
 rw[e1,e2];rw[e2]at hv;simp only[go_sem];simp only[gMp,gEg hA,oMs,go_sem];simp only[gMp,gEg hB,oMs,go_sem];have x1:=hs _ (gMm hA);have y1:=hs _ (gMm hB);generalize n.Agents[a']=x at x1 hv|-;generalize n.Agents[b']=y at y1 hv|-;unfold qB.sz at x1 y1;clear e1 e2;refine qL c744 ?_;simp only[go_sem];apply qI<;>intro hc<;>simp only[hc,go_sem]
 ·have e:qN x y=8:=by simpa using hc
  exact JY rfl (by unfold qk;rw[if_pos e])
 have n8:qN x y≠8:=by simpa using hc
 clear hc;have fin:∀p:Int,jT bk x y (qN x y)=p->-1000000<=p->p<=1000000->¬(qN x y=7/\(bk.length:Int)<=x.Value)->¬(qN x y=7/\8<IntKind.i64.wrap (hiI (zQ bk x.Value).Agents+x.Level))->
   qk bk x y=((jA (qN x y) p).1,0):=λp e _ _ q1 q2=>by
  unfold qk;rw[if_neg n8,if_neg q1,if_neg q2,e]
 apply qI<;>intro hc<;>simp only[hc,go_sem]
 ·have e:qN x y=3:=by simpa using hc
  rw[wsA];refine qL (YQ (by omega) (by omega)) ?_;simp only[go_sem];exact JY rfl (by rw[fin ((y.Ports.length:Int)-1) (by unfold jT;rw[if_pos (.inl e)]) (by omega) (by omega) (by omega) (by omega)])
 have n3:qN x y≠3:=by simpa using hc
 clear hc;apply qI<;>intro hc<;>simp only[hc,go_sem]
 ·have e:qN x y=4:=by simpa using hc
  rw[wsA];refine qL (YQ (by omega) (by omega)) ?_;simp only[go_sem];exact JY rfl (by rw[fin ((y.Ports.length:Int)-1) (by unfold jT;rw[if_pos (.inr e)]) (by omega) (by omega) (by omega) (by omega)])
 have n4:qN x y≠4:=by simpa using hc
 clear hc;have n34:¬(qN x y=3\/qN x y=4):=by omega
 apply qI<;>intro hc<;>simp only[hc,go_sem]
 ·have e:qN x y=6:=by simpa using hc
  refine qL (qBK (by omega)) ?_;simp only[go_sem];have f: -1000000<=fieldsOf x/\fieldsOf x<=1000000:=by unfold fieldsOf;split<;>omega
  refine qL (YQ f.1 f.2) ?_;simp only[go_sem];exact JY rfl (by rw[fin (fieldsOf x) (by unfold jT;rw[if_neg n34,if_pos e]) (by omega) (by omega) (by omega) (by omega)])
 have n6:qN x y≠6:=by simpa using hc
 clear hc;apply qI<;>intro hc<;>simp only[hc,go_sem]
 ·have e:qN x y=7:=by simpa using hc
  have v0:=hv e;simp only at v0;apply qI<;>intro hc<;>simp only[hc,go_sem]
  ·exact JY rfl (by unfold qk;rw[if_neg n8,if_pos ⟨e,by simpa using hc⟩])
  have hlt:x.Value.toNat<bk.length:=by have:=odF hc;omega
  have et:zQ bk x.Value=bk[x.Value.toNat]:=by unfold zQ;rw[gEg hlt];rfl
  have hz:=hbk _ (gMm hlt);have q1:¬(qN x y=7/\(bk.length:Int)<=x.Value):=by have:=odF hc;omega
  clear hc;simp only[Qp v0,gMp,gEg hlt,oMs,go_sem];refine qL (qhK (by omega)) ?_;simp only[go_sem];rw[<-et];apply qI<;>intro hc<;>simp only[hc,go_sem]
  ·exact JY rfl (by unfold qk;rw[if_neg n8,if_neg q1,if_pos ⟨e,by simpa using hc⟩])
  have hz2:(zQ bk x.Value).Agents.length<=600000:=by rw[et];unfold qD.sz at hz;omega
  refine qL (YQ (by omega) (by omega)) ?_;simp only[go_sem];exact JY rfl (by rw[fin ((zQ bk x.Value).Agents.length:Int) (by unfold jT;rw[if_neg n34,if_neg n6,if_pos e]) (by omega) (by omega) q1 (by have:=odF hc;omega)])
 ·have n7:qN x y≠7:=by simpa using hc
  refine qL (YQ (by omega) (by omega)) ?_;simp only[go_sem];exact JY rfl (by rw[fin 0 (by unfold jT;rw[if_neg n34,if_neg n6,if_neg n7]) (by omega) (by omega) (by omega) (by omega)])
def J8(lab:Int)(c d:Nat):Nat->Ags->Ags
 | 0,N=>N
 | i+1,N=>ze (ze (J8 lab c d i N++[qS 4 lab 0 [] 3]) (pt (J8 lab c d i N).length 1) (pt c (i+1))) (pt (J8 lab c d i N).length 2) (pt d (i+1))
def jy(b f s:Nat):Nat->Ags->Ags
 | 0,N=>N
 | i+1,N=>zq (jy b f s i N) (pt b (i+1)) (pt (f+(i+1)) s)
def wK(N:Ags)(y:qB):Ags:=(N++[qS y.Kind y.Level y.Value y.Data y.Ports.length])++[qS y.Kind y.Level y.Value y.Data y.Ports.length]
def zG(N:Ags)(x y:qB)(i:Nat):Ags:=J8 x.Level N.length (N.length+1) i (wK N y)
def Zk(N:Ags)(a:Nat)(x y:qB):Ags:=zq (zG N x y (y.Ports.length-1)) (pt a 1) (pt N.length 0)
def YX(N:Ags)(a:Nat)(x y:qB):Ags:=zq (Zk N a x y) (pt a 2) (pt (N.length+1) 0)
def QP(N:Ags)(a b:Nat)(x y:qB)(i:Nat):Ags:=jy b (N.length+1) 0 i (YX N a x y)
def Ql(N:Ags)(a b:Nat)(x y:qB):Ags:=QP N a b x y (y.Ports.length-1)
def jp(b:Nat):Nat->Ags->Ags
 | 0,N=>N
 | i+1,N=>zq (jp b i N++[qS 5 0 0 [] 1]) (pt b (i+1)) (pt (jp b i N).length 0)
def Xr(v:Int)(N:Ags)(b:Nat):Ags:=zq (N++[qS 6 0 v [] 1]) (pt b 1) (pt N.length 0)
def Wl(N:Ags)(b:Nat)(x y:qB):Ags:=zq (N++[qS 8 y.Level y.Value [x.Value] 2]) (pt b 1) (pt N.length 0)
def WA(N:Ags)(b:Nat)(x y:qB):Ags:=zq (Wl N b x y) (pt b 2) (pt N.length 1)
def Xw(lev v:Int)(N:Ags)(b:Nat):Ags:=zq (N++[qS 12 lev v [] 1]) (pt b 1) (pt N.length 0)
def zU(i:Nat):Nat:=if i=0 then 0 else 2
abbrev J7(c i:Nat):qE:=pt (c+i) (zU i)
def XI(lev:Int)(a c:Nat):Nat->Ags->Ags
 | 0,N=>N
 | i+1,N=>zq (ze (XI lev a c i N++[qS 3 lev 0 [] 3]) (J7 c i) (pt (XI lev a c i N).length 0)) (pt a (i+1)) (pt (XI lev a c i N).length 1)
def zR(lev:Int)(c:Nat):Nat->Ags->Ags
 | 0,N=>N
 | i+1,N=>ze (zR lev c i N++[qS 3 lev 0 [] 3]) (pt (zR lev c i N).length 0) (J7 c i)
def zE(lev base:Int)(x:qB):qB:={x with Level:=if wz x.Kind then x.Level+lev else x.Level,Ports:=x.Ports.map λp=>⟨p.Agent+base,p.Slot⟩}
def jI(N:Ags)(t:qD)(lev:Int):Ags:=N++(t.Agents.drop 1).map (zE lev ((N.length:Int)-1))
section
variable {N:Ags} {a b c d:Nat} {x y:qB} {lab lev:Int} {X:Nat->Nat->Prop}
theorem UM:∀{i:Nat},SameA (N++List.replicate i (qS 4 lab 0 [] 3)) (J8 lab c d i N)
 | 0=>by simp[J8,SameA]
 | i+1=>by
  rw[List.replicate_succ',<-lAa];exact((UM (i:=i)).app (SameA.refl _)).trans ((zo _ _ _).trans (zo _ _ _))
theorem qcG{i:Nat}:(J8 lab c d i N).length=N.length+i:=by rw[(UM (N:=N)).len];simp
theorem Qw{f s:Nat}:∀{i:Nat},SameA N (jy b f s i N)
 | 0=>SameA.refl _
 | i+1=>(Qw (i:=i)).trans (JK _ _ _)
theorem XS:∀{i:Nat},SameA (N++List.replicate i (qS 5 0 0 [] 1)) (jp b i N)
 | 0=>by simp[jp,SameA]
 | i+1=>by
  rw[List.replicate_succ',<-lAa];exact((XS (i:=i)).app (SameA.refl _)).trans (JK _ _ _)
theorem UH{i:Nat}:(jp b i N).length=N.length+i:=by rw[(XS (N:=N)).len];simp
theorem qaP:∀{i:Nat},SameA (N++List.replicate i (qS 3 lev 0 [] 3)) (XI lev a c i N)
 | 0=>by simp[XI,SameA]
 | i+1=>by
  rw[List.replicate_succ',<-lAa];exact((qaP (i:=i)).app (SameA.refl _)).trans ((zo _ _ _).trans (JK _ _ _))
theorem YN:∀{i:Nat},SameA (N++List.replicate i (qS 3 lev 0 [] 3)) (zR lev c i N)
 | 0=>by simp[zR,SameA]
 | i+1=>by
  rw[List.replicate_succ',<-lAa];exact((YN (i:=i)).app (SameA.refl _)).trans (zo _ _ _)
theorem qgZ{i:Nat}:(zR lev c i N).length=N.length+i:=by rw[(YN (N:=N)).len];simp
theorem UR{i j s n:Nat}{k l v:Int}{e:List Int}(h:j<i)(hs:s<n):Has (N++List.replicate i (qS k l v e n)) (N.length+j) s:=
 jX.2 ⟨qS k l v e n,by rw[gAr (by omega)];simp[h],by simpa[qS]using hs⟩
theorem WV:(wK N y).length=N.length+2:=by simp[wK]
theorem qB1{s:Nat}(hs:s<y.Ports.length):Has (wK N y) N.length s/\Has (wK N y) (N.length+1) s:=by
 refine⟨(zd hs).app, ?_⟩;have:=zd (N:=N++[qS y.Kind y.Level y.Value y.Data y.Ports.length]) (k:=y.Kind) (l:=y.Level) (v:=y.Value) (d:=y.Data) hs;simpa[wK]using this
theorem qjH(h:W N X):W (wK N y) λb t=>(X b t/\b<N.length)\/N.length<=b:=by
 refine((h.add _).add _).mono λb t hb=>?_;have:=hb.lt;simp only[lAp,lCo,lNi]at this|-;constructor
 ·rintro(⟨⟨q,q1⟩ | q,q2⟩ | q)
  ·exact .inl ⟨q,q1⟩
  ·exact .inr (by omega)
  ·exact .inr (by omega)
 ·rintro(⟨q,q1⟩ | q)
  ·exact .inl ⟨.inl ⟨q,q1⟩,by omega⟩
  ·by_cases e:b=N.length
   ·exact .inl ⟨.inr e,by omega⟩
   ·exact .inr (by omega)
theorem Has.same{A B:Ags}(hs:SameA A B)(h:Has A a c):Has B a c:=hs.has.1 h
theorem qb5(h:W N X):∀{i:Nat},i+1<=y.Ports.length->W (zG N x y i) λb t=>(X b t/\b<N.length)\/(N.length<=b/\b<=N.length+1/\(t=0\/i<t))\/(N.length+2<=b/\t=0)
 | 0,_=>(qjH h).mono λb t hb=>by
   have:=hb.lt;rw[WV]at this;constructor
   ·rintro(q | q)
    ·exact .inl q
    ·exact .inr (.inl ⟨q,by omega,by omega⟩)
   ·rintro(q | q | q)
    ·exact .inl q
    ·exact .inr q.1
    ·exact .inr (by omega)
 | i+1,hi=>by
  have ih:=qb5 h (i:=i) (by omega);have hl:(zG N x y i).length=N.length+2+i:=by unfold zG;rw[qcG,WV]
  have s1:SameA (wK N y++List.replicate i (qS 4 x.Level 0 [] 3)) (zG N x y i):=UM;have h1:=(qB1 (N:=N) (y:=y) (s:=i+1) (by omega));have hc1:Has (zG N x y i++[qS 4 x.Level 0 [] 3]) N.length (i+1):=(h1.1.app.same s1).app;have hd1:Has (zG N x y i++[qS 4 x.Level 0 [] 3]) (N.length+1) (i+1):=(h1.2.app.same s1).app;have hf1:Has (zG N x y i++[qS 4 x.Level 0 [] 3]) (zG N x y i).length 1:=zd (by omega);have hf2:Has (zG N x y i++[qS 4 x.Level 0 [] 3]) (zG N x y i).length 2:=zd (by omega);have w1:=(ih.add (qS 4 x.Level 0 [] 3)).link hf1 hc1 (.inr rfl) (.inl ⟨.inr (.inl ⟨by omega,by omega,by omega⟩),by omega⟩) (by omega);have w2:=w1.link (hf2.same (zo _ _ _)) (hd1.same (zo _ _ _)) ⟨.inr rfl,by omega,by omega⟩ ⟨.inl ⟨.inr (.inl ⟨by omega,by omega,by omega⟩),by omega⟩,by omega,by omega⟩ (by omega);refine w2.mono λb t hb=>?_;have ht:b=(zG N x y i).length->t<3:=by
   intro e;have hb':=((zo _ _ _).trans (zo _ _ _)).has.2 hb;rw[e]at hb';obtain⟨z,hz,hz2⟩:=jX.1 hb';rw[gAr (by omega),nSs]at hz;cases hz;simpa[qS]using hz2
  have hlt:=hb.lt;simp only[Xe,lAp,lCo,lNi]at hlt;rw[hl]at ht hlt|-;constructor
  ·rintro⟨⟨(⟨(q | q | q),q0⟩ | q),q1,q2⟩,q3,q4⟩
   ·exact .inl q
   ·exact .inr (.inl ⟨q.1,q.2.1,by omega⟩)
   ·exact .inr (.inr q)
   ·exact .inr (.inr ⟨by omega,by omega⟩)
  ·rintro(q | q | q)
   ·exact⟨⟨.inl ⟨.inl q,by omega⟩,by omega,by omega⟩,by omega,by omega⟩
   ·exact⟨⟨.inl ⟨.inr (.inl ⟨q.1,q.2.1,by omega⟩),by omega⟩,by omega,by omega⟩,by omega,by omega⟩
   ·by_cases e:b=N.length+2+i
    ·exact⟨⟨.inr e,by omega,by omega⟩,by omega,by omega⟩
    ·exact⟨⟨.inl ⟨.inr (.inr q),by omega⟩,by omega,by omega⟩,by omega,by omega⟩
end
section
variable {N:Ags} {a b c d f s n:Nat} {x y:qB} {lab lev:Int} {X:Nat->Nat->Prop}
theorem W.peer(h:W N X)(h1:Has N a s)(x1:¬X a s):∃b t,zy N (pt a s)=pt b t/\Has N b t:=by
 obtain⟨c,k,e,_,h2,_⟩:=h.live h1 x1;exact⟨c,k,e,h2⟩
theorem Uk(h:W N X)(hb:b<=f)(ho:∀k,1<=k->k<=n->Has N b k/\¬X b k)(hf:∀k,1<=k->k<=n->Has N (f+k) s/\X (f+k) s):∀{i:Nat},i<=n->
  W (jy b f s i N) λp q=>(X p q/\¬(f+1<=p/\p<=f+i/\q=s))\/(p=b/\1<=q/\q<=i)
 | 0,_=>h.mono λp q _=>⟨λq=>.inl ⟨q,by omega⟩,λq=>q.elim (·.1) (by omega)⟩
 | i+1,hi=>by
  have ih:=Uk h hb ho hf (i:=i) (by omega);have h1:=ho (i+1) (by omega) hi;have h2:=hf (i+1) (by omega) hi;refine(ih.move (h1.1.same Qw) (h2.1.same Qw) ?_ (.inl ⟨h2.2,by omega⟩)).mono λu v _=>?_
  ·rintro(q | q)
   ·exact h1.2 q.1
   ·omega
  ·constructor
   ·rintro(⟨(q | q),q1⟩ | q)
    ·exact .inl ⟨q.1,by omega⟩
    ·exact .inr (by omega)
    ·exact .inr (by omega)
   ·rintro(q | q)
    ·exact .inl ⟨.inl ⟨q.1,by omega⟩,by omega⟩
    ·by_cases e:v=i+1
     ·exact .inr ⟨by omega,by omega⟩
     ·exact .inl ⟨.inr (by omega),by omega⟩
structure Pr(N:Ags)(a b:Nat)(x y:qB)(X:Nat->Nat->Prop):Prop where
 w:W N X
 x:N[a]?=some x
 y:N[b]?=some y
 ne:a≠b
 l:∀p q,X p q->(p=a\/p=b)->q=0
theorem Pr.ax(h:Pr N a b x y X){k:Nat}(hk:k<x.Ports.length):Has N a k:=jX.2 ⟨x,h.x,hk⟩
theorem Pr.by'(h:Pr N a b x y X){k:Nat}(hk:k<y.Ports.length):Has N b k:=jX.2 ⟨y,h.y,hk⟩
theorem Pr.la(h:Pr N a b x y X):a<N.length:=(gSi.1 h.x).1
theorem Pr.lb(h:Pr N a b x y X):b<N.length:=(gSi.1 h.y).1
theorem Pr.nx(h:Pr N a b x y X){p q:Nat}(hq:0<q)(hX:X p q)(hp:p=a\/p=b:=by simp):False:=by have:=h.l p q hX hp;omega
theorem Pr.na(h:Pr N a b x y X){q:Nat}(hq:0<q):¬X a q:=λe=>by have:=h.l a q e (.inl rfl);omega
theorem Pr.nb(h:Pr N a b x y X){q:Nat}(hq:0<q):¬X b q:=λe=>by have:=h.l b q e (.inr rfl);omega
theorem Has.in(h:Has N a s)(hx:N[a]?=some x):s<x.Ports.length:=by
 obtain⟨z,hz,hs⟩:=jX.1 h;rw[hx]at hz;cases hz;exact hs
theorem ZI{i:Nat}:SameA (wK N y++List.replicate i (qS 4 x.Level 0 [] 3)) (zG N x y i):=UM
theorem qB2{i:Nat}:(zG N x y i).length=N.length+2+i:=by rw[ZI.len];simp[WV]
theorem J5{i:Nat}(h:Has N a s):Has (zG N x y i) a s:=by
 refine Has.same ZI (Has.app ?_);unfold wK;exact h.app.app
theorem Qk{i:Nat}(hs:s<y.Ports.length):Has (zG N x y i) N.length s/\Has (zG N x y i) (N.length+1) s:=
 ⟨(qB1 hs).1.app.same ZI,(qB1 hs).2.app.same ZI⟩
theorem V9{i j:Nat}(hj:j<i)(hs:s<3):Has (zG N x y i) (N.length+2+j) s:=by
 have:=UR (N:=wK N y) (k:=4) (l:=x.Level) (v:=0) (e:=[]) hj hs;rw[WV]at this;exact this.same ZI
theorem Zl:SameA (zG N x y (y.Ports.length-1)) (Zk N a x y):=JK _ _ _
theorem YY:SameA (zG N x y (y.Ports.length-1)) (YX N a x y):=Zl.trans (JK _ _ _)
theorem WW{i:Nat}:SameA (zG N x y (y.Ports.length-1)) (QP N a b x y i):=YY.trans Qw
theorem V8(h:Pr N a b x y X)(hy:0<y.Ports.length):W (zG N x y (y.Ports.length-1)) λp q=>(X p q/\p<N.length)\/(N.length<=p/\q=0):=by
 refine(qb5 h.w (by omega)).mono λu v hb=>?_;have hq:N.length<=u/\u<=N.length+1->v<y.Ports.length:=by
  rintro⟨h1,h2⟩;have hb':=ZI.has.2 hb;obtain⟨z,hz,hz2⟩:=jX.1 hb';have:z=qS y.Kind y.Level y.Value y.Data y.Ports.length:=by
   rw[gAl (by rw[WV];omega)]at hz;unfold wK at hz;by_cases e:u=N.length
   ·subst e;simpa using hz.symm
   ·obtain rfl:u=N.length+1:=by omega
    rw[gAr (by simp)]at hz;simpa using hz.symm
  rw[this]at hz2;simpa[qS]using hz2
 constructor
 ·rintro(q | q | q)
  ·exact .inl q
  ·exact .inr ⟨by omega,by omega⟩
  ·exact .inr ⟨by omega,by omega⟩
 ·rintro(q | q)
  ·exact .inl q
  ·by_cases e:N.length+2<=u
   ·exact .inr (.inr ⟨e,by omega⟩)
   ·exact .inr (.inl ⟨by omega,by omega,by omega⟩)
theorem UA(h:Pr N a b x y X)(hx:x.Ports.length=3)(hy:0<y.Ports.length):W (Zk N a x y) λp q=>(X p q/\p<N.length)\/(N.length+1<=p/\q=0)\/(p=a/\q=1):=by
 have la:=h.la;refine((V8 h hy).move (J5 (h.ax (by omega))) (Qk hy).1 (λe=>?_) (.inr ⟨nLr _,rfl⟩)).mono λu v _=>?_
 ·rcases e with q | q
  ·exact h.na (by omega) q.1
  ·omega
 ·constructor
  ·rintro(⟨(q | q),q1⟩ | q)
   ·exact .inl q
   ·exact .inr (.inl (by omega))
   ·exact .inr (.inr q)
  ·rintro(q | q | q)
   ·exact .inl ⟨.inl q,by omega⟩
   ·exact .inl ⟨.inr (by omega),by omega⟩
   ·exact .inr q
theorem qB3(h:Pr N a b x y X)(hx:x.Ports.length=3)(hy:0<y.Ports.length):W (YX N a x y) λp q=>(X p q/\p<N.length)\/(N.length+2<=p/\q=0)\/(p=a/\(q=1\/q=2)):=by
 have la:=h.la;refine((UA h hx hy).move ((J5 (h.ax (by omega))).same Zl) ((Qk hy).2.same Zl) (λe=>?_) (.inr (.inl ⟨nLr _,rfl⟩))).mono λu v _=>?_
 ·rcases e with q | q | q
  ·exact h.na (by omega) q.1
  ·omega
  ·omega
 ·constructor
  ·rintro(⟨(q | q | q),q1⟩ | q)
   ·exact .inl q
   ·exact .inr (.inl (by omega))
   ·exact .inr (.inr (by omega))
   ·exact .inr (.inr (by omega))
  ·rintro(q | q | q)
   ·exact .inl ⟨.inl q,by omega⟩
   ·exact .inl ⟨.inr (.inl (by omega)),by omega⟩
   ·by_cases e:v=1
    ·exact .inl ⟨.inr (.inr (by omega)),by omega⟩
    ·exact .inr (by omega)
theorem qB4(h:Pr N a b x y X)(hx:x.Ports.length=3)(hy:0<y.Ports.length){i:Nat}(hi:i<=y.Ports.length-1):
  W (QP N a b x y i) λp q=>(((X p q/\p<N.length)\/(N.length+2<=p/\q=0)\/(p=a/\(q=1\/q=2)))/\¬(N.length+1+1<=p/\p<=N.length+1+i/\q=0))\/(p=b/\1<=q/\q<=i):=by
 have lb:=h.lb;refine Uk (n:=y.Ports.length-1) (qB3 h hx hy) (by omega) (λk k1 k2=>⟨(J5 (h.by' (by omega))).same YY, ?_⟩) (λk k1 k2=>⟨?_,.inr (.inl ⟨by omega,rfl⟩)⟩) hi
 ·rintro(q | q | q)
  ·exact h.nb (by omega) q.1
  ·omega
  ·exact h.ne q.1.symm
 ·have:=V9 (N:=N) (x:=x) (y:=y) (i:=y.Ports.length-1) (j:=k-1) (s:=0) (by omega) (by omega);rw[show N.length+2+(k-1)=N.length+1+k by omega]at this;exact this.same YY
def JS(R:Nat->Bool)(a b:Nat)(p q:Nat):Prop:=R p=true\/p=a\/p=b
structure Act(R:Nat->Bool)(N:Ags)(a b:Nat)(x y:qB):Prop where
 w:W N λu _=>R u=true
 x:N[a]?=some x
 y:N[b]?=some y
 ne:a≠b
 pa:atP N a 0=some (pt b 0)
 pb:atP N b 0=some (pt a 0)
 ra:R a=false
 rb:R b=false
 rl:∀u,R u=true->u<N.length
variable {R:Nat->Bool}
theorem Act.nr(h:Act R N a b x y){u:Nat}(e:R u=true):u<N.length/\u≠a/\u≠b:=
 ⟨h.rl u e,λq=>(by subst q;rw[h.ra]at e;cases e),λq=>(by subst q;rw[h.rb]at e;cases e)⟩
def X0(R:Nat->Bool)(a b:Nat)(p q:Nat):Prop:=R p=true\/((p=a\/p=b)/\q=0)
theorem Act.pr(h:Act R N a b x y):Pr N a b x y (X0 R a b):=
 ⟨(h.w.drop2 h.pa h.pb).mono λp q _=>(by unfold X0;constructor;(rintro(q | q | q);exact .inl q;exact .inr ⟨.inl q.1,q.2⟩;exact .inr ⟨.inr q.1,q.2⟩);(rintro(q | ⟨q | q,r⟩);exact .inl q;exact .inr (.inl ⟨q,r⟩);exact .inr (.inr ⟨q,r⟩))),h.x,h.y,h.ne,λp q e hp=>e.elim (λe=>by have:=h.nr e;omega) (·.2)⟩
theorem Act.pe(h:Act R N a b x y):Pr N a b x y λu _=>R u=true:=⟨h.w,h.x,h.y,h.ne,λp q e hp=>by have:=h.nr e;omega⟩
theorem J2{A B:Ags}(h:SameA A B){z:qB}(hz:A[a]?=some z)(hb:Has B a s):s<z.Ports.length:=(h.has.2 hb).in hz
theorem qjM(h:Act R N a b x y)(hx:x.Ports.length=3)(hy:0<y.Ports.length):W (Ql N a b x y) (JS R a b):=by
 have la:=h.pr.la;have lb:=h.pr.lb;have hs:SameA (wK N y++List.replicate (y.Ports.length-1) (qS 4 x.Level 0 [] 3)) (Ql N a b x y):=ZI.trans WW;have e0:∀{k:Nat},k<N.length->(wK N y++List.replicate (y.Ports.length-1) (qS 4 x.Level 0 [] 3))[k]?=N[k]?:=λhk=>by
  rw[gAl (by rw[WV];omega)];unfold wK;rw[gAl (by simp;omega),gAl hk]
 refine(qB4 h.pr hx hy (nLr _)).mono λu v hb=>?_;have k1:u=a->v<3:=λe=>by subst e;have:=J2 hs (by rw[e0 la];exact h.x) hb;omega
 have k2:u=b->v<y.Ports.length:=λe=>by subst e;exact J2 hs (by rw[e0 lb];exact h.y) hb
 have k3:=hb.lt;rw[show (QP N a b x y (y.Ports.length-1)).length=N.length+2+(y.Ports.length-1) by rw[WW.len,qB2]]at k3;unfold JS X0;have ne:=h.ne;by_cases hR:R u=true
 ·have:=h.nr hR;simp only[hR,true_or,true_and,iff_true];omega
 ·simp only[hR,false_or,bFt];omega
end
section
variable {N:Ags} {a b c d f s n:Nat} {x y:qB} {lab lev v:Int} {X:Nat->Nat->Prop} {R:Nat->Bool}
theorem W.dead(h:W N X){x y:qB}{M:Ags}(hs:SameA M N)(hx:M[a]?=some x)(hy:M[b]?=some y)
  (e:∀u v,u<N.length->(u=a->v<x.Ports.length)->(u=b->v<y.Ports.length)->(X u v↔R u=true\/u=a\/u=b)):W N (JS R a b):=
 h.mono λu v hb=>e u v hb.lt (λq=>by subst q;exact J2 hs hx hb) (λq=>by subst q;exact J2 hs hy hb)
def Xa(N:Ags)(a b:Nat):Ags:=jg (jg N (pt a 1) (pt b 1)) (pt a 2) (pt b 2)
theorem XZ(h:Pr N a b x y X)(hx:x.Ports.length=3)(hy:y.Ports.length=3):W (jg N (pt a 1) (pt b 1)) λu v=>X u v\/(u=a/\v=1)\/(u=b/\v=1):=by
 have ne:=h.ne;exact h.w.join (h.ax (by omega)) (h.by' (by omega)) (h.na (by omega)) (h.nb (by omega)) (by omega)
theorem qk1(h:Act R N a b x y)(hx:x.Ports.length=3)(hy:y.Ports.length=3):W (Xa N a b) (JS R a b):=by
 have h':=h.pr;have ne:=h.ne;have n1:=h'.na (q:=2) (by omega);have n2:=h'.nb (q:=2) (by omega);have:=(XZ h' hx hy).join (a:=a) (s:=2) (c:=b) (k:=2) ((h'.ax (by omega)).same (JF _ _ _)) ((h'.by' (by omega)).same (JF _ _ _)) (by rintro(q | q | q);exact n1 q;omega;omega) (by rintro(q | q | q);exact n2 q;omega;omega) (by omega);refine this.dead ((JF _ _ _).trans (JF _ _ _)) h.x h.y λu v hu h1 h2=>?_;unfold X0;by_cases hR:R u=true
 ·have:=h.nr hR;simp only[hR,true_or,true_and,iff_true]<;>omega
 ·simp only[hR,false_or,bFt]<;>omega
theorem UI{i:Nat}(h:Has N a s):Has (jp b i N) a s:=h.app.same XS
theorem Ya(h:Pr N a b x y X):∀{i:Nat},i<=y.Ports.length-1->W (jp b i N) λu v=>(X u v/\u<N.length)\/(u=b/\1<=v/\v<=i)
 | 0,_=>h.w.mono λu v hb=>by have:=hb.lt;constructor;(intro q;exact .inl ⟨q,this⟩);(rintro(q | q);exact q.1;omega)
 | i+1,hi=>by
  have ih:=Ya h (i:=i) (by omega);have lb:=h.lb;have hl:(jp b i N).length=N.length+i:=UH;refine((ih.add (qS 5 0 0 [] 1)).move (UI (h.by' (by omega))).app (zd (by omega)) ?_ (.inr rfl)).mono λu v hb=>?_
  ·rintro(⟨(q | q),_⟩ | q)
   ·exact h.nb (by omega) q.1
   ·omega
   ·omega
  ·have hv:u=(jp b i N).length->v<1:=by
    intro e;have hb':=(JK _ _ _).has.2 hb;rw[e]at hb';have:=hb'.in (x:=qS 5 0 0 [] 1) (by simp);simpa[qS]using this
   rw[hl]at hv|-;by_cases hX:X u v<;>simp only[hX,true_and,false_and,false_or,true_or,and_true]<;>omega
theorem qjW(h:Act R N a b x y)(hx:x.Ports.length=1)(hy:0<y.Ports.length):W (jp b (y.Ports.length-1) N) (JS R a b):=by
 have la:=h.pr.la;have lb:=h.pr.lb;refine(Ya h.pr (nLr _)).dead XS (by rw[gAl la];exact h.x) (by rw[gAl lb];exact h.y) λu v hu h1 h2=>?_;have ne:=h.ne;unfold X0;by_cases hR:R u=true
 ·have:=h.nr hR;simp only[hR,true_or,true_and,iff_true]<;>omega
 ·simp only[hR,false_or,bFt]<;>omega
theorem QK(h:Pr N a b x y X){z:qB}:W (N++[z]) λu v=>(X u v/\u<N.length)\/u=N.length:=h.w.add z
theorem Yv(h:Pr N a b x y X)(hy:1<y.Ports.length){k l v:Int}{e:List Int}{n:Nat}(hn:0<n):W (zq (N++[qS k l v e n]) (pt b 1) (pt N.length 0)) λu v=>(X u v/\u<N.length)\/(u=N.length/\v≠0)\/(u=b/\v=1):=by
 have lb:=h.lb;have n1:=h.nb (q:=1) (by omega);refine((QK h).move (a:=b) (s:=1) (c:=N.length) (k:=0) (h.by' hy).app (zd hn) (by rintro(q | q);exact n1 q.1;omega) (.inr rfl)).mono λu v hb=>?_;by_cases hX:X u v<;>simp only[hX,true_and,false_and,false_or,true_or,and_true]<;>omega
theorem Wi{k l v:Int}{e:List Int}{n:Nat}{M:Ags}(hs:SameA (N++[qS k l v e n]) M)(h:Has M N.length s):s<n:=by
 have:=((hs.has.2 h).in (x:=qS k l v e n) (by simp));simpa[qS]using this
theorem qmL(h:Act R N a b x y)(hx:x.Ports.length=1)(hy:y.Ports.length=2):W (Xr v N b) (JS R a b):=by
 have la:=h.pr.la;have lb:=h.pr.lb;have ne:=h.ne;have w:=Yv h.pr (by omega) (k:=6) (l:=0) (v:=v) (e:=[]) (n:=1) (by omega);have hs:SameA (N++[qS 6 0 v [] 1]) (Xr v N b):=JK _ _ _;refine W.mono w λu v hb=>?_;have h1:u=a->v<x.Ports.length:=λq=>by subst q;exact J2 hs (by rw[gAl la];exact h.x) hb
 have h2:u=b->v<y.Ports.length:=λq=>by subst q;exact J2 hs (by rw[gAl lb];exact h.y) hb
 have h3:u=N.length->v<1:=λq=>by subst q;exact Wi hs hb
 unfold X0 JS;by_cases hR:R u=true
 ·have:=h.nr hR;simp only[hR,true_or,true_and,iff_true]<;>omega
 ·simp only[hR,false_or,bFt]<;>omega
theorem qnU(h:Act R N a b x y)(hx:x.Ports.length=1)(hy:y.Ports.length=2):W (Xw lev v N b) (JS R a b):=by
 have la:=h.pr.la;have lb:=h.pr.lb;have ne:=h.ne;have w:=Yv h.pr (by omega) (k:=12) (l:=lev) (v:=v) (e:=[]) (n:=1) (by omega);have hs:SameA (N++[qS 12 lev v [] 1]) (Xw lev v N b):=JK _ _ _;refine W.mono w λu v hb=>?_;have h1:u=a->v<x.Ports.length:=λq=>by subst q;exact J2 hs (by rw[gAl la];exact h.x) hb
 have h2:u=b->v<y.Ports.length:=λq=>by subst q;exact J2 hs (by rw[gAl lb];exact h.y) hb
 have h3:u=N.length->v<1:=λq=>by subst q;exact Wi hs hb
 unfold X0 JS;by_cases hR:R u=true
 ·have:=h.nr hR;simp only[hR,true_or,true_and,iff_true]<;>omega
 ·simp only[hR,false_or,bFt]<;>omega
theorem qeL(h:Act R N a b x y)(hy:y.Ports.length=3):W (Wl N b x y) λu v=>X0 R a b u v/\u<N.length\/(u=N.length/\v≠0)\/(u=b/\v=1):=
 Yv h.pr (by omega) (by omega)
theorem ZU:SameA (N++[qS 8 y.Level y.Value [x.Value] 2]) (Wl N b x y):=JK _ _ _
theorem qmM(h:Act R N a b x y)(hx:x.Ports.length=1)(hy:y.Ports.length=3):W (WA N b x y) (JS R a b):=by
 have la:=h.pr.la;have lb:=h.pr.lb;have ne:=h.ne;have hs:SameA (N++[qS 8 y.Level y.Value [x.Value] 2]) (WA N b x y):=ZU.trans (JK _ _ _);refine((qeL h hy).move (a:=b) (s:=2) (c:=N.length) (k:=1) ((h.pr.by' (by omega)).app.same ZU) ((zd (by omega)).same ZU) (by rintro(q | q | q);exact h.pr.nb (by omega) q.1;omega;omega) (.inr (.inl ⟨rfl,by omega⟩))).mono λu v hb=>?_;have h1:u=a->v<x.Ports.length:=λq=>by subst q;exact J2 hs (by rw[gAl la];exact h.x) hb
 have h2:u=b->v<y.Ports.length:=λq=>by subst q;exact J2 hs (by rw[gAl lb];exact h.y) hb
 have h3:u=N.length->v<2:=λq=>by subst q;exact Wi hs hb
 unfold X0 JS;by_cases hR:R u=true
 ·have:=h.nr hR;simp only[hR,true_or,true_and,iff_true]<;>omega
 ·simp only[hR,false_or,bFt]<;>omega
def zC(lev v:Int)(N:Ags):Ags:=N++[qS 12 lev v [] 1]
def zf(lev v:Int)(N:Ags)(a:Nat)(i:Nat):Ags:=XI lev a N.length i (zC lev v N)
theorem YO{i:Nat}:SameA (zC lev v N++List.replicate i (qS 3 lev 0 [] 3)) (zf lev v N a i):=qaP
theorem Vg{i:Nat}:(zf lev v N a i).length=N.length+1+i:=by rw[YO.len];simp[zC];omega
theorem WP{i:Nat}(h:Has N c s):Has (zf lev v N a i) c s:=h.app.app.same YO
theorem WO{i:Nat}:Has (zf lev v N a i) (N.length+i) (zU i):=by
 refine Has.same YO ?_;unfold zU;split
 ·rename_i e;subst e;exact(zd (by omega)).app
 ·have:=UR (N:=zC lev v N) (k:=3) (l:=lev) (v:=0) (e:=[]) (i:=i) (j:=i-1) (s:=2) (n:=3) (by omega) (by omega);rw[show (zC lev v N).length+(i-1)=N.length+i by simp[zC];omega]at this;exact this
theorem XJ(h:Pr N a b x y X):∀{i:Nat},i<=x.Ports.length-1->W (zf lev v N a i) λu v=>(X u v/\u<N.length)\/(u=a/\1<=v/\v<=i)\/(u=N.length+i/\v=zU i)
 | 0,_=>(QK h).mono λu w hb=>by
   have h3:u=N.length->w<1:=λq=>by subst q;exact Wi (SameA.refl _) hb
   unfold zU;by_cases hX:X u w<;>simp only[hX,true_and,false_and,false_or,true_or,and_true,if_true]<;>omega
 | i+1,hi=>by
  have ih:=XJ h (i:=i) (by omega);have la:=h.la;have hl:(zf lev v N a i).length=N.length+1+i:=Vg;have e0:zU i<=2:=by unfold zU;split<;>omega
  have w1:=(ih.add (qS 3 lev 0 [] 3)).link (a:=N.length+i) (s:=zU i) (c:=(zf lev v N a i).length) (k:=0) WO.app (zd (by omega)) (.inl ⟨.inr (.inr ⟨rfl,rfl⟩),by omega⟩) (.inr rfl) (by omega);have n1:=h.na (q:=i+1) (by omega);refine(w1.move (a:=a) (s:=i+1) (c:=(zf lev v N a i).length) (k:=1) ((WP (h.ax (by omega))).app.same (zo _ _ _)) ((zd (by omega)).same (zo _ _ _)) ?_ ⟨.inr rfl,by omega,by omega⟩).mono λu w hb=>?_
  ·rintro⟨⟨(q | q | q),_⟩ | q,_⟩
   ·exact n1 q.1
   ·omega
   ·omega
   ·omega
  ·have hv:u=(zf lev v N a i).length->w<3:=λq=>by subst q;exact Wi ((zo _ _ _).trans (JK _ _ _)) hb
   have hu:=hb.lt;simp only[qlX,Xe,lAp,lCo,lNi]at hu;rw[hl]at hv hu|-;have e1:zU (i+1)=2:=rfl;rw[e1];by_cases hX:X u w<;>simp only[hX,true_and,false_and,false_or,true_or,and_true]<;>omega
def ZE(lev v:Int)(N:Ags)(a b n:Nat):Ags:=zq (zf lev v N a n) (pt b 1) (J7 N.length n)
theorem qiE(h:Act R N a b x y)(hx:0<x.Ports.length)(hy:y.Ports.length=2):W (ZE lev v N a b (x.Ports.length-1)) (JS R a b):=by
 have la:=h.pr.la;have lb:=h.pr.lb;have ne:=h.ne;have hs:SameA (zC lev v N++List.replicate (x.Ports.length-1) (qS 3 lev 0 [] 3)) (ZE lev v N a b (x.Ports.length-1)):=YO.trans (JK _ _ _);have e0:∀{k:Nat},k<N.length->(zC lev v N++List.replicate (x.Ports.length-1) (qS 3 lev 0 [] 3))[k]?=N[k]?:=λhk=>by
  rw[gAl (by simp[zC];omega)];unfold zC;rw[gAl hk]
 refine((XJ h.pr (nLr _)).move (a:=b) (s:=1) (c:=N.length+(x.Ports.length-1)) (k:=zU (x.Ports.length-1)) (WP (h.pr.by' (by omega))) WO (by rintro(q | q | q);exact h.pr.nb (by omega) q.1;omega;omega) (.inr (.inr ⟨rfl,rfl⟩))).mono λu w hb=>?_;have k1:u=a->w<x.Ports.length:=λe=>by subst e;exact J2 hs (by rw[e0 la];exact h.x) hb
 have k2:u=b->w<y.Ports.length:=λe=>by subst e;exact J2 hs (by rw[e0 lb];exact h.y) hb
 unfold JS X0;by_cases hR:R u=true
 ·have:=h.nr hR;simp only[hR,true_or,true_and,iff_true]<;>omega
 ·simp only[hR,false_or,bFt]<;>omega
end
theorem qaJ:∀{l:List qB}{i:Nat},j8 l i=true->∀(k:Nat)(hk:k<l.length),(l[k].Kind=1↔i+k=0)
 |[],_,_,k,hk=>by simp at hk
 | y::l,i,h,k,hk=>by
  simp only[j8,bAt]at h;cases k with
  | zero=>have:=h.1.2;simp at this|-;simp[this]
  | succ k=>
   have:=qaJ h.2 k (by simpa using hk);simp only[List.getElem_cons_succ,this];omega
theorem qaI{x:qB}(h:qe x=true):x.Kind≠0:=by
 intro e;simp only[qe,bAt]at h;have h1:=h.1.1.1;rw[e]at h1;simp[wl]at h1
theorem Ja{n:qD}(h:zA n=true):j8 n.Agents 0=true:=by
 simp only[zA,wc,bAt]at h;exact h.1.2
theorem QE{x:qB}(h:qe x=true):wB x.Kind x.Level=true:=by
 simp only[qe,bAt]at h;exact h.1.2
theorem qfI{a b c d:Int}(h:zK a b c d=6):(a=6/\c=11)\/(a=9/\c=10):=by
 simp only[zK]at h;repeat' (split at h<;>try omega)
theorem U1{a b c d:Int}:jt a b c d=jt c d a b:=by
 simp only[jt];cases wB a b<;>cases wB c d<;>cases decide (a=1)<;>cases decide (c=1)<;>rfl
theorem qfH{a b c d:Int}:zK a b c d≠8:=by
 simp only[zK];repeat' (split<;>try omega)
theorem qbQ{x y:qB}(_hx:qe x=true)(_hy:qe y=true)(h:zY x.Kind x.Level y.Kind y.Level=2):
  qN y x=if x.Kind=10/\y.Kind=9/\(x.Data.length:Int)<=y.Value then 8 else jK x.Kind x.Level y.Kind y.Level:=by
 have hp:jt x.Kind x.Level y.Kind y.Level=true:=by
  simp only[zY]at h;split at h
  ·assumption
  ·omega
 simp only[zY,hp,if_true]at h;have h1:zK x.Kind x.Level y.Kind y.Level=0:=by
  rcases Decidable.em (zK x.Kind x.Level y.Kind y.Level=0)with q | q
  ·exact q
  ·rw[if_pos q]at h;omega
 have h2:zK y.Kind y.Level x.Kind x.Level≠0:=by
  intro q;simp only[h1,q]at h;simp at h
 have e:jK y.Kind y.Level x.Kind x.Level=jK x.Kind x.Level y.Kind y.Level:=by
  simp only[jK,U1 (a:=y.Kind),hp,h1,if_true,if_pos h2];simp[]
 simp only[qN,e];have n1:¬(y.Kind=10/\x.Kind=9):=by
  rintro⟨a,b⟩;have:zK x.Kind x.Level y.Kind y.Level=6:=by simp[zK,a,b]
  omega
 by_cases q:y.Kind=9/\x.Kind=10/\(x.Data.length:Int)<=y.Value
 ·rw[if_pos q,if_pos ⟨q.2.1,q.1,q.2.2⟩]
 ·rw[if_neg q,if_neg (by rintro⟨a,b,c⟩;exact n1 ⟨a,b⟩),if_neg (by rintro⟨a,b,c⟩;exact q ⟨b,a,c⟩)]
theorem qbP{x y:qB}(hx:qe x=true)(hy:qe y=true)(h:zY x.Kind x.Level y.Kind y.Level≠2):
  qN x y=if x.Kind=9/\y.Kind=10/\(y.Data.length:Int)<=x.Value then 8 else jK x.Kind x.Level y.Kind y.Level:=by
 simp only[qN];have n1:¬(x.Kind=10/\y.Kind=9):=by
  rintro⟨a,b⟩;apply h;have hp:jt x.Kind x.Level y.Kind y.Level=true:=by
   have q1:=QE hx;have q2:=QE hy;rw[a]at q1;rw[b]at q2;simp only[jt,a,b,q1,q2];decide
  have r1:zK x.Kind x.Level y.Kind y.Level=0:=by simp[zK,a]
  have r2:zK y.Kind y.Level x.Kind x.Level=6:=by simp[zK,a,b]
  simp[zY,hp,r1,r2]
 by_cases q:x.Kind=9/\y.Kind=10/\(y.Data.length:Int)<=x.Value
 ·rw[if_pos q,if_pos q]
 ·rw[if_neg q,if_neg q,if_neg (by rintro⟨a,b,c⟩;exact n1 ⟨a,b⟩)]
theorem qbO{x y:qB}(h:jK x.Kind x.Level y.Kind y.Level=6):zY x.Kind x.Level y.Kind y.Level=1/\zK x.Kind x.Level y.Kind y.Level=6\/zY x.Kind x.Level y.Kind y.Level=2/\zK y.Kind y.Level x.Kind x.Level=6:=by
 simp only[jK,zY]at h|-
 repeat' (split at h)
 all_goals simp_all
theorem qd7{x y:qB}(hx:qe x=true)(hy:qe y=true)(a:x.Kind=9)(b:y.Kind=10):jK x.Kind x.Level y.Kind y.Level=6/\zY x.Kind x.Level y.Kind y.Level=1:=by
 have hp:jt x.Kind x.Level y.Kind y.Level=true:=by
  have q1:=QE hx;have q2:=QE hy;rw[a]at q1;rw[b]at q2;simp only[jt,a,b,q1,q2];decide
 have r1:zK x.Kind x.Level y.Kind y.Level=6:=by simp[zK,a,b]
 simp[jK,zY,hp,r1]
theorem qpT{x y:qB}(hx:qe x=true)(hy:qe y=true)(a:x.Kind=10)(b:y.Kind=9):jK x.Kind x.Level y.Kind y.Level=6/\zY x.Kind x.Level y.Kind y.Level=2:=by
 have hp:jt x.Kind x.Level y.Kind y.Level=true:=by
  have q1:=QE hx;have q2:=QE hy;rw[a]at q1;rw[b]at q2;simp only[jt,a,b,q1,q2];decide
 have r1:zK x.Kind x.Level y.Kind y.Level=0:=by simp[zK,a]
 have r2:zK y.Kind y.Level x.Kind x.Level=6:=by simp[zK,a,b]
 simp[jK,zY,hp,r1,r2]
def Jm(x y:qB):Int:=if zI x y then qN y x else qN x y
theorem qmP{x y:qB}(hx:qe x=true)(hy:qe y=true):
  Jm x y=if jK x.Kind x.Level y.Kind y.Level=6/\(if zI x y then x.Kind=10/\(x.Data.length:Int)<=y.Value else y.Kind=10/\(y.Data.length:Int)<=x.Value)then 8 else jK x.Kind x.Level y.Kind y.Level:=by
 by_cases h:zY x.Kind x.Level y.Kind y.Level=2
 ·have hs:zI x y=true:=by simp[zI,h]
  simp only[Jm,hs,if_true,qbQ hx hy h];by_cases q:x.Kind=10/\y.Kind=9/\(x.Data.length:Int)<=y.Value
  ·rw[if_pos q,if_pos ⟨(qpT hx hy q.1 q.2.1).1,q.1,q.2.2⟩]
  ·rw[if_neg q];by_cases q2:jK x.Kind x.Level y.Kind y.Level=6/\x.Kind=10/\(x.Data.length:Int)<=y.Value
   ·exfalso;rcases qbO q2.1 with⟨a,_⟩ | ⟨_,a⟩
    ·omega
    ·rcases qfI a with⟨_,a⟩ | ⟨a,_⟩
     ·omega
     ·exact q ⟨q2.2.1,a,q2.2.2⟩
   ·rw[if_neg q2]
 ·have hs:zI x y=false:=by simp[zI,h]
  simp only[Jm,hs,bFt,if_false,qbP hx hy h];by_cases q:x.Kind=9/\y.Kind=10/\(y.Data.length:Int)<=x.Value
  ·rw[if_pos q,if_pos ⟨(qd7 hx hy q.1 q.2.1).1,q.2.1,q.2.2⟩]
  ·rw[if_neg q];by_cases q2:jK x.Kind x.Level y.Kind y.Level=6/\y.Kind=10/\(y.Data.length:Int)<=x.Value
   ·exfalso;rcases qbO q2.1 with⟨_,a⟩ | ⟨a,_⟩
    ·rcases qfI a with⟨_,a⟩ | ⟨a,_⟩
     ·omega
     ·exact q ⟨a,q2.2.1,q2.2.2⟩
    ·omega
   ·rw[if_neg q2]
theorem qh6{k:Int}:Pure Gm 1502 [iI k] (.bool (Wa k)):=by
 refine pJ qAU ?_;simp only[qAU,qM,go_sem]
 repeat' (first | (refine qZ rfl ?_;simp only[go_sem]) | (first | (apply qj<;>intro hc<;>simp only[hc,go_sem]) | (apply qI<;>intro hc<;>simp only[hc,go_sem])) | refine qO rfl ?_)
 all_goals (simp_all[Wa])
theorem qh5{l k m:Int}:Pure Gm 1501 [iI l,iI k,iI m] (.bool (YZ l k m)):=by
 refine pJ qAT ?_;simp only[qAT,qM,go_sem]
 repeat' (first | (refine qZ rfl ?_;simp only[go_sem]) | (first | (apply qj<;>intro hc<;>simp only[hc,go_sem]) | (apply qI<;>intro hc<;>simp only[hc,go_sem])) | (refine qL (qbG) ?_;simp only[go_sem]) | (refine qL (qBM) ?_;simp only[go_sem]) | (refine qL (qBJ) ?_;simp only[go_sem]) | refine qO rfl ?_)
 all_goals (simp_all[YZ])
theorem qhX{ka la kb lb:Int}:Pure Gm 1398 [iI ka,iI la,iI kb,iI lb] (iI (zK ka la kb lb)):=by
 refine pJ qAB ?_;simp only[qAB,qM,go_sem]
 repeat' (first | (refine qZ rfl ?_;simp only[go_sem]) | (first | (apply qj<;>intro hc<;>simp only[hc,go_sem]) | (apply qI<;>intro hc<;>simp only[hc,go_sem])) | (refine qL (qh5) ?_;simp only[go_sem]) | (refine qL (qh6) ?_;simp only[go_sem]) | refine qO rfl ?_)
 all_goals (simp_all[zK])
theorem qhH{ka la kb lb:Int}:Pure Gm 1115 [iI ka,iI la,iI kb,iI lb] (.tup [iI (jK ka la kb lb),iI (zY ka la kb lb)]):=by
 refine pJ Kh ?_;simp only[Kh,qM,go_sem]
 repeat' (first | (first | (apply qj<;>intro hc<;>simp only[hc,go_sem]) | (apply qI<;>intro hc<;>simp only[hc,go_sem])) | (refine qL qBM ?_;simp only[go_sem]) | (refine qL qhX ?_;simp only[go_sem]) | refine JY rfl ?_)
 all_goals (try simp only[bNt,Bool.not_eq_false',dTe,decide_eq_false_iff_not,Bool.not_false]at*)
 all_goals (simp[jK,zY,jt, *])
def wF(xs:List Int)(k:Int)(m:Nat):Nat:=if xs=[]then 0 else((xs[k.toNat%xs.length]?).getD 0).toNat%m
def JO(xs:List Int)(ps:List qV)(k:Int):qV:=(ps[wF xs k ps.length]?).getD ⟨0,0⟩
theorem KJ{xs:List Int}{k:Int}{m:Nat}(h:0<m):wF xs k m<m:=by
 unfold wF;split
 ·exact h
 ·exact Nat.mod_lt _ h
theorem qC6{n:qD}(h:zA n=true)(k:Nat)(hk:k<n.Agents.length):(n.Agents[k].Kind=1↔k=0):=by
 have:=qaJ (Ja h) k hk;rw[this];omega
theorem Wh{n:qD}(h:zA n=true):0<n.Agents.length:=by
 simp only[zA,wc,bAt]at h;have:=zP.1 h.1.1;omega
theorem c750{xs:List Int}{ps:List qV}{k:Int}(hk:0<=k)(hs:wn xs=true)(hp:0<ps.length):Pure Gm 750 [lQ xs,.lst 2 (ps.map qV.enc) false,iI k] ((JO xs ps k).enc):=by
 refine pI F750 (by simp[AV.trees,AV.tree,qa qV.isSh.tree,qa shI.tree]) (by exact qV.tr) ?_;simp only[F750,qM,go_sem];have sl:=KJ (xs:=xs) (k:=k) hp;have e:JO xs ps k=ps[wF xs k ps.length]:=by simp[JO,gEg sl]
 rw[e];apply qI<;>intro hc<;>simp only[hc,go_sem]
 ·have h1:0<xs.length:=by have:=odT hc;omega
  rw[if_neg (by omega),qEI hk];have hlt:=Nat.mod_lt k.toNat h1;simp only[go_sem];simp only[gMp,gEg hlt,oMs,go_sem];simp only[qP,go_sem];rw[if_neg (by omega),qEI (qfU hs hlt)];have e2:xs[k.toNat%xs.length].toNat%ps.length=wF xs k ps.length:=by
   rw[wF,if_neg (by intro h;rw[h]at h1;cases h1),gEg hlt];rfl
  rw[e2];simp only[go_sem];simp only[gMp,gEg sl,oMs,go_sem];refine qi (k:=2) (by rfl) (by rfl) (by exact⟨_,rfl⟩) (by decide) ?_;simp only[go_sem];exact qO qV.tr rfl
 ·have h1:xs=[]:=by have:=odF hc;exact lEz (by omega)
  have e2:0=wF xs k ps.length:=by rw[wF,if_pos h1]
  rw[if_neg (by omega)];simp only[Int.zero_tmod];simp only[go_sem];simp only[<-e2]at sl|-;simp only[gMp,gEg sl,oMs,go_sem];refine qi (k:=2) (by rfl) (by rfl) (by exact⟨_,rfl⟩) (by decide) ?_;simp only[go_sem];exact qO qV.tr rfl
theorem QY{n:qD}(h:zA n=true):W n.Agents λ_ _=>False:=by
 intro a s q hq _;obtain⟨x,hx,hs⟩:=je.1 hq;have hl:=(gSi.1 hx).1;have hl2:=(gSi.1 hs).1;have e1:n.Agents[a]=x:=(gSi.1 hx).2;have e2:x.Ports[s]=q:=(gSi.1 hs).2;unfold zA at h;simp only[bAt]at h;have h1:=qC5 h.2 a hl;rw[e1]at h1;have h2:=qEK h1 s hl2;rw[e2]at h2;simp only[nZa]at h2;unfold JQ at h2;simp only[bAt,bNt,decide_eq_false_iff_not,dTe]at h2;obtain⟨⟨h3,h4⟩,h5⟩:=h2;obtain⟨b,t,rfl,hb,ht⟩:=qeZ h4;exact⟨b,t,rfl,by rw[<-qeX];exact h5,λq=>q,λe=>h3 (by rw[e.1,e.2])⟩
theorem qaK:∀{l:Ags}{i:Nat},(∀x∈l,qe x=true)->(∀(k:Nat)(hk:k<l.length),l[k].Kind=1↔i+k=0)->j8 l i=true
 |[],_,_,_=>rfl
 | x::xs,i,h1,h2=>by
  have:=qaK (l:=xs) (i:=i+1) (λy hy=>h1 y (by simp[hy])) (λk hk=>by have:=h2 (k+1) (by simp;omega);simp only[List.getElem_cons_succ]at this;rw[this];omega);have h0:=h2 0 (by simp);simp only[List.getElem_cons_zero,nAz]at h0;simp[j8,this,h1 x (by simp),h0]
theorem qmG{n:qD}(h1:∀x∈n.Agents,qe x=true)(h2:∀(k:Nat)(hk:k<n.Agents.length),n.Agents[k].Kind=1↔k=0)(h3:1<=n.Agents.length)(h4:n.Agents.length<=600)(hw:W n.Agents λ_ _=>False):zA n=true:=by
 unfold zA wc;rw[qaK h1 (λk hk=>by rw[h2 k hk];omega)];simp only[Bool.and_true,bAt];refine⟨by rw[zP];omega,qC7 λk hk=>qEL λm hm=>?_⟩;have hx:n.Agents[k]?=some n.Agents[k]:=gEg hk;obtain⟨b,t,e,h5,_,h6⟩:=hw k m _ (je.2 ⟨_,hx,gEg hm⟩) id;rw[e];simp only[nZa];unfold JQ;simp only[bAt,bNt,decide_eq_false_iff_not,dTe];refine⟨⟨λe=>h6 (wP.1 e), ?_⟩,by rw[qeX];exact h5⟩;obtain⟨y,hy,hs⟩:=jX.1 ⟨_,h5⟩;have hb:=(gSi.1 hy).1;unfold JN QH;simp only[pt,iTn,hy,bAt,zP];omega
theorem qDB{n:qD}(h:zA n=true){k:Nat}{x:qB}(hx:n.Agents[k]?=some x):qe x=true:=JW (Ja h) x (lMo hx)
theorem Vb{x y:qB}(h:jP y=jP x):qe y=qe x:=by
 simp only[jP,Prod.mk.injEq]at h;obtain⟨h1,h2,h3,h4,h5⟩:=h;unfold qe fieldsOf z6;rw[h1,h2,h3,h4,h5]
def qg(R:Nat->Bool)(n:Nat):List Nat:=(List.range n).filter λk=> !R k
def qT(R:Nat->Bool)(n:Nat):Nat:=(qg R n).length
def qt(R:Nat->Bool)(x:qB):qB:={x with Ports:=x.Ports.map λp=>⟨(qT R p.Agent.toNat:Nat),p.Slot⟩}
def qc(N:Ags)(R:Nat->Bool):Ags:=(qg R N.length).map λk=>qt R (N.getD k hole)
theorem Uv{R:Nat->Bool}{n:Nat}:qg R (n+1)=qg R n++if R n then []else [n]:=by
 unfold qg;rw[List.range_succ,List.filter_append];cases h:R n<;>simp[h]
theorem jO{R:Nat->Bool}{n:Nat}:qT R (n+1)=qT R n+if R n then 0 else 1:=by
 unfold qT;rw[Uv,lAp];split<;>rfl
theorem XO{R:Nat->Bool}{n:Nat}:qT R n<=n:=by
 unfold qT qg;exact nLt (List.length_filter_le _ _) (by simp)
theorem qDI{R:Nat->Bool}{n k:Nat}:k∈qg R n↔k<n/\R k=false:=by simp[qg]
theorem XP{R:Nat->Bool}{n m:Nat}(h:n<=m):qT R n<=qT R m:=by
 induction m with
 | zero=>
  obtain rfl:n=0:=by omega
  exact nLr _
 | succ m ih=>
  rcases Nat.lt_or_ge n (m+1)with q | q
  ·rw[jO];have:=ih (by omega);omega
  ·obtain rfl:n=m+1:=by omega
   exact nLr _
theorem Wm{R:Nat->Bool}{k:Nat}(hk:R k=false):∀{n:Nat},k<n->(qg R n)[qT R k]?=some k
 | 0,h=>by omega
 | n+1,h=>by
  rw[Uv];by_cases e:k=n
  ·subst e;rw[hk];unfold qT;simp
  ·have:=Wm hk (n:=n) (by omega);rw[gAl (gSi.1 this).1];exact this
theorem qDH{R:Nat->Bool}{n m k:Nat}(h:(qg R n)[m]?=some k):k<n/\R k=false/\qT R k=m:=by
 have hm:=qDI.1 (lMo h);have h2:=Wm hm.2 hm.1;have nd:(qg R n).Nodup:=List.Pairwise.filter _ List.nodup_range;refine⟨hm.1,hm.2, ?_⟩;obtain⟨q1,q2⟩:=gSi.1 h;obtain⟨q3,q4⟩:=gSi.1 h2;exact(List.getElem_inj nd).1 (q4.trans q2.symm)
theorem QG{N:Ags}{R:Nat->Bool}:(qc N R).length=qT R N.length:=by simp[qc,qT]
theorem Uz{N:Ags}{R:Nat->Bool}{m:Nat}{y:qB}(h:(qc N R)[m]?=some y):∃k x,N[k]?=some x/\R k=false/\qT R k=m/\y=qt R x:=by
 unfold qc at h;rw[gMp]at h;obtain⟨k,hk,e⟩:=oMi.1 h;obtain⟨h1,h2,h3⟩:=qDH hk;exact⟨k,N[k],gEg h1,h2,h3,by rw[<-e,lGd,gEg h1];rfl⟩
theorem Wn{N:Ags}{R:Nat->Bool}{k:Nat}{x:qB}(hx:N[k]?=some x)(hk:R k=false):(qc N R)[qT R k]?=some (qt R x):=by
 unfold qc;rw[gMp,Wm hk (gSi.1 hx).1,oMs,lGd,hx];rfl
theorem qmV{N:Ags}{R:Nat->Bool}(h:W N λu _=>R u=true):W (qc N R) λ_ _=>False:=by
 intro m s q hq _;obtain⟨y,hy,hs⟩:=je.1 hq;obtain⟨k,x,hx,hk,rfl,rfl⟩:=Uz hy;simp only[qt,gMp,oMi]at hs;obtain⟨q0,hq0,rfl⟩:=hs;obtain⟨b,t,rfl,e2,e3,e4⟩:=h k s q0 (je.2 ⟨x,hx,hq0⟩) (by simp[hk]);obtain⟨z,hz,hz2⟩:=je.1 e2;have hb:R b=false:=by simpa using e3
 refine⟨qT R b,t,by simp[pt],je.2 ⟨_,Wn hz hb, ?_⟩,id, ?_⟩
 ·simp only[qt,gMp,hz2,oMs];simp[pt]
 ·rintro⟨q1,rfl⟩;have f1:=Wm hb (n:=max b k+1) (by omega);have f2:=Wm hk (n:=max b k+1) (by omega);rw[q1,f2]at f1;exact e4 ⟨(Option.some.inj f1).symm,rfl⟩
theorem qnY{R:Nat->Bool}{x:qB}:jP (qt R x)=jP x:=by simp[jP,qt]
theorem qmW{N:Ags}{R:Nat->Bool}(hw:W N λu _=>R u=true)(h1:∀(k:Nat)(x:qB),N[k]?=some x->R k=false->qe x=true/\(x.Kind=1↔k=0))(h0:R 0=false)(hl:0<N.length)(h4:qT R N.length<=600):zA ⟨qc N R⟩=true:=by
 refine qmG (λy hy=>?_) (λm hm=>?_) ?_ (by simpa[QG]using h4) (qmV hw)
 ·obtain⟨m,hm,e⟩:=List.getElem_of_mem hy;obtain⟨k,x,hx,hk,_,rfl⟩:=Uz (gSi.2 ⟨hm,e⟩);rw[Vb qnY];exact(h1 k x hx hk).1
 ·obtain⟨k,x,hx,hk,e,e2⟩:=Uz (gEg hm);have:(qc N R)[m].Kind=x.Kind:=by rw[e2];rfl
  simp only at this|-;rw[this,(h1 k x hx hk).2,<-e];constructor
  ·rintro rfl;rfl
  ·intro q;rcases Nat.eq_zero_or_pos k with w | w
   ·exact w
   ·have:=XP (R:=R) (n:=1) (m:=k) (by omega);rw[show qT R 1=1 by rw[jO,h0];rfl]at this;omega
 ·simp only[QG];have:=XP (R:=R) (n:=1) (m:=N.length) (by omega);rw[show qT R 1=1 by rw[jO,h0];rfl]at this;exact this
def w32(x:Int):Int:=IntKind.i64.wrap (IntKind.i32.wrap (IntKind.u32.wrap (IntKind.u64.wrap x)))
def opI(k a b:Int):Int:=
 if k=1 then w32 (IntKind.i64.wrap (w32 a+w32 b))else if k=2 then w32 (IntKind.i64.wrap (w32 a-w32 b))else if k=3 then w32 (IntKind.i64.wrap (w32 a*w32 b))
 else if k=4 then(if w32 b=0 then 0 else w32 (IntKind.i64.wrap ((w32 a).tdiv (w32 b))))else if k=5 then(if w32 a<w32 b then 1 else 0)else if k=6 then(if w32 a=w32 b then 1 else 0)else 0
theorem qgI(x:Int):w32 x=IntKind.i64.wrap (IntKind.i32.wrap x):=by
 unfold w32;congr 1;simp only[IntKind.wrap,IntKind.bits,IntKind.signed];simp
theorem XL{x:Int}:Pure Gm 1125 [iI x] (iI (w32 x)):=by
 refine pJ Kj ?_;simp only[Kj,qM,go_sem];exact qO rfl rfl
theorem qa9{b:Bool}:Pure Gm 1126 [.bool b] (iI (if b then 1 else 0)):=by
 refine pJ Kk ?_;simp only[Kk,qM,go_sem];apply qI<;>intro hc<;>simp only[hc,go_sem]
 ·exact qO rfl rfl
 ·exact qO rfl rfl
theorem c762{k a b:Int}:Pure Gm 762 [iI k,iI a,iI b] (iI (opI k a b)):=by
 refine pJ F762 ?_;simp only[F762,qM,go_sem];refine qL XL ?_;simp only[go_sem];refine qL XL ?_;simp only[go_sem];unfold opI;apply qI<;>intro hc<;>simp only[hc,go_sem]
 ·rw[if_pos (odT hc)];refine qL XL ?_;simp only[go_sem];exact qO rfl rfl
 rw[if_neg (odF hc)];apply qI<;>intro hc<;>simp only[hc,go_sem]
 ·rw[if_pos (odT hc)];refine qL XL ?_;simp only[go_sem];exact qO rfl rfl
 rw[if_neg (odF hc)];apply qI<;>intro hc<;>simp only[hc,go_sem]
 ·rw[if_pos (odT hc)];refine qL XL ?_;simp only[go_sem];exact qO rfl rfl
 rw[if_neg (odF hc)];apply qI<;>intro hc<;>simp only[hc,go_sem]
 ·rw[if_pos (odT hc)];apply qI<;>intro hc<;>simp only[hc,go_sem]
  ·rw[if_pos (odT hc)];exact qO rfl rfl
  rw[if_neg (odF hc)];have hq:=odF hc;simp only[if_neg hq,go_sem];refine qL XL ?_;simp only[go_sem];exact qO rfl rfl
 rw[if_neg (odF hc)];apply qI<;>intro hc<;>simp only[hc,go_sem]
 ·rw[if_pos (odT hc)];refine qL qa9 ?_;simp only[go_sem];exact qO rfl (by simp)
 rw[if_neg (odF hc)];apply qI<;>intro hc<;>simp only[hc,go_sem]
 ·rw[if_pos (odT hc)];refine qL qa9 ?_;simp only[go_sem];exact qO rfl (by simp)
 rw[if_neg (odF hc)];exact qO rfl rfl
theorem Vp{b:Bool}:Pure Gm 566 [.bool b] (iI (if b then 1 else 0)):=by
 refine pJ F566 ?_;simp only[F566,qM,go_sem];apply qI<;>intro hc<;>simp only[hc,go_sem]
 ·exact qO rfl rfl
 ·exact qO rfl rfl
theorem XM{x:Int}:Pure Gm 1400 [iI x] (iI (w32 x)):=by
 refine pJ qAC ?_;simp only[qAC,qM,go_sem];exact qO rfl (by rw[qgI])
theorem qhI{k a b:Int}:Pure Gm 1118 [iI k,iI a,iI b] (iI (opI k a b)):=by
 refine pJ Ki ?_;simp only[Ki,qM,go_sem];refine qL XM ?_;simp only[go_sem];refine qL XM ?_;simp only[go_sem];unfold opI;apply qI<;>intro hc<;>simp only[hc,go_sem]
 ·rw[if_pos (odT hc)];refine qL XM ?_;simp only[go_sem];exact qO rfl rfl
 rw[if_neg (odF hc)];apply qI<;>intro hc<;>simp only[hc,go_sem]
 ·rw[if_pos (odT hc)];refine qL XM ?_;simp only[go_sem];exact qO rfl rfl
 rw[if_neg (odF hc)];apply qI<;>intro hc<;>simp only[hc,go_sem]
 ·rw[if_pos (odT hc)];refine qL XM ?_;simp only[go_sem];exact qO rfl rfl
 rw[if_neg (odF hc)];apply qI<;>intro hc<;>simp only[hc,go_sem]
 ·rw[if_pos (odT hc)];apply qI<;>intro hc<;>simp only[hc,go_sem]
  ·rw[if_pos (odT hc)];exact qO rfl rfl
  rw[if_neg (odF hc)];have hq:=odF hc;simp only[if_neg hq,go_sem];refine qL XM ?_;simp only[go_sem];exact qO rfl rfl
 rw[if_neg (odF hc)];apply qI<;>intro hc<;>simp only[hc,go_sem]
 ·rw[if_pos (odT hc)];refine qL Vp ?_;simp only[go_sem];exact qO rfl (by simp)
 rw[if_neg (odF hc)];apply qI<;>intro hc<;>simp only[hc,go_sem]
 ·rw[if_pos (odT hc)];refine qL Vp ?_;simp only[go_sem];exact qO rfl (by simp)
 rw[if_neg (odF hc)];exact qO rfl rfl
theorem qmK{k a b:Int}: -2147483648<=opI k a b/\opI k a b<=2147483647:=by
 have hw:∀n:Int,-2147483648<=w32 n/\w32 n<=2147483647:=λn=>by
  have h3: -2147483648<=IntKind.i32.wrap n/\IntKind.i32.wrap n<=2147483647:=by
   simp only[IntKind.wrap,IntKind.bits,IntKind.signed,Bool.true_and,dTe,Nat.reduceSub,Int.reducePow,ge_iff_le];split<;>constructor<;>omega
  rw[qgI,wsA];exact h3
 unfold opI
 repeat' split
 all_goals first
  | exact hw _
  | omega
theorem Q3{ka la kb lb:Int}:(zK ka la kb lb=1->ka=2/\kb=3)/\(zK ka la kb lb=2->ka=4/\kb=4)/\(zK ka la kb lb=3->ka=4)/\(zK ka la kb lb=4->ka=5)/\(zK ka la kb lb=5->ka=6/\(kb=7\/kb=8))/\
  (zK ka la kb lb=6->(ka=6/\kb=11)\/(ka=9/\kb=10))/\(zK ka la kb lb=7->ka=12/\Wa kb=true)/\0<=zK ka la kb lb/\zK ka la kb lb<=7:=by
 unfold zK
 repeat' split
 all_goals (simp_all<;>omega)
theorem zi{x:qB}(h:qe x=true):(x.Ports.length:Int)=wl x.Kind (fieldsOf x)/\0<x.Ports.length:=by
 unfold qe at h;simp only[bAt,dTe]at h;omega
theorem Ut{x:qB}(h:qe x=true)(hk:x.Kind=5\/x.Kind=6\/x.Kind=12):x.Ports.length=1:=by
 have:=(zi h).1;unfold fieldsOf wl at this;rcases hk with e | e | e<;>rw[e]at this<;>simp at this<;>omega
theorem Qy{x:qB}(h:qe x=true)(hk:x.Kind=8\/x.Kind=10\/x.Kind=11):x.Ports.length=2:=by
 have:=(zi h).1;unfold fieldsOf wl at this;rcases hk with e | e | e<;>rw[e]at this<;>simp at this<;>omega
theorem jn{x:qB}(h:qe x=true)(hk:x.Kind=2\/x.Kind=3\/x.Kind=4\/x.Kind=7):x.Ports.length=3:=by
 have:=(zi h).1;unfold fieldsOf wl at this;rcases hk with e | e | e | e<;>rw[e]at this<;>simp at this<;>omega
theorem Xq{x:qB}(h:qe x=true):x.Ports.length<=4:=by
 have h1:=(zi h).1;have:wl x.Kind (fieldsOf x)<=4:=by
  unfold wl;split
  ·split
   ·rename_i q;rw[zP]at q;omega
   ·omega
  ·split
   ·omega
   ·repeat' split
    all_goals omega
 omega
theorem qBS{x y:qB}(hx:qe x=true)(hy:qe y=true)(k1:x.Kind≠1)(k2:y.Kind≠1)(hf:zY x.Kind x.Level y.Kind y.Level≠2)(h8:qN x y≠8):
  zK x.Kind x.Level y.Kind y.Level=qN x y/\qN x y≠0/\¬(x.Kind=9/\y.Kind=10/\(y.Data.length:Int)<=x.Value):=by
 have e:=qbP hx hy hf;have n1:¬(x.Kind=9/\y.Kind=10/\(y.Data.length:Int)<=x.Value):=λq=>h8 (by rw[e,if_pos q]);rw[if_neg n1]at e;have hp:jt x.Kind x.Level y.Kind y.Level=true:=by unfold jt;simp[QE hx,QE hy,k1,k2]
 unfold jK at e;rw[if_pos hp]at e;unfold zY at hf;rw[if_pos hp]at hf;by_cases q:zK x.Kind x.Level y.Kind y.Level≠0
 ·rw[if_pos q]at e;exact⟨e.symm,by rw[e];exact q,n1⟩
 ·rw[if_neg q]at hf e;by_cases q2:zK y.Kind y.Level x.Kind x.Level≠0
  ·rw[if_pos q2]at hf;exact absurd rfl hf
  ·rw[if_neg q2]at e;exact absurd e h8
def ZK(N:Ags)(t:qD)(lev:Int)(b:Nat):Ags:=ze (jI N t lev) (pt (N.length-1+(zy t.Agents (pt 0 0)).Agent.toNat) (zy t.Agents (pt 0 0)).Slot.toNat) (pt b 0)
def J4(x y:qB):Int:=if x.Value≠0 then y.Data.getD 0 0 else y.Data.getD 1 0
def qz(bk:List qD)(N:Ags)(a b:Nat)(x y:qB):Ags:=
 if qN x y=1\/qN x y=2 then Xa N a b else if qN x y=3 then Ql N a b x y else if qN x y=4 then jp b (y.Ports.length-1) N
 else if qN x y=5 then(if y.Kind=8 then Xr (opI y.Value (y.Data.getD 0 0) x.Value) N b else WA N b x y)
 else if qN x y=6 then(if y.Kind=11 then Xw y.Level (J4 x y) N b else ZE y.Level (y.Data.getD x.Value.toNat 0) N a b (x.Ports.length-1))
 else ZK N (zQ bk x.Value) x.Level b
def wJ(c:Int)(a b:Nat)(u:Nat):Bool:=decide (u=a) || (decide (c≠7)&&decide (u=b))
def ZS(bk:List qD)(n:Nat)(x y:qB):Ags:=
 if qN x y=1\/qN x y=2 then []else if qN x y=3 then [qS y.Kind y.Level y.Value y.Data y.Ports.length,qS y.Kind y.Level y.Value y.Data y.Ports.length]++List.replicate (y.Ports.length-1) (qS 4 x.Level 0 [] 3)
 else if qN x y=4 then List.replicate (y.Ports.length-1) (qS 5 0 0 [] 1)
 else if qN x y=5 then(if y.Kind=8 then [qS 6 0 (opI y.Value (y.Data.getD 0 0) x.Value) [] 1]else [qS 8 y.Level y.Value [x.Value] 2])
 else if qN x y=6 then(if y.Kind=11 then [qS 12 y.Level (J4 x y) [] 1]else qS 12 y.Level (y.Data.getD x.Value.toNat 0) [] 1::List.replicate (x.Ports.length-1) (qS 3 y.Level 0 [] 3))
 else((zQ bk x.Value).Agents.drop 1).map (zE x.Level ((n:Int)-1))
theorem WM(bk:List qD)(N:Ags)(a b:Nat)(x y:qB):SameA (N++ZS bk N.length x y) (qz bk N a b x y):=by
 unfold qz ZS;split
 ·simp only[lAn];exact(JF _ _ _).trans (JF _ _ _)
 split
 ·have:=(ZI (N:=N) (x:=x) (y:=y)).trans (WW (N:=N) (a:=a) (b:=b) (i:=y.Ports.length-1));unfold wK at this;simpa[Ql]using this
 split
 ·exact XS
 split
 ·split
  ·exact JK _ _ _
  ·exact ZU.trans (JK _ _ _)
 split
 ·split
  ·exact JK _ _ _
  ·have:=(YO (lev:=y.Level) (v:=y.Data.getD x.Value.toNat 0) (N:=N) (a:=a) (i:=x.Ports.length-1)).trans (JK _ (pt b 1) (J7 N.length (x.Ports.length-1)));unfold zC at this;simpa[ZE]using this
 ·exact zo _ _ _
theorem ql2{y:qB}:jP (qS y.Kind y.Level y.Value y.Data y.Ports.length)=jP y:=by simp[jP,qS]
theorem qeC{k l v:Int}(hk:k=5\/k=6\/k=12)(hl:wB k l=true)(hc:z6 (qS k l v [] 1)=true):qe (qS k l v [] 1)=true:=by
 unfold qe;rw[hc];simp only[qS,hl,Bool.and_true,fieldsOf,wl,lLr];rcases hk with e | e | e<;>subst e<;>simp
theorem qeD{k l:Int}(hk:k=3\/k=4)(hl:wB k l=true):qe (qS k l 0 [] 3)=true:=by
 unfold qe;have:z6 (qS k l 0 [] 3)=true:=by unfold z6 qS;rcases hk with e | e<;>subst e<;>simp
 rw[this];simp only[qS,hl,Bool.and_true,fieldsOf,wl,lLr];rcases hk with e | e<;>subst e<;>simp
theorem ZT{x:qB}(h:qe x=true):z6 x=true:=by unfold qe at h;simp only[bAt]at h;exact h.2
theorem qaL{p:Int->Bool}{xs:List Int}(h:xs.all p=true){i:Nat}(hi:i<xs.length):p (xs.getD i 0)=true:=by
 rw[lGd,gEg hi];exact lAt.1 h _ (gMm hi)
theorem qeE{l v:Int}(hl:inI l 0 8=true)(hv:wU v=true):qe (qS 12 l v [] 1)=true:=
 qeC (.inr (.inr rfl)) (by unfold wB;rw[if_pos (by decide)];exact hl) (by unfold z6 qS;simp[hv])
theorem qDD{x:qB}(h:qe x=true)(hk:wz x.Kind=true):inI x.Level 0 8=true:=by have:=QE h;unfold wB at this;rwa[if_pos hk]at this
theorem qmH{z:qB}{lev base:Int}(h:qe z=true)(h1:wz z.Kind=true->inI (z.Level+lev) 0 8=true):qe (zE lev base z)=true:=by
 unfold qe at*;have e1:fieldsOf (zE lev base z)=fieldsOf z:=by unfold fieldsOf zE;simp
 have e2:z6 (zE lev base z)=z6 z:=by unfold z6 zE;rfl
 rw[e1,e2];simp only[zE,lMp];simp only[bAt]at h|-;refine⟨⟨h.1.1, ?_⟩,h.2⟩;unfold wB at*;by_cases q:wz z.Kind=true
 ·rw[if_pos q,if_pos q];exact h1 q
 ·rw[if_neg q,if_neg q];have:=h.1.2;rwa[if_neg q]at this
theorem qDF{y:qB}(h:qe y=true)(hk:y.Kind=11):y.Data.length=2/\y.Data.all wU=true:=by
 have:=ZT h;unfold z6 at this;rw[hk]at this;simp at this;exact⟨by omega,by simpa using this.2⟩
theorem qmE{y:qB}(h:qe y=true)(hk:y.Kind=10):y.Data.all wU=true:=by
 have:=ZT h;unfold z6 at this;rw[hk]at this;simp at this;simpa using this.2
theorem qmF{x:qB}(h:qe x=true)(hk:x.Kind=6):inI x.Value (-2147483648) 2147483647=true:=by
 have:=ZT h;unfold z6 at this;rw[hk]at this;simp at this;exact this.2
theorem qDC{x:qB}(h:qe x=true)(hk:x.Kind=9):inI x.Value 0 3=true:=by
 have:=ZT h;unfold z6 at this;rw[hk]at this;simp at this;exact this.2
theorem qDE{x:qB}(h:qe x=true)(hk:x.Kind=12):wU x.Value=true:=by
 have:=ZT h;unfold z6 at this;rw[hk]at this;simp at this;exact this.2
structure Hol(R:Nat->Bool)(N:Ags):Prop where
 w:W N λu _=>R u=true
 k:∀(k:Nat)(z:qB),N[k]?=some z->R k=false->qe z=true/\(z.Kind=1↔k=0)
 r0:R 0=false
 rl:∀u,R u=true->u<N.length
 l0:0<N.length
 c:qT R N.length<=600
theorem Hol.of{n:qD}(h:zA n=true):Hol (λ_=>false) n.Agents:=
 ⟨(QY h).mono λ_ _ _=>by simp,λk z hz _=>⟨qDB h hz,by
  obtain⟨q1,q2⟩:=gSi.1 hz;have:=qC6 h k q1;rw[q2]at this;exact this⟩,rfl,λ_ e=>(by cases e),Wh h,nLt XO (by unfold zA wc at h;simp only[bAt,zP]at h;omega)⟩
structure zW(R:Nat->Bool)(bk:List qD)(N:Ags)(a b:Nat)(x y:qB):Prop where
 ok:Hol R N
 bo:ju bk=true
 act:Act R N a b x y
 a0:a≠0
 b0:b≠0
 f:zY x.Kind x.Level y.Kind y.Level≠2
 g:(qk bk x y).2=0
 full:(qT R N.length:Int)+(qk bk x y).1<=600
section
variable {R:Nat->Bool} {bk:List qD} {N:Ags} {a b:Nat} {x y:qB}
theorem qEJ(hb:ju bk=true){v:Int}(h0:0<=v)(h:v<bk.length):zA (zQ bk v)=true:=by
 unfold ju at hb;simp only[bAt]at hb;have hv:v.toNat<bk.length:=by omega
 unfold zQ;rw[gEg hv];exact lAt.1 hb.2 _ (gMm hv)
theorem zW.kx(h:zW R bk N a b x y):qe x=true/\x.Kind≠1:=by
 have hx:=h.act.x;have q:=h.ok.k _ _ hx h.act.ra;exact⟨q.1,λe=>h.a0 (q.2.1 e)⟩
theorem zW.ky(h:zW R bk N a b x y):qe y=true/\y.Kind≠1:=by
 have hx:=h.act.y;have q:=h.ok.k _ _ hx h.act.rb;exact⟨q.1,λe=>h.b0 (q.2.1 e)⟩
theorem zW.c8(h:zW R bk N a b x y):qN x y≠8:=λe=>by have:=h.g;unfold qk at this;rw[if_pos e]at this;cases this
theorem zW.rule(h:zW R bk N a b x y):zK x.Kind x.Level y.Kind y.Level=qN x y/\qN x y≠0/\¬(x.Kind=9/\y.Kind=10/\(y.Data.length:Int)<=x.Value):=qBS h.kx.1 h.ky.1 h.kx.2 h.ky.2 h.f h.c8
theorem zW.cls(h:zW R bk N a b x y):1<=qN x y/\qN x y<=7:=by
 obtain⟨e,n0,_⟩:=h.rule;have:=(Q3 (ka:=x.Kind) (la:=x.Level) (kb:=y.Kind) (lb:=y.Level)).2.2.2.2.2.2.2;omega
theorem zW.t7(h:zW R bk N a b x y)(c:qN x y=7):x.Kind=12/\0<=x.Value/\x.Value<bk.length/\zA (zQ bk x.Value)=true/\IntKind.i64.wrap (hiI (zQ bk x.Value).Agents+x.Level)<=8/\Wa y.Kind=true:=by
 obtain⟨e,n0,_⟩:=h.rule;have k:=(Q3 (ka:=x.Kind) (la:=x.Level) (kb:=y.Kind) (lb:=y.Level)).2.2.2.2.2.2.1 (e.trans c);have hv:=qDE h.kx.1 k.1;unfold wU at hv;rw[zP]at hv;have hg:=h.g;unfold qk at hg;rw[if_neg h.c8]at hg;have q1:¬(qN x y=7/\(bk.length:Int)<=x.Value):=λq=>by rw[if_pos q]at hg;cases hg
 rw[if_neg q1]at hg;have q2:¬(qN x y=7/\8<IntKind.i64.wrap (hiI (zQ bk x.Value).Agents+x.Level)):=λq=>by rw[if_pos q]at hg;cases hg
 have h1:x.Value<bk.length:=by omega
 exact⟨k.1,hv.1,h1,qEJ h.bo hv.1 h1,by omega,k.2⟩
theorem zW.gro(h:zW R bk N a b x y):(qk bk x y).1=(jA (qN x y) (jT bk x y (qN x y))).1:=by
 have hg:=h.g;unfold qk at hg|-;rw[if_neg h.c8]at hg|-;split at hg
 ·cases hg
 split at hg
 ·cases hg
 rename_i q1 q2;rw[if_neg q1,if_neg q2]
theorem qc0:∀{xs:Ags}{x:qB},x∈xs->x.Level<=hiI xs:=by
 have key:∀(xs:Ags)(m:Int),m<=xs.foldl (λm x=>if x.Level<m then m else x.Level) m/\∀x∈xs,x.Level<=xs.foldl (λm x=>if x.Level<m then m else x.Level) m:=by
  intro xs
  induction xs with
  | nil=>intro m;exact⟨Int.le_refl _,by simp⟩
  | cons y ys ih=>
   intro m;simp only[List.foldl_cons];have hm:m<=(if y.Level<m then m else y.Level)/\y.Level<=(if y.Level<m then m else y.Level):=by split<;>omega
   obtain⟨h1,h2⟩:=ih (if y.Level<m then m else y.Level);refine⟨Int.le_trans hm.1 h1,λx hx=>?_⟩;rcases List.mem_cons.1 hx with rfl | q
   ·exact Int.le_trans hm.2 h1
   ·exact h2 x q
 intro xs x hx;exact(key xs 0).2 x hx
theorem qcZ{xs:Ags}(h:∀x∈xs,0<=x.Level/\x.Level<=8):0<=hiI xs/\hiI xs<=8:=by
 have key:∀(xs:Ags)(m:Int),0<=m->m<=8->(∀x∈xs,0<=x.Level/\x.Level<=8)->0<=xs.foldl (λm x=>if x.Level<m then m else x.Level) m/\xs.foldl (λm x=>if x.Level<m then m else x.Level) m<=8:=by
  intro xs
  induction xs with
  | nil=>intro m h1 h2 _;exact⟨h1,h2⟩
  | cons y ys ih=>
   intro m h1 h2 h3;have:=h3 y (by simp);have hm:0<=(if y.Level<m then m else y.Level)/\(if y.Level<m then m else y.Level)<=8:=by split<;>omega
   exact ih _ hm.1 hm.2 λx hx=>h3 x (by simp[hx])
 exact key xs 0 (by omega) (by omega) h
theorem QZ{x:qB}(h:qe x=true):0<=x.Level/\x.Level<=8:=by
 have:=QE h;unfold wB at this;split at this
 ·rwa[zP]at this
 ·simp at this;omega
theorem qBZ{α:Type}{xs:List α}{k:Nat}:(xs.drop 1)[k]?=xs[k+1]?:=by rw[gDr,Nat.add_comm]
theorem qd2(h:zW R bk N a b x y):∀z∈ZS bk N.length x y,qe z=true/\z.Kind≠1:=by
 obtain⟨hx,kx⟩:=h.kx;obtain⟨hy,ky⟩:=h.ky;obtain⟨e,n0,n9⟩:=h.rule;obtain⟨r1,r2,r3,r4,r5,r6,r7,r8⟩:=Q3 (ka:=x.Kind) (la:=x.Level) (kb:=y.Kind) (lb:=y.Level);intro z hz;unfold ZS at hz;split at hz
 ·simp at hz
 split at hz
 ·rename_i c;have k4:=r3 (e.trans c);simp only[zu,List.mem_cons,List.mem_nil_iff,or_false,List.mem_replicate,or_self]at hz;rcases hz with rfl | ⟨_,rfl⟩
  ·exact⟨by rw[Vb ql2];exact hy,ky⟩
  ·exact⟨qeD (.inr rfl) (by have:=QE hx;rwa[k4]at this),by simp[qS]⟩
 split at hz
 ·rw[List.mem_replicate]at hz;rw[hz.2];exact⟨by decide,by decide⟩
 split at hz
 ·rename_i c;obtain⟨k6,k78⟩:=r5 (e.trans c);split at hz
  ·simp only[List.mem_cons,List.mem_nil_iff,or_false]at hz;subst hz;refine⟨qeC (.inr (.inl rfl)) (by decide) ?_,by simp[qS]⟩;have:=qmK (k:=y.Value) (a:=y.Data.getD 0 0) (b:=x.Value);unfold z6 qS;simp only[if_true,lNi,inI,bAt,dTe];omega
  ·rename_i k8;have k7:y.Kind=7:=by omega
   simp only[List.mem_cons,List.mem_nil_iff,or_false]at hz;subst hz;have c7:=ZT hy;unfold z6 at c7;rw[k7]at c7;simp at c7;have l7:=qDD hy (by rw[k7];decide);have v6:=qmF hx k6;refine⟨?_,by simp[qS]⟩;unfold qe fieldsOf wl wB z6 qS;simp[l7,v6,c7.2,wz]
 split at hz
 ·rename_i c;have k6:=r6 (e.trans c);split at hz
  ·rename_i k11;simp only[List.mem_cons,List.mem_nil_iff,or_false]at hz;subst hz;obtain⟨d1,d2⟩:=qDF hy k11;exact⟨qeE (qDD hy (by rw[k11];decide)) (by unfold J4;split<;>exact qaL d2 (by omega)),by simp[qS]⟩
  ·rename_i k11;obtain⟨q9,q10⟩:x.Kind=9/\y.Kind=10:=by omega
   have l10:=qDD hy (by rw[q10];decide);have v9:=qDC hx q9;rw[zP]at v9;rcases List.mem_cons.1 hz with rfl | hz
   ·exact⟨qeE l10 (qaL (qmE hy q10) (by omega)),by simp[qS]⟩
   ·rw[List.mem_replicate]at hz;rw[hz.2];exact⟨qeD (.inl rfl) (by unfold wB;rw[if_pos (by decide)];exact l10),by simp[qS]⟩
 ·rename_i c1 c3 c4 c5 c6;have c7:qN x y=7:=by have:=h.cls;omega
  obtain⟨_,_,_,t1,t2,_⟩:=h.t7 c7;rw[List.mem_map]at hz;obtain⟨w,hw,rfl⟩:=hz;have hwm:=List.mem_of_mem_drop hw;have hw1:=JW (Ja t1) w hwm;have hb:=qcZ (xs:=(zQ bk x.Value).Agents) λz hz=>QZ (JW (Ja t1) z hz);have hl:=QZ hx;rw[wsA]at t2;have hg:=qc0 hwm;have hw8:=QZ hw1;refine⟨qmH hw1 λ_=>by rw[zP];omega, ?_⟩;obtain⟨k,hk,e⟩:=List.getElem_of_mem hw;have hk1:k+1<(zQ bk x.Value).Agents.length:=by simp at hk;omega
  have ek:(zQ bk x.Value).Agents[k+1]=w:=by
   have:=gEg hk;rw[qBZ,gEg hk1,e]at this;exact Option.some.inj this
  have:=qC6 t1 (k+1) hk1;rw[ek]at this;show w.Kind≠1;omega
end
section
variable {R:Nat->Bool} {bk:List qD} {N:Ags} {a b:Nat} {x y:qB} {t:qD} {lev:Int}
theorem qDX(ht:zA t=true){z:qB}(hz:t.Agents[0]?=some z):z.Ports.length=1:=by
 obtain⟨q1,q2⟩:=gSi.1 hz;have k:=(qC6 ht 0 q1).2 rfl;rw[q2]at k;have:=(zi (qDB ht hz)).1;unfold fieldsOf wl at this;rw[k]at this;simp at this;omega
theorem qfE(ht:zA t=true):∃c r,zy t.Agents (pt 0 0)=pt (c+1) r/\atP t.Agents 0 0=some (pt (c+1) r)/\atP t.Agents (c+1) r=some (pt 0 0)/\c+1<t.Agents.length:=by
 have h0:=Wh ht;have hz:t.Agents[0]?=some t.Agents[0]:=gEg h0;have hp:=qDX ht hz;obtain⟨c,r,e1,e2,e3,_,e5,e6⟩:=(QY ht).live (a:=0) (s:=0) (jX.2 ⟨_,hz,by omega⟩) id;cases c with
 | zero=>
  have:=e3.in hz;obtain rfl:r=0:=by omega
  exact absurd ⟨rfl,rfl⟩ e6
 | succ c=>exact⟨c,r,e1,e2,e5,Jf e5⟩
theorem WX{k:Nat}:(jI N t lev)[N.length+k]?=(t.Agents[k+1]?).map (zE lev ((N.length:Int)-1)):=by
 unfold jI;rw[gAr (by omega),gMp,Nat.add_sub_cancel_left,qBZ]
theorem qj1{k s c r:Nat}(h:atP t.Agents (k+1) s=some (pt (c+1) r))(hN:0<N.length):atP (jI N t lev) (N.length+k) s=some (pt (N.length+c) r):=by
 obtain⟨z,hz,hs⟩:=je.1 h;refine je.2 ⟨_,by rw[WX,hz];rfl, ?_⟩;simp only[zE,gMp,hs,oMs,pt,oSi,qE.mk.injEq];constructor
 ·push_cast;omega
 ·trivial
theorem qj3{k s:Nat}(h:Has t.Agents (k+1) s):Has (jI N t lev) (N.length+k) s:=by
 obtain⟨z,hz,hs⟩:=jX.1 h;exact jX.2 ⟨_,by rw[WX,hz];rfl,by simpa[zE]using hs⟩
theorem qj0(h:Act R N a b x y)(ht:zA t=true){c r:Nat}(hp:atP t.Agents 0 0=some (pt (c+1) r)):W (jI N t lev) λu v=>R u=true\/(u=N.length+c/\v=r):=by
 have hN:0<N.length:=by have:=h.pr.la;omega
 have wt:=QY ht;intro u s q hq hX;rcases Nat.lt_or_ge u N.length with hu | hu
 ·unfold jI at hq;rw[ZB hu]at hq;obtain⟨b',t',e1,e2,e3,e4⟩:=h.w u s q hq λe=>hX (.inl e);have:=Jf e2;exact⟨b',t',e1,by unfold jI;rw[ZB this];exact e2,by rintro(e | e);exact e3 e;omega,e4⟩
 ·obtain⟨k,rfl⟩:∃k,u=N.length+k:=⟨u-N.length,by omega⟩;obtain⟨z',hz',hs'⟩:=je.1 hq;rw[WX,oMi]at hz';obtain⟨z,hz,rfl⟩:=hz';simp only[zE,gMp,oMi]at hs';obtain⟨q0,hq0,rfl⟩:=hs';have hq1:atP t.Agents (k+1) s=some q0:=je.2 ⟨z,hz,hq0⟩;obtain⟨b',t',rfl,e2,_,e4⟩:=wt (k+1) s q0 hq1 id;cases b' with
  | zero=>
   obtain⟨z0,hz0,ht0⟩:=jX.1 ⟨_,e2⟩;have:=qDX ht hz0;obtain rfl:t'=0:=by omega
   rw[e2]at hp;have:=wP.1 (Option.some.inj hp);exact absurd (.inr ⟨by omega,this.2⟩) hX
  | succ c'=>
   refine⟨N.length+c',t',by simp only[pt,qE.mk.injEq];exact⟨by push_cast;omega,trivial⟩,qj1 e2 hN, ?_,by omega⟩;rintro(e | ⟨e,rfl⟩)
   ·have:=h.rl _ e;omega
   obtain rfl:c'=c:=by omega
   have:=(QY ht) 0 0 _ hp id;obtain⟨b2,t2,f1,f2,_,_⟩:=this;have f3:=wP.1 f1;rw[<-f3.1,<-f3.2,e2]at f2;have:=wP.1 (Option.some.inj f2);omega
theorem Yb(ht:zA t=true)(hN:0<N.length):∃c r,zy t.Agents (pt 0 0)=pt (c+1) r/\atP t.Agents 0 0=some (pt (c+1) r)/\Has (jI N t lev) (N.length+c) r/\ZK N t lev b=ze (jI N t lev) (pt (N.length+c) r) (pt b 0):=by
 obtain⟨c,r,e1,e2,e3,e4⟩:=qfE ht;refine⟨c,r,e1,e2,qj3 ⟨_,e3⟩, ?_⟩;unfold ZK;rw[e1];simp only[pt,iTn];rw[show N.length-1+(c+1)=N.length+c by omega]
theorem qjY(h:Act R N a b x y)(hx:x.Ports.length=1)(ht:zA t=true):W (ZK N t lev b) λu _=>R u=true\/u=a:=by
 have la:=h.pr.la;have lb:=h.pr.lb;obtain⟨c,r,e1,e2,e3,e4⟩:=Yb (N:=N) (b:=b) (lev:=lev) ht (by omega);rw[e4];have hpa:Has N a 0:=⟨_,h.pa⟩;have w:=(qj0 (lev:=lev) h ht e2).move (a:=a) (s:=0) (c:=N.length+c) (k:=r) (by unfold jI;exact hpa.app) e3 (by rw[h.ra];simp;omega) (.inr ⟨rfl,rfl⟩);have ep:zy (jI N t lev) (pt a 0)=pt b 0:=Wr (by unfold jI;rw[ZB la];exact h.pa);unfold zq at w;rw[ep]at w;refine w.mono λu v hb=>?_;have:u=a->v<1:=λe=>by
  subst e;have:=((zo _ _ _).has.2 hb).in (x:=x) (by unfold jI;rw[gAl la];exact h.x);omega
 by_cases hR:R u=true
 ·have:=h.nr hR;simp only[hR,true_or,true_and,iff_true]<;>omega
 ·simp only[hR,false_or,bFt]<;>omega
def z7(R:Nat->Bool)(c:Int)(a b:Nat)(u:Nat):Bool:=R u || wJ c a b u
theorem qgQ(h:zW R bk N a b x y):W (qz bk N a b x y) λu _=>z7 R (qN x y) a b u=true:=by
 obtain⟨e,n0,n9⟩:=h.rule;obtain⟨r1,r2,r3,r4,r5,r6,r7,r8⟩:=Q3 (ka:=x.Kind) (la:=x.Level) (kb:=y.Kind) (lb:=y.Level);have hx:=h.kx.1;have hy:=h.ky.1;have dead:qN x y≠7->∀{M:Ags},W M (JS R a b)->W M λu _=>z7 R (qN x y) a b u=true:=λc M w=>w.mono λu v _=>by unfold JS z7 wJ;simp[c]
 unfold qz;split
 ·rename_i c;refine dead (by omega) (qk1 h.act ?_ ?_)
  ·rcases c with c | c
   ·exact jn hx (.inl (r1 (e.trans c)).1)
   ·exact jn hx (.inr (.inr (.inl (r2 (e.trans c)).1)))
  ·rcases c with c | c
   ·exact jn hy (.inr (.inl (r1 (e.trans c)).2))
   ·exact jn hy (.inr (.inr (.inl (r2 (e.trans c)).2)))
 split
 ·rename_i c;exact dead (by omega) (qjM h.act (jn hx (.inr (.inr (.inl (r3 (e.trans c)))))) (zi hy).2)
 split
 ·rename_i c;exact dead (by omega) (qjW h.act (Ut hx (.inl (r4 (e.trans c)))) (zi hy).2)
 split
 ·rename_i c;have k5:=r5 (e.trans c);have p1:=Ut hx (.inr (.inl k5.1));split
  ·rename_i k8;exact dead (by omega) (qmL h.act p1 (Qy hy (.inl k8)))
  ·rename_i k8;exact dead (by omega) (qmM h.act p1 (jn hy (.inr (.inr (.inr (by omega))))))
 split
 ·rename_i c;have k6:=r6 (e.trans c);split
  ·rename_i k11;exact dead (by omega) (qnU h.act (Ut hx (.inr (.inl (by omega)))) (Qy hy (.inr (.inr k11))))
  ·rename_i k11;exact dead (by omega) (qiE h.act (zi hx).2 (Qy hy (.inr (.inl (by omega)))))
 ·have c7:qN x y=7:=by have:=h.cls;omega
  obtain⟨k12,_,_,t1,_,_⟩:=h.t7 c7;refine(qjY h.act (Ut hx (.inr (.inr k12))) t1).mono λu v _=>?_;unfold z7 wJ;simp[c7]
theorem Vx{a:Nat}:∀{n:Nat},a<n->qT (λu=>decide (u=a)) n+1=n
 | 0,h=>by omega
 | n+1,h=>by
  rw[jO];by_cases e:n=a
  ·subst e;have:∀{m:Nat},m<=n->qT (λu=>decide (u=n)) m=m:=by
    intro m
    induction m with
    | zero=>intro _;rfl
    | succ m ih=>intro hm;rw[jO,ih (by omega),if_neg (by simp;omega)]
   rw[this (nLr _)];simp
  ·rw[if_neg (by simpa using e)];have:=Vx (a:=a) (n:=n) (by omega);omega
theorem qbX{a b:Nat}(hne:a≠b):∀{n:Nat},a<n->b<n->qT (λu=>decide (u=a) || decide (u=b)) n+2=n
 | 0,h,_=>by omega
 | n+1,h1,h2=>by
  rw[jO];have key:∀c d:Nat,c≠d->c=n->d<n->qT (λu=>decide (u=c) || decide (u=d)) n+1=n:=by
   intro c d _ hc hd;subst hc;have:∀{m:Nat},m<=c->qT (λu=>decide (u=c) || decide (u=d)) m=qT (λu=>decide (u=d)) m:=by
    intro m
    induction m with
    | zero=>intro _;rfl
    | succ m ih=>intro hm;rw[jO,jO,ih (by omega)];congr 1;rw[show decide (m=c)=false by simp;omega];simp
   rw[this (nLr _)];exact Vx hd
  by_cases e1:n=a
  ·have:=key a b hne e1.symm (by omega);rw[if_pos (by simp[e1])];omega
  ·by_cases e2:n=b
   ·have:=key b a (Ne.symm hne) e2.symm (by omega);have sw:(λu=>decide (u=a) || decide (u=b))=λu=>decide (u=b) || decide (u=a):=by funext u;rw[Bool.or_comm]
    rw[if_pos (by simp[e2]),sw];omega
   ·have:=qbX hne (n:=n) (by omega) (by omega);rw[if_neg (by simp[e1,e2])];omega
theorem qkF{c:Int}(h:c=1\/c=2):(jA c (jT bk x y c)).1= -2:=by
 rcases h with e | e<;>subst e<;>rfl
theorem gro3(h0:0<y.Ports.length)(h1:y.Ports.length<=4):(jA 3 (jT bk x y 3)).1=(y.Ports.length:Int)-1:=by
 show (jA 3 ((y.Ports.length:Int)-1)).1=_;unfold jA;rw[if_neg (by decide),if_pos rfl,if_pos (by rw[zP];omega)]
theorem gro4(h0:0<y.Ports.length)(h1:y.Ports.length<=4):(jA 4 (jT bk x y 4)).1=(y.Ports.length:Int)-1-2:=by
 show (jA 4 ((y.Ports.length:Int)-1)).1=_;unfold jA;rw[if_neg (by decide),if_neg (by decide),if_pos rfl,if_pos (by rw[zP];omega)]
theorem gro5:(jA 5 (jT bk x y 5)).1= -1:=rfl
theorem gro6(h0:0<=fieldsOf x)(h1:fieldsOf x<=3):(jA 6 (jT bk x y 6)).1=fieldsOf x-1:=by
 show (jA 6 (fieldsOf x)).1=_;unfold jA;rw[if_neg (by decide),if_neg (by decide),if_neg (by decide),if_neg (by decide),if_pos rfl,if_pos (by rw[zP];omega)]
theorem gro7(h0:2<=(zQ bk x.Value).Agents.length)(h1:(zQ bk x.Value).Agents.length<=600):(jA 7 (jT bk x y 7)).1=((zQ bk x.Value).Agents.length:Int)-2:=by
 show (jA 7 ((zQ bk x.Value).Agents.length:Int)).1=_;unfold jA;rw[if_neg (by decide),if_neg (by decide),if_neg (by decide),if_neg (by decide),if_neg (by decide),if_pos rfl,if_pos (by rw[zP];omega)]
theorem qgT(h:zW R bk N a b x y):(qT (wJ (qN x y) a b) (qz bk N a b x y).length:Int)=N.length+(qk bk x y).1:=by
 have la:=h.act.pr.la;have lb:=h.act.pr.lb;obtain⟨e,n0,n9⟩:=h.rule;obtain⟨r1,r2,r3,r4,r5,r6,r7,r8⟩:=Q3 (ka:=x.Kind) (la:=x.Level) (kb:=y.Kind) (lb:=y.Level);have hx:=h.kx.1;have hy:=h.ky.1;have hl:(qz bk N a b x y).length=N.length+(ZS bk N.length x y).length:=by rw[(WM bk N a b x y).len];simp
 have hc:=h.cls;have yp:=Xq hy;have y0:=(zi hy).2;have xp:=Xq hx;have x0:=(zi hx).2;have c2:qN x y≠7->qT (wJ (qN x y) a b) (qz bk N a b x y).length+2=(qz bk N a b x y).length:=λc=>by
  have:wJ (qN x y) a b=λu=>decide (u=a) || decide (u=b):=by funext u;unfold wJ;simp[c]
  rw[this];exact qbX h.act.ne (by omega) (by omega)
 rw[h.gro];unfold ZS at hl;by_cases c:qN x y=1\/qN x y=2
 ·rw[if_pos c]at hl;have:=c2 (by omega);rw[qkF c];simp at hl;omega
 rw[if_neg c]at hl;by_cases c3:qN x y=3
 ·rw[if_pos c3]at hl;have:=c2 (by omega);rw[c3,gro3 y0 yp];simp at hl;rw[c3]at this;omega
 rw[if_neg c3]at hl;by_cases c4:qN x y=4
 ·rw[if_pos c4]at hl;have:=c2 (by omega);rw[c4,gro4 y0 yp];simp at hl;rw[c4]at this;omega
 rw[if_neg c4]at hl;by_cases c5:qN x y=5
 ·rw[if_pos c5]at hl;have:=c2 (by omega);rw[c5,gro5];rw[c5]at this;split at hl<;>simp at hl<;>omega
 rw[if_neg c5]at hl;by_cases c6:qN x y=6
 ·rw[if_pos c6]at hl;have:=c2 (by omega);have k6:=r6 (e.trans c6);rw[c6]at this|-;by_cases k11:y.Kind=11
  ·rw[if_pos k11]at hl;have f0:fieldsOf x=0:=by unfold fieldsOf;rw[if_neg (by omega)]
   rw[gro6 (by omega) (by omega),f0];simp at hl;omega
  ·rw[if_neg k11]at hl;have f0:fieldsOf x=(x.Ports.length:Int)-1:=by unfold fieldsOf;rw[if_pos (by omega)]
   rw[gro6 (by omega) (by omega),f0];simp at hl;omega
 rw[if_neg c6]at hl;have c7:qN x y=7:=by omega
 obtain⟨_,_,_,t1,_,_⟩:=h.t7 c7;have t6:(zQ bk x.Value).Agents.length<=600:=by
  unfold zA wc at t1;simp only[bAt,zP]at t1;omega
 obtain⟨c,r,_,_,_,t2⟩:=qfE t1;have e1:wJ (qN x y) a b=λu=>decide (u=a):=by funext u;unfold wJ;simp[c7]
 rw[e1,c7,gro7 (by omega) t6];have:=Vx (a:=a) (n:=(qz bk N a b x y).length) (by omega);simp at hl;omega
def qEA(bk:List qD)(N:Ags)(a b:Nat)(x y:qB):Ags:=qc (qz bk N a b x y) (wJ (qN x y) a b)
theorem qBT{R P:Nat->Bool}(h:∀u,R u=true->P u=false):∀{n:Nat},qT (λu=>R u || P u) n+n=qT R n+qT P n
 | 0=>rfl
 | n+1=>by
  have:=qBT h (n:=n);rw[jO,jO,jO];cases hR:R n<;>cases hP:P n<;>simp
  ·omega
  ·omega
  ·omega
  ·rw[h n hR]at hP;cases hP
theorem Vy{R:Nat->Bool}{n:Nat}(h:∀u,R u=true->u<n):∀{k:Nat},qT R (n+k)=qT R n+k
 | 0=>rfl
 | k+1=>by
  rw[<-Nat.add_assoc,jO,Vy h (k:=k),if_neg]
  ·omega
  ·intro e;have:=h _ e;omega
theorem qi0(h:Act R N a b x y){c:Int}:∀u,R u=true->wJ c a b u=false:=λu e=>by
 have:=h.nr e;unfold wJ;simp;omega
theorem qgU(h:zW R bk N a b x y):(qT (z7 R (qN x y) a b) (qz bk N a b x y).length:Int)=qT R N.length+(qk bk x y).1:=by
 have h1:=qgT h;have h2:=qBT (qi0 h.act (c:=qN x y)) (n:=(qz bk N a b x y).length);have hl:(qz bk N a b x y).length=N.length+(ZS bk N.length x y).length:=by rw[(WM bk N a b x y).len];simp
 have h3:=Vy h.act.rl (k:=(ZS bk N.length x y).length);rw[<-hl]at h3;unfold z7;omega
theorem qgV(h:zW R bk N a b x y):∀(k:Nat)(z:qB),(qz bk N a b x y)[k]?=some z->R k=false->qe z=true/\(z.Kind=1↔k=0):=by
 intro k z hz hr;have hs:=WM bk N a b x y;have la:=h.act.pr.la;obtain⟨w,hw,e⟩:=hs.back.at hz;have ek:w.Kind=z.Kind:=congrArg Prod.fst e;rw[<-ek,<-Vb e];rcases Nat.lt_or_ge k N.length with q | q
 ·rw[gAl q]at hw;exact h.ok.k _ _ hw hr
 ·rw[gAr q]at hw;have:=qd2 h w (lMo hw);exact⟨this.1,by constructor;(intro k1;exact absurd k1 this.2);(intro k0;omega)⟩
theorem qEC(h:zW R bk N a b x y):Hol (z7 R (qN x y) a b) (qz bk N a b x y):=by
 have la:=h.act.pr.la;have lb:=h.act.pr.lb;have hl:(qz bk N a b x y).length=N.length+(ZS bk N.length x y).length:=by rw[(WM bk N a b x y).len];simp
 refine⟨qgQ h,λk z hz hr=>?_, ?_,λu e=>?_,by omega, ?_⟩
 ·exact qgV h k z hz (by unfold z7 at hr;simp at hr;exact hr.1)
 ·have:=h.a0;have:=h.b0;unfold z7 wJ;rw[h.ok.r0];simp;omega
 ·unfold z7 wJ at e;simp only[Bool.or_eq_true,bAt,dTe]at e;rcases e with e | e | e
  ·have:=h.act.rl u e;omega
  ·omega
  ·omega
 ·have:=qgU h;have:=h.full;omega
theorem qpM(h:Hol R N):zA ⟨qc N R⟩=true:=qmW h.w h.k h.r0 h.l0 h.c
end
section
variable {w:Nat} {post:List AV} {base:Nat->Prop} {nid:Nat} {h:List qC} {N:Ags} {K:AV->List qC->Prop} {a b s c k:Nat} {x y:qB} {X:Nat->Nat->Prop}
theorem qiZ{n:Nat}{o:qC}:(J3 n++[o])[n]?=some o:=by
 have:(J3 n).length=n:=by simp[J3]
 rw[gAr (by omega),this,nSs];rfl
theorem s837{id q:Nat}{el:List AV}(ho:h[id]?=some (.row 5 el true))(he:el[k]?=some (encR x q))(hq:h[q]?=some (.row 2 (x.Ports.map qE.enc) true))(h0:0<x.Ports.length)(hz:x.sz<=1048576)(hK:∀ex,K x.enc (h++ex)):SCall Gm 837 [.ptr id k 0] h K:=by
 unfold qB.sz at hz;refine SCall.tree [] [] (gk _ YF) (by kernel_rfl) rfl (qB.tr (x:=x)) ?_ hK;simp only[YF,qM,go_sem,ho,he,nZa];refine qL (c402 x.Data (by omega)) ?_;simp only[go_sem];rw[Qe h0];refine qaR (Els.row hq (by simp)) (by simp;omega) ?_;simp only[go_sem];refine qi (k:=5) (by rfl) (by rfl) (by exact⟨_,rfl⟩) (by decide) ?_;simp only[go_sem];refine FinT.of (Yd (.agg rfl ?_));refine JD (.refl rfl) (JD (.refl rfl) (JD (.refl rfl) (JD (.refl ?_) (JD (Cv.row qiZ ?_ (qa qE.isSh.tree _) (by decide)) (λp hp=>by simp at hp)))))
 ·simp[AV.tree,qa shI.tree]
 ·simp
theorem qD4(hN:NE w post base nid h N)(hx:N[k]?=some x)(h0:0<x.Ports.length)(hz:x.sz<=1048576):∃aid,(∀K,(∀ex,K x.enc (h++ex))->SCall Gm 837 [.ptr aid k 0] h K)/\h[nid]?=some (.row w [.agg (sQ 5 aid N.length::post)] true):=by
 obtain⟨aid,ps,hN⟩:=hN;obtain⟨q,hq,ha,hr,_⟩:=hN.at hx h0;exact⟨aid,λK hK=>s837 hN.a ha hr h0 hz hK,hN.o⟩
theorem Wy{kk lv v:Int}{n:Nat}(hN:NE w post base nid h N)(hn:n<=1048576)(hl:N.length<=1048576)
  (hK:∀h',NE w post base nid h' (N++[qS kk lv v [] n])->Keep base h h'->K (iI (N.length:Nat)) h') (h0:0<n:=by omega):SCall Gm 949 [.ptr nid 0 0,iI kk,iI lv,iI v,.nils,iI (n:Nat)] h K:=
 SCall.arg (Wks.same (Wks.same (Wks.same (Wks.same (.cons .nilL (Wks.same .nil)))))) (KI (d:=[]) hN (by simp) hn hl hK h0)
theorem NE.rd(hN:NE w post base nid h N)(hx:N[k]?=some x):∃aid ps q,NA w post base nid aid ps h N/\h[nid]?=some (.row w [.agg (sQ 5 aid N.length::post)] true)/\h[aid]?=some (.row 5 (zB N ps) true)/\(zB N ps)[k]?=some (encR x q):=by
 obtain⟨aid,ps,hN⟩:=hN;have hk:k<ps.length:=by rw[hN.l];exact qR hx
 exact⟨aid,ps,ps[k],hN,hN.o,hN.a,Qm hx (gEg hk)⟩
theorem qoF(hP:Pr N a b x y X)(hN:NE w post base nid h N)(hx:x.Ports.length=3)(hy:0<y.Ports.length)(hz:y.sz<=1000)(hl:N.length<=10000)
  (hK:∀h',NE w post base nid h' (Ql N a b x y)->Keep base h h'->K (.tup []) h'):SCall Gm 1299 [.ptr nid 0 0,iI (a:Nat),iI (b:Nat)] h K:=by
 have la:=hP.la;have lb:=hP.lb;have hz':=hz;unfold qB.sz at hz';refine sI kD ?_;simp only[kD,qM,go_sem];obtain⟨aid,ps,q,_,o1,o2,o3⟩:=hN.rd hP.x;simp only[o1,zH la,o2,o3,go_sem];obtain⟨aid',f837,o4⟩:=qD4 hN hP.y hy (by omega);rw[o1]at o4;cases o4;simp only[zH lb,go_sem];refine qU (f837 _ λex=>?_);simp only[go_sem];refine qi (k:=5) (by rfl) (by simp only[go_sem]) ⟨_,rfl⟩ (by decide) ?_;simp only[go_sem];have hbl:=hN.bl;have k0:Keep base h (h++ex):=Keep.app hbl;refine qU (KI (hN.app ex) (by omega) (by omega) (by omega) λh1 n1 k1=>?_);simp only[go_sem];refine qU (KI n1 (by omega) (by omega) (by simp;omega) λh2 n2 k2=>?_);rw[show (N++[qS y.Kind y.Level y.Value y.Data y.Ports.length]).length=N.length+1 by simp];simp only[go_sem];refine Sem.loop (α:=Nat×List qC) (λq=>q.1+1<=y.Ports.length/\NE w post base nid q.2 (zG N x y q.1)/\Keep base h q.2)
  (λq=>(⟨[(0,.ptr nid 0 0),(1,iI (a:Nat)),(2,iI (b:Nat)),(6,iI x.Level),(8,iI (y.Ports.length:Nat)),(9,iI (N.length:Nat)),(10,iI (N.length+1:Nat)),(11,iI ((q.1+1:Nat):Int))],[],q.2⟩:VSt)) (λq=>y.Ports.length-q.1) (0,h2) (by kernel_rfl)
  ⟨by simp only;omega,n2,k0.trans (k1.trans k2)⟩ csA ?_
 rintro⟨i,g⟩ ⟨hi,hn,hk⟩;simp only at hi hn hk;simp only[go_sem];have hg:(zG N x y i).length=N.length+2+i:=qB2;apply qI<;>intro hc<;>simp only[hc,go_sem]
 ·have hlt:i+1<y.Ports.length:=by have:=odT hc;omega
  clear hc;refine qU (Wy (n:=3) hn (by omega) (by omega) λg1 m1 j1=>?_);simp only[go_sem];have f1:Has (zG N x y i++[qS 4 x.Level 0 [] 3]) (zG N x y i).length 1:=zd (by omega);have f2:Has (zG N x y i++[qS 4 x.Level 0 [] 3]) (zG N x y i).length 2:=zd (by omega);have c1:Has (zG N x y i++[qS 4 x.Level 0 [] 3]) N.length (i+1):=(Qk (by omega)).1.app;have c2:Has (zG N x y i++[qS 4 x.Level 0 [] 3]) (N.length+1) (i+1):=(Qk (by omega)).2.app;refine qL zS ?_;simp only[go_sem];refine qL zS ?_;simp only[go_sem];refine qU (X3 (s:=1) (k:=i+1) m1 f1 c1 λg2 m2 j2=>?_);simp only[go_sem];refine qL zS ?_;simp only[go_sem];refine qL zS ?_;simp only[go_sem];refine qU (X3 (s:=2) (k:=i+1) m2 (f2.same (zo _ _ _)) (c2.same (zo _ _ _)) λg3 m3 j3=>?_);simp only[go_sem,wuA (n:=i+1)];refine qb (i+1,g3) ⟨by simp only;omega,m3,hk.trans (j1.trans (j2.trans j3))⟩ (by simp only;omega) csA
 ·have hlt:i=y.Ports.length-1:=by have:=odF hc;omega
  clear hc;subst hlt;have w0:=V8 (x:=x) hP hy;have w1:=UA hP hx hy;have w2:=qB3 hP hx hy;have a1:Has (zG N x y (y.Ports.length-1)) a 1:=J5 (hP.ax (by omega));have a2:Has (Zk N a x y) a 2:=(J5 (hP.ax (by omega))).same Zl;refine qL zS ?_;simp only[go_sem];refine qL zS ?_;simp only[go_sem];refine qU (Qf (s:=1) (k:=0) hn a1 (Qk hy).1 (w0.peer a1 (by rintro(q | q);exact hP.nx (by omega) q.1;omega)) λg1 m1 j1=>?_);simp only[go_sem];refine qL zS ?_;simp only[go_sem];refine qL zS ?_;simp only[go_sem];refine qU (Qf (s:=2) (k:=0) m1 a2 ((Qk hy).2.same Zl) (w1.peer a2 (by rintro(q | q | q);exact hP.nx (by omega) q.1;omega;omega)) λg2 m2 j2=>?_);simp only[go_sem];refine Sem.loop (α:=Nat×List qC) (λq=>q.1+1<=y.Ports.length/\NE w post base nid q.2 (QP N a b x y q.1)/\Keep base h q.2)
   (λq=>(⟨[(0,.ptr nid 0 0),(2,iI (b:Nat)),(8,iI (y.Ports.length:Nat)),(10,iI (N.length+1:Nat)),(13,iI ((q.1+1:Nat):Int))],[],q.2⟩:VSt)) (λq=>y.Ports.length-q.1) (0,g2) (by kernel_rfl)
   ⟨by simp only;omega,m2,hk.trans (j1.trans j2)⟩ csA ?_
  clear hn hk m1 m2 j1 j2 hg hi;rintro⟨i,g⟩ ⟨hi,hn,hk⟩;simp only at hi hn hk;simp only[go_sem];apply qI<;>intro hc<;>simp only[hc,go_sem]
  ·have hlt:i+1<y.Ports.length:=by have:=odT hc;omega
   clear hc;have b1:Has (QP N a b x y i) b (i+1):=(J5 (hP.by' (by omega))).same WW;have b2:=V9 (N:=N) (x:=x) (y:=y) (i:=y.Ports.length-1) (j:=i) (s:=0) (by omega) (by omega);rw[show N.length+2+i=N.length+1+(i+1) by omega]at b2;have b3:Has (QP N a b x y i) (N.length+1+(i+1)) 0:=b2.same WW;refine qL zS ?_;simp only[go_sem];have e1:IntKind.i64.wrap (((N.length+1:Nat):Int)+((i+1:Nat):Int))=((N.length+1+(i+1):Nat):Int):=by rw[wsA];omega
   simp only[e1];refine qL zS ?_;simp only[go_sem];refine qU (Qf (s:=i+1) (k:=0) hn b1 b3 ((qB4 hP hx hy (i:=i) (by omega)).peer b1 (by rintro(⟨(q | q | q),_⟩ | q);exact hP.nx (by omega) q.1;omega;exact hP.ne q.1.symm;omega)) λg1 m1 j1=>?_);simp only[go_sem,wuA (n:=i+1)];refine qb (i+1,g1) ⟨by simp only;omega,m1,hk.trans j1⟩ (by simp only;omega) csA
  ·have hlt:i=y.Ports.length-1:=by have:=odF hc;omega
   subst hlt;exact hK _ hn hk
end
section
variable {w:Nat} {post:List AV} {base:Nat->Prop} {nid:Nat} {h:List qC} {N:Ags} {K:AV->List qC->Prop} {a b s c k:Nat} {x y:qB} {X:Nat->Nat->Prop}
theorem Keep.wo{b:Nat->Prop}{h h':List qC}{ids:List Nat}(hk:Keep b h h')(hi:∀i∈ids,¬b i):Keep b h (without ids h'):=
 ⟨by rw[QI];exact hk.l,λj hj=>by rw[Jz (λq=>hi j q hj)];exact hk.k j hj⟩
theorem qoW{kk lv v d:Int}{n:Nat}(hN:NE w post base nid h N)(hn:n<=1048576)(hl:N.length<=1048576)
  (hK:∀h',NE w post base nid h' (N++[qS kk lv v [d] n])->Keep base h h'->K (iI (N.length:Nat)) h') (h0:0<n:=by omega):
  SCall Gm 949 [.ptr nid 0 0,iI kk,iI lv,iI v,sQ 1 h.length 1,iI (n:Nat)] (h++[.row 1 [iI d] true]) K:=by
 have hbl:=hN.bl;have hk:Keep (Lo h.length) h (without [h.length] (h++[.row 1 [iI d] true])):=(Keep.app (λ_ q=>q)).wo (by simp[Lo]);refine SCall.giveH [h.length] (vs':=[.ptr nid 0 0,iI kk,iI lv,iI v,.lst 1 ([d].map qP) false,iI (n:Nat)]) ?_ (KI (d:=[d]) (hN.keep hk) (by simp) hn hl λh' n1 k1=>hK h' n1 ((hk.up hbl).trans k1));refine HCv.list (.same _) (HCv.list (.same _) (HCv.list (.same _) (HCv.list (.same _) (HCv.list (.cv (Cv.row (by rw[Qb (by simp)];simp[qP]) rfl rfl (by decide)) rfl) (HCv.list (.same _) (HCv.refls []))))))
theorem Zj{y:qB}{i:Nat}(h:i<y.Data.length):(y.Data.map qP)[i]?=some (iI (y.Data.getD i 0)):=by
 rw[gMp,lGd,gEg h];rfl
theorem qB6{q:Nat}(hr:0<x.Ports.length->h[q]?=some (.row 2 (x.Ports.map qE.enc) true)):Cv h (encR x q) x.enc:=by
 rcases Nat.eq_zero_or_pos x.Ports.length with e | e
 ·rw[qjR e];exact .refl qB.tr
 have hr:=hr e;unfold encR;rw[Qe e];exact .agg rfl (JD (.refl rfl) (JD (.refl rfl) (JD (.refl rfl) (JD (.refl (by simp only[AV.tree];exact qa shI.tree _)) (JD (Cv.row hr (by simp) (qa qE.isSh.tree _) (by decide)) (λp hp=>by simp at hp))))))
theorem NA.cva{aid:Nat}{ps:List Nat}(hN:NA w post base nid aid ps h N)(hx:N[k]?=some x):Cv h (.ptr aid k 0) (.ept x.enc 0):=by
 have hk:k<ps.length:=by rw[hN.l];exact qR hx
 exact .ptr hN.a (by decide) (Qm hx (gEg hk)) (qB6 (hN.p k x _ hx (gEg hk)))
theorem qoG(hP:Pr N a b x y X)(hN:NE w post base nid h N)(h8:y.Kind=8->y.Ports.length=2/\0<y.Data.length)(h7:y.Kind≠8->y.Ports.length=3)(hz:y.sz<=1000)(hl:N.length<=10000)
  (hK:∀h',NE w post base nid h' (if y.Kind=8 then Xr (opI y.Value (y.Data.getD 0 0) x.Value) N b else WA N b x y)->Keep base h h'->K (.tup []) h'):SCall Gm 1301 [.ptr nid 0 0,iI (a:Nat),iI (b:Nat)] h K:=by
 have la:=hP.la;have lb:=hP.lb;have hz':=hz;unfold qB.sz at hz';have hbl:=hN.bl;refine sI kF ?_;simp only[kF,qM,go_sem];obtain⟨aid',f837,o4⟩:=qD4 hN hP.y (by omega) (by omega);simp only[o4,zH lb,go_sem];refine qU (f837 _ λex=>?_);simp only[go_sem];refine qi (k:=5) (by rfl) (by simp only[go_sem]) ⟨_,rfl⟩ (by decide) ?_;simp only[go_sem];have hN1:=hN.app ex;have k0:Keep base h (h++ex):=Keep.app hbl;generalize h++ex=h1 at hN1 k0|-;obtain⟨aid,ps,q,_,o1,o2,o3⟩:=hN1.rd hP.x;simp only[o1,zH la,o2,o3,go_sem];apply qI<;>intro hc<;>simp only[hc,go_sem]
 ·have e8:y.Kind=8:=by simpa using hc
  rw[if_pos e8]at hK;obtain⟨p2,d1⟩:=h8 e8;simp only[Zj d1,oMs,go_sem];refine qL c762 ?_;simp only[go_sem];refine qU (Wy (n:=1) hN1 (by omega) (by omega) λh2 n2 k2=>?_);simp only[go_sem];refine qL zS ?_;simp only[go_sem];refine qL zS ?_;simp only[go_sem];have b1:Has (N++[qS 6 0 (opI y.Value (y.Data.getD 0 0) x.Value) [] 1]) b 1:=(hP.by' (by omega)).app;refine qU (Qf (s:=1) (k:=0) n2 b1 (zd (by omega)) ((QK hP).peer b1 (by rintro(q | q);exact hP.nx (by omega) q.1;omega)) λh3 n3 k3=>?_);simp only[go_sem];exact hK _ n3 (k0.trans (k2.trans k3))
 ·have e8:y.Kind≠8:=by simpa using hc
  rw[if_neg e8]at hK;have p3:=h7 e8;refine qU (qoW (n:=2) hN1 (by omega) (by omega) λh2 n2 k2=>?_);simp only[go_sem];refine qL zS ?_;simp only[go_sem];refine qL zS ?_;simp only[go_sem];have b1:Has (N++[qS 8 y.Level y.Value [x.Value] 2]) b 1:=(hP.by' (by omega)).app;refine qU (Qf (s:=1) (k:=0) n2 b1 (zd (by omega)) ((QK hP).peer b1 (by rintro(q | q);exact hP.nx (by omega) q.1;omega)) λh3 n3 k3=>?_);simp only[go_sem];refine qL zS ?_;simp only[go_sem];refine qL zS ?_;simp only[go_sem];have b2:Has (Wl N b x y) b 2:=(hP.by' (by omega)).app.same ZU;have w2:W (Wl N b x y) _:=Yv hP (by omega) (by omega);refine qU (Qf (s:=2) (k:=1) n3 b2 ((zd (by omega)).same ZU) (w2.peer b2 (by rintro(q | q | q);exact hP.nx (by omega) q.1;omega;omega)) λh4 n4 k4=>?_);simp only[go_sem];exact hK _ n4 (k0.trans (k2.trans (k3.trans k4)))
theorem qoH(hP:Pr N a b x y X)(hN:NE w post base nid h N)(hy:y.Ports.length=2)(h11:y.Kind=11->y.Data.length=2)(h10:y.Kind≠11->x.Kind=9/\0<x.Ports.length/\0<=x.Value/\x.Value<y.Data.length)(hz:y.sz<=1000)(hzx:x.sz<=1000)(hl:N.length<=10000)
  (hK:∀h',NE w post base nid h' (if y.Kind=11 then Xw y.Level (J4 x y) N b else ZE y.Level (y.Data.getD x.Value.toNat 0) N a b (x.Ports.length-1))->Keep base h h'->K (.tup []) h'):SCall Gm 1302 [.ptr nid 0 0,iI (a:Nat),iI (b:Nat)] h K:=by
 have la:=hP.la;have lb:=hP.lb;have hz':=hz;unfold qB.sz at hz';have hzx':=hzx;unfold qB.sz at hzx';have hbl:=hN.bl;refine sI kJ ?_;simp only[kJ,qM,go_sem];obtain⟨aid',f837,o4⟩:=qD4 hN hP.y (by omega) (by omega);simp only[o4,zH lb,go_sem];refine qU (f837 _ λex=>?_);simp only[go_sem];refine qi (k:=5) (by rfl) (by simp only[go_sem]) ⟨_,rfl⟩ (by decide) ?_;simp only[go_sem];have hN1:=hN.app ex;have k0:Keep base h (h++ex):=Keep.app hbl;generalize h++ex=h1 at hN1 k0|-;obtain⟨aid,ps,q,hNA,o1,o2,o3⟩:=hN1.rd hP.x;apply qI<;>intro hc<;>simp only[hc,go_sem]
 ·have e11:y.Kind=11:=by simpa using hc
  clear hc;rw[if_pos e11]at hK;have d2:=h11 e11;simp only[Zj (y:=y) (i:=1) (by omega),oMs,o1,zH la,o2,o3,go_sem];have b1:∀v,Has (N++[qS 12 y.Level v [] 1]) b 1:=λv=>(hP.by' (by omega)).app;apply qI<;>intro hc<;>simp only[hc,go_sem]
  ·have ed:y.Data.getD 0 0=J4 x y:=by unfold J4;rw[if_pos (by simpa using hc)]
   simp only[Zj (y:=y) (i:=0) (by omega),oMs,ed,go_sem];refine qU (Wy (n:=1) hN1 (by omega) (by omega) λh2 n2 k2=>?_);simp only[go_sem];refine qL zS ?_;simp only[go_sem];refine qL zS ?_;simp only[go_sem];refine qU (Qf (s:=1) (k:=0) n2 (b1 _) (zd (by omega)) ((QK hP).peer (b1 _) (by rintro(q | q);exact hP.nx (by omega) q.1;omega)) λh3 n3 k3=>?_);simp only[go_sem];exact hK _ n3 (k0.trans (k2.trans k3))
  ·have ed:y.Data.getD 1 0=J4 x y:=by unfold J4;rw[if_neg (by simpa using hc)]
   simp only[ed];refine qU (Wy (n:=1) hN1 (by omega) (by omega) λh2 n2 k2=>?_);simp only[go_sem];refine qL zS ?_;simp only[go_sem];refine qL zS ?_;simp only[go_sem];refine qU (Qf (s:=1) (k:=0) n2 (b1 _) (zd (by omega)) ((QK hP).peer (b1 _) (by rintro(q | q);exact hP.nx (by omega) q.1;omega)) λh3 n3 k3=>?_);simp only[go_sem];exact hK _ n3 (k0.trans (k2.trans k3))
 ·have e11:y.Kind≠11:=by simpa using hc
  clear hc;rw[if_neg e11]at hK;obtain⟨e9,x0,v0,v1⟩:=h10 e11;have ef:fieldsOf x=((x.Ports.length-1:Nat):Int):=by unfold fieldsOf;rw[if_pos e9];omega
  simp only[o1,zH la,go_sem];refine wI (Cvs.cons (hNA.cva hP.x) Cvs.nil) (qBK (x:=x) (by omega)) rfl ?_;rw[ef];simp only[o1,zH la,o2,o3,Qp v0,Zj (y:=y) (i:=x.Value.toNat) (by omega),oMs,go_sem];refine qU (Wy (n:=1) hN1 (by omega) (by omega) λh2 n2 k2=>?_);simp only[go_sem];refine qL zS ?_;simp only[go_sem];refine qi rfl rfl ⟨_,rfl⟩ (by decide) ?_;simp only[go_sem];generalize y.Data.getD x.Value.toNat 0=v at hK n2|-;refine Sem.loop (α:=Nat×List qC) (λq=>q.1+1<=x.Ports.length/\NE w post base nid q.2 (zf y.Level v N a q.1)/\Keep base h q.2)
   (λq=>(⟨[(0,.ptr nid 0 0),(1,iI (a:Nat)),(2,iI (b:Nat)),(9,iI ((x.Ports.length-1:Nat):Int)),(12,iI ((q.1+1:Nat):Int))],[(6,y.enc),(11,(J7 N.length q.1).enc)],q.2⟩:VSt)) (λq=>x.Ports.length-q.1) (0,h2) (by kernel_rfl)
   ⟨by simp only;omega,n2,k0.trans k2⟩ (Can.sub (by simp[go_sem]) (by simp[go_sem];rfl)) ?_
  rintro⟨i,g⟩ ⟨hi,hn,hk⟩;simp only at hi hn hk;have hg:(zf y.Level v N a i).length=N.length+1+i:=Vg;have wi:=XJ (lev:=y.Level) (v:=v) hP (i:=i) (by omega);simp only[go_sem];apply qI<;>intro hc<;>simp only[hc,go_sem]
  ·have hlt:i+1<x.Ports.length:=by have:=odT hc;omega
   clear hc;refine qU (Wy (n:=3) hn (by omega) (by omega) λg1 m1 j1=>?_);simp only[go_sem];refine qL zS ?_;simp only[go_sem];have f0:Has (zf y.Level v N a i++[qS 3 y.Level 0 [] 3]) (zf y.Level v N a i).length 0:=zd (by omega);have f1:Has (zf y.Level v N a i++[qS 3 y.Level 0 [] 3]) (zf y.Level v N a i).length 1:=zd (by omega);refine qU (X3 (k:=0) m1 WO.app f0 λg2 m2 j2=>?_);simp only[go_sem];refine qL zS ?_;simp only[go_sem];refine qL zS ?_;simp only[go_sem];have e0:zU i<=2:=by unfold zU;split<;>omega
   have n1:=hP.na (q:=i+1) (by omega);have a1:Has (ze (zf y.Level v N a i++[qS 3 y.Level 0 [] 3]) (pt (N.length+i) (zU i)) (pt (zf y.Level v N a i).length 0)) a (i+1):=(WP (hP.ax (by omega))).app.same (zo _ _ _);have w1:=(wi.add (qS 3 y.Level 0 [] 3)).link (a:=N.length+i) (s:=zU i) (c:=(zf y.Level v N a i).length) (k:=0) WO.app f0 (.inl ⟨.inr (.inr ⟨rfl,rfl⟩),by omega⟩) (.inr rfl) (by omega);refine qU (Qf (s:=i+1) (k:=1) m2 a1 (f1.same (zo _ _ _)) (w1.peer a1 (by rintro⟨⟨(q | q | q),_⟩ | q,_⟩;exact n1 q.1;omega;omega;omega)) λg3 m3 j3=>?_);simp only[go_sem];refine qL zS ?_;simp only[go_sem];refine qi rfl rfl ⟨_,rfl⟩ (by decide) ?_;simp only[go_sem,wuA (n:=i+1)];refine qb (i+1,g3) ⟨by simp only;omega,m3,hk.trans (j1.trans (j2.trans j3))⟩ (by simp only;omega) (Can.sub (by simp[go_sem]) ?_);simp[go_sem];rw[hg,show N.length+1+i=N.length+(i+1) by omega];rfl
  ·have hlt:i=x.Ports.length-1:=by have:=odF hc;omega
   clear hc;subst hlt;refine qL zS ?_;simp only[go_sem];have b1:Has (zf y.Level v N a (x.Ports.length-1)) b 1:=WP (hP.by' (by omega));refine qU (Qf (s:=1) (k:=zU (x.Ports.length-1)) hn b1 WO (wi.peer b1 (by rintro(q | q | q);exact hP.nx (by omega) q.1;exact hP.ne q.1.symm;omega)) λg1 m1 j1=>?_);simp only[go_sem];exact hK _ m1 (hk.trans j1)
end
section
variable {w:Nat} {post:List AV} {base:Nat->Prop} {nid:Nat} {h:List qC} {N:Ags} {K:AV->List qC->Prop} {a b s c k:Nat} {x y:qB} {X:Nat->Nat->Prop} {t:qD}
theorem KO{g:List qC}{A B C:qC}:(g++[A,B]).set (g.length+1) C=g++[A,C]:=by
 rw[lSr _ _ (by omega)];simp
theorem qgG{g:List qC}{A B:qC}:(g++[A,B])[g.length]?=some A:=by rw[gAr (by omega)];simp
theorem Q6{g:List qC}{A B:qC}:(g++[A,B])[g.length+1]?=some B:=by rw[gAr (by omega)];simp
theorem NA.push3{aid:Nat}{ps:List Nat}{g:List qC}(hN:NA w post base nid aid ps g N)(h00:0<x.Ports.length){dl:List AV}(hd:dl=x.Data.map qP){X:AV}(hX:X=.agg [iI x.Kind,iI x.Level,iI x.Value,sQ 1 g.length x.Data.length,sQ 2 (g.length+1) x.Ports.length]):
  ∀G,G=(((g++[qC.row 1 dl true,qC.row 2 (x.Ports.map qE.enc) true]++[qC.row 5 [X] true]).set aid .dead)++[qC.row 5 (zB N ps++[X]) true]).set nid (.row w [.agg (sQ 5 (g.length+3) (N.length+1)::post)] true)->
  ∃G',(∀b s m,Can b ⟨s,m,G⟩ ⟨s,m,G'⟩)/\NE w post base nid G' (N++[x])/\Keep base g G':=by
 intro G hG;have k0:=hN.lt;have k1:=hN.lta;have n1:=hN.n1;have c1:=hN.b1;have c2:=hN.b2;have el:=Qn hN.l;have lG:G.length=g.length+4:=by rw[hG];simp
 have eG:∀j,j<g.length->j≠nid->j≠aid->G[j]?=g[j]?:=λj hj j1 j2=>by
  rw[hG,gSn (Ne.symm j1),gAl (by simp;omega),gSn (Ne.symm j2),gAl (by simp;omega),gAl hj]
 have e0:G[g.length]?=some (.row 1 dl true):=by
  rw[hG,gSn (by omega),gAl (by simp),gSn (by omega),gAl (by simp)];exact qgG
 have e1:G[g.length+1]?=some (.row 2 (x.Ports.map qE.enc) true):=by
  rw[hG,gSn (by omega),gAl (by simp),gSn (by omega),gAl (by simp)];exact Q6
 have e3:G[g.length+3]?=some (.row 5 (zB N ps++[X]) true):=by
  rw[hG,gSn (by omega),gAr (by simp)];simp
 have en:G[nid]?=some (.row w [.agg (sQ 5 (g.length+3) (N.length+1)::post)] true):=by
  rw[hG,gSs (by simp;omega)]
 refine⟨(without [g.length] G).set (g.length+3) (.row 5 (zB N ps++[encR x (g.length+1)]) true),λb s m=>Can.giveH [g.length] (by simp) e3 (by simp) (HCv.apps _ ?_), ?_,⟨by simp[QI];omega,λj hj=>?_⟩⟩
 ·rw[hX];unfold encR;rw[Qe h00];refine HCv.list (.agg rfl (HCv.list (.same _) (HCv.list (.same _) (HCv.list (.same _) (HCv.list (.cv (Cv.row (by rw[Qb (by simp)];rw[e0,hd]) (by simp) (qa shI.tree _) (by decide)) (by simp only[AV.tree];exact qa shI.tree _)) (HCv.list (.same _) (HCv.refls [])))))).2) (HCv.refls [])
 ·have hN0:NA w post base nid aid ps (g++[qC.dead,.row 2 (x.Ports.map qE.enc) true,.row 5 [X] true]) N:=hN.app _;have:=hN0.push (x:=x) (q:=g.length+1) (h2:=(without [g.length] G).set (g.length+3) (.row 5 (zB N ps++[encR x (g.length+1)]) true)) (by rw[gAr (by omega)];simp) (λq=>by have:=hN.bl _ q;omega) (by omega) (by omega) (λq=>by have:=hN.ltp q;omega) ?_ ?_ ?_
  ·exact⟨_,_,this⟩
  ·simp only[lAp,lCo,lNi];rw[gSn (by omega),Jz (by simp;omega)];exact en
  ·simp only[lAp,lCo,lNi];rw[gSs (by rw[QI];omega)]
  ·intro j hj j1 j2;simp only[lAp,lCo,lNi]at hj;rw[gSn (by omega)];by_cases q:j=g.length
   ·subst q;have:(without [g.length] G)[g.length]?=some .dead:=by
     unfold without;rw[List.getElem?_mapIdx,e0];simp
    rw[this,gAr (by omega)];simp
   ·rw[Jz (by simpa using q)];by_cases q2:j<g.length
    ·rw[eG j q2 j1 j2,gAl q2]
    ·by_cases q3:j=g.length+1
     ·subst q3;rw[e1,gAr (by omega)];simp
     ·obtain rfl:j=g.length+2:=by omega
      rw[gAr (by omega),hG,gSn (by omega),gAl (by simp),gSn (by omega),gAr (by simp)];simp
 ·have:=hN.bl j hj;rw[gSn (by omega),Jz (by simp;omega)];exact eG j (by omega) (Ne.symm (nbe c1 hj)) (Ne.symm (nbe c2 hj))
theorem ZO{ps:List qE}{c:Bool}{n:Nat}:(lay (.lst 2 (ps.map qE.enc) c) n).2=[.row 2 (ps.map qE.enc) true]:=by simp[lay,qE.flat]
theorem ZN{ps:List Int}{c:Bool}{n:Nat}:(lay (.lst 1 (ps.map qP) c) n).2=[.row 1 (ps.map qP) true]:=by simp[lay,lI]
def jq(N:Ags)(t:qD)(lev:Int)(j:Nat):Ags:=N++((t.Agents.drop 1).take j).map (zE lev ((N.length:Int)-1))
theorem qCB{lev:Int}{j:Nat}(h:j+1<=t.Agents.length):(jq N t lev j).length=N.length+j:=by unfold jq;simp;omega
theorem qcE{lev:Int}{j:Nat}(h:j+1<t.Agents.length):jq N t lev (j+1)=jq N t lev j++[zE lev ((N.length:Int)-1) t.Agents[j+1]]:=by
 unfold jq;have e:(t.Agents.drop 1)[j]?=some t.Agents[j+1]:=by rw[qBZ,gEg h]
 have hj:j<(t.Agents.drop 1).length:=by simp;omega
 have e2:(t.Agents.drop 1)[j]=t.Agents[j+1]:=by rw[gEg hj]at e;exact Option.some.inj e
 rw[lTs hj,e2];simp
theorem qcD{lev:Int}{j:Nat}(h:j+1=t.Agents.length):jq N t lev j=jI N t lev:=by
 unfold jq jI;rw[List.take_of_length_le (by simp;omega)]
def shP(base:Int)(p:qE):qE:=⟨p.Agent+base,p.Slot⟩
def wC(f:qE->qE)(ps:List qE)(j:Nat):List qE:=(ps.take j).map f++ps.drop j
theorem Yn{f:qE->qE}{ps:List qE}:wC f ps 0=ps:=by simp[wC]
theorem Yp{f:qE->qE}{ps:List qE}:wC f ps ps.length=ps.map f:=by simp[wC]
theorem Yo{f:qE->qE}{ps:List qE}{j:Nat}(h:j<ps.length):(wC f ps j)[j]?=some ps[j]:=by
 unfold wC;rw[gAr (by simp;omega)];simp only[lMp,lLt,nMl (Nat.le_of_lt h),nSs,gDr,nAz];exact gEg h
theorem Yq{f:qE->qE}{ps:List qE}{j:Nat}(h:j<ps.length):(wC f ps j).set j (f ps[j])=wC f ps (j+1):=by
 unfold wC;rw[lSr _ _ (by simp;omega)];simp only[lMp,lLt,nMl (Nat.le_of_lt h),nSs];rw[lDc h,lSz,lTs h,lMa];simp only[lMc,List.map_nil,lAa,lCa,lNa]
theorem Yz{p:qE}{v:Int}:p.enc.put 0 (iI v)=some ((⟨v,p.Slot⟩:qE).enc):=by cases p;rfl
theorem qoI(hP:Pr N a b x y X)(hN:NE w post base nid h N)(ht:zA t=true)(hy:0<y.Ports.length)(hts:∀z∈t.Agents,z.sz<=1000)(htl:t.Agents.length<=600)(hl:N.length<=10000)(hlev:0<=x.Level/\x.Level<=8)
  (htp:∀(k s:Nat)(q:qE),atP t.Agents k s=some q->0<=q.Agent/\q.Agent<=600) (htv:∀z∈t.Agents,0<=z.Level/\z.Level<=8)
  (hK:∀h',NE w post base nid h' (ZK N t x.Level b)->Keep base h h'->K (.tup []) h'):SCall Gm 1303 [.ept t.enc 0,.ptr nid 0 0,iI (a:Nat),iI (b:Nat)] h K:=by
 have la:=hP.la;have lb:=hP.lb;have hbl:=hN.bl;refine sI kK ?_;simp only[kK,qM,go_sem];obtain⟨aid,ps,q,hNA,o1,o2,o3⟩:=hN.rd hP.x;simp only[o1,zH la,o2,o3,go_sem];have eb:IntKind.i64.wrap ((N.length:Int)-1)=((N.length-1:Nat):Int):=by rw[wsA];omega
 have eb2:(N.length:Int)-1=((N.length-1:Nat):Int):=by omega
 simp only[eb];clear o1 o2 o3 hNA;refine Sem.loop (α:=Nat×List qC) (λq=>q.1+1<=t.Agents.length/\NE w post base nid q.2 (jq N t x.Level q.1)/\Keep base h q.2)
  (λq=>(⟨[(0,.ept t.enc 0),(1,.ptr nid 0 0),(3,iI (b:Nat)),(8,iI x.Level),(9,iI ((N.length-1:Nat):Int)),(10,iI ((q.1+1:Nat):Int))],[],q.2⟩:VSt)) (λq=>t.Agents.length-q.1) (0,h) (by kernel_rfl)
  ⟨by have:=Wh ht;simp only;omega,by unfold jq;simpa using hN,Keep.refl⟩ csA ?_
 rintro⟨i,g⟩ ⟨hi,hn,hk⟩;simp only at hi hn hk;simp only[go_sem];apply qI<;>intro hc<;>simp only[hc,go_sem]
 ·have hlt:i+1<t.Agents.length:=by have:=odT hc;omega
  clear hc;have hz:=hts _ (gMm hlt);have hv8:=htv _ (gMm hlt);have hzp:0<t.Agents[i+1].Ports.length:=(zi (qDB ht (gEg hlt))).2;have hpp:∀(s:Nat)(hs:s<t.Agents[i+1].Ports.length),0<=t.Agents[i+1].Ports[s].Agent/\t.Agents[i+1].Ports[s].Agent<=600:=λs hs=>htp (i+1) s _ (je.2 ⟨_,gEg hlt,gEg hs⟩);have es:=qcE (N:=N) (lev:=x.Level) hlt;simp only[gMp,gEg hlt,oMs,go_sem];generalize t.Agents[i+1]=z at hz hv8 hzp hpp es|-;have hz':=hz;unfold qB.sz at hz';refine zk (n837 z (by omega)) ?_;simp only[qB.layE,AV.rows,ZO,ZN,lNa,lAn,lCa,Ws,nZa,go_sem];refine qi (k:=5) (by rfl) (by simp only[go_sem]) ⟨_,rfl⟩ (by decide) ?_;simp only[go_sem];refine qL qBI ?_;simp only[go_sem];obtain⟨L,hL⟩:∃L,L=(zE x.Level ((N.length:Int)-1) z).Level:=⟨_,rfl⟩;apply qI<;>intro hc<;>simp only[hc,go_sem]
  ·have el:IntKind.i64.wrap (z.Level+x.Level)=L:=by rw[hL,wsA];unfold zE;simp[hc]
   clear hc;refine Sem.loop (λj:Nat=>j<=z.Ports.length/\True) (λj=>(⟨[(0,.ept t.enc 0),(1,.ptr nid 0 0),(3,iI (b:Nat)),(8,iI x.Level),(9,iI ((N.length-1:Nat):Int)),(10,iI ((i+1:Nat):Int)),(12,iI (j:Nat))],
    [(11,.agg [iI z.Kind,iI L,iI z.Value,sQ 1 g.length z.Data.length,sQ 2 (g.length+1) z.Ports.length])],g++[.row 1 (z.Data.map qP) true,.row 2 ((wC (shP ((N.length:Int)-1)) z.Ports j).map qE.enc) true]⟩:VSt)) (λj=>z.Ports.length-j) 0 (by kernel_rfl) ⟨nZl _,trivial⟩
    (by rw[Yn];exact Can.sub (by simp[go_sem]) (by simp[go_sem,el])) ?_
   rintro j ⟨hj,_⟩;simp only[go_sem];apply qI<;>intro hc<;>simp only[hc,go_sem]
   ·have hlj:j<z.Ports.length:=by have:=odT hc;omega
    clear hc;have hq:=hpp j hlj;have hm:((wC (shP ((N.length:Int)-1)) z.Ports j).map qE.enc)[j]?=some (z.Ports[j].enc):=by rw[gMp,Yo hlj];rfl
    simp only[JZ hlj,Q6,hm,go_sem];refine ql rfl Q6 hm Yz ?_;have ep:(⟨IntKind.i64.wrap (z.Ports[j].Agent+((N.length-1:Nat):Int)),z.Ports[j].Slot⟩:qE)=shP ((N.length:Int)-1) z.Ports[j]:=by
     unfold shP;rw[eb2,wsA]
    rw[ep,<-List.map_set,Yq hlj,KO];simp only[go_sem];simp only[wuA (n:=j)];refine qb (j+1) ⟨by omega, ?_⟩ (by omega) csA;trivial
   ·have hlj:j=z.Ports.length:=by have:=odF hc;omega
    clear hc;subst hlj;rw[Yp];obtain⟨aid,ps,hNA⟩:=hn;have k0:=hNA.lt;have k1:=hNA.lta;have on:∀{o:List qC},(g++o)[nid]?=some (.row w [.agg (.slice 5 aid 0 (jq N t x.Level i).length false::post)] true):=λ{o}=>by rw[gAl k0];exact hNA.o
    simp only[on,go_sem];have l5:=Qn hNA.l;have lS:=qCB (N:=N) (lev:=x.Level) hi;refine jN (len:=(jq N t x.Level i).length) (x:=.agg [iI z.Kind,iI L,iI z.Value,sQ 1 g.length z.Data.length,sQ 2 (g.length+1) z.Ports.length]) (w:=5) (by simp) (by rw[gAl (by simp;omega),gAl k1];exact hNA.a) l5 (by omega) ?_;have eP:z.Ports.map (shP ((N.length:Int)-1))=(zE x.Level ((N.length:Int)-1) z).Ports:=rfl;rw[eP];simp only[lAp,nZa,go_sem];refine ql rfl (by rw[gAl (by simp;omega),gSn (Ne.symm hNA.n1),gAl (by simp;omega)];exact on) rfl Xv ?_;simp only[lSz];have hX:(AV.agg [iI z.Kind,iI L,iI z.Value,sQ 1 g.length z.Data.length,sQ 2 (g.length+1) z.Ports.length])=.agg [iI (zE x.Level ((N.length:Int)-1) z).Kind,iI (zE x.Level ((N.length:Int)-1) z).Level,iI (zE x.Level ((N.length:Int)-1) z).Value,.slice 1 g.length 0 (zE x.Level ((N.length:Int)-1) z).Data.length false,.slice 2 (g.length+1) 0 (zE x.Level ((N.length:Int)-1) z).Ports.length false]:=by
     rw[hL];simp[zE]
    obtain⟨G',c1,n1,q1⟩:=hNA.push3 (x:=zE x.Level ((N.length:Int)-1) z) (by simpa[zE]using hzp) (dl:=z.Data.map qP) rfl hX _ rfl;rw[<-es]at n1;simp only[go_sem,wuA (n:=i+1)];refine qb (i+1,G') ⟨by simp only;omega,n1,hk.trans q1⟩ (by simp only;omega) ((c1 _ _ _).trans csA)
  ·have el:z.Level=L:=by rw[hL];unfold zE;simp[hc]
   clear hc;refine Sem.loop (λj:Nat=>j<=z.Ports.length/\True) (λj=>(⟨[(0,.ept t.enc 0),(1,.ptr nid 0 0),(3,iI (b:Nat)),(8,iI x.Level),(9,iI ((N.length-1:Nat):Int)),(10,iI ((i+1:Nat):Int)),(12,iI (j:Nat))],
    [(11,.agg [iI z.Kind,iI L,iI z.Value,sQ 1 g.length z.Data.length,sQ 2 (g.length+1) z.Ports.length])],g++[.row 1 (z.Data.map qP) true,.row 2 ((wC (shP ((N.length:Int)-1)) z.Ports j).map qE.enc) true]⟩:VSt)) (λj=>z.Ports.length-j) 0 (by kernel_rfl) ⟨nZl _,trivial⟩
    (by rw[Yn];exact Can.sub (by simp[go_sem]) (by simp[go_sem,el])) ?_
   rintro j ⟨hj,_⟩;simp only[go_sem];apply qI<;>intro hc<;>simp only[hc,go_sem]
   ·have hlj:j<z.Ports.length:=by have:=odT hc;omega
    clear hc;have hq:=hpp j hlj;have hm:((wC (shP ((N.length:Int)-1)) z.Ports j).map qE.enc)[j]?=some (z.Ports[j].enc):=by rw[gMp,Yo hlj];rfl
    simp only[JZ hlj,Q6,hm,go_sem];refine ql rfl Q6 hm Yz ?_;have ep:(⟨IntKind.i64.wrap (z.Ports[j].Agent+((N.length-1:Nat):Int)),z.Ports[j].Slot⟩:qE)=shP ((N.length:Int)-1) z.Ports[j]:=by
     unfold shP;rw[eb2,wsA]
    rw[ep,<-List.map_set,Yq hlj,KO];simp only[go_sem];simp only[wuA (n:=j)];refine qb (j+1) ⟨by omega, ?_⟩ (by omega) csA;trivial
   ·have hlj:j=z.Ports.length:=by have:=odF hc;omega
    clear hc;subst hlj;rw[Yp];obtain⟨aid,ps,hNA⟩:=hn;have k0:=hNA.lt;have k1:=hNA.lta;have on:∀{o:List qC},(g++o)[nid]?=some (.row w [.agg (.slice 5 aid 0 (jq N t x.Level i).length false::post)] true):=λ{o}=>by rw[gAl k0];exact hNA.o
    simp only[on,go_sem];have l5:=Qn hNA.l;have lS:=qCB (N:=N) (lev:=x.Level) hi;refine jN (len:=(jq N t x.Level i).length) (x:=.agg [iI z.Kind,iI L,iI z.Value,sQ 1 g.length z.Data.length,sQ 2 (g.length+1) z.Ports.length]) (w:=5) (by simp) (by rw[gAl (by simp;omega),gAl k1];exact hNA.a) l5 (by omega) ?_;have eP:z.Ports.map (shP ((N.length:Int)-1))=(zE x.Level ((N.length:Int)-1) z).Ports:=rfl;rw[eP];simp only[lAp,nZa,go_sem];refine ql rfl (by rw[gAl (by simp;omega),gSn (Ne.symm hNA.n1),gAl (by simp;omega)];exact on) rfl Xv ?_;simp only[lSz];have hX:(AV.agg [iI z.Kind,iI L,iI z.Value,sQ 1 g.length z.Data.length,sQ 2 (g.length+1) z.Ports.length])=.agg [iI (zE x.Level ((N.length:Int)-1) z).Kind,iI (zE x.Level ((N.length:Int)-1) z).Level,iI (zE x.Level ((N.length:Int)-1) z).Value,.slice 1 g.length 0 (zE x.Level ((N.length:Int)-1) z).Data.length false,.slice 2 (g.length+1) 0 (zE x.Level ((N.length:Int)-1) z).Ports.length false]:=by
     rw[hL];simp[zE]
    obtain⟨G',c1,n1,q1⟩:=hNA.push3 (x:=zE x.Level ((N.length:Int)-1) z) (by simpa[zE]using hzp) (dl:=z.Data.map qP) rfl hX _ rfl;rw[<-es]at n1;simp only[go_sem,wuA (n:=i+1)];refine qb (i+1,G') ⟨by simp only;omega,n1,hk.trans q1⟩ (by simp only;omega) ((c1 _ _ _).trans csA)
 ·have hlt:i+1=t.Agents.length:=by have:=odF hc;omega
  clear hc;have w0:=qcD (N:=N) (lev:=x.Level) hlt;obtain⟨c,r,e1,e2,e3,e4⟩:=Yb (N:=N) (b:=b) (lev:=x.Level) ht (by omega);have hz0:t.Agents[0]?=some t.Agents[0]:=gEg (Wh ht);obtain⟨z0,hz1,hz2⟩:=je.1 e2;rw[hz0]at hz1;cases hz1;simp only[gMp,hz0,hz2,oMs,go_sem];refine qi (k:=2) (by rfl) (by simp only[go_sem]) ⟨_,rfl⟩ (by decide) ?_;simp only[go_sem];have hc8:=htp 0 0 _ e2;simp only[pt]at hc8;have ec:IntKind.i64.wrap (((N.length-1:Nat):Int)+((c+1:Nat):Int))=((N.length+c:Nat):Int):=by rw[wsA];omega
  simp only[ec];refine qL zS ?_;simp only[go_sem];refine qL zS ?_;simp only[go_sem];rw[w0]at hn;have b0:Has (jI N t x.Level) b 0:=by unfold jI;exact(hP.by' hy).app
  refine qU (X3 (s:=r) (k:=0) hn e3 b0 λg1 m1 j1=>?_);simp only[go_sem];exact hK _ (by rw[e4];exact m1) (hk.trans j1)
end
theorem qiY{x:qB}(h:qe x=true):x.Data.length<=4:=by
 have:=ZT h;unfold z6 at this;simp only[bAt,dTe,inI]at this
 repeat' split at this
 all_goals (simp only[bAt,dTe]at this;omega)
theorem Z9{x:qB}(h:qe x=true):x.sz<=8:=by
 have:=qiY h;have:=Xq h;unfold qB.sz;omega
theorem VI{α:Type}{f:α->Nat}{k:Nat}:∀{xs:List α},(∀x∈xs,f x<=k)->qH f xs<=k*xs.length
 |[],_=>nZl _
 | x::xs,h=>by
  have h1:=h x (by simp);have h2:=VI (xs:=xs) λy hy=>h y (by simp[hy]);simp only[qH,lCo,Nat.mul_add];omega
theorem Z8{n:qD}(h:zA n=true):n.sz<=5400/\n.Agents.length<=600:=by
 have h1:n.Agents.length<=600:=by
  have:=h;unfold zA wc at this;simp only[bAt,zP]at this;omega
 have h2:=VI (f:=qB.sz) (k:=8) λx hx=>Z9 (JW (Ja h) x hx);unfold qD.sz;omega
section
variable {w:Nat} {post:List AV} {base:Nat->Prop} {nid:Nat} {h:List qC} {N:Ags} {K:AV->List qC->Prop} {a b s c k:Nat} {x y:qB} {X:Nat->Nat->Prop} {bk:List qD} {R:Nat->Bool}
theorem qB8:∀{N:Ags}{ps:List Nat},ps.length=N.length->(∀(k:Nat)(x:qB)(q:Nat),N[k]?=some x->ps[k]?=some q->0<x.Ports.length->h[q]?=some (.row 2 (x.Ports.map qE.enc) true))->
  ∀p∈(zB N ps).zip (N.map qB.enc),Cv h p.1 p.2
 |[],[],_,_=>λp hp=>by simp[zB]at hp
 |[],_::_,e,_=>by simp at e
 | _::_,[],e,_=>by simp at e
 | x::N,q::ps,e,hp=>JD (qB6 (hp 0 x q rfl rfl)) (qB8 (N:=N) (ps:=ps) (by simpa using e) λk x q hx hq=>hp (k+1) x q hx hq)
abbrev Un(N:Ags)(post:List AV):AV:=.agg (.lst 5 (N.map qB.enc) false::post)
theorem NE.cvn{post':List AV}(hN:NE w post base nid h N)(hw:0<w)(hp:Cvs h post post'):Cv h (.ptr nid 0 0) (.ept (Un N post') 0):=by
 obtain⟨aid,ps,hN⟩:=hN;have el:=Qn hN.l;refine .ptr hN.o hw rfl (.agg (by simp[hp.1]) (JD (.slc hN.a (by omega) (by decide) (by simp[el]) ?_) hp.2));rw[List.drop_zero,<-el,lTl];exact qB8 hN.l hN.p
theorem qC4{post:List AV}(ht:AV.trees post=true):(Un N post).tree=true:=by
 simp only[AV.tree,AV.trees,qa qB.isSh.tree,ht,Bool.and_self]
theorem qC3{post:List AV}:(Un N post).part 0 (some 1)=some (qD.enc ⟨N⟩):=rfl
theorem qiW:Cv h (.lst 1 (bk.map qD.enc) false) (.lst 1 (bk.map qD.enc) false):=.refl (by simp only[AV.tree];exact qa qD.isSh.tree _)
def j9(bk:List qD)(N:Ags)(a b:Nat)(x y:qB):Ags:=if qN x y=7 then(qz bk N a b x y).set a hole else((qz bk N a b x y).set a hole).set b hole
theorem qaC(bk:List qD)(N:Ags)(a b:Nat)(x y:qB):N.length<=(qz bk N a b x y).length:=by rw[(WM bk N a b x y).len];simp
theorem qkH{c p:Int}: -2<=(jA c p).1/\(jA c p).1<=600:=by
 unfold jA
 repeat' split
 all_goals (rename_i q;first | (rw[zP]at q;simp only;omega) | (simp only;omega))
theorem qcV: -2<=(qk bk x y).1/\(qk bk x y).1<=600:=by
 unfold qk
 repeat' split
 all_goals first
  | (simp only;omega)
  | exact qkH
structure SP(R:Nat->Bool)(N:Ags):Prop where
 hol:Hol R N
 z:∀(k:Nat)(x:qB),N[k]?=some x->R k=true->x=hole
theorem SP.sz(h:SP R N){x:qB}(hx:x∈N):x.sz<=8:=by
 obtain⟨k,hk,e⟩:=List.getElem_of_mem hx;have hx:=gSi.2 ⟨hk,e⟩;cases q:R k with
 | true=>rw[h.z k x hx q];decide
 | false=>exact Z9 (h.hol.k k x hx q).1
theorem SP.kind(h:SP R N){k:Nat}{x:qB}(hx:N[k]?=some x):x.Kind=0↔R k=true:=by
 cases q:R k with
 | true=>rw[h.z k x hx q];simp
 | false=>simp[qaI (h.hol.k k x hx q).1]
theorem SP.live(h:SP R N):Jk N=qT R N.length:=by
 have key:∀i,i<=N.length->Jk (N.take i)=qT R i:=by
  intro i
  induction i with
  | zero=>intro _;rfl
  | succ i ih=>
   intro hi;rw[qdK (show i<N.length by omega),ih (by omega),jO];have:=h.kind (gEg (show i<N.length by omega));by_cases e:R i=true
   ·rw[if_pos (this.2 e),if_pos e]
   ·rw[if_neg (λq=>e (this.1 q)),if_neg e]
 have:=key N.length (nLr _);rwa[lTl]at this
theorem s979{post':List AV}(hN:NE w post base nid h N)(hw:0<w)(hpc:Cvs h post post')(htp:AV.trees post'=true)(sp:SP R N)(hbk:ju bk=true){A B:Nat}{u v:qB}(hu:N[A]?=some u)(hv0:N[B]?=some v)(hor:(zI u v=true/\a=B/\b=A/\x=v/\y=u)\/(zI u v=false/\a=A/\b=B/\x=u/\y=v))(hA:Act R N a b x y)(a0:a≠0)(b0:b≠0)(hf:zY x.Kind x.Level y.Kind y.Level≠2)(hl:N.length<=10000)
  (hK1:(qk bk x y).2≠0->K (iI (qk bk x y).2) h) (hK2:(qk bk x y).2=0->600<(qT R N.length:Int)+(qk bk x y).1->K (iI 4) h)
  (hK3:zW R bk N a b x y->∀h',NE w post base nid h' (j9 bk N a b x y)->Keep base h h'->K (iI 0) h'):SCall Gm 979 [.lst 1 (bk.map qD.enc) false,.ptr nid 0 0,iI (A:Nat),iI (B:Nat)] h K:=by
 have la:=hA.pr.la;have lb:=hA.pr.lb;have hbl:=hN.bl;have ok:=sp.hol;have qx:=ok.k _ _ hA.x hA.ra;have qy:=ok.k _ _ hA.y hA.rb;have xok:qe x=true:=qx.1;have yok:qe y=true:=qy.1;have nsz:(qD.mk N).sz<=100000:=by
  have:=VI (f:=qB.sz) (k:=8) λz hz=>sp.sz hz;unfold qD.sz;simp only;omega
 have lA0:=qR hu;have lB0:=qR hv0;have exx:N[A]=u:=(gSi.1 hu).2;have eyy:N[B]=v:=(gSi.1 hv0).2;have hord:Qc u v=(x,y):=by
  unfold Qc;rcases hor with⟨e,_,_,rfl,rfl⟩ | ⟨e,_,_,rfl,rfl⟩<;>rw[e]<;>rfl
 have hsw:(if zI u v=true then AV.tup [iI (B:Int),iI (A:Int)]else .tup [iI (A:Int),iI (B:Int)])=.tup [iI (a:Int),iI (b:Int)]:=by
  rcases hor with⟨e,rfl,rfl,_,_⟩ | ⟨e,rfl,rfl,_,_⟩<;>rw[e]<;>rfl
 have hbz:∀t∈bk,t.sz<=600000:=λt ht=>by
  unfold ju at hbk;simp only[bAt]at hbk;have:=Z8 (lAt.1 hbk.2 t ht);omega
 have c1:=qhQ (bk:=bk) (n:=⟨N⟩) (a:=A) (b:=B) lA0 lB0 (λz hz=>by have:=sp.sz hz;omega) hbz (by
  simp only[exx,eyy,hord];intro c;have kx:x.Kind≠1:=λe=>a0 (qx.2.1 e);have ky:y.Kind≠1:=λe=>b0 (qy.2.1 e);obtain⟨e,_,_⟩:=qBS xok yok kx ky hf (by omega);have k:=(Q3 (ka:=x.Kind) (la:=x.Level) (kb:=y.Kind) (lb:=y.Level)).2.2.2.2.2.2.1 (e.trans c);have hv:=qDE xok k.1;unfold wU at hv;rw[zP]at hv;exact hv.1)
 simp only[exx,eyy,hord]at c1;have tP:=qC4 (N:=N) htp;have pP:=qC3 (N:=N) (post:=post');have hc1:0<(qD.enc ⟨N⟩).cells.length:=Nat.zero_lt_one;refine sI F979 ?_;simp only[F979,qM,go_sem];refine wI (Cvs.cons qiW (Cvs.cons (hN.cvn hw hpc) (Cvs.cons (.refl rfl) (Cvs.cons (.refl rfl) Cvs.nil)))) (Pure.lk1 tP pP hc1 c1) rfl ?_;simp only[go_sem];apply qI<;>intro hc<;>simp only[hc,go_sem]
 ·exact hK1 (by simpa using hc)
 have hg:(qk bk x y).2=0:=by simpa using hc
 clear hc c1;refine wI (Cvs.cons (hN.cvn hw hpc) Cvs.nil) (Pure.lk0 tP pP hc1 (qbC (n:=⟨N⟩) (by omega))) rfl ?_;have hcl:=XO (R:=R) (n:=N.length);rw[sp.live];have gb:=qcV (bk:=bk) (x:=x) (y:=y);have ew:IntKind.i64.wrap (((qT R N.length:Nat):Int)+(qk bk x y).1)=(qT R N.length:Int)+(qk bk x y).1:=wsA;simp only[go_sem,ew];apply qI<;>intro hc<;>simp only[hc,go_sem]
 ·exact hK2 hg (by simpa using hc)
 have hfull:(qT R N.length:Int)+(qk bk x y).1<=600:=by simpa using hc
 clear hc;have G:zW R bk N a b x y:=⟨ok,hbk,hA,a0,b0,hf,hg,hfull⟩;have hK:=hK3 G;clear hK1 hK2 hK3;refine wI (Cvs.cons (hN.cvn hw hpc) (Cvs.cons (.refl rfl) (Cvs.cons (.refl rfl) Cvs.nil))) (Pure.lk0 tP pP hc1 (c743 (n:=⟨N⟩) lA0 lB0)) (by split<;>rfl) ?_;simp only[exx,eyy];rw[hsw];simp only[go_sem];obtain⟨aid,ps,hNA⟩:=hN;have hN:NE w post base nid h N:=⟨_,_,hNA⟩;simp only[hNA.o,zH la,zH lb,go_sem];refine wI (Cvs.cons (hNA.cva hA.x) (Cvs.cons (hNA.cva hA.y) Cvs.nil)) c744 rfl ?_;simp only[go_sem];have lA:=qaC bk N a b x y;have tl:∀(g:List qC)(s m:qu),get s 1=some (.ptr nid 0 0)->get s 3=some (iI (b:Nat))->get s 11=some (iI (qN x y))->NE w post base nid g (qz bk N a b x y)->Keep base h g->
   wT ⟨Gm,h.length,[],[]⟩ (some (1304,[.ptr nid 0 0,iI (a:Nat)])) false (some 128) [] [.code qA8] ⟨s,m,g⟩ (Js [.t 8] K):=by
  intro g s m e1 e3 e11 nA kA;refine qU (qfS nA (Nat.lt_of_lt_of_le la lA) λg1 n1 k1=>?_);simp only[go_sem,e1,e3,e11];apply qI<;>intro hc<;>simp only[hc,go_sem]
  ·have c7:qN x y≠7:=by simpa using hc
   simp only[e1,e3,go_sem];refine qU (qfS n1 (by rw[lLs];exact Nat.lt_of_lt_of_le lb lA) λg2 n2 k2=>?_);simp only[go_sem];exact hK g2 (by unfold j9;rw[if_neg c7];exact n2) (kA.trans (k1.trans k2))
  ·have c7:qN x y=7:=by simpa using hc
   exact hK g1 (by unfold j9;rw[if_pos c7];exact n1) (kA.trans k1)
 have P:=hA.pr;obtain⟨e,n0,n9⟩:=G.rule;obtain⟨r1,r2,r3,r4,r5,r6,r7,r8⟩:=Q3 (ka:=x.Kind) (la:=x.Level) (kb:=y.Kind) (lb:=y.Level);have xz:=Z9 xok;have yz:=Z9 yok;have c17:=G.cls;apply qI<;>intro hc<;>simp only[hc,go_sem]
 ·have c1:qN x y=1:=by simpa using hc
  have p1:x.Ports.length=3:=jn xok (by have:=r1;have:=r2;omega);have p2:y.Ports.length=3:=jn yok (by have:=r1;have:=r2;omega);refine qL zS ?_;simp only[go_sem];refine qL zS ?_;simp only[go_sem];have w1:=XZ P p1 p2;refine qU (KF (s:=1) (k:=1) hN (P.ax (by omega)) (P.by' (by omega)) (P.w.peer (P.ax (by omega)) (P.na (by omega))) (P.w.peer (P.by' (by omega)) (P.nb (by omega))) λg n k=>?_);simp only[go_sem];refine qL zS ?_;simp only[go_sem];refine qL zS ?_;simp only[go_sem];have a2:Has (jg N (pt a 1) (pt b 1)) a 2:=(P.ax (by omega)).same (JF _ _ _);have b2:Has (jg N (pt a 1) (pt b 1)) b 2:=(P.by' (by omega)).same (JF _ _ _);refine qU (KF (s:=2) (k:=2) n a2 b2 (w1.peer a2 (by rintro(q | q | q);exact P.na (by omega) q;omega;omega)) (w1.peer b2 (by rintro(q | q | q);exact P.nb (by omega) q;omega;omega)) λg2 n2 k2=>?_);simp only[go_sem];exact tl _ _ _ (by simp[go_sem]) (by simp[go_sem]) (by simp[go_sem]) (by unfold qz;rw[if_pos (by omega)];exact n2) (k.trans k2)
 have n1:qN x y≠1:=by simpa using hc
 clear hc;apply qI<;>intro hc<;>simp only[hc,go_sem]
 ·have c2:qN x y=2:=by simpa using hc
  have p1:x.Ports.length=3:=jn xok (by have:=r1;have:=r2;omega);have p2:y.Ports.length=3:=jn yok (by have:=r1;have:=r2;omega);refine qL zS ?_;simp only[go_sem];refine qL zS ?_;simp only[go_sem];have w1:=XZ P p1 p2;refine qU (KF (s:=1) (k:=1) hN (P.ax (by omega)) (P.by' (by omega)) (P.w.peer (P.ax (by omega)) (P.na (by omega))) (P.w.peer (P.by' (by omega)) (P.nb (by omega))) λg n k=>?_);simp only[go_sem];refine qL zS ?_;simp only[go_sem];refine qL zS ?_;simp only[go_sem];have a2:Has (jg N (pt a 1) (pt b 1)) a 2:=(P.ax (by omega)).same (JF _ _ _);have b2:Has (jg N (pt a 1) (pt b 1)) b 2:=(P.by' (by omega)).same (JF _ _ _);refine qU (KF (s:=2) (k:=2) n a2 b2 (w1.peer a2 (by rintro(q | q | q);exact P.na (by omega) q;omega;omega)) (w1.peer b2 (by rintro(q | q | q);exact P.nb (by omega) q;omega;omega)) λg2 n2 k2=>?_);simp only[go_sem];exact tl _ _ _ (by simp[go_sem]) (by simp[go_sem]) (by simp[go_sem]) (by unfold qz;rw[if_pos (by omega)];exact n2) (k.trans k2)
 have n2:qN x y≠2:=by simpa using hc
 clear hc;apply qI<;>intro hc<;>simp only[hc,go_sem]
 ·have c3:qN x y=3:=by simpa using hc
  refine qU (qoF P hN (jn xok (.inr (.inr (.inl (r3 (e.trans c3)))))) (zi yok).2 (by omega) (by omega) λg n k=>?_);simp only[go_sem];exact tl _ _ _ (by simp[go_sem]) (by simp[go_sem]) (by simp[go_sem]) (by unfold qz;rw[if_neg (by omega),if_pos c3];exact n) k
 have n3:qN x y≠3:=by simpa using hc
 clear hc;apply qI<;>intro hc<;>simp only[hc,go_sem]
 ·have c4:qN x y=4:=by simpa using hc
  have y0:=(zi yok).2;obtain⟨q,hq,ha,hr,hv⟩:=hNA.at hA.y y0;simp only[hNA.o,zH lb,hNA.a,ha,hv,go_sem];refine Sem.loop (α:=Nat×List qC) (λq=>q.1+1<=y.Ports.length/\NE w post base nid q.2 (jp b q.1 N)/\Keep base h q.2)
   (λq=>(⟨[(1,.ptr nid 0 0),(2,iI (a:Nat)),(3,iI (b:Nat)),(11,iI (qN x y)),(12,iI (y.Ports.length:Nat)),(13,iI ((q.1+1:Nat):Int))],[],q.2⟩:VSt)) (λq=>y.Ports.length-q.1) (0,h) (by kernel_rfl)
   ⟨by simp only;omega,hN,Keep.refl⟩ csA ?_
  rintro⟨i,g⟩ ⟨hi,hn,hk⟩;simp only at hi hn hk;have hg2:(jp b i N).length=N.length+i:=UH;have yz':=yz;unfold qB.sz at yz';simp only[go_sem];apply qI<;>intro hc<;>simp only[hc,go_sem]
  ·have hlt:i+1<y.Ports.length:=by have:=odT hc;omega
   clear hc;refine qU (Wy (n:=1) hn (by omega) (by omega) λg1 m1 j1=>?_);simp only[go_sem];refine qL zS ?_;simp only[go_sem];refine qL zS ?_;simp only[go_sem];have b1:Has (jp b i N++[qS 5 0 0 [] 1]) b (i+1):=(UI (P.by' (by omega))).app;refine qU (Qf (s:=i+1) (k:=0) m1 b1 (zd (by omega)) (((Ya P (i:=i) (by omega)).add (qS 5 0 0 [] 1)).peer b1 (by rintro(⟨(q | q),_⟩ | q);exact P.nb (by omega) q.1;omega;omega)) λg2 m2 j2=>?_);simp only[go_sem,wuA (n:=i+1)];refine qb (i+1,g2) ⟨by simp only;omega,m2,hk.trans (j1.trans j2)⟩ (by simp only;omega) csA
  ·have hlt:i=y.Ports.length-1:=by have:=odF hc;omega
   clear hc;subst hlt;exact tl _ _ _ (by simp[go_sem]) (by simp[go_sem]) (by simp[go_sem]) (by unfold qz;rw[if_neg (by omega),if_neg n3,if_pos c4];exact hn) hk
 have n4:qN x y≠4:=by simpa using hc
 clear hc;apply qI<;>intro hc<;>simp only[hc,go_sem]
 ·have c5:qN x y=5:=by simpa using hc
  have k5:=r5 (e.trans c5);refine qU (qoG P hN (λk8=>⟨Qy yok (.inl k8), ?_⟩) (λk8=>jn yok (.inr (.inr (.inr (by omega))))) (by omega) (by omega) λg n k=>?_)
  ·have:=ZT yok;unfold z6 at this;rw[k8]at this;simp at this;omega
  simp only[go_sem];exact tl _ _ _ (by simp[go_sem]) (by simp[go_sem]) (by simp[go_sem]) (by unfold qz;rw[if_neg (by omega),if_neg n3,if_neg n4,if_pos c5];exact n) k
 have n5:qN x y≠5:=by simpa using hc
 clear hc;apply qI<;>intro hc<;>simp only[hc,go_sem]
 ·have c6:qN x y=6:=by simpa using hc
  have k6:=r6 (e.trans c6);refine qU (qoH P hN (Qy yok (by omega)) (λk11=>(qDF yok k11).1) (λk11=>?_) (by omega) (by omega) (by omega) λg n k=>?_)
  ·have q:x.Kind=9/\y.Kind=10:=by omega
   have v9:=qDC xok q.1;rw[zP]at v9;exact⟨q.1,(zi xok).2,v9.1,by omega⟩
  simp only[go_sem];exact tl _ _ _ (by simp[go_sem]) (by simp[go_sem]) (by simp[go_sem]) (by unfold qz;rw[if_neg (by omega),if_neg n3,if_neg n4,if_neg n5,if_pos c6];exact n) k
 have n6:qN x y≠6:=by simpa using hc
 clear hc;apply qI<;>intro hc<;>simp only[hc,go_sem]
 ·have c7:qN x y=7:=by simpa using hc
  obtain⟨k12,v0,v1,t1,t2,t3⟩:=G.t7 c7;obtain⟨q,hq,ha,hr,_⟩:=hNA.at hA.x (zi xok).2;have hv:x.Value.toNat<bk.length:=by omega
  have et:zQ bk x.Value=bk[x.Value.toNat]:=by unfold zQ;rw[gEg hv];rfl
  simp only[hNA.o,zH la,hNA.a,ha,Qp v0,gMp,gEg hv,oMs,go_sem];rw[<-et];have ts:=Z8 t1;refine qU (qoI hA.pe hN t1 (zi yok).2 (λz hz=>by have:=Z9 (JW (Ja t1) z hz);omega) ts.2 (by omega) (QZ xok) (λk s q hq=>?_) (λz hz=>QZ (JW (Ja t1) z hz)) λg n k=>?_)
  ·obtain⟨b',t',rfl,e2,_,_⟩:=QY t1 k s q hq id;have:=Jf e2;simp only[pt];omega
  simp only[go_sem];exact tl _ _ _ (by simp[go_sem]) (by simp[go_sem]) (by simp[go_sem]) (by unfold qz;rw[if_neg (by omega),if_neg n3,if_neg n4,if_neg n5,if_neg n6];exact n) k
 ·have:qN x y≠7:=by simpa using hc
  omega
end
section
variable {w:Nat} {post:List AV} {base:Nat->Prop} {nid aid:Nat} {h:List qC} {N M:Ags} {K:AV->List qC->Prop} {a b s c k:Nat} {x y:qB} {R:Nat->Bool}
structure NR(base aid:Nat)(ps:List Nat)(h:List qC)(N:Ags):Prop where
 a:h[aid]?=some (.row 5 (zB N ps) true)
 l:ps.length=N.length
 p:∀(k:Nat)(x:qB)(q:Nat),N[k]?=some x->ps[k]?=some q->0<x.Ports.length->h[q]?=some (.row 2 (x.Ports.map qE.enc) true)
 nd:ps.Nodup
 n3:aid∉ps
 b2:base<=aid
 b3:∀q∈ps,base<=q
 b4:∀q∈ps,∃el,h[q]?=some (.row 2 el true)
theorem NR.lt{base aid:Nat}{ps:List Nat}{h:List qC}{N:Ags}(hN:NR base aid ps h N){q:Nat}(hq:q∈ps):q<h.length:=by obtain⟨el,e⟩:=hN.b4 q hq;exact qR e
theorem NR.push{base oid:Nat}{ps:List Nat}{g:List qC}(hN:NR base oid ps g N)(h00:0<x.Ports.length){X:AV}(hX:X=.agg [iI x.Kind,iI x.Level,iI x.Value,sQ 1 g.length x.Data.length,sQ 2 (g.length+1) x.Ports.length]):
  ∀G,G=((g++[qC.row 1 (x.Data.map qP) true,qC.row 2 (x.Ports.map qE.enc) true]++[qC.row 5 [X] true]).set oid .dead)++[qC.row 5 (zB N ps++[X]) true]->
  ∃G',(∀b s m,Can b ⟨s,m,G⟩ ⟨s,m,G'⟩)/\NR base (g.length+3) (ps++[g.length+1]) G' (N++[x])/\(base<=g.length->Keep (Lo base) g G'):=by
 intro G hG;have k0:=qR hN.a;have c2:=hN.b2;have lG:G.length=g.length+4:=by rw[hG];simp
 have eG:∀j,j<g.length->j≠oid->G[j]?=g[j]?:=λj hj j1=>by
  rw[hG,gAl (by simp;omega),gSn (Ne.symm j1),gAl (by simp;omega),gAl hj]
 have e0:G[g.length]?=some (.row 1 (x.Data.map qP) true):=by
  rw[hG,gAl (by simp),gSn (by omega),gAl (by simp)];exact qgG
 have e1:G[g.length+1]?=some (.row 2 (x.Ports.map qE.enc) true):=by
  rw[hG,gAl (by simp),gSn (by omega),gAl (by simp)];exact Q6
 have e3:G[g.length+3]?=some (.row 5 (zB N ps++[X]) true):=by rw[hG,gAr (by simp)];simp
 obtain⟨G',hG'⟩:∃G',G'=(without [g.length] G).set (g.length+3) (.row 5 (zB N ps++[encR x (g.length+1)]) true):=⟨_,rfl⟩;have lG':G'.length=g.length+4:=by rw[hG'];simp[QI,lG]
 have eK:∀j,j<g.length->j≠oid->G'[j]?=g[j]?:=λj hj j1=>by
  rw[hG',gSn (by omega),Jz (by simp;omega)];exact eG j hj j1
 have hh:[X].length=[encR x (g.length+1)].length/\∀p∈[X].zip [encR x (g.length+1)],HCv (only [g.length] G) p.1 p.2:=by
  rw[hX];unfold encR;rw[Qe h00];refine HCv.list (.agg rfl (HCv.list (.same _) (HCv.list (.same _) (HCv.list (.same _) (HCv.list (.cv (Cv.row (by rw[Qb (by simp)];exact e0) (by simp) (qa shI.tree _) (by decide)) (by simp only[AV.tree];exact qa shI.tree _)) (HCv.list (.same _) (HCv.refls [])))))).2) (HCv.refls [])
 refine⟨G',λb s m=>by rw[hG'];exact Can.giveH [g.length] (by simp) e3 (by simp) (HCv.apps _ hh),⟨?_,by simp[hN.l],λk y r hy hr h0=>?_, ?_, ?_,by omega, ?_, ?_⟩,λhb=>⟨by omega,λj hj=>eK j (by omega) (by omega)⟩⟩
 ·rw[hG',gSs (by rw[QI];omega),qB7 hN.l];rfl
 ·rcases Nat.lt_or_ge k N.length with hk | hk
  ·rw[gAl hk]at hy;rw[gAl (by rw[hN.l];exact hk)]at hr;have hm:=lMo hr;rw[eK r (hN.lt hm) (λe=>hN.n3 (e▸hm))];exact hN.p k y r hy hr h0
  ·rw[gAr hk]at hy;rw[gAr (by rw[hN.l];exact hk),hN.l]at hr;have:k-N.length=0:=by have:=qR hy;simp at this;omega
   rw[this]at hy hr;cases hy;cases hr;rw[hG',gSn (by omega),Jz (by simp)];exact e1
 ·rw[List.nodup_append];exact⟨hN.nd,by simp,λa ha b hb=>by simp at hb;subst hb;intro e;subst e;have:=hN.lt ha;omega⟩
 ·simp only[zu,lMg,not_or];exact⟨λe=>by have:=hN.lt e;omega,by omega⟩
 ·intro r hr;rcases zu.1 hr with hr | hr
  ·exact hN.b3 r hr
  ·simp at hr;subst hr;omega
 ·intro r hr;rcases zu.1 hr with hr | hr
  ·obtain⟨el,e⟩:=hN.b4 r hr;exact⟨el,by rw[eK r (qR e) (λe=>hN.n3 (e▸hr))];exact e⟩
  ·simp at hr;subst hr;exact⟨_,by rw[hG',gSn (by omega),Jz (by simp)];exact e1⟩
def QD(R:Nat->Bool)(i:Nat):List Int:=(List.range i).map λk=>(qT R k:Int)
theorem qmB{i:Nat}:QD R (i+1)=QD R i++[(qT R i:Int)]:=by unfold QD;rw[List.range_succ];simp
theorem qmA{i j:Nat}(h:j<i):((QD R i).map qP)[j]?=some (iI (qT R j:Nat)):=by unfold QD;simp[h,qP]
def JM(M:Ags)(R:Nat->Bool)(i:Nat):Ags:=(qg R i).map λk=>qt R (M.getD k hole)
theorem qmZ{i:Nat}:JM M R (i+1)=JM M R i++if R i then []else [qt R (M.getD i hole)]:=by
 unfold JM;rw[Uv,lMa];split<;>rfl
theorem qmY{i:Nat}:(JM M R i).length<=i:=by simp only[JM,lMp];exact XO
def WD(R:Nat->Bool)(p:qE):qE:=⟨(qT R p.Agent.toNat:Nat),p.Slot⟩
theorem s981(hN:NE w post base nid h M)(hR:∀k x,M[k]?=some x->(x.Kind=0↔R k=true))(hp0:∀k x,M[k]?=some x->R k=false->0<x.Ports.length)(hp:∀k x,M[k]?=some x->R k=false->∀(s:Nat)(q:qE),x.Ports[s]?=some q->0<=q.Agent/\q.Agent<M.length)(hz:∀x∈M,x.sz<=1000)(hl:M.length<=100000)
  (hK:∀h',NE w post base nid h' (qc M R)->Keep base h h'->K (.tup []) h'):SCall Gm 981 [.ptr nid 0 0] h K:=by
 obtain⟨aid,ps,hN⟩:=hN;have k0:=hN.lt;have k1:=hN.lta;have b1:=hN.b1;have b2:=hN.b2;have n1:=hN.n1;refine SCall.run [] [85] (gk _ F981) (by kernel_rfl) rfl ?_;simp only[F981,qM,go_sem];simp only[bPl,go_sem];refine Sem.loop (α:=Nat×List qC×Nat) (λq=>q.1<=M.length/\Keep (Lo h.length) h q.2.1/\h.length<=q.2.2/\q.2.1[q.2.2]?=some (.row 1 ((QD R q.1).map qP) true))
  (λq=>(⟨[(0,.ptr nid 0 0),(2,sQ 1 q.2.2 q.1),(3,iI (qT R q.1:Nat)),(4,iI (q.1:Nat))],[],q.2.1⟩:VSt)) (λq=>M.length-q.1) (0,h++[.row 1 [] true],h.length) (by kernel_rfl)
  ⟨nZl _,Keep.app (λ_ q=>q),nLr _,by simp[QD]⟩
  (Can.ph (WkN.same rfl (WkN.cons rfl (Wk.ph2 (by simp)) (WkN.same rfl (WkN.same rfl WkN.nil)))) WkN.nil) ?_
 rintro⟨i,g,pid⟩ ⟨hi,hk,hpid,hr⟩;simp only at hi hk hpid hr;have on:∀{o:List qC},(g++o)[nid]?=some (.row w [.agg (sQ 5 aid M.length::post)] true):=λ{o}=>by rw[gAl (by have:=hk.l;omega),hk.k _ k0];exact hN.o
 have on0:=on (o:=[]);have oa:g[aid]?=some (.row 5 (zB M ps) true):=by rw[hk.k _ k1];exact hN.a
 rw[lAn]at on0;simp only[bPl,go_sem];simp only[on0,go_sem];apply qI<;>intro hc<;>simp only[hc,go_sem]
 ·have hlt:i<M.length:=by have:=odT hc;omega
  clear hc;have cl:=XO (R:=R) (n:=i);obtain⟨r1,r2⟩:=Qd (tmp:=.row 1 [iI (qT R i:Nat)] true) hr;simp only[bPl,go_sem];refine jN r2 r1 (by simp[QD]) (by omega) ?_;obtain⟨q1,q2⟩:=Ux (x:=iI (qT R i:Nat)) (tmp:=.row 1 [iI (qT R i:Nat)] true) hk (λ_ q=>q) (Nat.not_lt.2 hpid) hr;have em:(QD R i).map qP++[AV.int .i64 (qT R i:Nat)]=(QD R (i+1)).map qP:=by rw[qmB];simp[qP]
  rw[em]at q1 q2|-;simp only[lAp,lCo,lNi,nZa];have on2:∀{o o':List qC},((g++o).set pid .dead++o')[nid]?=some (.row w [.agg (sQ 5 aid M.length::post)] true):=λ{o o'}=>by
   rw[gAl (by have:=hk.l;simp;omega),gSn (by omega)];exact on
  have oa2:∀{o o':List qC},((g++o).set pid .dead++o')[aid]?=some (.row 5 (zB M ps) true):=λ{o o'}=>by
   have:=qR oa;rw[gAl (by simp;omega),gSn (by omega),gAl this];exact oa
  have hx:M[i]?=some M[i]:=gEg hlt;have hce:(zB M ps)[i]?=some (encR M[i] (ps[i]'(by rw[hN.l];exact hlt))):=Qm hx (gEg _);simp only[bPl,go_sem];simp only[on2,zH hlt,oa2,hce,go_sem];have hk0:=hR i _ hx;apply qI<;>intro hc<;>simp only[hc,go_sem]
  ·have hr0:R i=false:=by
    have:¬M[i].Kind=0:=by simpa using hc
    rw[hk0]at this;simpa using this
   have ec:=jO (R:=R) (n:=i);rw[hr0]at ec;simp only[bFt,if_false]at ec;simp only[bPl,go_sem];simp only[wuA (n:=i),wuA (n:=qT R i),<-ec];exact qb (i+1,_,g.length+1) ⟨hlt,q1,by have:=hk.l;simp only;omega,q2⟩ (by simp only;omega) csA
  ·have hr0:R i=true:=hk0.1 (by simpa using hc);have ec:=jO (R:=R) (n:=i);rw[hr0]at ec;simp only[if_true,nAz]at ec;simp only[bPl,go_sem];simp only[wuA (n:=i)];exact qb (i+1,_,g.length+1) ⟨hlt,q1,by have:=hk.l;simp only;omega,q2⟩ (by simp only;omega) (Can.sub (by simp[go_sem,ec]) (by simp[go_sem]))
 ·have hlt:i=M.length:=by have:=odF hc;omega
  clear hc;subst hlt;simp only[bPl,go_sem];have gl:=hk.l;have pl:=qR hr;have lpk:∀i,(JM M R i).length<=i:=λi=>qmY;refine Sem.loop (α:=Nat×List qC×Nat) (λq=>q.1<=M.length/\Keep (Lo g.length) g q.2.1/\g.length<=q.2.2/\∃qs,NR g.length q.2.2 qs q.2.1 (JM M R q.1))
   (λq=>(⟨[(0,.ptr nid 0 0),(2,sQ 1 pid M.length),(5,.slice 5 q.2.2 0 (JM M R q.1).length false),(6,iI (q.1:Nat))],[],q.2.1⟩:VSt)) (λq=>M.length-q.1) (0,g++[.row 5 [] true],g.length) (by kernel_rfl)
   ⟨nZl _,Keep.app (λ_ q=>q),nLr _,[],⟨by simp[JM,qg,zB],by simp[JM,qg],by simp,by simp,by simp,nLr _,by simp,by simp⟩⟩
   (Can.ph (WkN.same rfl (WkN.same rfl (WkN.cons rfl (Wk.ph2 (by simp)) (WkN.same rfl WkN.nil)))) WkN.nil) ?_
  rintro⟨i,f,oid⟩ ⟨hi,jk,hoid,qs,ho⟩;simp only at hi jk hoid ho;have fl:=jk.l;have fn:f[nid]?=some (.row w [.agg (sQ 5 aid M.length::post)] true):=by rw[jk.k _ (by omega)];exact on0
  have fa:f[aid]?=some (.row 5 (zB M ps) true):=by rw[jk.k _ (qR oa)];exact oa
  have hNf:NA w post base nid aid ps f M:=hN.heap (by rw[jk.k _ (by omega),hk.k _ k0]) (by rw[jk.k _ (by omega),hk.k _ k1]) λq hq=>by have:=hN.ltp hq;rw[jk.k _ (by omega),hk.k _ this]
  have fp:f[pid]?=some (.row 1 ((QD R M.length).map qP) true):=by rw[jk.k _ pl];exact hr
  simp only[bPl,go_sem];simp only[fn,go_sem];apply qI<;>intro hc<;>simp only[hc,go_sem]
  ·have hlt:i<M.length:=by have:=odT hc;omega
   clear hc;have hx:M[i]?=some M[i]:=gEg hlt;have hxd:M.getD i hole=M[i]:=by rw[lGd,hx];rfl
   have hkx:=hR i _ hx;have hce:(zB M ps)[i]?=some (encR M[i] (ps[i]'(by rw[hN.l];exact hlt))):=Qm hx (gEg _);have hcv:=hNf.cva hx;have h0x:=hp0 i _ hx;have hpx:=hp i _ hx;have hzx:=hz _ (gMm hlt);have pks:=qmZ (M:=M) (R:=R) (i:=i);rw[hxd]at pks;simp only[bPl,go_sem];simp only[fn,zH hlt,fa,hce,go_sem];clear hce;generalize M[i]=x at hx hkx hpx hzx hcv h0x pks|-;apply qI<;>intro hc<;>simp only[hc,go_sem]
   ·have hr0:R i=false:=by
     have:¬x.Kind=0:=by simpa using hc
     rw[hkx]at this;simpa using this
    clear hc;rw[hr0]at pks;simp only[bFt,if_false]at pks;have hzx':=hzx;unfold qB.sz at hzx';simp only[bPl,go_sem];simp only[fn,zH hlt,go_sem];refine ZD (Cvs.cons hcv Cvs.nil) (n837 x (by omega)) ?_;simp only[qB.layE,AV.rows,ZO,ZN,lNa,lAn,lCa,Ws,nZa];simp only[bPl,go_sem];refine qi (k:=5) (by rfl) (by simp only[go_sem]) ⟨_,rfl⟩ (by decide) ?_;simp only[bPl,go_sem];have fp2:∀{o:List qC},(f++o)[pid]?=some (.row 1 ((QD R M.length).map qP) true):=λ{o}=>by rw[gAl (qR fp)];exact fp
    refine Sem.loop (λj:Nat=>j<=x.Ports.length/\True) (λj=>(⟨[(0,.ptr nid 0 0),(2,sQ 1 pid M.length),(5,.slice 5 oid 0 (JM M R i).length false),(6,iI (i:Nat)),(8,iI (j:Nat))],
     [(7,.agg [iI x.Kind,iI x.Level,iI x.Value,sQ 1 f.length x.Data.length,sQ 2 (f.length+1) x.Ports.length])],f++[.row 1 (x.Data.map qP) true,.row 2 ((wC (WD R) x.Ports j).map qE.enc) true]⟩:VSt)) (λj=>x.Ports.length-j) 0 (by kernel_rfl) ⟨nZl _,trivial⟩
     (by rw[Yn];exact csA) ?_
    rintro j ⟨hj,_⟩;simp only[bPl,go_sem];apply qI<;>intro hc<;>simp only[hc,go_sem]
    ·have hlj:j<x.Ports.length:=by have:=odT hc;omega
     clear hc;have hq:=hpx hr0 j _ (gEg hlj);have hm:((wC (WD R) x.Ports j).map qE.enc)[j]?=some (x.Ports[j].enc):=by rw[gMp,Yo hlj];rfl
     have hnw:=qmA (R:=R) (i:=M.length) (j:=x.Ports[j].Agent.toNat) (by omega);simp only[bPl,go_sem];simp only[JZ hlj,Q6,hm,qc4 hq.1 hq.2,nZa,fp2,hnw,go_sem];refine ql rfl Q6 hm Yz ?_;have ep:(⟨(qT R x.Ports[j].Agent.toNat:Nat),x.Ports[j].Slot⟩:qE)=WD R x.Ports[j]:=rfl;rw[ep,<-List.map_set,Yq hlj,KO];simp only[bPl,go_sem];simp only[wuA (n:=j)];refine qb (j+1) ⟨by omega, ?_⟩ (by omega) csA;trivial
    ·have hlj:j=x.Ports.length:=by have:=odF hc;omega
     clear hc;subst hlj;rw[Yp];simp only[bPl,go_sem];have lo:=qR ho.a;have li:=lpk i;refine jN (len:=(JM M R i).length) (x:=.agg [iI x.Kind,iI x.Level,iI x.Value,sQ 1 f.length x.Data.length,sQ 2 (f.length+1) x.Ports.length]) (w:=5) (by simp) (by rw[gAl (by simp;omega),gAl lo];exact ho.a) (Qn ho.l) (by omega) ?_;have eP:x.Ports.map (WD R)=(qt R x).Ports:=rfl;rw[eP];have hX:(AV.agg [iI x.Kind,iI x.Level,iI x.Value,sQ 1 f.length x.Data.length,sQ 2 (f.length+1) x.Ports.length])=.agg [iI (qt R x).Kind,iI (qt R x).Level,iI (qt R x).Value,.slice 1 f.length 0 (qt R x).Data.length false,.slice 2 (f.length+1) 0 (qt R x).Ports.length false]:=by simp[qt]
     obtain⟨G',c1,m1,q1⟩:=ho.push (x:=qt R x) (by simpa[qt]using h0x hr0) hX _ rfl;have el:(JM M R i).length+1=(JM M R (i+1)).length:=by rw[pks];simp
     rw[<-pks]at m1;simp only[bPl,go_sem];simp only[lAp,lCo,lNi,nZa,el,wuA (n:=i)];exact qb (i+1,G',f.length+3) ⟨hlt,jk.trans (q1 jk.l),by simp only;omega,_,m1⟩ (by simp only;omega) ((c1 _ _ _).trans csA)
   ·have hr0:R i=true:=hkx.1 (by simpa using hc);clear hc;rw[hr0,if_pos rfl,lAn]at pks;simp only[bPl,go_sem];simp only[wuA (n:=i)];exact qb (i+1,f,oid) ⟨hlt,jk,hoid,qs,by simp only;rw[pks];exact ho⟩ (by simp only;omega) (Can.sub (by simp[go_sem,pks]) (by simp[go_sem]))
  ·have hlt:i=M.length:=by have:=odF hc;omega
   clear hc;subst hlt;simp only[bPl,go_sem];refine Sem.can (Can.sub (s':=[(0,.ptr nid 0 0),(5,.slice 5 oid 0 (JM M R M.length).length false)]) (m':=[]) (by simp[go_sem]) (by simp[go_sem])) (Sem.reg (by kernel_rfl) ?_);simp only[bPl,go_sem];refine ql (e:=.agg (sQ 5 aid M.length::post)) rfl fn rfl Xv ?_;simp only[bPl,go_sem];have jl:=jk.l;have c2:=ho.b2;have ko:=qR ho.a;have eo:∀j,j≠nid->(f.set nid (.row w [.agg (.slice 5 oid 0 (JM M R M.length).length false::post)] true))[j]?=f[j]?:=λj hj=>gSn (Ne.symm hj);refine hK _ ⟨oid,qs,⟨?_, ?_,ho.l,λk x q hx hq h00=>?_,ho.nd,by omega,λe=>by have:=ho.b3 _ e;omega,ho.n3,b1,λq=>by have:=hN.bl _ q;have:=hk.l;omega,λq hq qq=>by have:=ho.b3 q hq;have:=hN.bl _ qq;have:=hk.l;omega,λq hq=>by have:=ho.b3 q hq;rw[lSz,gSn (by omega)];exact ho.b4 q hq,λj hj=>by have:=hN.bl j hj;have:=hk.l;rw[lLs];omega⟩⟩ ⟨by rw[lLs];omega,λj hj=>?_⟩
   ·rw[lSz,gSs (by omega)];rfl
   ·rw[lSz,eo _ (by omega)];exact ho.a
   ·have:=ho.b3 q (lMo hq);rw[lSz,eo _ (by omega)];exact ho.p k x q hx hq h00
   ·have:=hN.bl j hj;have:=hk.l;rw[lSz,eo _ (Ne.symm (nbe b1 hj)),jk.k _ (by omega),hk.k _ (by omega)]
end
structure KM(base:Nat->Prop)(h h':List qC):Prop extends Keep base h h' where
 m:∀(j:Nat) es,h[j]?=some (.map es)->h'[j]?=some (.map es)
theorem KM.refl{b:Nat->Prop}{h:List qC}:KM b h h:=⟨Keep.refl,λ_ _ q=>q⟩
theorem KM.trans{b:Nat->Prop}{h h1 h2:List qC}(x:KM b h h1)(y:KM b h1 h2):KM b h h2:=⟨x.toKeep.trans y.toKeep,λj es q=>y.m j es (x.m j es q)⟩
theorem KM.app{b:Nat->Prop}{h ex:List qC}(hb:∀j,b j->j<h.length):KM b h (h++ex):=⟨Keep.app hb,λj es q=>by rw[gAl (qR q)];exact q⟩
theorem KM.set{b:Nat->Prop}{i w:Nat}{h:List qC}{el:List AV}{rw':Bool}{o:qC}(hb:¬b i)(hr:h[i]?=some (.row w el rw')):KM b h (h.set i o):=
 ⟨Keep.set hb,λj es q=>by rw[gSn (λe=>by rw[e]at hr;rw[hr]at q;cases q)];exact q⟩
theorem KM.wo{b:Nat->Prop}{h h':List qC}{ids:List Nat}(hk:KM b h h')(hb:∀j,b j->j<h.length)(hi:∀i∈ids,h.length<=i):KM b h (without ids h'):=
 ⟨hk.toKeep.wo λi q r=>by have:=hi i q;have:=hb _ r;omega,λj es q=>by rw[Jz (λe=>by have:=hi j e;have:=qR q;omega)];exact hk.m j es q⟩
theorem KM.up{b c:Nat->Prop}{h h':List qC}(hb:∀j,b j->c j)(hk:KM c h h'):KM b h h':=⟨hk.toKeep.up hb,hk.m⟩
structure K1(base:Nat->Prop)(h h':List qC):Prop extends KM base h h' where
 r:∀(j:Nat) el,h[j]?=some (.row 1 el true)->h'[j]?=some (.row 1 el true)
theorem K1.refl{b:Nat->Prop}{h:List qC}:K1 b h h:=⟨KM.refl,λ_ _ q=>q⟩
theorem K1.trans{b:Nat->Prop}{h h1 h2:List qC}(x:K1 b h h1)(y:K1 b h1 h2):K1 b h h2:=⟨x.toKM.trans y.toKM,λj es q=>y.r j es (x.r j es q)⟩
theorem K1.app{b:Nat->Prop}{h ex:List qC}(hb:∀j,b j->j<h.length):K1 b h (h++ex):=⟨KM.app hb,λj es q=>by rw[gAl (qR q)];exact q⟩
theorem K1.set{b:Nat->Prop}{i w:Nat}{h:List qC}{el:List AV}{rw':Bool}{o:qC}(hb:¬b i)(hr:h[i]?=some (.row w el rw'))(hw:w≠1):K1 b h (h.set i o):=
 ⟨KM.set hb hr,λj es q=>by rw[gSn (λe=>by rw[e]at hr;rw[hr]at q;simp only[oSi,qC.row.injEq]at q;exact hw q.1)];exact q⟩
theorem K1.wo{b:Nat->Prop}{h h':List qC}{ids:List Nat}(hk:K1 b h h')(hb:∀j,b j->j<h.length)(hi:∀i∈ids,h.length<=i):K1 b h (without ids h'):=
 ⟨hk.toKM.wo hb hi,λj es q=>by rw[Jz (λe=>by have:=hi j e;have:=qR q;omega)];exact hk.r j es q⟩
theorem K1.up{b c:Nat->Prop}{h h':List qC}(hb:∀j,b j->c j)(hk:K1 c h h'):K1 b h h':=⟨hk.toKM.up hb,hk.r⟩
section
variable {w:Nat} {post:List AV} {base:Nat->Prop} {nid:Nat} {h:List qC} {N:Ags} {K:AV->List qC->Prop} {a s c k:Nat}
theorem s555(hN:NE w post base nid h N)(hp:Has N a s)(hK:K (zy N (pt a s)).enc h):SCall Gm 555 [.ptr nid 0 0,(pt a s).enc] h K:=by
 obtain⟨aid,ps,hN⟩:=hN;obtain⟨x,hx,hs⟩:=jX.1 hp;obtain⟨q,hq,ha,hr,hv⟩:=hN.at hx (Nat.zero_lt_of_lt hs);have e:zy N (pt a s)=x.Ports[s]:=Wr (je.2 ⟨x,hx,gEg hs⟩);rw[e]at hK;refine sI WL ?_;simp only[WL,qM,go_sem];refine qZ rfl ?_;simp only[go_sem,hN.o,pt,zH (qR hx),hN.a,ha,hv,JZ hs,hr,Xu hs];refine qi rfl rfl ⟨_,rfl⟩ (by decide) ?_;simp only[go_sem];exact hK
theorem X1(hN:NE w post base nid h N)(h1:Has N a s)(h2:Has N c k)(hK:∀h',NE w post base nid h' (ze N (pt a s) (pt c k))->K1 base h h'->K (.tup []) h'):SCall Gm 1196 [.ptr nid 0 0,(pt a s).enc,(pt c k).enc] h K:=by
 obtain⟨aid,ps,hN⟩:=hN;obtain⟨x,hx,hs⟩:=jX.1 h1;obtain⟨q,hq,ha,hr,hv⟩:=hN.at hx (Nat.zero_lt_of_lt hs);have b1:=hN.b3 _ (lMo hq);have hN1:=hN.write (s:=s) (r:=pt c k) hx hq;obtain⟨y,hy,hk⟩:=jX.1 ((X5 N (pt a s) (pt c k)).has.1 h2);obtain⟨q',hq',ha',hr',hv'⟩:=hN1.at hy (Nat.zero_lt_of_lt hk);have b2:=hN1.b3 _ (lMo hq');have hN2:=hN1.write (s:=k) (r:=pt a s) hy hq';refine sI Kn ?_;simp only[Kn,qM,go_sem];refine qZ rfl ?_;simp only[go_sem];refine qZ rfl ?_;simp only[go_sem,hN.o,pt,zH (qR hx),hN.a,ha,hv,JZ hs];refine ql rfl hr (Xu hs) U7 ?_;rw[KN];simp only[go_sem,hN1.o,zH (qR hy),hN1.a,ha',hv',JZ hk];refine ql rfl hr' (Xu hk) U7 ?_;rw[KN];simp only[go_sem];exact hK _ ⟨aid,ps,hN2⟩ ((K1.set b1 hr (by decide)).trans (K1.set b2 hr' (by decide)))
theorem qBA{A B:Ags}(h:SameA A B)(e:∀b u,atP A b u=atP B b u):A=B:=by
 refine List.ext_getElem? λi=>?_;cases hx:A[i]? with
 | none=>
  have l:=h.len;have:=List.getElem?_eq_none_iff.1 hx;rw[gEn (by omega)]
 | some x=>
  obtain⟨y,hy,c⟩:=h.at hx;rw[hy];have ep:x.Ports=y.Ports:=List.ext_getElem? λu=>by
   have:=e i u;unfold atP at this;rwa[hx,hy]at this
  simp only[jP,Prod.mk.injEq]at c;obtain⟨c1,c2,c3,c4,_⟩:=c;cases x;cases y;simp_all
theorem qCT{p q r t:Nat}(hne:¬(p=r/\q=t))(h1:Has N p q)(h2:Has N r t):ze N (pt p q) (pt r t)=ze N (pt r t) (pt p q):=by
 have l1:=zo N (pt p q) (pt r t);have l2:=zo N (pt r t) (pt p q);refine qBA (l1.back.trans l2) λb u=>?_;rw[wu h1 h2,wu h2 h1];by_cases e1:b=r/\u=t
 ·rw[if_pos e1,if_neg (by omega),if_pos e1]
 ·rw[if_neg e1];by_cases e2:b=p/\u=q
  ·rw[if_pos e2,if_pos e2]
  ·rw[if_neg e2,if_neg e2,if_neg e1]
theorem Q4(hN:NE w post base nid h N)(h1:Has N a s)(h2:Has N c k)(h3:∃b t,zy N (pt a s)=pt b t/\Has N b t/\¬(c=b/\k=t))(hK:∀h',NE w post base nid h' (zq N (pt a s) (pt c k))->K1 base h h'->K (.tup []) h'):SCall Gm 1310 [.ptr nid 0 0,(pt a s).enc,(pt c k).enc] h K:=by
 obtain⟨b,t,e,h3,ne⟩:=h3;refine sI kQ ?_;simp only[kQ,qM,go_sem];refine qZ rfl ?_;simp only[go_sem];refine qZ rfl ?_;simp only[go_sem];refine qU (s555 hN h1 ?_);simp only[go_sem,e];refine qU (X1 hN h3 h2 λh' hN' hk=>?_);simp only[go_sem];exact hK _ (by unfold zq;rw[e,qCT ne h2 h3];exact hN') hk
theorem KG(hN:NE w post base nid h N)(h1:Has N a s)(h2:Has N c k)(h3:∃b t,zy N (pt a s)=pt b t/\Has N b t)(h4:∃b t,zy N (pt c k)=pt b t/\Has N b t)
  (hK:∀h',NE w post base nid h' (jg N (pt a s) (pt c k))->K1 base h h'->K (.tup []) h'):SCall Gm 1308 [.ptr nid 0 0,(pt a s).enc,(pt c k).enc] h K:=by
 obtain⟨b,t,e,h3⟩:=h3;obtain⟨b',t',e',h4⟩:=h4;refine sI kO ?_;simp only[kO,qM,go_sem];refine qZ rfl ?_;simp only[go_sem];refine qZ rfl ?_;simp only[go_sem];refine qU (s555 hN h1 ?_);simp only[go_sem,e];refine qU (s555 hN h2 ?_);simp only[go_sem,e'];refine qi rfl rfl ⟨_,rfl⟩ (by decide) ?_;simp only[go_sem];refine qi rfl rfl ⟨_,rfl⟩ (by decide) ?_;simp only[go_sem];apply qI<;>intro hc<;>simp only[hc,go_sem]
 ·refine qU (X1 hN h3 h4 λh' hN' hk=>?_);simp only[go_sem];refine hK _ ?_ hk;unfold jg;rw[e,e',if_neg (λq=>by rw[q]at hc;simp at hc)];exact hN'
 ·refine hK _ ?_ K1.refl;unfold jg;rw[e,if_pos (by simpa using hc)];exact hN
theorem c401(xs:List Int)(hz:xs.length<=4194304):Pure Gm 401 [lQ xs] (lQ xs):=
 (Ul xs hz).pure (by simp only[AV.cn];simp[ZG (enc:=qP) (λ_=>rfl)]) (by simp only[AV.tree];exact qa shI.tree _)
theorem KH{kk lv v:Int}{d:List Int}{n:Nat}(hw:w≠1)(hN:NE w post base nid h N)(hd:d.length<=1048576)(hn:n<=1048576)(hl:N.length<=1048576)
  (hK:∀h',NE w post base nid h' (N++[qS kk lv v d n])->K1 base h h'->K (iI (N.length:Nat)) h') (h0:0<n:=by omega):SCall Gm 1311 [.ptr nid 0 0,iI kk,iI lv,iI v,lQ d,iI (n:Nat)] h K:=by
 obtain⟨aid,ps,hN⟩:=hN;have hbl:=hN.bl;have k0:=hN.lt;have k1:=hN.lta;refine sI kR ?_;simp only[kR,qM,go_sem,hN.o];refine qL (c401 d (by omega)) ?_;simp only[go_sem];refine Xj (by show n<=4294967296;omega) ?_;simp only[go_sem];have hr:(h++[qC.row 2 (List.replicate n (AV.agg [iI 0,iI 0])) true])[h.length]?=some (.row 2 ((qS kk lv v d n).Ports.map qE.enc) true):=by rw[gCl];simp[qS,qE.enc]
 have hN1:NA w post base nid aid ps (h++[qC.row 2 (List.replicate n (AV.agg [iI 0,iI 0])) true]) N:=hN.app _;have eX:encR (qS kk lv v d n) h.length=.agg [iI kk,iI lv,iI v,lQ d,sQ 2 h.length n]:=by simp only[encR,qS,pv,lLr];rw[if_neg (by omega)]
 obtain⟨r1,r2⟩:=Qd (tmp:=.row 5 [.agg [iI kk,iI lv,iI v,lQ d,sQ 2 h.length n]] true) hN1.a;have hl5:=Qn hN.l;refine jN r2 r1 hl5 (by omega) ?_;obtain⟨h2,e2,e3⟩:=hN1.pushed (x:=qS kk lv v d n) (q:=h.length) (b:=h.length) (tmp:=.row 5 [.agg [iI kk,iI lv,iI v,lQ d,sQ 2 h.length n]] true) hr (λq=>by have:=hbl _ q;omega) (nLr _) (λq=>hN.ltp q) k0 k1;rw[eX]at h2 e2 e3;simp only[lAp,nZa,go_sem]at h2 e2 e3|-;refine ql rfl h2 rfl Xv ?_;simp only[lSz];have km:∀{g:List qC}{tm nw o:qC},g[aid]?=some (.row 5 (zB N ps) true)->g[nid]?=some (.row w [.agg (sQ 5 aid N.length::post)] true)->(∀j,base j->j<g.length)->K1 base g ((((g++[tm]).set aid .dead)++[nw]).set nid o):=λ{g tm nw o} q1 q2 q3=>by
  have t1:K1 base g (g++[tm]):=K1.app q3;have t2:K1 base (g++[tm]) ((g++[tm]).set aid .dead):=K1.set hN.b2 (by rw[gAl (qR q1)];exact q1) (by decide);have t3:K1 base ((g++[tm]).set aid .dead) (((g++[tm]).set aid .dead)++[nw]):=K1.app (λj hj=>by have:=q3 j hj;simp;omega);have t4:K1 base (((g++[tm]).set aid .dead)++[nw]) ((((g++[tm]).set aid .dead)++[nw]).set nid o):=K1.set hN.b1 (by
   rw[gAl (by have:=qR q2;simp;omega),gSn (Ne.symm hN.n1),gAl (qR q2)];exact q2) hw
  exact((t1.trans t2).trans t3).trans t4
 have e3:=km (tm:=qC.row 5 [.agg [iI kk,iI lv,iI v,lQ d,sQ 2 h.length n]] true) (nw:=qC.row 5 (zB N ps++[.agg [iI kk,iI lv,iI v,lQ d,sQ 2 h.length n]]) true) (o:=.row w [.agg (sQ 5 (h.length+1+1) (N.length+1)::post)] true) hN1.a hN1.o hN1.bl;generalize hg:List.set _ _ _=h3;rw[hg]at e2 e3;simp only[go_sem,e2.o];have e5:IntKind.i64.wrap (((N.length+1:Nat):Int)-1)=((N.length:Nat):Int):=by rw[wsA];omega
 simp only[lAp,nZa,e5,go_sem];exact hK _ ⟨_,_,e2⟩ ((K1.app hbl).trans e3)
theorem X2{kk lv v:Int}{n:Nat}(hw:w≠1)(hN:NE w post base nid h N)(hn:n<=1048576)(hl:N.length<=1048576)
  (hK:∀h',NE w post base nid h' (N++[qS kk lv v [] n])->K1 base h h'->K (iI (N.length:Nat)) h') (h0:0<n:=by omega):SCall Gm 1311 [.ptr nid 0 0,iI kk,iI lv,iI v,.nils,iI (n:Nat)] h K:=
 SCall.arg (Wks.same (Wks.same (Wks.same (Wks.same (.cons .nilL (Wks.same .nil)))))) (KH (d:=[]) hw hN (by simp) hn hl hK)
theorem qoN{kk lv v d:Int}{n:Nat}(hw:w≠1)(hN:NE w post base nid h N)(hn:n<=1048576)(hl:N.length<=1048576)
  (hK:∀h',NE w post base nid h' (N++[qS kk lv v [d] n])->K1 base h h'->K (iI (N.length:Nat)) h') (h0:0<n:=by omega):
  SCall Gm 1311 [.ptr nid 0 0,iI kk,iI lv,iI v,sQ 1 h.length 1,iI (n:Nat)] (h++[.row 1 [iI d] true]) K:=by
 have hbl:=hN.bl;have hk:K1 (Lo h.length) h (without [h.length] (h++[.row 1 [iI d] true])):=(K1.app (λ_ q=>q)).wo (λ_ q=>q) (by simp);refine SCall.giveH [h.length] (vs':=[.ptr nid 0 0,iI kk,iI lv,iI v,.lst 1 ([d].map qP) false,iI (n:Nat)]) ?_ (KH (d:=[d]) hw (hN.keep hk.toKeep) (by simp) hn hl λh' n1 k1=>hK h' n1 ((hk.up hbl).trans k1));refine HCv.list (.same _) (HCv.list (.same _) (HCv.list (.same _) (HCv.list (.same _) (HCv.list (.cv (Cv.row (by rw[Qb (by simp)];simp[qP]) rfl rfl (by decide)) rfl) (HCv.list (.same _) (HCv.refls []))))))
end
theorem XN{c p:Int}(h0: -1000000<=p)(h1:p<=1000000):Pure Gm 1461 [iI c,iI p] (.tup [iI (jA c p).1,iI (jA c p).2]):=by
 refine pJ qAL ?_;simp only[qAL,qM,go_sem];have w2:IntKind.i64.wrap (p+ -2)=p-2:=by rw[wsA];omega
 have w1:IntKind.i64.wrap (p+ -1)=p-1:=by rw[wsA];omega
 have w0:IntKind.i64.wrap (p+0)=p:=by rw[wsA];omega
 unfold jA
 repeat' (first | (first | (apply qj<;>intro hc<;>simp only[hc,go_sem]) | (apply qI<;>intro hc<;>simp only[hc,go_sem])) | (refine JY (by rfl) ?_))
 all_goals simp_all[inI]
 all_goals first
  | omega
  | (rw[if_neg (by omega)];exact⟨rfl,rfl⟩)
def lvA(by':Int)(x:qB):qB:=if wz x.Kind then{x with Level:=x.Level+by'}else x
def JH(by':Int)(x:qB):Bool:= !wz x.Kind || decide (x.Level+by'<=8)
def Jn(n:qD)(by':Int):qD×Bool:=if n.Agents.all (JH by')then(⟨n.Agents.map (lvA by')⟩,true)else(⟨[]⟩,false)
def Q0(r:qD×Bool):AV:=.tup [r.1.enc,.bool r.2]
def Ju(by':Int)(xs:Ags)(i:Nat):Ags:=(xs.take i).map (lvA by')++xs.drop i
theorem We:∀{N:Ags}{m k:Nat}{x:qB},N[k]?=some x->(qK (N.map qB.enc) m).1[k]?=some (.agg [.int .i64 x.Kind,.int .i64 x.Level,.int .i64 x.Value,sQ 1 (m+2*k) x.Data.length,sQ 2 (m+2*k+1) x.Ports.length])
 | y::ys,m,0,x,h=>by
  cases h;simp only[lMc,qK,qB.layE,AV.rows,Ws,nZa,List.getElem?_cons_zero,Nat.mul_zero,nAz]
 | y::ys,m,k+1,x,h=>by
  have:=We (N:=ys) (m:=m+2) (k:=k) (x:=x) h;simp only[lMc,qK,qB.layE,ZO,ZN,lCa,lNa,lCo,lNi,List.getElem?_cons_succ];rw[show m+2*(k+1)=m+2+2*k by omega];exact this
theorem qdG:∀{A B:Ags}{m:Nat},A.map (λx=>(x.Data,x.Ports))=B.map (λx=>(x.Data,x.Ports))->(qK (A.map qB.enc) m).2=(qK (B.map qB.enc) m).2
 |[],[],_,_=>rfl
 |[],_::_,_,h=>by simp at h
 | _::_,[],_,h=>by simp at h
 | x::A,y::B,m,h=>by
  simp only[lMc,List.cons.injEq,Prod.mk.injEq]at h;simp only[lMc,qK,qB.layE,ZO,ZN,h.1.1,h.1.2,lCa,lNa,lCo,lNi,qdG (A:=A) (B:=B) h.2]
theorem qlO{by':Int}{x:qB}:((lvA by' x).Data,(lvA by' x).Ports)=(x.Data,x.Ports):=by unfold lvA;split<;>rfl
theorem qlU{by':Int}{xs:Ags}{i:Nat}(h:i<xs.length):(Ju by' xs i)[i]?=some xs[i]:=by
 unfold Ju;rw[gAr (by simp;omega)];simp only[lMp,lLt,nMl (Nat.le_of_lt h),nSs,gDr,nAz];exact gEg h
theorem qlV{by':Int}{xs:Ags}{i:Nat}(h:i<xs.length):(Ju by' xs i).set i (lvA by' xs[i])=Ju by' xs (i+1):=by
 unfold Ju;rw[lSr _ _ (by simp;omega)];simp only[lMp,lLt,nMl (Nat.le_of_lt h),nSs];rw[lDc h,lSz,lTs h,lMa];simp only[lMc,List.map_nil,lAa,lCa,lNa]
theorem qlG{N:Ags}{m k:Nat}{x y:qB}(hx:N[k]?=some x)(e1:y.Data=x.Data)(e2:y.Ports=x.Ports):
  (qK (N.map qB.enc) m).1.set k (.agg [.int .i64 y.Kind,.int .i64 y.Level,.int .i64 y.Value,sQ 1 (m+2*k) x.Data.length,sQ 2 (m+2*k+1) x.Ports.length])=(qK ((N.set k y).map qB.enc) m).1:=by
 have hk:=qR hx;refine List.ext_getElem? λi=>?_;rcases Nat.lt_or_ge i N.length with q | q
 ·by_cases e:i=k
  ·subst e;rw[gSs (by rw[jJ];simpa using hk),We (x:=y) (gSs hk),e1,e2]
  ·rw[gSn (Ne.symm e),We (gEg q),We (x:=N[i]) (by rw[gSn (Ne.symm e)];exact gEg q)]
 ·rw[gEn (by rw[lLs,jJ];simpa using q),gEn (by rw[jJ];simpa using q)]
theorem qeM(r:qD×Bool):(Q0 r).pl=true:=by unfold Q0;simp[AV.pl,AV.pls,qD.plx]
theorem qo8{h:List qC}:Zg (some [.agg [.nils],.bool false]) h (Q0 (⟨[]⟩,false)):=by
 refine⟨[none],rfl,⟨.ph,trivial⟩, ?_⟩;have a:VR2 [none] (.agg [.nils]) (.agg [sQ 5 0 0]):=.agg rfl (VR2s.cons (.ph rfl) VR2s.nil).2;exact .tup rfl (VR2s.cons a (VR2s.cons (.tree rfl) VR2s.nil)).2
theorem qd1(n:qD)(b:Int)(hz:n.sz<=1048576)(hb:0<=b/\b<=8)(hl:∀x∈n.Agents,0<=x.Level/\x.Level<=8):Fresh Gm 1456 [n.enc,.int .i64 b] (Q0 (Jn n b)):=by
 refine fI qAJ (by simp[AV.trees,AV.tree,qD.tr]) (qeM _) ?_;simp only[qAJ,qM,go_sem];refine qZ rfl ?_;simp only[go_sem];refine zk (Um n hz) ?_;simp only[lNa,lNi];have eL:(lay n.enc 0)=(.agg [sQ 5 0 n.Agents.length],.row 5 (qK (n.Agents.map qB.enc) 1).1 true::(qK (n.Agents.map qB.enc) 1).2):=by rw[qD.layE,lAn];rfl
 rw[eL];simp only[go_sem];unfold qD.sz at hz;refine Sem.loop (λi:Nat=>i<=n.Agents.length/\(n.Agents.take i).all (JH b)=true) (λi=>(⟨[(1,.int .i64 b),(13,.int .i64 (n.Agents.length:Nat)),(14,.int .i64 (i:Nat))],[(6,.agg [sQ 5 0 n.Agents.length]),(4,.agg [.nils])],.row 5 (qK ((Ju b n.Agents i).map qB.enc) 1).1 true::(qK (n.Agents.map qB.enc) 1).2⟩:VSt)) (λi=>n.Agents.length-i) 0 (by kernel_rfl) ⟨nZl _,by simp⟩ (by rw[show Ju b n.Agents 0=n.Agents by simp[Ju]];exact csA) ?_;rintro i ⟨hi,hI⟩;simp only[go_sem];apply qI<;>intro hc<;>simp only[hc,go_sem]
 ·have hlt:i<n.Agents.length:=by have:=odT hc;omega
  clear hc;have hx:=qlU (by':=b) hlt;have hg:=We (m:=1) hx;have hlx:=hl _ (gMm hlt);have ms:=qlV (by':=b) hlt;have al:(n.Agents.take (i+1)).all (JH b)=((n.Agents.take i).all (JH b)&&JH b n.Agents[i]):=by rw[lTs hlt,List.all_append];simp only[lAc,List.all_nil,Bool.and_true]
  rw[hI,Bool.true_and]at al;have alf:JH b n.Agents[i]=false->n.Agents.all (JH b)=false:=λe=>by
   rw[<-Bool.not_eq_true,lAt];intro q;have:=q _ (gMm hlt);rw[e]at this;cases this
  generalize n.Agents[i]=x at hx hg hlx ms al alf;simp only[zH hlt,hg,go_sem];refine qL qBJ ?_;simp only[go_sem];apply qI<;>intro hc<;>simp only[hc,go_sem]
  ·have hv:wz x.Kind=false:=by simpa using hc
   have e1:lvA b x=x:=by unfold lvA;simp[hv]
   rw[e1]at ms;have e2:(Ju b n.Agents i).set i x=Ju b n.Agents i:=by
    refine List.ext_getElem? λj=>?_;by_cases e:j=i
    ·subst e;rw[gSs (qR hx),hx]
    ·rw[gSn (Ne.symm e)]
   rw[e2]at ms;rw[ms];simp only[wuA (n:=i)];refine qb (i+1) ⟨by omega, ?_⟩ (by omega) csA;rw[al];unfold JH;simp[hv]
  ·have hv:wz x.Kind=true:=by simpa using hc
   clear hc;have e1:lvA b x={x with Level:=x.Level+b}:=by unfold lvA;simp[hv]
   have ew:IntKind.i64.wrap (x.Level+b)=x.Level+b:=wsA;simp only[hg,ew,go_sem];refine ql (e':=.agg [.int .i64 x.Kind,.int .i64 (x.Level+b),.int .i64 x.Value,sQ 1 (1+2*i) x.Data.length,sQ 2 (1+2*i+1) x.Ports.length]) rfl (by rfl) hg rfl ?_;simp only[lSz];have es:=qlG (m:=1) (y:={x with Level:=x.Level+b}) hx rfl rfl;simp only at es;rw[es,<-e1,ms];have hx2:(Ju b n.Agents (i+1))[i]?=some (lvA b x):=by rw[<-ms,gSs (qR hx)]
   have hg2:=We (m:=1) hx2;rw[e1]at hg2;simp only at hg2;simp only[hg2,go_sem];apply qI<;>intro hc<;>simp only[hc,go_sem]
   ·have eo:JH b x=false:=by unfold JH;have:=odT hc;simp[hv];omega
    have er:Jn n b=(⟨[]⟩,false):=by unfold Jn;rw[alf eo];rfl
    rw[er];exact qo8
   ·have eo:JH b x=true:=by unfold JH;have:=odF hc;simp[hv];omega
    simp only[wuA (n:=i)];refine qb (i+1) ⟨by omega, ?_⟩ (by omega) csA;rw[al,eo]
 ·have hlt:i=n.Agents.length:=by have:=odF hc;omega
  subst hlt;rw[lTl]at hI;have er:Jn n b=(⟨n.Agents.map (lvA b)⟩,true):=by unfold Jn;rw[hI];rfl
  have em:Ju b n.Agents n.Agents.length=n.Agents.map (lvA b):=by simp[Ju]
  rw[er,em];have e2:(qK (n.Agents.map qB.enc) 1).2=(qK ((n.Agents.map (lvA b)).map qB.enc) 1).2:=(qdG (by rw[List.map_map];exact List.map_congr_left λx _=>qlO)).symm;rw[e2];refine wy (pre:=[]) (post:=[]) (qeM _) ?_ ?_
  ·simp[zT,Q0,lay,qK,qD.layE]
  ·simp[Q0,lay,qK,qD.layE]
def BKh(bk:List qD)(bid:Nat)(h:List qC):Prop:=∃bvs:List AV,h[bid]?=some (.row 1 bvs true)/\bvs.length=bk.length/\
 ∀(i:Nat)(n:qD),bk[i]?=some n->∃a,bvs[i]?=some (.agg [sQ 5 a n.Agents.length])/\Cv h (sQ 5 a n.Agents.length) (.lst 5 (n.Agents.map qB.enc) false)
def BK(bk:List qD)(bid:Nat)(base:Nat->Prop)(h:List qC):Prop:=∀h',Keep base h h'->BKh bk bid h'
theorem BK.keep{bk:List qD}{base:Nat->Prop}{bid:Nat}{h h':List qC}(b:BK bk bid base h)(k:Keep base h h'):BK bk bid base h':=λg kg=>b g (k.trans kg)
theorem BK.now{bk:List qD}{base:Nat->Prop}{bid:Nat}{h:List qC}(b:BK bk bid base h):BKh bk bid h:=b h Keep.refl
structure RW(bk:List qD)(bid:Nat)(es:List (AV×AV))(mid:Nat)(base:Nat->Prop)(nid:Nat)(h:List qC)(N:Ags):Prop where
 n:NE 3 [sQ 1 bid bk.length,.map mid] base nid h N
 m:h[mid]?=some (.map es)
 b:BK bk bid base h
theorem RW.km{bk:List qD}{bid:Nat}{es:List (AV×AV)}{base:Nat->Prop}{mid nid:Nat}{h h':List qC}{N M:Ags}(hN:RW bk bid es mid base nid h N)(n':NE 3 [sQ 1 bid bk.length,.map mid] base nid h' M)(hk:KM base h h'):RW bk bid es mid base nid h' M:=⟨n',hk.m _ _ hN.m,hN.b.keep hk.toKeep⟩
theorem BKh.at{bk:List qD}{bid:Nat}{h:List qC}(b:BKh bk bid h){v:Int}(h0:0<=v)(h1:v<bk.length):∃bvs a,idx 1 (some (sQ 1 bid bk.length)) (some (.int .i64 v))=some (.ptr bid v.toNat 0)/\h[bid]?=some (.row 1 bvs true)/\
  bvs[v.toNat]?=some (.agg [.slice 5 a 0 (zQ bk v).Agents.length false])/\Cv h (.slice 5 a 0 (zQ bk v).Agents.length false) (.lst 5 ((zQ bk v).Agents.map qB.enc) false):=by
 obtain⟨bvs,q1,q2,q3⟩:=b;have hv:v.toNat<bk.length:=by omega
 obtain⟨a,r1,r2⟩:=q3 _ _ (gEg hv);have e:zQ bk v=bk[v.toNat]:=by unfold zQ;rw[gEg hv];rfl
 rw[e];refine⟨bvs,a, ?_,q1,r1,r2⟩;simp[idx,inI];omega
theorem qkQ{m:Int}(h0:0<=m){xs:Ags}(h:∀x∈xs,x.Level<=m):hiI xs<=m:=by
 have key:∀(xs:Ags)(k:Int),k<=m->(∀x∈xs,x.Level<=m)->xs.foldl (λm x=>if x.Level<m then m else x.Level) k<=m:=by
  intro xs
  induction xs with
  | nil=>intro k h1 _;exact h1
  | cons y ys ih=>
   intro k h1 h2;have:=h2 y (by simp);exact ih _ (by simp only;split<;>omega) λx hx=>h2 x (by simp[hx])
 exact key xs 0 h0 h
theorem qf0{t:qD}{lev:Int}(ht:zA t=true)(hl:0<=lev/\lev<=8):t.Agents.all (JH lev)=true↔¬8<IntKind.i64.wrap (hiI t.Agents+lev):=by
 have hb:=qcZ (xs:=t.Agents) λx hx=>QZ (JW (Ja ht) x hx);rw[wsA,lAt];constructor
 ·intro h;have:=qkQ (m:=8-lev) (by omega) (xs:=t.Agents) λx hx=>by
   have h1:=h x hx;unfold JH at h1;have h2:=QE (JW (Ja ht) x hx);unfold wB at h2;by_cases q:wz x.Kind=true
   ·simp[q]at h1;omega
   ·rw[if_neg q]at h2;simp at h2;omega
  omega
 ·intro h x hx;have:=qc0 hx;unfold JH;simp;right;omega
section
variable {w:Nat} {post:List AV} {bk:List qD} {bid:Nat} {es:List (AV×AV)} {base:Nat->Prop} {mid nid:Nat} {h:List qC} {N:Ags} {K:AV->List qC->Prop} {a b s c k:Nat} {x y:qB}
theorem s751(hN:NE w post base nid h N)(hx:N[a]?=some x)(hy:N[b]?=some y)(oa:qe x=true)(ob:qe y=true)(hK:K (.tup [.int .i64 (Jm x y),.bool (zI x y&& !decide (Jm x y=8))]) h):
  SCall Gm 751 [.ptr nid 0 0,(⟨(a:Int),(b:Int)⟩:qV).enc] h K:=by
 obtain⟨aid,ps,q,hNA,ho,ha,hq⟩:=hN.rd hx;obtain⟨q',hq',ha',hr',_⟩:=hNA.at hy (zi ob).2;have la:=qR hx;have lb:=qR hy;have fin:∀v,v=AV.tup [.int .i64 (Jm x y),.bool (zI x y&& !decide (Jm x y=8))]->K v h:=λv e=>e▸hK;have key:=qmP oa ob;refine sI F751 ?_;simp only[F751,qM,go_sem,qV.enc];refine qZ rfl ?_;simp only[go_sem,ho,zH la,zH lb,ha,hq,ha'];refine qi rfl rfl ⟨_,rfl⟩ (by decide) ?_;simp only[go_sem];refine qi rfl rfl ⟨_,rfl⟩ (by decide) ?_;simp only[go_sem];refine qL qhH ?_;simp only[go_sem];have c8:jK x.Kind x.Level y.Kind y.Level=8->zY x.Kind x.Level y.Kind y.Level=2->False:=by
  intro h1 h2;simp only[jK,zY]at h1 h2;split at h1
  ·rename_i hp;simp only[hp,if_true]at h2;split at h1
   ·exact qfH h1
   ·split at h1
    ·exact qfH h1
    ·rename_i q1 q2;rw[if_neg q1,if_neg q2]at h2;omega
  ·omega
 have k8:jK x.Kind x.Level y.Kind y.Level=6->(if zI x y then x.Kind=10/\(x.Data.length:Int)<=y.Value else y.Kind=10/\(y.Data.length:Int)<=x.Value)->Jm x y=8:=λh1 h2=>by rw[key,if_pos ⟨h1,h2⟩]
 have kn:¬(jK x.Kind x.Level y.Kind y.Level=6/\(if zI x y then x.Kind=10/\(x.Data.length:Int)<=y.Value else y.Kind=10/\(y.Data.length:Int)<=x.Value))->Jm x y=jK x.Kind x.Level y.Kind y.Level:=λh1=>by rw[key,if_neg h1]
 clear key oa ob hK hx hy hNA ho ha hq hq' ha' hr';have hs:zI x y=decide (zY x.Kind x.Level y.Kind y.Level=2):=rfl;generalize zI x y=S at*;generalize Jm x y=O at*;generalize jK x.Kind x.Level y.Kind y.Level=C at*;generalize zY x.Kind x.Level y.Kind y.Level=F at*;subst hs
 repeat' (first | (first | (apply qj<;>intro hc<;>simp only[hc,go_sem]) | (apply qI<;>intro hc<;>simp only[hc,go_sem])) | (refine qi rfl rfl ⟨_,rfl⟩ (by decide) ?_;simp only[go_sem]) | refine fin _ ?_)
 all_goals clear fin
 all_goals simp only[Bool.not_true,dTe,decide_eq_false_iff_not,AV.tup.injEq]at*
 all_goals try delta iI at*
 all_goals first
  | (have e:=k8 (by assumption) (by simp[*];done);simp[e];done)
  | (have e:=kn (by simp[*];try omega);simp only[e];simp[*];try first | omega | (intro h8;exact c8 h8 (by assumption)))
def QF(bk:List qD)(x y:qB)(a b:Nat):AV:=if (qk bk x y).2=0 then .tup [.int .i64 (qN x y),.int .i64 (a:Nat),.int .i64 (b:Nat),.int .i64 0]else .tup [.int .i64 0,.int .i64 0,.int .i64 0,.int .i64 (qk bk x y).2]
theorem qkJ(h:qN x y=8):(qk bk x y).2=11:=by unfold qk;rw[if_pos h]
theorem qcX(h:qN x y=7)(q:(bk.length:Int)<=x.Value):(qk bk x y).2=3:=by unfold qk;rw[if_neg (by omega),if_pos ⟨h,q⟩]
theorem qkK(h:qN x y=7)(q:¬(bk.length:Int)<=x.Value)(r:8<IntKind.i64.wrap (hiI (zQ bk x.Value).Agents+x.Level)):(qk bk x y).2=9:=by unfold qk;rw[if_neg (by omega),if_neg (by omega),if_pos ⟨h,r⟩]
theorem qcW(h8:qN x y≠8)(q:qN x y=7->¬(bk.length:Int)<=x.Value/\¬8<IntKind.i64.wrap (hiI (zQ bk x.Value).Agents+x.Level)):(qk bk x y).2=0:=by
 unfold qk;rw[if_neg h8,if_neg (λe=>(q e.1).1 e.2),if_neg (λe=>(q e.1).2 e.2)]
theorem qoJ{u v:qB}{A B:Nat}(hR:RW bk bid es mid base nid h N)(ou:qe u=true)(ov:qe v=true)(hbk:ju bk=true)(hu:N[A]?=some u)(hv:N[B]?=some v)
  (ho:(zI u v=true/\a=B/\b=A/\x=v/\y=u)\/(zI u v=false/\a=A/\b=B/\x=u/\y=v)) (h7:qN x y=7->0<=x.Value) (hK:∀ex,K (QF bk x y a b) (h++ex)):
  SCall Gm 1305 [.ptr nid 0 0,(⟨(A:Int),(B:Int)⟩:qV).enc] h K:=by
 have eo:Jm u v=qN x y:=by unfold Jm;rcases ho with⟨e,_,_,rfl,rfl⟩ | ⟨e,_,_,rfl,rfl⟩<;>rw[e]<;>rfl
 have hx:N[a]?=some x:=by rcases ho with⟨_,rfl,_,rfl,_⟩ | ⟨_,rfl,_,rfl,_⟩<;>assumption
 have xok0:qe x=true:=by rcases ho with⟨_,_,_,rfl,_⟩ | ⟨_,_,_,rfl,_⟩<;>assumption
 have xok:=QZ xok0;obtain⟨aid,ps,q,hNA,hq1,hq2,hq3⟩:=hR.n.rd hx;have la:=qR hx;refine sI kM ?_;simp only[kM,qM,go_sem,qV.enc];refine qZ rfl ?_;simp only[go_sem];refine qU (s751 hR.n hu hv ou ov ?_);rw[eo];by_cases c8:qN x y=8
 ·have eC:QF bk x y a b=.tup [.int .i64 0,.int .i64 0,.int .i64 0,.int .i64 11]:=by unfold QF;rw[qkJ c8,if_neg (by decide)]
  rw[eC]at hK;have eb:(zI u v&& !decide (qN x y=8))=false:=by simp[c8]
  rw[eb,c8];simp only[go_sem];exact lAn h▸hK []
 ·have eb:(zI u v&& !decide (qN x y=8))=zI u v:=by simp[c8]
  rw[eb];have hab:∃A' B':Nat,A'=A/\B'=B:=⟨A,B,rfl,rfl⟩;rcases ho with⟨hs,ha,hb,h1,h2⟩ | ⟨hs,ha,hb,h1,h2⟩<;>subst ha hb<;>rw[hs]<;>simp only[go_sem]
  all_goals
   simp only[show decide (qN x y=8)=false from decide_eq_false c8,go_sem];apply qI<;>intro hc<;>simp only[hc,go_sem]
   ·have c7:qN x y=7:=by simpa using hc
    clear hc;have v0:=h7 c7;simp only[hq1,zH la,hq2,hq3,go_sem];refine qi rfl rfl ⟨_,rfl⟩ (by decide) ?_;simp only[go_sem];simp only[hq1,go_sem];apply qI<;>intro hc<;>simp only[hc,go_sem]
    ·have q3:(bk.length:Int)<=x.Value:=by simpa using hc
     have eC:QF bk x y a b=.tup [.int .i64 0,.int .i64 0,.int .i64 0,.int .i64 3]:=by unfold QF;rw[qcX c7 q3,if_neg (by decide)]
     try delta iI
     exact lAn h▸eC▸hK []
    ·have q3:¬(bk.length:Int)<=x.Value:=by simpa using hc
     clear hc;have ot:=qEJ hbk v0 (show x.Value<bk.length by omega);obtain⟨bvs,ta,b1,b2,b3,b4⟩:=hR.b.now.at v0 (show x.Value<bk.length by omega);simp only[hq1,b1,b2,b3,go_sem];refine ZD (vs':=[(zQ bk x.Value).enc,.int .i64 x.Level]) (Cvs.cons (.agg rfl (JD b4 λp hp=>by simp at hp)) (Cvs.cons (.refl rfl) Cvs.nil)) (qd1 (zQ bk x.Value) x.Level (by have:=Z8 ot;omega) xok λz hz=>QZ (JW (Ja ot) z hz)) ?_;have sh:=qf0 ot xok;have eL:∀n,(lay (Q0 (Jn (zQ bk x.Value) x.Level)) n).1=.tup [.agg [.slice 5 n 0 (Jn (zQ bk x.Value) x.Level).1.Agents.length false],.bool (Jn (zQ bk x.Value) x.Level).2]:=λn=>by simp[Q0,lay,qK,qD.layE]
     rw[eL];simp only[go_sem];by_cases q9:8<IntKind.i64.wrap (hiI (zQ bk x.Value).Agents+x.Level)
     ·have e9:(Jn (zQ bk x.Value) x.Level).2=false:=by unfold Jn;rw[if_neg (λe=>sh.1 e q9)]
      have eC:QF bk x y a b=.tup [.int .i64 0,.int .i64 0,.int .i64 0,.int .i64 9]:=by unfold QF;rw[qkK c7 q3 q9,if_neg (by decide)]
      rw[e9];simp only[go_sem]
      try delta iI
      exact eC▸hK _
     ·have e9:(Jn (zQ bk x.Value) x.Level).2=true:=by unfold Jn;rw[if_pos (sh.2 q9)]
      have eC:∀a b,QF bk x y a b=.tup [.int .i64 (qN x y),.int .i64 (a:Nat),.int .i64 (b:Nat),.int .i64 0]:=λa b=>by unfold QF;rw[if_pos (qcW c8 λ_=>⟨q3,q9⟩)]
      rw[e9];simp only[go_sem]
      try delta iI
      exact eC _ _▸hK _
   ·have n7:qN x y≠7:=by simpa using hc
    have eC:∀a b,QF bk x y a b=.tup [.int .i64 (qN x y),.int .i64 (a:Nat),.int .i64 (b:Nat),.int .i64 0]:=λa b=>by unfold QF;rw[if_pos (qcW c8 λe=>absurd e n7)]
    try delta iI
    exact lAn h▸eC _ _▸hK []
theorem qoL{c:Int}(hR:RW bk bid es mid base nid h N)(hx:N[a]?=some x)(hy:N[b]?=some y)(px:0<x.Ports.length/\x.Ports.length<=4)(py:0<y.Ports.length/\y.Ports.length<=4)(h7:c=7->0<=x.Value/\x.Value<bk.length/\(zQ bk x.Value).Agents.length<=600)
  (hK:K (.int .i64 (jA c (jT bk x y c)).1) h):SCall Gm 1307 [.ptr nid 0 0,.int .i64 c,.int .i64 (a:Nat),.int .i64 (b:Nat)] h K:=by
 obtain⟨aid,ps,q,hNA,ho,ha,hq⟩:=hR.n.rd hx;obtain⟨q',hq',ha',hr',hv'⟩:=hNA.at hy py.1;have hvx:pv x q=sQ 2 q x.Ports.length:=Qe px.1;have la:=qR hx;have lb:=qR hy;have fin:∀p:Int,jT bk x y c=p->K (.int .i64 (jA c p).1) h:=λp e=>e▸hK;have ep:IntKind.i64.wrap (((x.Ports.length:Nat):Int)-1)=(x.Ports.length:Int)-1:=wsA;have eq:IntKind.i64.wrap (((y.Ports.length:Nat):Int)-1)=(y.Ports.length:Int)-1:=wsA;clear hK;refine sI kN ?_;simp only[kN,qM,go_sem];apply qI<;>intro hc<;>simp only[hc,go_sem]
 ·have e:c=3:=by simpa using hc
  simp only[ho,zH lb,ha,ha',hv',eq,go_sem];refine qL (XN (by omega) (by omega)) ?_;simp only[go_sem];exact fin _ (by unfold jT;rw[if_pos (.inl e)])
 have n3:c≠3:=by simpa using hc
 clear hc;apply qI<;>intro hc<;>simp only[hc,go_sem]
 ·have e:c=4:=by simpa using hc
  simp only[ho,zH lb,ha,ha',hv',eq,go_sem];refine qL (XN (by omega) (by omega)) ?_;simp only[go_sem];exact fin _ (by unfold jT;rw[if_pos (.inr e)])
 have n4:c≠4:=by simpa using hc
 clear hc;apply qI<;>intro hc<;>simp only[hc,go_sem]
 ·have e:c=6:=by simpa using hc
  clear hc;simp only[ho,zH la,ha,hq,go_sem];apply qI<;>intro hc<;>simp only[hc,go_sem]
  ·have k9:x.Kind=9:=by simpa using hc
   simp only[ho,zH la,ha,hq,hvx,ep,go_sem];refine qL (XN (by omega) (by omega)) ?_;simp only[go_sem];exact fin _ (by unfold jT fieldsOf;rw[if_neg (by omega),if_pos e,if_pos k9])
  ·have k9:¬x.Kind=9:=by simpa using hc
   refine qL (XN (by omega) (by omega)) ?_;simp only[go_sem];exact fin _ (by unfold jT fieldsOf;rw[if_neg (by omega),if_pos e,if_neg k9])
 have n6:c≠6:=by simpa using hc
 clear hc;apply qI<;>intro hc<;>simp only[hc,go_sem]
 ·have e:c=7:=by simpa using hc
  obtain⟨v0,v1,v2⟩:=h7 e;simp only[ho,zH la,ha,hq,go_sem];obtain⟨bvs,ta,b1,b2,b3,b4⟩:=hR.b.now.at v0 v1;simp only[b1,b2,b3,go_sem];refine qL (XN (by omega) (by omega)) ?_;simp only[go_sem];exact fin _ (by unfold jT;rw[if_neg (by omega),if_neg n6,if_pos e])
 ·have n7:c≠7:=by simpa using hc
  refine qL (XN (by omega) (by omega)) ?_;simp only[go_sem];exact fin _ (by unfold jT;rw[if_neg (by omega),if_neg n6,if_neg n7])
end
section
variable {w:Nat} {post:List AV} {base:Nat->Prop} {nid:Nat} {h:List qC} {N:Ags} {K:AV->List qC->Prop} {a b s c k:Nat} {x y:qB} {X:Nat->Nat->Prop}
theorem W.peerX(h:W N X)(h1:Has N a s)(x1:¬X a s)(x2:X c k):∃b t,zy N (pt a s)=pt b t/\Has N b t/\¬(c=b/\k=t):=by
 obtain⟨c',k',e,_,h2,x3,_⟩:=h.live h1 x1;exact⟨c',k',e,h2,λq=>x3 (q.1▸q.2▸x2)⟩
def Jq(c n:Nat):List AV:=(List.range n).map λj=>iI ((c+j:Nat):Int)
theorem qcJ{n:Nat}:Jq c (n+1)=Jq c n++[iI ((c+n:Nat):Int)]:=by simp[Jq,List.range_succ]
theorem qcI{n:Nat}:(Jq c n).length=n:=by simp[Jq]
theorem qcH{n i:Nat}(h:i<n):(Jq c n)[i]?=some (iI ((c+i:Nat):Int)):=by simp[Jq,h]
theorem J9{id n i:Nat}(h:i<n):idx 1 (some (sQ 1 id n)) (some (iI (i:Nat)))=some (.ptr id i 0):=by simp[idx,inI];omega
theorem NE.app1{g:List qC}{f:Nat}{el:List AV}{v:AV}{tmp:qC}(hw:w≠1)(hN:NE w post base nid g N)(hf:g[f]?=some (.row 1 el true))(hb:¬base f):
  NE w post base nid ((g++[tmp]).set f .dead++[.row 1 (el++[v]) true]) N/\KM base g ((g++[tmp]).set f .dead++[.row 1 (el++[v]) true])/\((g++[tmp]).set f .dead++[.row 1 (el++[v]) true])[g.length+1]?=some (.row 1 (el++[v]) true)/\¬base (g.length+1):=by
 have hbl:=hN.bl;have hk:KM base g ((g++[tmp]).set f .dead++[.row 1 (el++[v]) true]):=((KM.app hbl).trans (KM.set hb (by rw[gAl (qR hf)];exact hf))).trans (KM.app (λj hj=>by have:=hbl j hj;simp;omega));refine⟨?_,hk, ?_,λq=>by have:=hbl _ q;omega⟩
 ·obtain⟨aid,ps,hN⟩:=hN;have e:∀{j:Nat}{o:qC},g[j]?=some o->o≠.row 1 el true->((g++[tmp]).set f .dead++[.row 1 (el++[v]) true])[j]?=g[j]?:=λ{j o} q ne=>by
   have:=qR q;rw[gAl (by simp;omega),gSn (λe=>by rw[<-e,hf]at q;cases q;exact ne rfl),gAl this]
  refine⟨aid,ps,hN.heap (e hN.o λq=>by simp only[qC.row.injEq]at q;exact hw q.1) (e hN.a λq=>by simp at q) λq hq=>?_⟩;obtain⟨el2,e2⟩:=hN.b4 q hq;exact e e2 λq=>by simp at q
 ·rw[gAr (by simp)];simp
theorem qoM(hw:w≠1)(hP:Pr N a b x y X)(hN:NE w post base nid h N)(hx:x.Ports.length=3)(hy:0<y.Ports.length)(hz:y.sz<=1000)(hl:N.length<=10000)
  (hK:∀h',NE w post base nid h' (Ql N a b x y)->KM base h h'->K (.tup []) h'):SCall Gm 1309 [.ptr nid 0 0,iI (a:Nat),iI (b:Nat)] h K:=by
 have la:=hP.la;have lb:=hP.lb;have hz':=hz;unfold qB.sz at hz';refine sI kP ?_;simp only[kP,qM,go_sem];obtain⟨aid,ps,q,_,o1,o2,o3⟩:=hN.rd hP.y;have hvy:pv y q=sQ 2 q y.Ports.length:=Qe hy;simp only[o1,zH lb,o2,o3,go_sem];refine qi (k:=5) (by rfl) (by simp only[go_sem]) ⟨_,rfl⟩ (by decide) ?_;simp only[hvy,go_sem];refine qU (KH hw hN (by omega) (by omega) (by omega) λh1 n1 k1=>?_);simp only[hvy,go_sem];refine qU (KH hw n1 (by omega) (by omega) (by simp;omega) λh2 n2 k2=>?_);rw[show (N++[qS y.Kind y.Level y.Value y.Data y.Ports.length]).length=N.length+1 by simp];simp only[hvy,go_sem];have hbl:=n2.bl;refine Sem.loop (α:=Nat×Nat×List qC) (λq=>q.1+1<=y.Ports.length/\NE w post base nid q.2.2 (zG N x y q.1)/\KM base h q.2.2/\q.2.2[q.2.1]?=some (.row 1 (Jq (N.length+2) q.1) true)/\¬base q.2.1)
  (λz=>(⟨[(0,.ptr nid 0 0),(1,iI (a:Nat)),(2,iI (b:Nat)),(7,iI (N.length:Nat)),(8,iI (N.length+1:Nat)),(9,sQ 1 z.2.1 z.1),(10,iI ((z.1+1:Nat):Int))],[(6,encR y q)],z.2.2⟩:VSt)) (λq=>y.Ports.length-q.1) (0,h2.length,h2++[.row 1 [] true]) (by kernel_rfl)
  ⟨by simp only;omega,n2.app _,(k1.toKM.trans k2.toKM).trans (KM.app hbl),by simp[Jq],λq=>by have:=hbl _ q;simp only at this;omega⟩
  (Can.ph (WkN.same rfl (WkN.same rfl (WkN.same rfl (WkN.same rfl (WkN.same rfl (WkN.cons rfl (Wk.ph (by simp)) (WkN.same rfl WkN.nil))))))) (WkN.same rfl WkN.nil)) ?_
 rintro⟨i,f,g⟩ ⟨hi,hn,hk,hf,hfb⟩;simp only at hi hn hk hf hfb;simp only[hvy,go_sem];have hg:(zG N x y i).length=N.length+2+i:=qB2;apply qI<;>intro hc<;>simp only[hc,hvy,go_sem]
 ·have hlt:i+1<y.Ports.length:=by have:=odT hc;omega
  clear hc;obtain⟨x',hx',cx⟩:=(ZI (N:=N) (x:=x) (y:=y) (i:=i)).at (a:=a) (x:=x) (by unfold wK;rw[gAl (by simp;omega),gAl (by simp;omega),gAl la];exact hP.x);obtain⟨aid1,ps1,q1,_,p1,p2,p3⟩:=hn.rd hx';rw[UE cx]at p3;simp only[p1,zH (show a<(zG N x y i).length by omega),p2,p3,go_sem];refine qU (X2 (n:=3) hw hn (by omega) (by omega) λg1 m1 j1=>?_);simp only[hvy,go_sem];have f1:Has (zG N x y i++[qS 4 x.Level 0 [] 3]) (zG N x y i).length 1:=zd (by omega);have f2:Has (zG N x y i++[qS 4 x.Level 0 [] 3]) (zG N x y i).length 2:=zd (by omega);have c1:Has (zG N x y i++[qS 4 x.Level 0 [] 3]) N.length (i+1):=(Qk (by omega)).1.app;have c2:Has (zG N x y i++[qS 4 x.Level 0 [] 3]) (N.length+1) (i+1):=(Qk (by omega)).2.app;refine qU (X1 (s:=1) (k:=i+1) m1 f1 c1 λg2 m2 j2=>?_);simp only[hvy,go_sem];refine qU (X1 (s:=2) (k:=i+1) m2 (f2.same (zo _ _ _)) (c2.same (zo _ _ _)) λg3 m3 j3=>?_);simp only[hvy,go_sem];have hf3:=(j1.trans (j2.trans j3)).r _ _ hf;obtain⟨r1,r2⟩:=Qd (tmp:=.row 1 [iI ((zG N x y i).length:Nat)] true) hf3;refine jN r2 r1 qcI (by omega) ?_;obtain⟨z1,z2,z3,z4⟩:=m3.app1 (v:=iI ((zG N x y i).length:Nat)) (tmp:=.row 1 [iI ((zG N x y i).length:Nat)] true) hw hf3 hfb;simp only[go_sem,wuA (n:=i+1)];refine qb (i+1,g3.length+1,_) ⟨by simp only;omega,z1,hk.trans (((j1.trans (j2.trans j3)).toKM).trans z2), ?_,z4⟩ (by simp only;omega) csA;rw[qcJ,<-hg];exact z3
 ·have hlt:i=y.Ports.length-1:=by have:=odF hc;omega
  clear hc;subst hlt;have w0:=V8 (x:=x) hP hy;have w1:=UA hP hx hy;have a1:Has (zG N x y (y.Ports.length-1)) a 1:=J5 (hP.ax (by omega));have a2:Has (Zk N a x y) a 2:=(J5 (hP.ax (by omega))).same Zl;refine qU (Q4 (s:=1) (k:=0) hn a1 (Qk hy).1 (w0.peerX a1 (by rintro(q | q);exact hP.nx (by omega) q.1;omega) (.inr ⟨nLr _,rfl⟩)) λg1 m1 j1=>?_);simp only[hvy,go_sem];refine qU (Q4 (s:=2) (k:=0) m1 a2 ((Qk hy).2.same Zl) (w1.peerX a2 (by rintro(q | q | q);exact hP.nx (by omega) q.1;omega;omega) (.inr (.inl ⟨nLr _,rfl⟩))) λg2 m2 j2=>?_);simp only[hvy,go_sem];have hf2:=(j1.trans j2).r _ _ hf;refine Sem.loop (α:=Nat×List qC) (λq=>q.1+1<=y.Ports.length/\NE w post base nid q.2 (QP N a b x y q.1)/\KM base h q.2/\q.2[f]?=some (.row 1 (Jq (N.length+2) (y.Ports.length-1)) true))
   (λq=>(⟨[(0,.ptr nid 0 0),(2,iI (b:Nat)),(100,sQ 1 f (y.Ports.length-1)),(101,iI (y.Ports.length-1:Nat)),(102,iI (q.1:Nat))],[],q.2⟩:VSt)) (λq=>y.Ports.length-q.1) (0,g2) (by kernel_rfl)
   ⟨by simp only;omega,m2,hk.trans (j1.trans j2).toKM,hf2⟩ csA ?_
  clear hn hk m1 m2 j1 j2 hg hi hf hf2;rintro⟨i,g⟩ ⟨hi,hn,hk,hf⟩;simp only at hi hn hk hf;simp only[hvy,go_sem];apply qI<;>intro hc<;>simp only[hc,hvy,go_sem]
  ·have hlt:i+1<y.Ports.length:=by have:=odT hc;omega
   clear hc;have b1:Has (QP N a b x y i) b (i+1):=(J5 (hP.by' (by omega))).same WW;have b2:=V9 (N:=N) (x:=x) (y:=y) (i:=y.Ports.length-1) (j:=i) (s:=0) (by omega) (by omega);rw[show N.length+2+i=N.length+1+(i+1) by omega]at b2;have b3:Has (QP N a b x y i) (N.length+1+(i+1)) 0:=b2.same WW;simp only[J9 (show i<y.Ports.length-1 by omega),hf,qcH (c:=N.length+2) (show i<y.Ports.length-1 by omega),go_sem];rw[show N.length+2+i=N.length+1+(i+1) by omega];simp only[wuA (n:=i),go_sem];refine qU (Q4 (s:=i+1) (k:=0) hn b1 b3 ((qB4 hP hx hy (i:=i) (by omega)).peerX b1 (by rintro(⟨(q | q | q),_⟩ | q);exact hP.nx (by omega) q.1;omega;exact hP.ne q.1.symm;omega) (.inl ⟨.inr (.inl ⟨by omega,rfl⟩),by omega⟩)) λg1 m1 j1=>?_);simp only[go_sem,wuA (n:=i)];refine qb (i+1,g1) ⟨by simp only;omega,m1,hk.trans j1.toKM,j1.r _ _ hf⟩ (by simp only;omega) csA
  ·have hlt:i=y.Ports.length-1:=by have:=odF hc;omega
   subst hlt;exact hK _ hn hk
end
section
variable {N M A:Ags} {a b c d s k t u:Nat} {x y:qB} {lev v:Int} {X:Nat->Nat->Prop}
theorem qlK(h1:Has N a s)(h2:Has N c k)(h3:Has N b t)(h4:Has N d u)(n1:¬(a=b/\s=t))(n2:¬(a=d/\s=u))(n3:¬(c=b/\k=t))(n4:¬(c=d/\k=u)):
  ze (ze N (pt a s) (pt c k)) (pt b t) (pt d u)=ze (ze N (pt b t) (pt d u)) (pt a s) (pt c k):=by
 have s1:=zo N (pt a s) (pt c k);have s2:=zo N (pt b t) (pt d u);refine qBA ((s1.trans (zo _ _ _)).back.trans (s2.trans (zo _ _ _))) λe v=>?_;rw[wu (s1.has.1 h3) (s1.has.1 h4),wu h1 h2,wu (s2.has.1 h1) (s2.has.1 h2),wu h3 h4];by_cases e1:e=d/\v=u
 ·rw[if_pos e1,if_neg (by omega),if_neg (by omega),if_pos e1]
 ·by_cases e2:e=b/\v=t
  ·rw[if_neg e1,if_pos e2,if_neg (by omega),if_neg (by omega),if_neg e1,if_pos e2]
  ·rw[if_neg e1,if_neg e2,if_neg e1,if_neg e2]
theorem qlJ(h1:Has N a s)(h2:Has N c k):ze (N++M) (pt a s) (pt c k)=ze N (pt a s) (pt c k)++M:=by
 refine qBA ((zo (N++M) (pt a s) (pt c k)).back.trans ((zo N (pt a s) (pt c k)).app (SameA.refl M))) λe v=>?_;have l1:=h1.lt;have l2:=h2.lt;rw[wu h1.app h2.app];by_cases hb:e<N.length
 ·rw[ZB hb,ZB (by rw[Xe];exact hb),wu h1 h2]
 ·obtain⟨e',rfl⟩:=Nat.exists_eq_add_of_le (Nat.le_of_not_lt hb);rw[if_neg (by omega),if_neg (by omega),qaU];have:=qaU (N:=ze N (pt a s) (pt c k)) (M:=M) (a:=e') (s:=v);rw[Xe]at this;rw[this]
def XA(X:Nat->Nat->Prop)(c i p q:Nat):Prop:=(X p q/\p<c)\/(c+1<=p/\p<=c+i/\q=1)\/(p=c+i/\q=zU i)
theorem Vf{i:Nat}:Has (zR lev N.length i (zC lev v N)) (N.length+i) (zU i):=by
 refine Has.same YN ?_;unfold zU;split
 ·rename_i e;subst e;exact(zd (by omega)).app
 ·have:=UR (N:=zC lev v N) (k:=3) (l:=lev) (v:=0) (e:=[]) (i:=i) (j:=i-1) (s:=2) (n:=3) (by omega) (by omega);rw[show (zC lev v N).length+(i-1)=N.length+i by simp[zC];omega]at this;exact this
theorem qaO{i:Nat}(h:Has N c s):Has (zR lev N.length i (zC lev v N)) c s:=h.app.app.same YN
theorem qBD{i j:Nat}(h1:1<=j)(h2:j<=i):Has (zR lev N.length i (zC lev v N)) (N.length+j) 1:=by
 have:=UR (N:=zC lev v N) (k:=3) (l:=lev) (v:=0) (e:=[]) (i:=i) (j:=j-1) (s:=1) (n:=3) (by omega) (by omega);rw[show (zC lev v N).length+(j-1)=N.length+j by simp[zC];omega]at this;exact this.same YN
theorem YM{i:Nat}:(zR lev N.length i (zC lev v N)).length=N.length+1+i:=by rw[qgZ];simp[zC]
theorem qaN(h:Pr N a b x y X):∀{i:Nat},W (zR lev N.length i (zC lev v N)) (XA X N.length i)
 | 0=>(QK h).mono λu w hb=>by
   have h3:u=N.length->w<1:=λq=>by subst q;exact Wi (SameA.refl _) hb
   unfold XA zU;by_cases hX:X u w<;>simp only[hX,true_and,false_and,false_or,true_or,and_true,if_true]<;>omega
 | i+1=>by
  have ih:=qaN h (i:=i);have hl:(zR lev N.length i (zC lev v N)).length=N.length+1+i:=YM;have e0:zU i=0\/zU i=2:=by unfold zU;split<;>simp
  refine((ih.add (qS 3 lev 0 [] 3)).link (a:=(zR lev N.length i (zC lev v N)).length) (s:=0) (c:=N.length+i) (k:=zU i) (zd (by omega)) Vf.app (.inr rfl) (.inl ⟨.inr (.inr ⟨rfl,rfl⟩),by omega⟩) (by omega)).mono λu w hb=>?_;have hv:u=(zR lev N.length i (zC lev v N)).length->w<3:=λq=>by subst q;exact Wi (zo _ _ _) hb
  have hu:=hb.lt;simp only[Xe,lAp,lCo,lNi]at hu;rw[hl]at hv hu|-;have e1:zU (i+1)=2:=rfl;unfold XA;rw[e1];by_cases hX:X u w<;>simp only[hX,true_and,false_and,false_or,true_or,and_true]<;>omega
theorem qdV(h:Pr N a b x y X){i n:Nat}(hn:n<=x.Ports.length-1)(hi:i<=n):W (jy a N.length 1 i (zR lev N.length n (zC lev v N))) λp q=>(XA X N.length n p q/\¬(N.length+1<=p/\p<=N.length+i/\q=1))\/(p=a/\1<=q/\q<=i):=
 Uk (qaN h) (Nat.le_of_lt h.la) (λk h1 h2=>⟨qaO (h.ax (by omega)),by
  have la:=h.la;rintro(q | q | q)
  ·exact h.nx (by omega) q.1
  ·omega
  ·omega⟩) (λk h1 h2=>⟨qBD h1 h2,.inr (.inl ⟨by omega,by omega,rfl⟩)⟩) hi
theorem qdX{i n:Nat}(h:Has N c s):Has (jy a N.length 1 i (zR lev N.length n (zC lev v N))) c s:=(qaO h).same Qw
theorem qdW(h:Pr N a b x y X){i:Nat}(hn:i+1<=x.Ports.length-1):∀{j:Nat},j<=i->
  jy a N.length 1 j (zR lev N.length (i+1) (zC lev v N))=ze (jy a N.length 1 j (zR lev N.length i (zC lev v N))++[qS 3 lev 0 [] 3]) (J7 N.length i) (pt (N.length+1+i) 0)
 | 0,_=>by
  show ze (zR lev N.length i (zC lev v N)++[qS 3 lev 0 [] 3]) (pt (zR lev N.length i (zC lev v N)).length 0) (J7 N.length i)=_;rw[qCT (by rw[YM];omega) (zd (by omega)) Vf.app,YM];rfl
 | j+1,hj=>by
  have la:=h.la;have ih:=qdW h hn (j:=j) (by omega);have hw:=qdV (lev:=lev) (v:=v) h (i:=j) (n:=i) (by omega) (by omega);have hl:(jy a N.length 1 j (zR lev N.length i (zC lev v N))).length=N.length+1+i:=by rw[(Qw).len,YM]
  have p1:Has (jy a N.length 1 j (zR lev N.length i (zC lev v N))) a (j+1):=qdX (h.ax (by omega));have p2:Has (jy a N.length 1 j (zR lev N.length i (zC lev v N))) (N.length+(j+1)) 1:=(qBD (by omega) hj).same Qw;have p3:Has (jy a N.length 1 j (zR lev N.length i (zC lev v N))) (N.length+i) (zU i):=Vf.same Qw;have e0:zU i=0\/zU i=2:=by unfold zU;split<;>simp
  obtain⟨g,z,e,hg,ne⟩:=hw.peerX (c:=N.length+i) (k:=zU i) p1 (by
   rintro(⟨(q | q | q),_⟩ | q)
   ·exact h.nx (by omega) q.1
   ·omega
   ·omega
   ·omega) (.inl ⟨.inr (.inr ⟨rfl,rfl⟩),by omega⟩)
  show zq (jy a N.length 1 j (zR lev N.length (i+1) (zC lev v N))) (pt a (j+1)) (pt (N.length+(j+1)) 1)=ze (zq (jy a N.length 1 j (zR lev N.length i (zC lev v N))) (pt a (j+1)) (pt (N.length+(j+1)) 1)++[qS 3 lev 0 [] 3]) (J7 N.length i) (pt (N.length+1+i) 0);rw[ih];generalize jy a N.length 1 j (zR lev N.length i (zC lev v N))=B at hl p1 p2 p3 e hg|-;have q0:Has (B++[qS 3 lev 0 [] 3]) (N.length+1+i) 0:=by rw[<-hl];exact zd (by omega)
  have pe:zy (ze (B++[qS 3 lev 0 [] 3]) (J7 N.length i) (pt (N.length+1+i) 0)) (pt a (j+1))=pt g z:=by
   obtain⟨r,hr⟩:=p1;have:=Wr hr;rw[e]at this;subst this;refine Wr ?_;rw[wu p3.app q0,if_neg (by omega),if_neg (by omega),ZB (Jf hr),hr]
  unfold zq;rw[pe,e,<-qlJ p2 hg];have lg:=hg.lt;exact qlK p3.app q0 p2.app hg.app (by omega) (by omega) (by omega) (by omega)
theorem qbM(h:Pr N a b x y X):∀{i:Nat},i<=x.Ports.length-1->jy a N.length 1 i (zR lev N.length i (zC lev v N))=zf lev v N a i
 | 0,_=>rfl
 | i+1,hi=>by
  have ih:=qbM h (i:=i) (by omega);have hl:(zf lev v N a i).length=N.length+1+i:=Vg;show zq (jy a N.length 1 i (zR lev N.length (i+1) (zC lev v N))) (pt a (i+1)) (pt (N.length+(i+1)) 1)=zq (ze (zf lev v N a i++[qS 3 lev 0 [] 3]) (J7 N.length i) (pt (zf lev v N a i).length 0)) (pt a (i+1)) (pt (zf lev v N a i).length 1);rw[qdW h (by omega) (nLr _),ih,hl,show N.length+(i+1)=N.length+1+i by omega]
end
section
variable {w:Nat} {post:List AV} {base:Nat->Prop} {nid:Nat} {h:List qC} {N:Ags} {K:AV->List qC->Prop} {a b s c k:Nat} {x y:qB} {X:Nat->Nat->Prop}
theorem qoO(hw:w≠1)(hP:Pr N a b x y X)(hN:NE w post base nid h N)(h8:y.Kind=8->y.Ports.length=2/\0<y.Data.length)(h7:y.Kind≠8->y.Kind=7/\y.Ports.length=3)(hz:y.sz<=1000)(hl:N.length<=10000)
  (hK:∀h',NE w post base nid h' (if y.Kind=8 then Xr (opI y.Value (y.Data.getD 0 0) x.Value) N b else WA N b x y)->KM base h h'->K (.tup []) h'):SCall Gm 1312 [.ptr nid 0 0,iI (a:Nat),iI (b:Nat)] h K:=by
 have la:=hP.la;have lb:=hP.lb;have hz':=hz;unfold qB.sz at hz';have hbl:=hN.bl;refine sI kS ?_;simp only[kS,qM,go_sem];obtain⟨aid,ps,q,hNA,o1,o2,o3⟩:=hN.rd hP.x;have hk4:b<ps.length:=by rw[hNA.l];exact hP.lb
 obtain⟨q',hq',o4⟩:∃q',ps[b]?=some q'/\(zB N ps)[b]?=some (encR y q'):=⟨ps[b],gEg hk4,Qm hP.y (gEg hk4)⟩;simp only[o1,zH la,zH lb,o2,o3,o4,go_sem];refine qi (k:=5) (by rfl) (by simp only[go_sem]) ⟨_,rfl⟩ (by decide) ?_;simp only[go_sem];apply qI<;>intro hc<;>simp only[hc,go_sem]
 ·have e7:y.Kind=7:=by simpa using hc
  have e8:y.Kind≠8:=by omega
  rw[if_neg e8]at hK;have p3:=(h7 e8).2;refine qU (qoN (n:=2) hw hN (by omega) (by omega) λh2 n2 k2=>?_);simp only[go_sem];have b1:Has (N++[qS 8 y.Level y.Value [x.Value] 2]) b 1:=(hP.by' (by omega)).app;refine qU (Q4 (s:=1) (k:=0) n2 b1 (zd (by omega)) ((QK hP).peerX b1 (by rintro(q | q);exact hP.nx (by omega) q.1;omega) (.inr rfl)) λh3 n3 k3=>?_);simp only[go_sem];have b2:Has (Wl N b x y) b 2:=(hP.by' (by omega)).app.same ZU;have w2:W (Wl N b x y) _:=Yv hP (by omega) (by omega);refine qU (Q4 (s:=2) (k:=1) n3 b2 ((zd (by omega)).same ZU) (w2.peerX b2 (by rintro(q | q | q);exact hP.nx (by omega) q.1;omega;omega) (.inr (.inl ⟨rfl,by omega⟩))) λh4 n4 k4=>?_);simp only[go_sem];exact hK _ n4 (k2.toKM.trans (k3.toKM.trans k4.toKM))
 ·have e7:y.Kind≠7:=by simpa using hc
  have e8:y.Kind=8:=by rcases Classical.em (y.Kind=8)with q | q;exact q;exact absurd (h7 q).1 e7
  rw[if_pos e8]at hK;obtain⟨p2,d1⟩:=h8 e8;simp only[Zj d1,oMs,go_sem];refine qL qhI ?_;simp only[go_sem];refine qU (X2 (n:=1) hw hN (by omega) (by omega) λh2 n2 k2=>?_);simp only[go_sem];have b1:Has (N++[qS 6 0 (opI y.Value (y.Data.getD 0 0) x.Value) [] 1]) b 1:=(hP.by' (by omega)).app;refine qU (Q4 (s:=1) (k:=0) n2 b1 (zd (by omega)) ((QK hP).peerX b1 (by rintro(q | q);exact hP.nx (by omega) q.1;omega) (.inr rfl)) λh3 n3 k3=>?_);simp only[go_sem];exact hK _ n3 (k2.toKM.trans k3.toKM)
end
end Go.Ab
