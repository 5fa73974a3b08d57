/- Texts DbgO .. Mh3: the abstract machine, its laws and contracts of functions: lemmas for the statement. No condition. -/
import Derived.Test.YtjjcemmbemobjaaGreatP6
set_option linter.unusedSimpArgs false
set_option linter.unusedVariables false
namespace Go.Ab
open Go
set_option maxRecDepth 10000
set_option maxHeartbeats 2000000
theorem qM.plx(x:qM):x.enc.pl=true:=by simp[qM.enc,AV.pl,AV.pls]
theorem qM.cnx(x:qM):x.enc.cn=true:=by simp[qM.enc,AV.cn,AV.cns]
theorem qM.layE(x:qM)(n:Nat):lay x.enc n=(.agg [iI x.N,iI x.S],[]):=by
 simp[qM.enc,lay,qT]
theorem qM.rowsE(x:qM):x.enc.rows=0:=by simp[qM.enc,AV.rows,AV.rowss]
def qM.mrk(_x:qM)(k:Int):qM:={N:=k,S:=k+1}
def qM.ct(_x:qM):Nat:=1+1
def qM.mkV(x:qM)(_k:Int):qM:={N:=x.N,S:=x.S}
def qM.ctV(_x:qM):Nat:=0
theorem qM.rowsM(x:qM)(k:Int):(x.mrk k).enc.rows=x.enc.rows:=by simp[qM.rowsE,qM.mrk]
theorem qM.rowsV(x:qM)(k:Int):(x.mkV k).enc.rows=x.enc.rows:=by simp[qM.rowsE,qM.mkV]
theorem qM.ctle(x:qM):x.ct<=16:=by simp[qM.ct]
theorem qC.plx(x:qC):x.enc.pl=true:=by simp[qC.enc,AV.pl,AV.pls,jb (enc:=qP) (λ_=>rfl),jb qM.plx]
theorem qC.cnx(x:qC):x.enc.cn=true:=by simp[qC.enc,AV.cn,AV.cns,wP (enc:=qP) (λ_=>rfl),wP qM.cnx]
theorem qC.layE(x:qC)(n:Nat):lay x.enc n=(.agg [iI x.K,iI x.L,iI x.V,sQ 1 (n) x.D.length,.slice 2 (n+AV.rows (lQ x.D)) 0 x.P.length false],(lay (lQ x.D) (n)).2++((lay (.lst 2 (x.P.map qM.enc) false) (n+AV.rows (lQ x.D))).2++[])):=by
 simp[qC.enc,lay,qT,wk,AV.rows,Nat.add_comm,Nat.add_left_comm]
theorem qC.rowsE(x:qC):x.enc.rows=AV.rows (lQ x.D)+AV.rows (.lst 2 (x.P.map qM.enc) false):=by simp[qC.enc,AV.rows,AV.rowss,Nat.add_assoc]
def qC.mrk(x:qC)(k:Int):qC:={K:=k,L:=k+1,V:=k+1+1,D:=mkL mkI ctI x.D (k+1+1+1),P:=mkL qM.mrk qM.ct x.P (k+1+1+1+((qx ctI x.D:Nat):Int))}
def qC.ct(x:qC):Nat:=1+1+1+qx ctI x.D+qx qM.ct x.P
def qC.mkV(x:qC)(k:Int):qC:={K:=x.K,L:=x.L,V:=x.V,D:=mkL mkI ctI x.D (k),P:=mkL qM.mrk qM.ct x.P (k+((qx ctI x.D:Nat):Int))}
def qC.ctV(x:qC):Nat:=qx ctI x.D+qx qM.ct x.P
theorem qC.rowsM(x:qC)(k:Int):(x.mrk k).enc.rows=x.enc.rows:=by simp[qC.rowsE,qC.mrk,AV.rows,W1 qM.mrk qM.ct (enc:=qM.enc) qM.rowsM,W1 mkI ctI (enc:=qP) (λ_ _=>rfl)]
theorem qC.rowsV(x:qC)(k:Int):(x.mkV k).enc.rows=x.enc.rows:=by simp[qC.rowsE,qC.mkV,AV.rows,W1 qM.mrk qM.ct (enc:=qM.enc) qM.rowsM,W1 mkI ctI (enc:=qP) (λ_ _=>rfl)]
theorem qC.ctle(x:qC):x.ct<=16+16*x.sz:=by
 have h0:=qxD (c:=ctI) (λ_=>by simp[ctI]) x.D;have h1:=qxD (c:=qM.ct) (λy=>by have:=qM.ctle y;simpa using this) x.P;simp only[qC.ct,qC.sz];omega
theorem qC.ctVle(x:qC):x.ctV<=16*x.sz:=by
 have h0:=qxD (c:=ctI) (λ_=>by simp[ctI]) x.D;have h1:=qxD (c:=qM.ct) (λy=>by have:=qM.ctle y;simpa using this) x.P;simp only[qC.ctV,qC.sz];omega
theorem qE.plx(x:qE):x.enc.pl=true:=by simp[qE.enc,AV.pl,AV.pls,jb qC.plx]
theorem qE.cnx(x:qE):x.enc.cn=true:=by simp[qE.enc,AV.cn,AV.cns,wP qC.cnx]
theorem qE.layE(x:qE)(n:Nat):lay x.enc n=(.agg [sQ 5 (n) x.G.length],(lay (.lst 5 (x.G.map qC.enc) false) (n)).2++[]):=by
 simp[qE.enc,lay,qT]
theorem qE.rowsE(x:qE):x.enc.rows=AV.rows (.lst 5 (x.G.map qC.enc) false):=by simp[qE.enc,AV.rows,AV.rowss]
def qE.mrk(x:qE)(k:Int):qE:={G:=mkL qC.mrk qC.ct x.G (k)}
def qE.ct(x:qE):Nat:=qx qC.ct x.G
def qE.mkV(x:qE)(k:Int):qE:={G:=mkL qC.mrk qC.ct x.G (k)}
def qE.ctV(x:qE):Nat:=qx qC.ct x.G
theorem qE.rowsM(x:qE)(k:Int):(x.mrk k).enc.rows=x.enc.rows:=by simp[qE.rowsE,qE.mrk,AV.rows,W1 qC.mrk qC.ct (enc:=qC.enc) qC.rowsM]
theorem qE.rowsV(x:qE)(k:Int):(x.mkV k).enc.rows=x.enc.rows:=by simp[qE.rowsE,qE.mkV,AV.rows,W1 qC.mrk qC.ct (enc:=qC.enc) qC.rowsM]
theorem qE.ctle(x:qE):x.ct<=16+16*x.sz:=by
 have h0:=qxE (c:=qC.ct) (z:=qC.sz) qC.ctle x.G;simp only[qE.ct,qE.sz];omega
theorem qE.ctVle(x:qE):x.ctV<=16*x.sz:=by
 have h0:=qxE (c:=qC.ct) (z:=qC.sz) qC.ctle x.G;simp only[qE.ctV,qE.sz];omega
theorem zD.plx(x:zD):x.enc.pl=true:=by simp[zD.enc,AV.pl,AV.pls]
theorem zD.cnx(x:zD):x.enc.cn=true:=by simp[zD.enc,AV.cn,AV.cns]
theorem zD.layE(x:zD)(n:Nat):lay x.enc n=(.agg [iI x.Step,iI x.Def,iI x.Source],[]):=by
 simp[zD.enc,lay,qT]
theorem zD.rowsE(x:zD):x.enc.rows=0:=by simp[zD.enc,AV.rows,AV.rowss]
def zD.mrk(_x:zD)(k:Int):zD:={Step:=k,Def:=k+1,Source:=k+1+1}
def zD.ct(_x:zD):Nat:=1+1+1
def zD.mkV(x:zD)(_k:Int):zD:={Step:=x.Step,Def:=x.Def,Source:=x.Source}
def zD.ctV(_x:zD):Nat:=0
theorem zD.rowsM(x:zD)(k:Int):(x.mrk k).enc.rows=x.enc.rows:=by simp[zD.rowsE,zD.mrk]
theorem zD.rowsV(x:zD)(k:Int):(x.mkV k).enc.rows=x.enc.rows:=by simp[zD.rowsE,zD.mkV]
theorem zD.ctle(x:zD):x.ct<=16:=by simp[zD.ct]
theorem zS.plx(x:zS):x.enc.pl=true:=by simp[zS.enc,AV.pl,AV.pls]
theorem zS.cnx(x:zS):x.enc.cn=true:=by simp[zS.enc,AV.cn,AV.cns]
theorem zS.layE(x:zS)(n:Nat):lay x.enc n=(.agg [iI x.K,iI x.V],[]):=by
 simp[zS.enc,lay,qT]
theorem zS.rowsE(x:zS):x.enc.rows=0:=by simp[zS.enc,AV.rows,AV.rowss]
def zS.mrk(_x:zS)(k:Int):zS:={K:=k,V:=k+1}
def zS.ct(_x:zS):Nat:=1+1
def zS.mkV(x:zS)(_k:Int):zS:={K:=x.K,V:=x.V}
def zS.ctV(_x:zS):Nat:=0
theorem zS.rowsM(x:zS)(k:Int):(x.mrk k).enc.rows=x.enc.rows:=by simp[zS.rowsE,zS.mrk]
theorem zS.rowsV(x:zS)(k:Int):(x.mkV k).enc.rows=x.enc.rows:=by simp[zS.rowsE,zS.mkV]
theorem zS.ctle(x:zS):x.ct<=16:=by simp[zS.ct]
theorem zf.plx(x:zf):x.enc.pl=true:=by simp[zf.enc,AV.pl,AV.pls,jb qC.plx,jb zD.plx]
theorem zf.cnx(x:zf):x.enc.cn=true:=by simp[zf.enc,AV.cn,AV.cns,wP qC.cnx,wP zD.cnx]
theorem zf.layE(x:zf)(n:Nat):lay x.enc n=(.agg [iI x.I,sQ 5 (n) x.Net.G.length,.slice 3 (n+AV.rows (.lst 5 (x.Net.G.map qC.enc) false)) 0 x.Origins.length false],(lay (.lst 5 (x.Net.G.map qC.enc) false) (n)).2++((lay (.lst 3 (x.Origins.map zD.enc) false) (n+AV.rows (.lst 5 (x.Net.G.map qC.enc) false))).2++[])):=by
 simp[zf.enc,lay,qT,wk,AV.rows,Nat.add_comm,Nat.add_left_comm]
theorem zf.rowsE(x:zf):x.enc.rows=AV.rows (.lst 5 (x.Net.G.map qC.enc) false)+AV.rows (.lst 3 (x.Origins.map zD.enc) false):=by simp[zf.enc,AV.rows,AV.rowss,Nat.add_assoc]
def zf.mrk(x:zf)(k:Int):zf:={I:=k,Net:={G:=mkL qC.mrk qC.ct x.Net.G (k+1)},Origins:=mkL zD.mrk zD.ct x.Origins (k+1+((qx qC.ct x.Net.G:Nat):Int))}
def zf.ct(x:zf):Nat:=1+qx qC.ct x.Net.G+qx zD.ct x.Origins
def zf.mkV(x:zf)(k:Int):zf:={I:=x.I,Net:={G:=mkL qC.mrk qC.ct x.Net.G (k)},Origins:=mkL zD.mrk zD.ct x.Origins (k+((qx qC.ct x.Net.G:Nat):Int))}
def zf.ctV(x:zf):Nat:=qx qC.ct x.Net.G+qx zD.ct x.Origins
theorem zf.rowsM(x:zf)(k:Int):(x.mrk k).enc.rows=x.enc.rows:=by simp[zf.rowsE,zf.mrk,AV.rows,W1 qC.mrk qC.ct (enc:=qC.enc) qC.rowsM,W1 zD.mrk zD.ct (enc:=zD.enc) zD.rowsM]
theorem zf.rowsV(x:zf)(k:Int):(x.mkV k).enc.rows=x.enc.rows:=by simp[zf.rowsE,zf.mkV,AV.rows,W1 qC.mrk qC.ct (enc:=qC.enc) qC.rowsM,W1 zD.mrk zD.ct (enc:=zD.enc) zD.rowsM]
theorem zf.ctle(x:zf):x.ct<=16+16*x.sz:=by
 have h0:=qxE (c:=qC.ct) (z:=qC.sz) qC.ctle x.Net.G;have h1:=qxD (c:=zD.ct) (λy=>by have:=zD.ctle y;simpa using this) x.Origins;simp only[zf.ct,zf.sz,qE.sz];omega
theorem zf.ctVle(x:zf):x.ctV<=16*x.sz:=by
 have h0:=qxE (c:=qC.ct) (z:=qC.sz) qC.ctle x.Net.G;have h1:=qxD (c:=zD.ct) (λy=>by have:=zD.ctle y;simpa using this) x.Origins;simp only[zf.ctV,zf.sz,qE.sz];omega
theorem z5.plx(x:z5):x.enc.pl=true:=by simp[z5.enc,AV.pl,AV.pls,jb (enc:=qP) (λ_=>rfl),jb qC.plx,jb zS.plx,jb zf.plx,jb qE.plx,jb zD.plx]
theorem z5.cnx(x:z5):x.enc.cn=true:=by simp[z5.enc,AV.cn,AV.cns,wP (enc:=qP) (λ_=>rfl),wP qC.cnx,wP zS.cnx,wP zf.cnx,wP qE.cnx,wP zD.cnx]
theorem z5.layE(x:z5)(n:Nat):lay x.enc n=(.agg [sQ 1 (n) x.Y.length,.slice 1 (n+AV.rows (.lst 1 (x.Y.map qE.enc) false)) 0 x.Q.length false,iI x.Every,iI x.I,.slice 5 (n+AV.rows (.lst 1 (x.Y.map qE.enc) false)+AV.rows (lQ x.Q)) 0 x.Net.G.length false,.slice 3 (n+AV.rows (.lst 1 (x.Y.map qE.enc) false)+AV.rows (lQ x.Q)+AV.rows (.lst 5 (x.Net.G.map qC.enc) false)) 0 x.Origins.length false,.slice 2 (n+AV.rows (.lst 1 (x.Y.map qE.enc) false)+AV.rows (lQ x.Q)+AV.rows (.lst 5 (x.Net.G.map qC.enc) false)+AV.rows (.lst 3 (x.Origins.map zD.enc) false)) 0 x.Breaks.length false,.slice 3 (n+AV.rows (.lst 1 (x.Y.map qE.enc) false)+AV.rows (lQ x.Q)+AV.rows (.lst 5 (x.Net.G.map qC.enc) false)+AV.rows (.lst 3 (x.Origins.map zD.enc) false)+AV.rows (.lst 2 (x.Breaks.map zS.enc) false)) 0 x.Points.length false],(lay (.lst 1 (x.Y.map qE.enc) false) (n)).2++((lay (lQ x.Q) (n+AV.rows (.lst 1 (x.Y.map qE.enc) false))).2++((lay (.lst 5 (x.Net.G.map qC.enc) false) (n+AV.rows (.lst 1 (x.Y.map qE.enc) false)+AV.rows (lQ x.Q))).2++((lay (.lst 3 (x.Origins.map zD.enc) false) (n+AV.rows (.lst 1 (x.Y.map qE.enc) false)+AV.rows (lQ x.Q)+AV.rows (.lst 5 (x.Net.G.map qC.enc) false))).2++((lay (.lst 2 (x.Breaks.map zS.enc) false) (n+AV.rows (.lst 1 (x.Y.map qE.enc) false)+AV.rows (lQ x.Q)+AV.rows (.lst 5 (x.Net.G.map qC.enc) false)+AV.rows (.lst 3 (x.Origins.map zD.enc) false))).2++((lay (.lst 3 (x.Points.map zf.enc) false) (n+AV.rows (.lst 1 (x.Y.map qE.enc) false)+AV.rows (lQ x.Q)+AV.rows (.lst 5 (x.Net.G.map qC.enc) false)+AV.rows (.lst 3 (x.Origins.map zD.enc) false)+AV.rows (.lst 2 (x.Breaks.map zS.enc) false))).2++[])))))):=by
 simp[z5.enc,lay,qT,wk,AV.rows,Nat.add_assoc,Nat.add_comm,Nat.add_left_comm]
theorem z5.rowsE(x:z5):x.enc.rows=AV.rows (.lst 1 (x.Y.map qE.enc) false)+AV.rows (lQ x.Q)+AV.rows (.lst 5 (x.Net.G.map qC.enc) false)+AV.rows (.lst 3 (x.Origins.map zD.enc) false)+AV.rows (.lst 2 (x.Breaks.map zS.enc) false)+AV.rows (.lst 3 (x.Points.map zf.enc) false):=by simp[z5.enc,AV.rows,AV.rowss,Nat.add_assoc]
def z5.mrk(x:z5)(k:Int):z5:={Y:=mkL qE.mrk qE.ct x.Y (k),Q:=mkL mkI ctI x.Q (k+((qx qE.ct x.Y:Nat):Int)),Every:=k+((qx qE.ct x.Y:Nat):Int)+((qx ctI x.Q:Nat):Int),I:=k+((qx qE.ct x.Y:Nat):Int)+((qx ctI x.Q:Nat):Int)+1,Net:={G:=mkL qC.mrk qC.ct x.Net.G (k+((qx qE.ct x.Y:Nat):Int)+((qx ctI x.Q:Nat):Int)+1+1)},Origins:=mkL zD.mrk zD.ct x.Origins (k+((qx qE.ct x.Y:Nat):Int)+((qx ctI x.Q:Nat):Int)+1+1+((qx qC.ct x.Net.G:Nat):Int)),Breaks:=mkL zS.mrk zS.ct x.Breaks (k+((qx qE.ct x.Y:Nat):Int)+((qx ctI x.Q:Nat):Int)+1+1+((qx qC.ct x.Net.G:Nat):Int)+((qx zD.ct x.Origins:Nat):Int)),Points:=mkL zf.mrk zf.ct x.Points (k+((qx qE.ct x.Y:Nat):Int)+((qx ctI x.Q:Nat):Int)+1+1+((qx qC.ct x.Net.G:Nat):Int)+((qx zD.ct x.Origins:Nat):Int)+((qx zS.ct x.Breaks:Nat):Int))}
def z5.ct(x:z5):Nat:=qx qE.ct x.Y+qx ctI x.Q+1+1+qx qC.ct x.Net.G+qx zD.ct x.Origins+qx zS.ct x.Breaks+qx zf.ct x.Points
def z5.mkV(x:z5)(k:Int):z5:={Y:=mkL qE.mrk qE.ct x.Y (k),Q:=mkL mkI ctI x.Q (k+((qx qE.ct x.Y:Nat):Int)),Every:=x.Every,I:=x.I,Net:={G:=mkL qC.mrk qC.ct x.Net.G (k+((qx qE.ct x.Y:Nat):Int)+((qx ctI x.Q:Nat):Int))},Origins:=mkL zD.mrk zD.ct x.Origins (k+((qx qE.ct x.Y:Nat):Int)+((qx ctI x.Q:Nat):Int)+((qx qC.ct x.Net.G:Nat):Int)),Breaks:=mkL zS.mrk zS.ct x.Breaks (k+((qx qE.ct x.Y:Nat):Int)+((qx ctI x.Q:Nat):Int)+((qx qC.ct x.Net.G:Nat):Int)+((qx zD.ct x.Origins:Nat):Int)),Points:=mkL zf.mrk zf.ct x.Points (k+((qx qE.ct x.Y:Nat):Int)+((qx ctI x.Q:Nat):Int)+((qx qC.ct x.Net.G:Nat):Int)+((qx zD.ct x.Origins:Nat):Int)+((qx zS.ct x.Breaks:Nat):Int))}
def z5.ctV(x:z5):Nat:=qx qE.ct x.Y+qx ctI x.Q+qx qC.ct x.Net.G+qx zD.ct x.Origins+qx zS.ct x.Breaks+qx zf.ct x.Points
theorem z5.rowsM(x:z5)(k:Int):(x.mrk k).enc.rows=x.enc.rows:=by simp[z5.rowsE,z5.mrk,AV.rows,W1 qC.mrk qC.ct (enc:=qC.enc) qC.rowsM,W1 zS.mrk zS.ct (enc:=zS.enc) zS.rowsM,W1 zf.mrk zf.ct (enc:=zf.enc) zf.rowsM,W1 qE.mrk qE.ct (enc:=qE.enc) qE.rowsM,W1 zD.mrk zD.ct (enc:=zD.enc) zD.rowsM,W1 mkI ctI (enc:=qP) (λ_ _=>rfl)]
theorem z5.rowsV(x:z5)(k:Int):(x.mkV k).enc.rows=x.enc.rows:=by simp[z5.rowsE,z5.mkV,AV.rows,W1 qC.mrk qC.ct (enc:=qC.enc) qC.rowsM,W1 zS.mrk zS.ct (enc:=zS.enc) zS.rowsM,W1 zf.mrk zf.ct (enc:=zf.enc) zf.rowsM,W1 qE.mrk qE.ct (enc:=qE.enc) qE.rowsM,W1 zD.mrk zD.ct (enc:=zD.enc) zD.rowsM,W1 mkI ctI (enc:=qP) (λ_ _=>rfl)]
theorem z5.ctle(x:z5):x.ct<=16+16*x.sz:=by
 have h0:=qxE (c:=qE.ct) (z:=qE.sz) qE.ctle x.Y;have h1:=qxD (c:=ctI) (λ_=>by simp[ctI]) x.Q;have h2:=qxE (c:=qC.ct) (z:=qC.sz) qC.ctle x.Net.G;have h3:=qxD (c:=zD.ct) (λy=>by have:=zD.ctle y;simpa using this) x.Origins;have h4:=qxD (c:=zS.ct) (λy=>by have:=zS.ctle y;simpa using this) x.Breaks;have h5:=qxE (c:=zf.ct) (z:=zf.sz) zf.ctle x.Points;simp only[z5.ct,z5.sz,qE.sz];omega
theorem z5.ctVle(x:z5):x.ctV<=16*x.sz:=by
 have h0:=qxE (c:=qE.ct) (z:=qE.sz) qE.ctle x.Y;have h1:=qxD (c:=ctI) (λ_=>by simp[ctI]) x.Q;have h2:=qxE (c:=qC.ct) (z:=qC.sz) qC.ctle x.Net.G;have h3:=qxD (c:=zD.ct) (λy=>by have:=zD.ctle y;simpa using this) x.Origins;have h4:=qxD (c:=zS.ct) (λy=>by have:=zS.ctle y;simpa using this) x.Breaks;have h5:=qxE (c:=zf.ct) (z:=zf.sz) zf.ctle x.Points;simp only[z5.ctV,z5.sz,qE.sz];omega
theorem n147(xs:List Int)(hl:xs.length<=1048576):Fresh Gm 147 [lQ xs] (lQ xs):=zAL (gk _ F147) xs hl
theorem zAJ(x:qM):Fresh Gm 1419 [x.enc] x.enc:=by
 refine fI KU (by simp[AV.trees,qM.tr]) (qM.plx x) ?_;simp only[KU,qN,go_sem];refine qW rfl ?_;simp only[go_sem];refine lsA ?_;simp only[go_sem];exact Xe (pre:=[]) (post:=[]) (qM.plx x) (by simp[ja,qM.layE]) (by simp[qM.layE])
theorem zAH(xs:List qM)(hl:xs.length<=1048576):Fresh Gm 1178 [.lst 2 (xs.map qM.enc) false] (.lst 2 (xs.map qM.enc) false):=
 qxO qM.isSh qM.plx rfl rfl (by simp) (gk _ qHD) xs (λx hm=>zAJ x) (by omega)
theorem n858(x:qC)(hz:x.sz<=1048576):Fresh Gm 858 [x.enc] x.enc:=by
 refine fI kY (by simp[AV.trees,qC.tr]) (qC.plx x) ?_;simp only[kY,qN,go_sem];refine qW rfl ?_;simp only[go_sem];unfold qC.sz at hz;refine Ju (n147 _ (by omega)) ?_;simp only[go_sem,qeJ];refine Ju (zAH _ (by omega)) ?_;simp only[go_sem,qeJ];refine lsA ?_;simp only[go_sem];exact Xe (pre:=[]) (post:=[]) (qC.plx x) (by simp[ja,qC.layE,jW]) (by simp[qC.layE,jW])
theorem n504(xs:List qC)(hl:xs.length+qx qC.sz xs<=1048576):Fresh Gm 504 [.lst 5 (xs.map qC.enc) false] (.lst 5 (xs.map qC.enc) false):=
 qxO qC.isSh qC.plx rfl rfl (by simp) (gk _ F504) xs (λx hm=>n858 x (by have:=jg (f:=qC.sz) hm;omega)) (by omega)
theorem n185(x:qE)(hz:x.sz<=1048576):Fresh Gm 185 [x.enc] x.enc:=by
 refine fI Kp (by simp[AV.trees,qE.tr]) (qE.plx x) ?_;simp only[Kp,qN,go_sem];refine qW rfl ?_;simp only[go_sem];unfold qE.sz at hz;refine Ju (n504 _ (by omega)) ?_;simp only[go_sem,qeJ];exact Xe (pre:=[]) (post:=[]) (qE.plx x) (by simp[ja,qE.layE]) (by simp[qE.layE])
theorem n184(xs:List qE)(hl:xs.length+qx qE.sz xs<=1048576):Fresh Gm 184 [.lst 1 (xs.map qE.enc) false] (.lst 1 (xs.map qE.enc) false):=
 qxO qE.isSh qE.plx rfl rfl (by simp) (gk _ F184) xs (λx hm=>n185 x (by have:=jg (f:=qE.sz) hm;omega)) (by omega)
theorem k90(xs:List Int)(k:Int)(h0:0<=k)(hk:k+(qx ctI xs:Nat)<=4611686018427387904)(hz:xs.length<=1073741824):Mark Gm 90 (lQ xs) (lQ (mkL mkI ctI xs k)) k (k+(qx ctI xs:Nat)):=zAF (gk _ F90) rfl xs k h0 hk hz
theorem k885(xs:List qM)(k:Int)(h0:0<=k)(hk:k+(qx qM.ct xs:Nat)<=4611686018427387904)(hz:xs.length<=1073741824):Mark Gm 885 (.lst 2 (xs.map qM.enc) false) (.lst 2 ((mkL qM.mrk qM.ct xs k).map qM.enc) false) k (k+(qx qM.ct xs:Nat)):=by
 refine Mark.intro (gk _ F885) (by kernel_rfl) rfl (jb qM.plx xs) (jb qM.plx _) (by simp only[AV.rows,W1 qM.mrk qM.ct (enc:=qM.enc) qM.rowsM]) ?_;simp only[F885,qN,qeJ,go_sem,nZa];refine Sem.loop (λi:Nat=>i<=xs.length) (λi=>(⟨[(0,sQ 2 0 xs.length),(1,iI (k+((qx qM.ct (xs.take i):Nat):Int))),(5,iI (i:Nat))],[],(lay (.lst 2 ((mkL qM.mrk qM.ct (xs.take i) k++xs.drop i).map qM.enc) false) 0).2⟩:VSt)) (λi=>xs.length-i) 0 (by kernel_rfl) (nZl _) (by simp only[List.take_zero,mkL,lNa,List.drop_zero,qx,Int.ofNat_zero,Int.add_zero];exact csA) ?_;intro i hi;simp only[go_sem];apply qS<;>intro hc<;>simp only[hc,go_sem]
 ·have hlt:i<xs.length:=by have:=odT hc;omega
  have hct:=qxN qM.ct hlt;have hcl:=qxM qM.ct xs (i+1);have hrow:=qM.rowsM;rw[lDc hlt,qxG];obtain⟨K,hK⟩:∃K:Int,K=k+((qx qM.ct (xs.take i):Nat):Int):=⟨_,rfl⟩;have hend:k+((qx qM.ct (xs.take (i+1)):Nat):Int)=K+((qM.ct xs[i]:Nat):Int):=by rw[hct,hK];omega
  have hKb:0<=K/\K+((qM.ct xs[i]:Nat):Int)<=4611686018427387904:=by rw[<-hend];omega
  have hmk:(mkL qM.mrk qM.ct (xs.take (i+1)) k++xs.drop (i+1))=mkL qM.mrk qM.ct (xs.take i) k++qM.mrk xs[i] K::xs.drop (i+1):=by rw[qxL qM.mrk qM.ct hlt,<-hK,lAa];rfl
  have hrx:=hrow xs[i] K;rw[<-hK];obtain⟨y,hy⟩:∃y,y=xs[i]:=⟨_,rfl⟩;rw[<-hy]at hmk hend hKb hrx|-;have hcy:qM.ct y=1+1:=rfl;rw[hcy]at hend hKb;have hA:(qT ((mkL qM.mrk qM.ct (xs.take i) k).map qM.enc) 1).1.length=i:=by rw[Jk,lMp,qxF];simp;omega
  have hoA:=wk ((mkL qM.mrk qM.ct (xs.take i) k).map qM.enc) 1;have e2:=qxG (enc:=qM.enc) (w:=2) (c:=false) (A:=mkL qM.mrk qM.ct (xs.take i) k) (B:=xs.drop (i+1)) (z:=qM.mrk y K);rw[hrx]at e2;rw[qM.layE]at e2|-;obtain⟨p,hp⟩:∃p,p=1+AV.rowss ((mkL qM.mrk qM.ct (xs.take i) k).map qM.enc):=⟨_,rfl⟩;rw[<-hp]at e2|-;generalize (qT ((xs.drop (i+1)).map qM.enc) (p+y.enc.rows)).1=vB at e2|-;generalize (qT ((xs.drop (i+1)).map qM.enc) (p+y.enc.rows)).2=oB at e2|-;generalize (qT ((mkL qM.mrk qM.ct (xs.take i) k).map qM.enc) 1).1=vA at e2 hA|-;generalize (qT ((mkL qM.mrk qM.ct (xs.take i) k).map qM.enc) 1).2=oA at e2 hoA|-;simp only[qY hlt,go_sem,nZa];refine jF (e':=.agg [iI (K),iI y.S]) (by rfl) (by rfl) (W2 hA) (by rfl) ?_;simp only[qxC hA,qY hlt,lSz,go_sem,nZa];rw[wsA (n:=K+1)]
  try simp only[W2 hA,qxC hA,qY hlt,lSz,go_sem,nZa]
  refine jF (e':=.agg [iI (K),iI (K+1)]) (by rfl) (by rfl) (W2 hA) (by rfl) ?_;simp only[qxC hA,lSz,go_sem];rw[wsA (n:=K+1+1)];simp only[wuA (n:=i)];refine qa (i+1) (by omega) (by omega) ?_;have e3:K+1+1=k+((qx qM.ct (xs.take (i+1)):Nat):Int):=by first | (rw[hend];done) | (rw[hend];omega)
  rw[e3];rw[hmk,e2];simp only[qM.mrk,AV.rows,lNa];exact csA
 ·have hge:i=xs.length:=by have:=odF hc;omega
  subst hge;refine qxJ (by rw[lTl]) ?_;rw[lTl,List.drop_length,lAn]
theorem k524(xs:List qC)(k:Int)(h0:0<=k)(hk:k+(qx qC.ct xs:Nat)<=4611686018427387904)(hz:xs.length+qx qC.sz xs<=1073741824):Mark Gm 524 (.lst 5 (xs.map qC.enc) false) (.lst 5 ((mkL qC.mrk qC.ct xs k).map qC.enc) false) k (k+(qx qC.ct xs:Nat)):=by
 refine Mark.intro (gk _ F524) (by kernel_rfl) rfl (jb qC.plx xs) (jb qC.plx _) (by simp only[AV.rows,W1 qC.mrk qC.ct (enc:=qC.enc) qC.rowsM]) ?_;simp only[F524,qN,qeJ,go_sem,nZa];refine Sem.loop (λi:Nat=>i<=xs.length) (λi=>(⟨[(0,sQ 5 0 xs.length),(1,iI (k+((qx qC.ct (xs.take i):Nat):Int))),(5,iI (i:Nat))],[],(lay (.lst 5 ((mkL qC.mrk qC.ct (xs.take i) k++xs.drop i).map qC.enc) false) 0).2⟩:VSt)) (λi=>xs.length-i) 0 (by kernel_rfl) (nZl _) (by simp only[List.take_zero,mkL,lNa,List.drop_zero,qx,Int.ofNat_zero,Int.add_zero];exact csA) ?_;intro i hi;simp only[go_sem];apply qS<;>intro hc<;>simp only[hc,go_sem]
 ·have hlt:i<xs.length:=by have:=odT hc;omega
  have hct:=qxN qC.ct hlt;have hcl:=qxM qC.ct xs (i+1);have hrow:=qC.rowsM;rw[lDc hlt,qxG];have hsz:qC.sz xs[i]<=qx qC.sz xs:=jg (f:=qC.sz) (gMm hlt);obtain⟨K,hK⟩:∃K:Int,K=k+((qx qC.ct (xs.take i):Nat):Int):=⟨_,rfl⟩;have hend:k+((qx qC.ct (xs.take (i+1)):Nat):Int)=K+((qC.ct xs[i]:Nat):Int):=by rw[hct,hK];omega
  have hKb:0<=K/\K+((qC.ct xs[i]:Nat):Int)<=4611686018427387904:=by rw[<-hend];omega
  have hmk:(mkL qC.mrk qC.ct (xs.take (i+1)) k++xs.drop (i+1))=mkL qC.mrk qC.ct (xs.take i) k++qC.mrk xs[i] K::xs.drop (i+1):=by rw[qxL qC.mrk qC.ct hlt,<-hK,lAa];rfl
  have hrx:=hrow xs[i] K;rw[<-hK];obtain⟨y,hy⟩:∃y,y=xs[i]:=⟨_,rfl⟩;rw[<-hy]at hmk hend hKb hrx hsz|-;have hcy:qC.ct y=1+1+1+qx ctI y.D+qx qM.ct y.P:=rfl;rw[hcy]at hend hKb;simp only[qC.sz]at hsz;have hA:(qT ((mkL qC.mrk qC.ct (xs.take i) k).map qC.enc) 1).1.length=i:=by rw[Jk,lMp,qxF];simp;omega
  have hoA:=wk ((mkL qC.mrk qC.ct (xs.take i) k).map qC.enc) 1;have e2:=qxG (enc:=qC.enc) (w:=5) (c:=false) (A:=mkL qC.mrk qC.ct (xs.take i) k) (B:=xs.drop (i+1)) (z:=qC.mrk y K);rw[hrx]at e2;rw[qC.layE]at e2|-;obtain⟨p,hp⟩:∃p,p=1+AV.rowss ((mkL qC.mrk qC.ct (xs.take i) k).map qC.enc):=⟨_,rfl⟩;rw[<-hp]at e2|-;generalize (qT ((xs.drop (i+1)).map qC.enc) (p+y.enc.rows)).1=vB at e2|-;generalize (qT ((xs.drop (i+1)).map qC.enc) (p+y.enc.rows)).2=oB at e2|-;generalize (qT ((mkL qC.mrk qC.ct (xs.take i) k).map qC.enc) 1).1=vA at e2 hA|-;generalize (qT ((mkL qC.mrk qC.ct (xs.take i) k).map qC.enc) 1).2=oA at e2 hoA|-;simp only[qY hlt,go_sem,nZa];refine jF (e':=.agg [iI (K),iI y.L,iI y.V,sQ 1 (p) y.D.length,.slice 2 (p+AV.rows (lQ y.D)) 0 y.P.length false]) (by rfl) (by rfl) (W2 hA) (by rfl) ?_;simp only[qxC hA,qY hlt,lSz,go_sem,nZa];rw[wsA (n:=K+1)]
  try simp only[W2 hA,qxC hA,qY hlt,lSz,go_sem,nZa]
  refine jF (e':=.agg [iI (K),iI (K+1),iI y.V,sQ 1 (p) y.D.length,.slice 2 (p+AV.rows (lQ y.D)) 0 y.P.length false]) (by rfl) (by rfl) (W2 hA) (by rfl) ?_;simp only[qxC hA,qY hlt,lSz,go_sem,nZa];rw[wsA (n:=K+1+1)]
  try simp only[W2 hA,qxC hA,qY hlt,lSz,go_sem,nZa]
  refine jF (e':=.agg [iI (K),iI (K+1),iI (K+1+1),sQ 1 (p) y.D.length,.slice 2 (p+AV.rows (lQ y.D)) 0 y.P.length false]) (by rfl) (by rfl) (W2 hA) (by rfl) ?_;simp only[W2 hA,qxC hA,qY hlt,lSz,go_sem,nZa];rw[wsA (n:=K+1+1+1)]
  try simp only[W2 hA,qxC hA,qY hlt,lSz,go_sem,nZa]
  refine qxH (n:=p) (pre:=.row 5 (vA++.agg [iI (K),iI (K+1),iI (K+1+1),sQ 1 (p) y.D.length,.slice 2 (p+AV.rows (lQ y.D)) 0 y.P.length false]::vB) true::(oA++[])) (post:=((lay (.lst 2 (y.P.map qM.enc) false) (p+AV.rows (lQ y.D))).2++[])++oB) (t:=(lQ y.D)) (t':=(lQ (mkL mkI ctI y.D (K+1+1+1)))) (k90 y.D (K+1+1+1) (by omega) (by omega) (by omega)) ?_ ?_ (by rw[qeJ,lMp]) ?_
  ·first | rfl | (simp only[lCo,lAp,lNi,hoA,AV.rows];done) | (simp only[lCo,lAp,lNi,hoA,AV.rows];omega)
  ·first | rfl | (simp only[lAa,lAn,lCa];done)
  simp only[W2 hA,qY hlt,lCa,go_sem,nZa];refine qxH (n:=p+AV.rows (lQ y.D)) (pre:=.row 5 (vA++.agg [iI (K),iI (K+1),iI (K+1+1),sQ 1 (p) y.D.length,.slice 2 (p+AV.rows (lQ y.D)) 0 y.P.length false]::vB) true::(oA++((lay (lQ (mkL mkI ctI y.D (K+1+1+1))) (p)).2))) (post:=([])++oB) (t:=(.lst 2 (y.P.map qM.enc) false)) (t':=(.lst 2 ((mkL qM.mrk qM.ct y.P (K+1+1+1+((qx ctI y.D:Nat):Int))).map qM.enc) false)) (k885 y.P (K+1+1+1+((qx ctI y.D:Nat):Int)) (by omega) (by omega) (by omega)) ?_ ?_ (by rw[qeJ,lMp]) ?_
  ·first | rfl | (simp only[lCo,lAp,hoA,jW,AV.rows,W1 mkI ctI (enc:=qP) (λ_ _=>rfl)];done) | (simp only[lCo,lAp,hoA,jW,AV.rows,W1 mkI ctI (enc:=qP) (λ_ _=>rfl)];omega)
  ·first | rfl | (simp only[lAa,lNa,lAn,lCa];done)
  simp only[lCa,go_sem];simp only[wuA (n:=i)];refine qa (i+1) (by omega) (by omega) ?_;have e3:K+1+1+1+((qx ctI y.D:Nat):Int)+((qx qM.ct y.P:Nat):Int)=k+((qx qC.ct (xs.take (i+1)):Nat):Int):=by first | (rw[hend];done) | (rw[hend];omega)
  rw[e3];rw[hmk,e2];simp only[qC.mrk,qxF,AV.rows,lAa,lNa,lAn,W1 mkI ctI (enc:=qP) (λ_ _=>rfl)];exact csA
 ·have hge:i=xs.length:=by have:=odF hc;omega
  subst hge;refine qxJ (by rw[lTl]) ?_;rw[lTl,List.drop_length,lAn]
theorem k225(xs:List qE)(k:Int)(h0:0<=k)(hk:k+(qx qE.ct xs:Nat)<=4611686018427387904)(hz:xs.length+qx qE.sz xs<=1073741824):Mark Gm 225 (.lst 1 (xs.map qE.enc) false) (.lst 1 ((mkL qE.mrk qE.ct xs k).map qE.enc) false) k (k+(qx qE.ct xs:Nat)):=by
 refine Mark.intro (gk _ F225) (by kernel_rfl) rfl (jb qE.plx xs) (jb qE.plx _) (by simp only[AV.rows,W1 qE.mrk qE.ct (enc:=qE.enc) qE.rowsM]) ?_;simp only[F225,qN,qeJ,go_sem,nZa];refine Sem.loop (λi:Nat=>i<=xs.length) (λi=>(⟨[(0,sQ 1 0 xs.length),(1,iI (k+((qx qE.ct (xs.take i):Nat):Int))),(5,iI (i:Nat))],[],(lay (.lst 1 ((mkL qE.mrk qE.ct (xs.take i) k++xs.drop i).map qE.enc) false) 0).2⟩:VSt)) (λi=>xs.length-i) 0 (by kernel_rfl) (nZl _) (by simp only[List.take_zero,mkL,lNa,List.drop_zero,qx,Int.ofNat_zero,Int.add_zero];exact csA) ?_;intro i hi;simp only[go_sem];apply qS<;>intro hc<;>simp only[hc,go_sem]
 ·have hlt:i<xs.length:=by have:=odT hc;omega
  have hct:=qxN qE.ct hlt;have hcl:=qxM qE.ct xs (i+1);have hrow:=qE.rowsM;rw[lDc hlt,qxG];have hsz:qE.sz xs[i]<=qx qE.sz xs:=jg (f:=qE.sz) (gMm hlt);obtain⟨K,hK⟩:∃K:Int,K=k+((qx qE.ct (xs.take i):Nat):Int):=⟨_,rfl⟩;have hend:k+((qx qE.ct (xs.take (i+1)):Nat):Int)=K+((qE.ct xs[i]:Nat):Int):=by rw[hct,hK];omega
  have hKb:0<=K/\K+((qE.ct xs[i]:Nat):Int)<=4611686018427387904:=by rw[<-hend];omega
  have hmk:(mkL qE.mrk qE.ct (xs.take (i+1)) k++xs.drop (i+1))=mkL qE.mrk qE.ct (xs.take i) k++qE.mrk xs[i] K::xs.drop (i+1):=by rw[qxL qE.mrk qE.ct hlt,<-hK,lAa];rfl
  have hrx:=hrow xs[i] K;rw[<-hK];obtain⟨y,hy⟩:∃y,y=xs[i]:=⟨_,rfl⟩;rw[<-hy]at hmk hend hKb hrx hsz|-;have hcy:qE.ct y=qx qC.ct y.G:=rfl;rw[hcy]at hend hKb;simp only[qE.sz]at hsz;have hA:(qT ((mkL qE.mrk qE.ct (xs.take i) k).map qE.enc) 1).1.length=i:=by rw[Jk,lMp,qxF];simp;omega
  have hoA:=wk ((mkL qE.mrk qE.ct (xs.take i) k).map qE.enc) 1;have e2:=qxG (enc:=qE.enc) (w:=1) (c:=false) (A:=mkL qE.mrk qE.ct (xs.take i) k) (B:=xs.drop (i+1)) (z:=qE.mrk y K);rw[hrx]at e2;rw[qE.layE]at e2|-;obtain⟨p,hp⟩:∃p,p=1+AV.rowss ((mkL qE.mrk qE.ct (xs.take i) k).map qE.enc):=⟨_,rfl⟩;rw[<-hp]at e2|-;generalize (qT ((xs.drop (i+1)).map qE.enc) (p+y.enc.rows)).1=vB at e2|-;generalize (qT ((xs.drop (i+1)).map qE.enc) (p+y.enc.rows)).2=oB at e2|-;generalize (qT ((mkL qE.mrk qE.ct (xs.take i) k).map qE.enc) 1).1=vA at e2 hA|-;generalize (qT ((mkL qE.mrk qE.ct (xs.take i) k).map qE.enc) 1).2=oA at e2 hoA|-;simp only[W2 hA,qY hlt,go_sem,nZa];refine qxH (n:=p) (pre:=.row 1 (vA++.agg [sQ 5 (p) y.G.length]::vB) true::(oA++[])) (post:=([])++oB) (t:=(.lst 5 (y.G.map qC.enc) false)) (t':=(.lst 5 ((mkL qC.mrk qC.ct y.G (K)).map qC.enc) false)) (k524 y.G (K) (by omega) (by omega) (by omega)) ?_ ?_ (by rw[qeJ,lMp]) ?_
  ·first | rfl | (simp only[lCo,lAp,lNi,hoA];done) | (simp only[lCo,lAp,lNi,hoA];omega)
  ·first | rfl | (simp only[lNa,lAn,lCa];done)
  simp only[lCa,go_sem];simp only[wuA (n:=i)];refine qa (i+1) (by omega) (by omega) ?_;have e3:K+((qx qC.ct y.G:Nat):Int)=k+((qx qE.ct (xs.take (i+1)):Nat):Int):=by first | (rw[hend];done) | (rw[hend];omega)
  rw[e3];rw[hmk,e2];simp only[qE.mrk,qxF,AV.rows,lNa,lAn];exact csA
 ·have hge:i=xs.length:=by have:=odF hc;omega
  subst hge;refine qxJ (by rw[lTl]) ?_;rw[lTl,List.drop_length,lAn]
theorem q92(xs:List Int)(k:Int)(h0:0<=k)(hk:k+(qx ctI xs:Nat)<=4611686018427387904)(hz:xs.length<=1073741824):Pure Gm 92 [lQ (mkL mkI ctI xs k),iI k] (iI (k+(qx ctI xs:Nat))):=qz9 (gk _ F92) rfl xs k h0 hk hz
theorem qeZ{E:Ev}{d w:Nat}{z:AV}{k k':IntKind}{n m:Nat}{l:List qA}{ks:List Fr1}{s lo:qq}{h:List qB}{Q:qf->VSt->Prop}(hnm:n<=m)(hm:m<=4294967296)
  (hr:JQ E (some d) (.row w (List.replicate n z) true) (sQ w h.length n) l ks ⟨s,lo,h⟩ Q):Mks E (some d) w z (some (.int k (n:Nat))) (some (.int k' (m:Nat))) l ks ⟨s,lo,h⟩ Q:=by
 unfold Mks;refine⟨by omega,by omega,by simp only[LIM];omega, ?_⟩;simpa only [iTn]using hr
theorem flat{α:Type}{enc:α->AV}(h:∀x n,lay (enc x) n=(enc x,[])):∀(xs:List α)(n:Nat),qT (xs.map enc) n=(xs.map enc,[])
 |[],_=>rfl
 | x::xs,n=>by simp only[lMc,qT,h,lNi,nAz,flat h xs,lNa]
theorem qM.flat(xs:List qM)(n:Nat):qT (xs.map qM.enc) n=(xs.map qM.enc,[]):=Go.Ab.flat (λx n=>qM.layE x n) xs n
theorem zD.flat(xs:List zD)(n:Nat):qT (xs.map zD.enc) n=(xs.map zD.enc,[]):=Go.Ab.flat (λx n=>zD.layE x n) xs n
theorem zS.flat(xs:List zS)(n:Nat):qT (xs.map zS.enc) n=(xs.map zS.enc,[]):=Go.Ab.flat (λx n=>zS.layE x n) xs n
theorem VO(xs:List Int)(hz:xs.length<=4194304):Fresh Gm 401 [lQ xs] (lQ xs):=
 Yn (w:=1) (gk _ F401) (lI xs) (jb (λ_=>rfl) xs) (qb shI.tree xs) (by simpa using hz)
theorem qn2(xs:List qM)(hz:xs.length<=4194304):Fresh Gm 1373 [.lst 2 (xs.map qM.enc) false] (.lst 2 (xs.map qM.enc) false):=
 Yn (w:=2) (gk _ qOR) (qM.flat xs) (jb qM.plx xs) (qb qM.isSh.tree xs) (by simpa using hz)
theorem qn0(x:qC)(hz:x.sz<=1048576):Fresh Gm 1085 [x.enc] x.enc:=by
 unfold qC.sz at hz;refine fI UI (by simp[AV.trees,go_sem]) (qC.plx x) ?_;simp only[UI,qN,go_sem];refine qW rfl ?_;simp only[qC.enc];simp only[go_sem];refine Ju (VO x.D (by omega)) ?_;simp only[go_sem,qeJ];refine Ju (qn2 x.P (by omega)) ?_;simp only[go_sem,qeJ];refine lsA ?_;simp only[go_sem];exact Xe (pre:=[]) (post:=[]) (t:=x.enc) (qC.plx x) (by simp[ja,qC.layE,jW]) (by simp[qC.layE,jW])
theorem n798(n:qE)(hz:n.sz<=1048576):Fresh Gm 798 [n.enc] n.enc:=by
 unfold qE.sz at hz;refine fI kS (by simp[AV.trees,go_sem]) (qE.plx n) ?_;simp only[kS,qN,go_sem];refine qW rfl ?_;simp only[go_sem];refine qeZ (n:=0) (by omega) (by omega) ?_;simp only[go_sem];refine Sem.loop (λi:Nat=>i<=n.G.length) (λi=>(⟨[(14,iI (i:Nat)),(13,iI (n.G.length:Nat)),(12,.lst 5 (n.G.map qC.enc) false)],[(3,.agg [sQ 5 0 i]),(2,.agg [.nils])],.row 5 (qT ((n.G.take i).map qC.enc) 1).1 true::(qT ((n.G.take i).map qC.enc) 1).2⟩:VSt)) (λi=>n.G.length-i) 0 (by kernel_rfl) (nZl _) csA ?_;rintro i hi;simp only[go_sem];apply qS<;>intro hc<;>simp only[hc,go_sem]
 ·have hlt:i<n.G.length:=by have:=odT hc;omega
  have hsz:qC.sz n.G[i]<=qx qC.sz n.G:=jg (f:=qC.sz) (gMm hlt);simp only[gMp,gEg hlt,oMs,go_sem];refine lsA ?_;simp only[go_sem];refine Ju (qn0 n.G[i] (by omega)) ?_;simp only[go_sem];refine qi4 (by rw[qnB (qC.plx _)];rfl) ?_;simp only[go_sem];have hA:(qT ((n.G.take i).map qC.enc) 1).1.length=i:=by rw[Jk];simp;omega
  refine Za (len:=i) (el:=(qT ((n.G.take i).map qC.enc) 1).1) qm4 rfl hA (by omega) ?_;simp only[go_sem];simp only[wuA (n:=i)];refine qa (i+1) (by omega) (by omega) ?_;have e:(n.G.take (i+1)).map qC.enc=(n.G.take i).map qC.enc++[qC.enc n.G[i]]:=by
   rw[lTs hlt,lMa];rfl
  refine Can.push (w:=5) (ps:=[]) (A:=(n.G.take i).map qC.enc) (t:=n.G[i].enc) (b:=0) rfl (jb qC.plx _) (qC.plx _) rfl rfl ?_ ?_
   ⟨⟨_,rfl,.tree rfl⟩,⟨_,rfl,.tree rfl⟩,⟨_,rfl,.tree (by simp[AV.tree,qb qC.isSh.tree])⟩,trivial⟩ ⟨⟨_,rfl,.agg rfl (VR2s.cons (.slice (qpS.trans ?_)) VR2s.nil).2⟩,⟨_,rfl,.tree rfl⟩,trivial⟩
  ·simp only[qT,wk,lCa,lNa,lSz,lAa,nZa,Nat.add_comm 1]
  ·rw[e];simp only[qT,lNa,nZa]
  ·simp only[lAp,lCo,lNi,wk,jW];congr 2;omega
 ·obtain rfl:i=n.G.length:=by have:=odF hc;omega
  simp only[lTl];exact Xe (t:=n.enc) (pre:=[]) (post:=[]) (qE.plx n) (by simp[ja,qE.layE]) (by simp[qE.layE,lay])
theorem Xz(xs:List Int)(hz:xs.length<=4194304):Fresh Gm 402 [lQ xs] (lQ xs):=by
 refine fI K0 (by simp[AV.trees,AV.tree,qb shI.tree]) (jb (λ_=>rfl) xs) ?_;simp only[K0,qN,go_sem];refine Qu Els.lst (by simp;omega) ?_;simp only[go_sem];exact Xe (t:=lQ xs) (pre:=[]) (post:=[]) (jb (λ_=>rfl) xs) (by simp[ja,lay]) (by simp[lay,lI])
theorem qp{α:Type}{xs:List α}{i:Nat}{x:α}(h:xs[i]?=some x):i<xs.length:=(gSi.1 h).1
def pv(x:qC)(p:Nat):AV:=if x.P.length=0 then .lst 2 [] false else sQ 2 p x.P.length
section
variable {x:qC} {p:Nat}
end
section
variable {w:Nat} {post:List AV} {base:Nat->Prop} {nid aid:Nat} {ps:List Nat} {h h':List qB} {N:Ags}
end
section
variable {w:Nat} {post:List AV} {base:Nat->Prop} {nid:Nat} {h:List qB} {N:Ags} {K:AV->List qB->Prop} {a s c k:Nat}
theorem qmR{len id a:Nat}(h:a<len):idx 5 (some (sQ 5 id len)) (some (iI (a:Int)))=some (.ptr id a 0):=by rw[qY h,nZa]
end
section
variable {w:Nat} {post:List AV} {base:Nat->Prop} {nid:Nat} {h:List qB} {N:Ags} {K:AV->List qB->Prop} {a s c k:Nat}
end
section
variable {w:Nat} {post:List AV} {base:Nat->Prop} {nid aid:Nat} {ps:List Nat} {h:List qB} {N:Ags} {K:AV->List qB->Prop} {a s c k:Nat}
end
def hiI(xs:Ags):Int:=xs.foldl (λm x=>if x.L<m then m else x.L) 0
theorem qmP{xs:Ags}{i:Nat}(h:i<xs.length):hiI (xs.take (i+1))=if xs[i].L<hiI (xs.take i)then hiI (xs.take i)else xs[i].L:=by
 unfold hiI;rw[lTs h,List.foldl_append];rfl
def qdX(c p:Int):Int×Int:=
 if c=1\/c=2 then(if inI p 0 0 then(-2,0)else(0,2))else if c=3 then(if inI p 0 3 then(p,0)else(0,2))else if c=4 then(if inI p 0 3 then(p-2,0)else(0,2))
 else if c=5 then(if inI p 0 0 then(-1,0)else(0,2))else if c=6 then(if inI p 0 3 then(p-1,0)else(0,2))else if c=7 then(if inI p 2 600 then(p-2,0)else(0,2))else(0,2)
def qr(bk:List qE)(v:Int):qE:=(bk[v.toNat]?).getD ⟨[]⟩
def qdY(bk:List qE)(x y:qC)(c:Int):Int:=if c=3\/c=4 then(y.P.length:Int)-1 else if c=6 then fieldsOf x else if c=7 then((qr bk x.V).G.length:Int)else 0
def Jj(bk:List qE)(x y:qC):Int×Int:=
 if za x y=8 then(0,11)else if za x y=7/\(bk.length:Int)<=x.V then(0,3)else if za x y=7/\8<IntKind.i64.wrap (hiI (qr bk x.V).G+x.L)then(0,9)
 else((qdX (za x y) (qdY bk x y (za x y))).1,0)
theorem Yi{a b:Int}:Pure Gm 856 [iI a,iI b] (iI (if b<a then a else b)):=by
 refine pJ kW ?_;simp only[kW,qN,go_sem]
 repeat' (first | (refine qW rfl ?_;simp only[go_sem]) | (first | (apply zA<;>intro hc<;>simp only[hc,go_sem]) | (apply qS<;>intro hc<;>simp only[hc,go_sem])) | refine qK rfl ?_ | refine zW (by rfl) ?_)
 all_goals (simp_all<;>omega)
theorem qjG{n:qE}(hz:n.sz<=1048576):Pure Gm 1177 [.ept n.enc 0] (iI (hiI n.G)):=by
 refine pJ UT ?_;simp only[UT,qN,go_sem];unfold qE.sz at hz;refine Sem.loop (λi:Nat=>i<=n.G.length/\True) (λi=>(⟨[(0,.ept n.enc 0),(3,iI (hiI (n.G.take i))),(4,iI (i:Nat))],[],[]⟩:VSt)) (λi=>n.G.length-i) 0 (by kernel_rfl) ⟨nZl _,by trivial⟩ (Can.sub (by simp[go_sem,hiI]) (by simp[go_sem])) ?_;rintro i ⟨hi,hI⟩;simp only[go_sem];apply qS<;>intro hc<;>simp only[hc,go_sem]
 ·have hlt:i<n.G.length:=by have:=odT hc;omega
  simp only[gMp,gEg hlt,oMs,go_sem];refine qI Yi ?_;simp only[go_sem];rw[<-qmP hlt];simp only[wuA (n:=i)];refine qa (i+1) ⟨by omega, ?_⟩ (by omega) csA;trivial
 ·obtain rfl:i=n.G.length:=by have:=odF hc;omega
  exact qK rfl (by rw[lTl])
def QO(lev base:Int)(x:qC):qC:={x with L:=if jQ x.K then x.L+lev else x.L,P:=x.P.map λp=>⟨p.N+base,p.S⟩}
section
variable {N:Ags} {a b c d:Nat} {x y:qC} {lab lev:Int} {X:Nat->Nat->Prop}
end
section
variable {N:Ags} {a b c d f s n:Nat} {x y:qC} {lab lev:Int} {X:Nat->Nat->Prop}
structure Pr(N:Ags)(a b:Nat)(x y:qC)(X:Nat->Nat->Prop):Prop where
 w:W N X
 x:N[a]?=some x
 y:N[b]?=some y
 ne:a≠b
 l:∀p q,X p q->(p=a\/p=b)->q=0
theorem Has.in(h:Has N a s)(hx:N[a]?=some x):s<x.P.length:=by
 obtain⟨z,hz,hs⟩:=ju.1 h;rw[hx]at hz;cases hz;exact hs
structure Act(R:Nat->Bool)(N:Ags)(a b:Nat)(x y:qC):Prop where
 w:W N λu _=>R u=true
 x:N[a]?=some x
 y:N[b]?=some y
 ne:a≠b
 pa:atP N a 0=some (pt b 0)
 pb:atP N b 0=some (pt a 0)
 ra:R a=false
 rb:R b=false
 rl:∀u,R u=true->u<N.length
variable {R:Nat->Bool}
end
section
variable {N:Ags} {a b c d f s n:Nat} {x y:qC} {lab lev v:Int} {X:Nat->Nat->Prop} {R:Nat->Bool}
end
theorem qa8:∀{l:List qC}{i:Nat},jf l i=true->∀(k:Nat)(hk:k<l.length),(l[k].K=1↔i+k=0)
 |[],_,_,k,hk=>by simp at hk
 | y::l,i,h,k,hk=>by
  simp only[jf,bAt]at h;cases k with
  | zero=>have:=h.1.2;simp at this|-;simp[this]
  | succ k=>
   have:=qa8 h.2 k (by simpa using hk);simp only[List.getElem_cons_succ,this];omega
theorem qiP{x:qC}(h:qg x=true):x.K≠0:=by
 intro e;simp only[qg,bAt]at h;have h1:=h.1.1.1;rw[e]at h1;simp[jy]at h1
theorem Qi{n:qE}(h:zF n=true):jf n.G 0=true:=by
 simp only[zF,wL,bAt]at h;exact h.1.2
theorem J4{x:qC}(h:qg x=true):zw x.K x.L=true:=by
 simp only[qg,bAt]at h;exact h.1.2
theorem qgY{a b c d:Int}(h:zN a b c d=6):(a=6/\c=11)\/(a=9/\c=10):=by
 simp only[zN]at h;repeat' (split at h<;>try omega)
theorem qfX{a b c d:Int}:wH a b c d=wH c d a b:=by
 simp only[wH];cases zw a b<;>cases zw c d<;>cases decide (a=1)<;>cases decide (c=1)<;>rfl
theorem qgX{a b c d:Int}:zN a b c d≠8:=by
 simp only[zN];repeat' (split<;>try omega)
theorem qcM{x y:qC}(_hx:qg x=true)(_hy:qg y=true)(h:zu x.K x.L y.K y.L=2):
  za y x=if x.K=10/\y.K=9/\(x.D.length:Int)<=y.V then 8 else jL x.K x.L y.K y.L:=by
 have hp:wH x.K x.L y.K y.L=true:=by
  simp only[zu]at h;split at h
  ·assumption
  ·omega
 simp only[zu,hp,if_true]at h;have h1:zN x.K x.L y.K y.L=0:=by
  rcases Decidable.em (zN x.K x.L y.K y.L=0)with q | q
  ·exact q
  ·rw[iP q]at h;omega
 have h2:zN y.K y.L x.K x.L≠0:=by
  intro q;simp only[h1,q]at h;simp at h
 have e:jL y.K y.L x.K x.L=jL x.K x.L y.K y.L:=by
  simp only[jL,qfX (a:=y.K),hp,h1,if_true,iP h2];simp[]
 simp only[za,e];have n1:¬(y.K=10/\x.K=9):=by
  rintro⟨a,b⟩;have:zN x.K x.L y.K y.L=6:=by simp[zN,a,b]
  omega
 by_cases q:y.K=9/\x.K=10/\(x.D.length:Int)<=y.V
 ·rw[iP q,iP ⟨q.2.1,q.1,q.2.2⟩]
 ·rw[iN q,iN (by rintro⟨a,b,c⟩;exact n1 ⟨a,b⟩),iN (by rintro⟨a,b,c⟩;exact q ⟨b,a,c⟩)]
theorem qcL{x y:qC}(hx:qg x=true)(hy:qg y=true)(h:zu x.K x.L y.K y.L≠2):
  za x y=if x.K=9/\y.K=10/\(y.D.length:Int)<=x.V then 8 else jL x.K x.L y.K y.L:=by
 simp only[za];have n1:¬(x.K=10/\y.K=9):=by
  rintro⟨a,b⟩;apply h;have hp:wH x.K x.L y.K y.L=true:=by
   have q1:=J4 hx;have q2:=J4 hy;rw[a]at q1;rw[b]at q2;simp only[wH,a,b,q1,q2];decide
  have r1:zN x.K x.L y.K y.L=0:=by simp[zN,a]
  have r2:zN y.K y.L x.K x.L=6:=by simp[zN,a,b]
  simp[zu,hp,r1,r2]
 by_cases q:x.K=9/\y.K=10/\(y.D.length:Int)<=x.V
 ·rw[iP q,iP q]
 ·rw[iN q,iN q,iN (by rintro⟨a,b,c⟩;exact n1 ⟨a,b⟩)]
theorem qcK{x y:qC}(h:jL x.K x.L y.K y.L=6):zu x.K x.L y.K y.L=1/\zN x.K x.L y.K y.L=6\/zu x.K x.L y.K y.L=2/\zN y.K y.L x.K x.L=6:=by
 simp only[jL,zu]at h|-
 repeat' (split at h)
 all_goals simp_all
theorem qfD{x y:qC}(hx:qg x=true)(hy:qg y=true)(a:x.K=9)(b:y.K=10):jL x.K x.L y.K y.L=6/\zu x.K x.L y.K y.L=1:=by
 have hp:wH x.K x.L y.K y.L=true:=by
  have q1:=J4 hx;have q2:=J4 hy;rw[a]at q1;rw[b]at q2;simp only[wH,a,b,q1,q2];decide
 have r1:zN x.K x.L y.K y.L=6:=by simp[zN,a,b]
 simp[jL,zu,hp,r1]
theorem qq3{x y:qC}(hx:qg x=true)(hy:qg y=true)(a:x.K=10)(b:y.K=9):jL x.K x.L y.K y.L=6/\zu x.K x.L y.K y.L=2:=by
 have hp:wH x.K x.L y.K y.L=true:=by
  have q1:=J4 hx;have q2:=J4 hy;rw[a]at q1;rw[b]at q2;simp only[wH,a,b,q1,q2];decide
 have r1:zN x.K x.L y.K y.L=0:=by simp[zN,a]
 have r2:zN y.K y.L x.K x.L=6:=by simp[zN,a,b]
 simp[jL,zu,hp,r1,r2]
def ordC(x y:qC):Int:=if jT x y then za y x else za x y
theorem qoP{x y:qC}(hx:qg x=true)(hy:qg y=true):
  ordC x y=if jL x.K x.L y.K y.L=6/\(if jT x y then x.K=10/\(x.D.length:Int)<=y.V else y.K=10/\(y.D.length:Int)<=x.V)then 8 else jL x.K x.L y.K y.L:=by
 by_cases h:zu x.K x.L y.K y.L=2
 ·have hs:jT x y=true:=by simp[jT,h]
  simp only[ordC,hs,if_true,qcM hx hy h];by_cases q:x.K=10/\y.K=9/\(x.D.length:Int)<=y.V
  ·rw[iP q,iP ⟨(qq3 hx hy q.1 q.2.1).1,q.1,q.2.2⟩]
  ·rw[iN q];by_cases q2:jL x.K x.L y.K y.L=6/\x.K=10/\(x.D.length:Int)<=y.V
   ·exfalso;rcases qcK q2.1 with⟨a,_⟩ | ⟨_,a⟩
    ·omega
    ·rcases qgY a with⟨_,a⟩ | ⟨a,_⟩
     ·omega
     ·exact q ⟨q2.2.1,a,q2.2.2⟩
   ·rw[iN q2]
 ·have hs:jT x y=false:=by simp[jT,h]
  simp only[ordC,hs,bFt,if_false,qcL hx hy h];by_cases q:x.K=9/\y.K=10/\(y.D.length:Int)<=x.V
  ·rw[iP q,iP ⟨(qfD hx hy q.1 q.2.1).1,q.2.1,q.2.2⟩]
  ·rw[iN q];by_cases q2:jL x.K x.L y.K y.L=6/\y.K=10/\(y.D.length:Int)<=x.V
   ·exfalso;rcases qcK q2.1 with⟨_,a⟩ | ⟨a,_⟩
    ·rcases qgY a with⟨_,a⟩ | ⟨a,_⟩
     ·omega
     ·exact q ⟨a,q2.2.1,q2.2.2⟩
    ·omega
   ·rw[iN q2]
theorem qkH{k:Int}:Pure Gm 1502 [iI k] (.bool (WZ k)):=by
 refine pJ Kl ?_;simp only[Kl,qN,go_sem]
 repeat' (first | (refine qW rfl ?_;simp only[go_sem]) | (first | (apply zA<;>intro hc<;>simp only[hc,go_sem]) | (apply qS<;>intro hc<;>simp only[hc,go_sem])) | refine qK rfl ?_)
 all_goals (simp_all[WZ])
theorem qkG{l k m:Int}:Pure Gm 1501 [iI l,iI k,iI m] (.bool (Xa l k m)):=by
 refine pJ Kk ?_;simp only[Kk,qN,go_sem]
 repeat' (first | (refine qW rfl ?_;simp only[go_sem]) | (first | (apply zA<;>intro hc<;>simp only[hc,go_sem]) | (apply qS<;>intro hc<;>simp only[hc,go_sem])) | (refine qI (qb3) ?_;simp only[go_sem]) | (refine qI (qAM) ?_;simp only[go_sem]) | (refine qI (qAK) ?_;simp only[go_sem]) | refine qK rfl ?_)
 all_goals (simp_all[Xa])
theorem qkA{ka la kb lb:Int}:Pure Gm 1398 [iI ka,iI la,iI kb,iI lb] (iI (zN ka la kb lb)):=by
 refine pJ KR ?_;simp only[KR,qN,go_sem]
 repeat' (first | (refine qW rfl ?_;simp only[go_sem]) | (first | (apply zA<;>intro hc<;>simp only[hc,go_sem]) | (apply qS<;>intro hc<;>simp only[hc,go_sem])) | (refine qI (qkG) ?_;simp only[go_sem]) | (refine qI (qkH) ?_;simp only[go_sem]) | refine qK rfl ?_)
 all_goals (simp_all[zN])
theorem qjC{ka la kb lb:Int}:Pure Gm 1115 [iI ka,iI la,iI kb,iI lb] (.tup [iI (jL ka la kb lb),iI (zu ka la kb lb)]):=by
 refine pJ UN ?_;simp only[UN,qN,go_sem]
 repeat' (first | (first | (apply zA<;>intro hc<;>simp only[hc,go_sem]) | (apply qS<;>intro hc<;>simp only[hc,go_sem])) | (refine qI qAM ?_;simp only[go_sem]) | (refine qI qkA ?_;simp only[go_sem]) | refine zW rfl ?_)
 all_goals (try simp only[bNt,Bool.not_eq_false',dTe,decide_eq_false_iff_not,Bool.not_false]at*)
 all_goals (simp[jL,zu,wH, *])
theorem qB2{n:qE}(h:zF n=true)(k:Nat)(hk:k<n.G.length):(n.G[k].K=1↔k=0):=by
 have:=qa8 (Qi h) k hk;rw[this];omega
theorem qe9{n:qE}(h:zF n=true)(k:Nat)(hk:k<n.G.length):n.G[k].K≠0:=
 qiP (J9 (Qi h) _ (gMm hk))
theorem ZI{n:qE}(h:zF n=true):0<n.G.length:=by
 simp only[zF,wL,bAt]at h;have:=Jz.1 h.1.1;omega
theorem c376{n:qE}(hz:n.sz<=1048576)(ok:zF n=true):Pure Gm 376 [.ept n.enc 0] (.lst 2 ((VP n).map qL.enc) false):=by
 refine pI Kz (by simp[AV.trees,AV.tree,go_sem]) (by simp[AV.tree,qb qL.isSh.tree]) ?_;simp only[Kz,qN,go_sem];unfold qE.sz at hz;have hnp:=ZI ok;refine Sem.loop (λi:Nat=>i<=n.G.length) (λi=>(⟨[(10,.lst 5 (n.G.map qC.enc) false),(11,iI (n.G.length:Int)),(12,iI (i:Nat)),(3,.slice 2 0 0 (zB n.G (i-1)).length false)],[],[.row 2 ((zB n.G (i-1)).map qL.enc) true]⟩:VSt)) (λi=>n.G.length-i) 0 (by kernel_rfl) (nZl _) (Can.renum [none] rfl ⟨.ph,trivial⟩ ⟨⟨_,rfl,.tree (by simp[AV.tree,qb qC.isSh.tree])⟩,⟨_,rfl,.tree rfl⟩,⟨_,rfl,.tree rfl⟩,⟨_,rfl,.ph rfl⟩,trivial⟩ trivial) ?_;rintro i hi;simp only[go_sem];refine qS ?_ ?_<;>intro hc<;>simp only[hc,go_sem]
 ·have hlt:i<n.G.length:=by have:=odT hc;omega
  simp only[gMp,gEg hlt,oMs,go_sem];have hp0:=qn5 ok _ (gMm hlt);have hk1:=qB2 ok i hlt;have hk0:=qe9 ok i hlt;refine lsA ?_;simp only[go_sem];simp only[gMp,gEg hp0,oMs,go_sem];refine lsA ?_;simp only[go_sem];have same (hn:¬(n.G[i].P[0].S=0/\(i:Int)<n.G[i].P[0].N/\n.G[i].K≠1)):zB n.G (i+1-1)=zB n.G (i-1):=by
   cases i with
   | zero=>rfl
   | succ i=>
    have h1:n.G[i+1].K≠1:=by intro q;have:=hk1.1 q;omega
    have:¬(n.G[i+1].P[0].S=0/\((i+1:Nat):Int)<n.G[i+1].P[0].N):=by rintro⟨q1,q2⟩;exact hn ⟨q1,q2,h1⟩
    simp only[Nat.add_sub_cancel,zB,Jf,gEg hlt,gEg hp0,iN hk0,iN this,lAn]
  have more (hn:n.G[i].P[0].S=0/\(i:Int)<n.G[i].P[0].N/\n.G[i].K≠1):zB n.G (i+1-1)=zB n.G (i-1)++[⟨(i:Int),n.G[i].P[0].N⟩]:=by
   cases i with
   | zero=>exact absurd (hk1.2 rfl) hn.2.2
   | succ i=>
    simp only[Nat.add_sub_cancel,zB,Jf,gEg hlt,gEg hp0,iN hk0];rw[iP ⟨hn.1,hn.2.1⟩]
  clear hk1 hk0
  repeat' (first | (first | (refine zA ?_ ?_<;>intro hc<;>simp only[hc,go_sem]) | (refine qS ?_ ?_<;>intro hc<;>simp only[hc,go_sem])))
  case refine_1.refine_1.refine_1=>
   have e:=more ⟨by simp_all,by simp_all,by simp_all⟩;refine Za (el:=(zB n.G (i-1)).map qL.enc) rfl rfl (by simp) (by have:=Wr n.G (i-1);omega) ?_;simp only[go_sem];simp only[wuA (n:=i)];refine qa (i+1) (by omega) (by omega) ?_;simp only[e,lAp,lCo,lNi,nZa];refine Can.renum [some 2] rfl ⟨.row rfl ?_,trivial⟩ ⟨⟨_,rfl,.tree (by simp[AV.tree,qb qC.isSh.tree])⟩,⟨_,rfl,.tree rfl⟩,⟨_,rfl,.tree rfl⟩,⟨_,rfl,.slice rfl⟩,trivial⟩ trivial;rw[lMa];have t:=qb qL.isSh.tree (zB n.G (i-1)++[⟨(i:Int),n.G[i].P[0].N⟩]);rw[lMa]at t;exact VR2s.trees t
  all_goals
   simp only[wuA (n:=i)];refine qa (i+1) (by omega) (by omega) ?_;rw[same (by simp_all<;>omega)];exact csA
 ·obtain rfl:i=n.G.length:=by have:=odF hc;omega
  refine QC (Cv.row rfl (by simp[VP]) (qb qL.isSh.tree _) (by omega))
theorem Zo{n:qE}(h:zF n=true):W n.G λ_ _=>False:=by
 intro a s q hq _;obtain⟨x,hx,hs⟩:=Qv.1 hq;have hl:=(gSi.1 hx).1;have hl2:=(gSi.1 hs).1;have e1:n.G[a]=x:=(gSi.1 hx).2;have e2:x.P[s]=q:=(gSi.1 hs).2;unfold zF at h;simp only[bAt]at h;have h1:=VQ h.2 a hl;rw[e1]at h1;have h2:=V6 h1 s hl2;rw[e2]at h2;simp only[nZa]at h2;unfold wZ at h2;simp only[bAt,bNt,decide_eq_false_iff_not,dTe]at h2;obtain⟨⟨h3,h4⟩,h5⟩:=h2;obtain⟨b,t,rfl,hb,ht⟩:=qf8 h4;exact⟨b,t,rfl,by rw[<-qo0];exact h5,λq=>q,λe=>h3 (by rw[e.1,e.2])⟩
theorem Zp{n:qE}(h:zF n=true){k:Nat}{x:qC}(hx:n.G[k]?=some x):qg x=true:=J9 (Qi h) x (lMo hx)
theorem qiO{x y:qC}(h:Q0 y=Q0 x):qg y=qg x:=by
 simp only[Q0,Prod.mk.injEq]at h;obtain⟨h1,h2,h3,h4,h5⟩:=h;unfold qg fieldsOf jB;rw[h1,h2,h3,h4,h5]
def w32(x:Int):Int:=IntKind.i64.wrap (IntKind.i32.wrap (IntKind.u32.wrap (IntKind.u64.wrap x)))
def opI(k a b:Int):Int:=
 if k=1 then w32 (IntKind.i64.wrap (w32 a+w32 b))else if k=2 then w32 (IntKind.i64.wrap (w32 a-w32 b))else if k=3 then w32 (IntKind.i64.wrap (w32 a*w32 b))
 else if k=4 then(if w32 b=0 then 0 else w32 (IntKind.i64.wrap ((w32 a).tdiv (w32 b))))else if k=5 then(if w32 a<w32 b then 1 else 0)else if k=6 then(if w32 a=w32 b then 1 else 0)else 0
theorem qh6(x:Int):w32 x=IntKind.i64.wrap (IntKind.i32.wrap x):=by
 unfold w32;congr 1;simp only[IntKind.wrap,IntKind.bits,IntKind.signed];simp
theorem WJ{x:Int}:Pure Gm 1125 [iI x] (iI (w32 x)):=by
 refine pJ UP ?_;simp only[UP,qN,go_sem];exact qK rfl rfl
theorem qbU{b:Bool}:Pure Gm 1126 [.bool b] (iI (if b then 1 else 0)):=by
 refine pJ UQ ?_;simp only[UQ,qN,go_sem];apply qS<;>intro hc<;>simp only[hc,go_sem]
 ·exact qK rfl rfl
 ·exact qK rfl rfl
theorem c762{k a b:Int}:Pure Gm 762 [iI k,iI a,iI b] (iI (opI k a b)):=by
 refine pJ kQ ?_;simp only[kQ,qN,go_sem];refine qI WJ ?_;simp only[go_sem];refine qI WJ ?_;simp only[go_sem];unfold opI;apply qS<;>intro hc<;>simp only[hc,go_sem]
 ·rw[iP (odT hc)];refine qI WJ ?_;simp only[go_sem];exact qK rfl rfl
 rw[iN (odF hc)];apply qS<;>intro hc<;>simp only[hc,go_sem]
 ·rw[iP (odT hc)];refine qI WJ ?_;simp only[go_sem];exact qK rfl rfl
 rw[iN (odF hc)];apply qS<;>intro hc<;>simp only[hc,go_sem]
 ·rw[iP (odT hc)];refine qI WJ ?_;simp only[go_sem];exact qK rfl rfl
 rw[iN (odF hc)];apply qS<;>intro hc<;>simp only[hc,go_sem]
 ·rw[iP (odT hc)];apply qS<;>intro hc<;>simp only[hc,go_sem]
  ·rw[iP (odT hc)];exact qK rfl rfl
  rw[iN (odF hc)];have hq:=odF hc;simp only[iN hq,go_sem];refine qI WJ ?_;simp only[go_sem];exact qK rfl rfl
 rw[iN (odF hc)];apply qS<;>intro hc<;>simp only[hc,go_sem]
 ·rw[iP (odT hc)];refine qI qbU ?_;simp only[go_sem];exact qK rfl (by simp)
 rw[iN (odF hc)];apply qS<;>intro hc<;>simp only[hc,go_sem]
 ·rw[iP (odT hc)];refine qI qbU ?_;simp only[go_sem];exact qK rfl (by simp)
 rw[iN (odF hc)];exact qK rfl rfl
theorem Qz{b:Bool}:Pure Gm 566 [.bool b] (iI (if b then 1 else 0)):=by
 refine pJ kE ?_;simp only[kE,qN,go_sem];apply qS<;>intro hc<;>simp only[hc,go_sem]
 ·exact qK rfl rfl
 ·exact qK rfl rfl
theorem WK{x:Int}:Pure Gm 1400 [iI x] (iI (w32 x)):=by
 refine pJ KS ?_;simp only[KS,qN,go_sem];exact qK rfl (by rw[qh6])
theorem qjD{k a b:Int}:Pure Gm 1118 [iI k,iI a,iI b] (iI (opI k a b)):=by
 refine pJ UO ?_;simp only[UO,qN,go_sem];refine qI WK ?_;simp only[go_sem];refine qI WK ?_;simp only[go_sem];unfold opI;apply qS<;>intro hc<;>simp only[hc,go_sem]
 ·rw[iP (odT hc)];refine qI WK ?_;simp only[go_sem];exact qK rfl rfl
 rw[iN (odF hc)];apply qS<;>intro hc<;>simp only[hc,go_sem]
 ·rw[iP (odT hc)];refine qI WK ?_;simp only[go_sem];exact qK rfl rfl
 rw[iN (odF hc)];apply qS<;>intro hc<;>simp only[hc,go_sem]
 ·rw[iP (odT hc)];refine qI WK ?_;simp only[go_sem];exact qK rfl rfl
 rw[iN (odF hc)];apply qS<;>intro hc<;>simp only[hc,go_sem]
 ·rw[iP (odT hc)];apply qS<;>intro hc<;>simp only[hc,go_sem]
  ·rw[iP (odT hc)];exact qK rfl rfl
  rw[iN (odF hc)];have hq:=odF hc;simp only[iN hq,go_sem];refine qI WK ?_;simp only[go_sem];exact qK rfl rfl
 rw[iN (odF hc)];apply qS<;>intro hc<;>simp only[hc,go_sem]
 ·rw[iP (odT hc)];refine qI Qz ?_;simp only[go_sem];exact qK rfl (by simp)
 rw[iN (odF hc)];apply qS<;>intro hc<;>simp only[hc,go_sem]
 ·rw[iP (odT hc)];refine qI Qz ?_;simp only[go_sem];exact qK rfl (by simp)
 rw[iN (odF hc)];exact qK rfl rfl
theorem qoN{k a b:Int}: -2147483648<=opI k a b/\opI k a b<=2147483647:=by
 have hw:∀n:Int,-2147483648<=w32 n/\w32 n<=2147483647:=λn=>by
  have h3: -2147483648<=IntKind.i32.wrap n/\IntKind.i32.wrap n<=2147483647:=by
   simp only[IntKind.wrap,IntKind.bits,IntKind.signed,Bool.true_and,dTe,Nat.reduceSub,Int.reducePow,ge_iff_le];split<;>constructor<;>omega
  rw[qh6,wsA];exact h3
 unfold opI
 repeat' split
 all_goals first
  | exact hw _
  | omega
theorem Zy{ka la kb lb:Int}:(zN ka la kb lb=1->ka=2/\kb=3)/\(zN ka la kb lb=2->ka=4/\kb=4)/\(zN ka la kb lb=3->ka=4)/\(zN ka la kb lb=4->ka=5)/\(zN ka la kb lb=5->ka=6/\(kb=7\/kb=8))/\
  (zN ka la kb lb=6->(ka=6/\kb=11)\/(ka=9/\kb=10))/\(zN ka la kb lb=7->ka=12/\WZ kb=true)/\0<=zN ka la kb lb/\zN ka la kb lb<=7:=by
 unfold zN
 repeat' split
 all_goals (simp_all<;>omega)
theorem QK{x:qC}(h:qg x=true):(x.P.length:Int)=jy x.K (fieldsOf x)/\0<x.P.length:=by
 unfold qg at h;simp only[bAt,dTe]at h;omega
theorem qB5{x:qC}(h:qg x=true)(hk:x.K=5\/x.K=6\/x.K=12):x.P.length=1:=by
 have:=(QK h).1;unfold fieldsOf jy at this;rcases hk with e | e | e<;>rw[e]at this<;>simp at this<;>omega
theorem qfI{x:qC}(h:qg x=true)(hk:x.K=8\/x.K=10\/x.K=11):x.P.length=2:=by
 have:=(QK h).1;unfold fieldsOf jy at this;rcases hk with e | e | e<;>rw[e]at this<;>simp at this<;>omega
theorem Vb{x:qC}(h:qg x=true)(hk:x.K=2\/x.K=3\/x.K=4\/x.K=7):x.P.length=3:=by
 have:=(QK h).1;unfold fieldsOf jy at this;rcases hk with e | e | e | e<;>rw[e]at this<;>simp at this<;>omega
theorem Jd{x:qC}(h:qg x=true):x.P.length<=4:=by
 have h1:=(QK h).1;have:jy x.K (fieldsOf x)<=4:=by
  unfold jy;split
  ·split
   ·rename_i q;rw[Jz]at q;omega
   ·omega
  ·split
   ·omega
   ·repeat' split
    all_goals omega
 omega
theorem qkW{x y:qC}(hx:qg x=true)(hy:qg y=true)(k1:x.K≠1)(k2:y.K≠1)(hf:zu x.K x.L y.K y.L≠2)(h8:za x y≠8):
  zN x.K x.L y.K y.L=za x y/\za x y≠0/\¬(x.K=9/\y.K=10/\(y.D.length:Int)<=x.V):=by
 have e:=qcL hx hy hf;have n1:¬(x.K=9/\y.K=10/\(y.D.length:Int)<=x.V):=λq=>h8 (by rw[e,iP q]);rw[iN n1]at e;have hp:wH x.K x.L y.K y.L=true:=by unfold wH;simp[J4 hx,J4 hy,k1,k2]
 unfold jL at e;rw[iP hp]at e;unfold zu at hf;rw[iP hp]at hf;by_cases q:zN x.K x.L y.K y.L≠0
 ·rw[iP q]at e;exact⟨e.symm,by rw[e];exact q,n1⟩
 ·rw[iN q]at hf e;by_cases q2:zN y.K y.L x.K x.L≠0
  ·rw[iP q2]at hf;exact absurd rfl hf
  ·rw[iN q2]at e;exact absurd e h8
theorem qoF{k l v:Int}(hk:k=5\/k=6\/k=12)(hl:zw k l=true)(hc:jB (X0 k l v [] 1)=true):qg (X0 k l v [] 1)=true:=by
 unfold qg;rw[hc];simp only[X0,hl,Bool.and_true,fieldsOf,jy,lLr];rcases hk with e | e | e<;>subst e<;>simp
theorem Zq{x:qC}(h:qg x=true):jB x=true:=by unfold qg at h;simp only[bAt]at h;exact h.2
theorem qa9{p:Int->Bool}{xs:List Int}(h:xs.all p=true){i:Nat}(hi:i<xs.length):p (xs.getD i 0)=true:=by
 rw[lGd,gEg hi];exact lAt.1 h _ (gMm hi)
theorem qoI{l v:Int}(hl:inI l 0 8=true)(hv:j5 v=true):qg (X0 12 l v [] 1)=true:=
 qoF (.inr (.inr rfl)) (by unfold zw;rw[iP (by decide)];exact hl) (by unfold jB X0;simp[hv])
theorem Va{x:qC}(h:qg x=true)(hk:jQ x.K=true):inI x.L 0 8=true:=by have:=J4 h;unfold zw at this;rwa[iP hk]at this
theorem qfJ{z:qC}{lev base:Int}(h:qg z=true)(h1:jQ z.K=true->inI (z.L+lev) 0 8=true):qg (QO lev base z)=true:=by
 unfold qg at*;have e1:fieldsOf (QO lev base z)=fieldsOf z:=by unfold fieldsOf QO;simp
 have e2:jB (QO lev base z)=jB z:=by unfold jB QO;rfl
 rw[e1,e2];simp only[QO,lMp];simp only[bAt]at h|-;refine⟨⟨h.1.1, ?_⟩,h.2⟩;unfold zw at*;by_cases q:jQ z.K=true
 ·rw[iP q,iP q];exact h1 q
 ·rw[iN q,iN q];have:=h.1.2;rwa[iN q]at this
theorem qoK{y:qC}(h:qg y=true)(hk:y.K=11):y.D.length=2/\y.D.all j5=true:=by
 have:=Zq h;unfold jB at this;rw[hk]at this;simp at this;exact⟨by omega,by simpa using this.2⟩
theorem qoE{y:qC}(h:qg y=true)(hk:y.K=10):y.D.all j5=true:=by
 have:=Zq h;unfold jB at this;rw[hk]at this;simp at this;simpa using this.2
theorem qoG{x:qC}(h:qg x=true)(hk:x.K=6):inI x.V (-2147483648) 2147483647=true:=by
 have:=Zq h;unfold jB at this;rw[hk]at this;simp at this;exact this.2
theorem qoD{x:qC}(h:qg x=true)(hk:x.K=9):inI x.V 0 3=true:=by
 have:=Zq h;unfold jB at this;rw[hk]at this;simp at this;exact this.2
theorem qoJ{x:qC}(h:qg x=true)(hk:x.K=12):j5 x.V=true:=by
 have:=Zq h;unfold jB at this;rw[hk]at this;simp at this;exact this.2
def w0:qF:=⟨0,0⟩
def opC(x y:qD):qD:=if y.K=7 then⟨8,y.L,y.V,[x.V],[y.W.getD 1 w0]⟩else⟨6,0,opI y.V (y.D.getD 0 0) x.V,[],[]⟩
def j9(m:qH)(x y:qD):qH×List qj:=(qR m (opC x y),[⟨y.W.getD 0 w0,awI m.F⟩])
def chD(x y:qD):Int:=if y.K=10 then y.D.getD x.V.toNat 0 else if x.V=0 then y.D.getD 1 0 else y.D.getD 0 0
def JM(x y:qD):qD:=⟨12,y.L,chD x y,[],[]⟩
def wM(y:qD):qD:=⟨3,y.L,0,[],[]⟩
def chA(m:qH)(x y:qD):Nat->qH×List Int
 | 0=>(qR m (JM x y),[])
 | i+1=>(qR (chA m x y i).1 (wM y),(chA m x y i).2++[(chA m x y i).1.F])
def nxW(y:qD)(apps:List Int)(i:Nat):qF:=match apps[i+1]? with
 | some a=>awI a
 | none=>y.W.getD 0 w0
def chB(x y:qD)(apps:List Int)(m:qH):Nat->qH
 | 0=>m
 | i+1=>qo (chB x y apps m i) (apps.getD i 0) [x.W.getD i w0,nxW y apps i]
def chM(m:qH)(x y:qD):qH×List qj:=
 if x.W=[]then(qR m (JM x y),[⟨y.W.getD 0 w0,awI m.F⟩])
 else(Jo (chB x y (chA m x y x.W.length).2 (chA m x y x.W.length).1 x.W.length) m.F ((chA m x y x.W.length).2.getD 0 0),[])
section
variable {P Q:List qF} {O:Nat->Bool} {k j:Nat} {c c' x y:qD} {m m':qH}
theorem Z7{ws:List qF}(h:ws.length=1):ws=[ws.getD 0 w0]:=by
 match ws,h with
 |[a],_=>rfl
theorem Qq{ws:List qF}(h:ws.length=2):ws=[ws.getD 0 w0,ws.getD 1 w0]:=by
 match ws,h with
 |[a,b],_=>rfl
theorem qoO(h:MM m (y.W++P) O)(hf:0<nF m.C)(hyF:zr y)(hy:y.K=7/\y.W.length=2\/y.K=8/\y.W.length=1)(hx:inI x.V (-2147483648) 2147483647=true):MM (j9 m x y).1 (lws (j9 m x y).2++P) O/\(j9 m x y).1.C.length=m.C.length:=by
 have hya:qt y.K=true:=by rcases hy with⟨q,_⟩ | ⟨q,_⟩<;>rw[q]<;>rfl
 have fy:=agf hya hyF;rcases hy with⟨hk,hl⟩ | ⟨hk,hl⟩
 ·have eo:opC x y=⟨8,y.L,y.V,[x.V],[y.W.getD 1 w0]⟩:=by unfold opC;rw[iP hk]
  have hF:zr (opC x y):=by
   rw[eo];refine .inl ⟨rfl, ?_⟩;simp[qX,qg,hk,hl,jy,fieldsOf,zw,jQ,jB]at fy|-;exact⟨fy.1,fy.2.2,hx⟩
  have h2:MM m ((opC x y).W++(y.W.getD 0 w0::P)) O:=by
   rw[eo];rw[Qq hl]at h;exact MI.perm h (List.Perm.swap _ _ _)
  obtain⟨k,k1,k2,k3⟩:=YI h2 hf (by rw[eo];rfl) hF;refine⟨?_,k2.len⟩;unfold j9;simp only[k2.fr,lws];exact MI.perm k3 (List.Perm.swap _ _ _)
 ·have eo:opC x y=⟨6,0,opI y.V (y.D.getD 0 0) x.V,[],[]⟩:=by unfold opC;rw[iN (by omega)]
  have hF:zr (opC x y):=by
   rw[eo];refine .inl ⟨rfl, ?_⟩;have:=qoN (k:=y.V) (a:=y.D.getD 0 0) (b:=x.V);simp[qX,qg,jy,fieldsOf,zw,jQ,jB,JX,inI]at this|-;exact this
  have h2:MM m ((opC x y).W++(y.W.getD 0 w0::P)) O:=by
   rw[eo];rw[Z7 hl]at h;exact h
  obtain⟨k,k1,k2,k3⟩:=YI h2 hf (by rw[eo];rfl) hF;refine⟨?_,k2.len⟩;unfold j9;simp only[k2.fr,lws];exact MI.perm k3 (List.Perm.swap _ _ _)
def inO(O:Nat->Bool)(ks:List Nat):Nat->Bool:=λi=>decide (i∈ks) || O i
theorem Y8:inO O []=O:=by funext i;simp[inO]
theorem qd8{ks:List Nat}:opO (inO O ks) k=inO O (ks++[k]):=by
 funext i;unfold opO inO;by_cases q:i=k<;>simp[q]
theorem qd7{ks:List Nat}(hn:k∉ks)(ho:O k=false):clO (inO O (k::ks)) k=inO O ks:=by
 funext i;unfold clO inO;by_cases q:i=k
 ·subst q;simp[hn,ho]
 ·simp[q]
structure ChI(m0:qH)(x y:qD)(P:List qF)(O:Nat->Bool)(r:Nat)(ks:List Nat)(s:qH×List Int)(i:Nat):Prop where
 mm:MM s.1 (aW r::ks.map aW++P) (inO O ks)
 ap:s.2=ks.map λk:Nat=>(k:Int)
 len:ks.length=i
 nd:ks.Nodup
 no:∀k∈ks,O k=false
 at':∀k∈ks,s.1.C[k]?=some (wM y)
 nf:nF m0.C=nF s.1.C+1+i
 cl:s.1.C.length=m0.C.length
theorem qAV(h:MM m P O)(hr:zr (JM x y)):∀i,1+i<=nF m.C->∃r ks,m.F=(r:Nat)/\ChI m x y P O r ks (chA m x y i) i:=by
 intro i
 induction i with
 | zero=>
  intro hf;obtain⟨r,r1,r2,r3⟩:=YI (c:=JM x y) (P:=P) h (by omega) rfl hr;have n1:=r2.nf (by simp[JM]);exact⟨r,[],r2.fr,by rw[Y8];exact r3,rfl,rfl,List.nodup_nil,λk hk=>(by cases hk),λk hk=>(by cases hk),by simp only[chA];omega,r2.len⟩
 | succ i ih=>
  intro hf;obtain⟨r,ks,e0,I⟩:=ih (by omega);have:=I.nf;obtain⟨k,k1,k2,k3⟩:=Qn (c:=wM y) I.mm (by omega) rfl;have n1:=k2.nf (by simp[wM]);have hk:k∉ks/\O k=false:=by
   unfold inO at k1;simpa using k1
  refine⟨r,ks++[k],e0, ?_, ?_,by simp[I.len], ?_, ?_, ?_, ?_, ?_⟩
  ·rw[<-qd8];refine MI.perm k3 ?_;rw[List.perm_iff_count];intro a;simp only[lMa,lMc,List.map_nil,List.count_append,List.count_cons,List.count_nil,lCa];omega
  ·simp only[chA];rw[I.ap,k2.fr];simp
  ·rw[List.nodup_append];refine⟨I.nd,by simp, ?_⟩;intro a ha b hb;simp only[lMg]at hb;subst hb;rintro rfl;exact hk.1 ha
  ·intro a ha;rcases jR.1 ha with ha | ha
   ·exact I.no a ha
   ·simp only[lMg]at ha;subst ha;exact hk.2
  ·intro a ha;simp only[chA];rcases jR.1 ha with ha | ha
   ·exact(k2.keep (I.at' a ha) (by simp[wM])).1
   ·simp only[lMg]at ha;subst ha;exact k2.new
  ·simp only[chA];omega
  ·simp only[chA];rw[k2.len,I.cl]
theorem appF(hl:zw 3 y.L=true){a b:qF}:zr {wM y with W:=[a,b]}:=by
 refine .inl ⟨rfl, ?_⟩;simp[qX,wM,qg,jy,fieldsOf,jB];exact hl
theorem qcB{r:Nat}{ks:List Nat}{m0:qH}{s:qH×List Int}{n:Nat}(hn:x.W.length=n)(h0:0<n)(hl:zw 3 y.L=true)(I:ChI m0 x y (x.W++y.W.getD 0 w0::P) O r ks s n):∀i,i<=n->∃a,ks[0]?=some a/\MM (chB x y s.2 s.1 i) (aW r::aW a::((ks.drop (i+1)).map aW++(x.W.drop i++((if i<n then [y.W.getD 0 w0]else [])++P)))) (inO O (ks.drop i))/\(∀k∈ks.drop i,(chB x y s.2 s.1 i).C[k]?=some (wM y))/\(chB x y s.2 s.1 i).C.length=m0.C.length:=by
 obtain⟨mm,ap,len,nd,no,at',nf,cl⟩:=I;obtain⟨a,kr,rfl⟩:∃a kr,ks=a::kr:=by cases ks with | nil=>simp at len;omega | cons a kr=>exact⟨a,kr,rfl⟩
 intro i
 induction i with
 | zero=>
  intro _;refine⟨a,rfl, ?_,λk hk=>at' k (by simpa using hk),cl⟩;rw[iP h0];refine MI.perm mm ?_;rw[List.perm_iff_count];intro b;simp only[chB,lMc,List.count_append,List.count_cons,List.count_nil,lCa,List.drop_succ_cons,List.drop_zero];omega
 | succ i ih=>
  intro hi;obtain⟨a',e1,g1,g2,g3⟩:=ih (by omega);have hik:i<(a::kr).length:=by omega
  have hix:i<x.W.length:=by omega
  have hda:(a::kr).drop i=(a::kr)[i]::(a::kr).drop (i+1):=lDc hik;have hdx:x.W.drop i=x.W[i]::x.W.drop (i+1):=lDc hix;generalize hki:(a::kr)[i]=ki at hda;have hki':(a::kr)[i]?=some ki:=by rw[gEg hik,hki]
  have hc:=g2 ki (by rw[hda];exact .head _);have hgd:s.2.getD i 0=(ki:Int):=by
   rw[ap];simp only[List.getD,gMp,hki',oMs,Option.getD_some]
  have hxd:x.W.getD i w0=x.W[i]:=by simp[List.getD,gEg hix]
  have hdn:((a::kr).drop i).Nodup:=nd.sublist (List.drop_sublist ..);rw[hda,List.nodup_cons]at hdn;have hki_no:O ki=false:=no ki (lMo hki');refine⟨a',e1, ?_⟩;rw[chB,hgd,hxd];have hop:inO O ((a::kr).drop i) ki=true:=by rw[hda];simp[inO]
  --the words that it takes
  have key:∃P',(aW r::aW a'::(((a::kr).drop (i+1)).map aW++(x.W.drop i++((if i<n then [y.W.getD 0 w0]else [])++P)))).Perm ([x.W[i],nxW y s.2 i]++P')/\P'=aW r::aW a'::(((a::kr).drop (i+1+1)).map aW++(x.W.drop (i+1)++((if i+1<n then [y.W.getD 0 w0]else [])++P))):=by
   refine⟨_, ?_,rfl⟩;rw[hdx,iP (by omega)];by_cases q:i+1<n
   ·have hq:i+1<(a::kr).length:=by omega
    have hd2:(a::kr).drop (i+1)=(a::kr)[i+1]::(a::kr).drop (i+1+1):=lDc hq;have hnx:nxW y s.2 i=aW (a::kr)[i+1]:=by
     unfold nxW;rw[ap,gMp,gEg hq];rfl
    rw[iP q,hnx,hd2,List.perm_iff_count];intro b;simp only[lMc,List.count_append,List.count_cons,List.count_nil,lCa];omega
   ·have hd2:(a::kr).drop (i+1)=[]:=List.drop_eq_nil_of_le (by omega);have hd3:(a::kr).drop (i+1+1)=[]:=List.drop_eq_nil_of_le (by omega);have hnx:nxW y s.2 i=y.W.getD 0 w0:=by
     unfold nxW;rw[ap,gMp,gEn (by omega)];rfl
    rw[iN q,hnx,hd2,hd3,List.perm_iff_count];intro b;simp only[List.map_nil,List.count_append,List.count_cons,List.count_nil,lCa];omega
  obtain⟨P',p1,p2⟩:=key;obtain⟨q1,q2,q3⟩:=X3 (k:=ki) (c:=wM y) (MI.perm g1 p1) hc hop (appF hl);refine⟨?_,λk hk=>?_,by rw[q3,g3]⟩
  ·rw[hda,qd7 hdn.1 hki_no,p2]at q1;exact q1
  ·have hkk:k≠ki:=by rintro rfl;exact hdn.1 hk
   rw[wB hc];simp only;rw[zb hkk];exact g2 k (by rw[hda];exact .tail _ hk)
theorem qkS(h:MM m (x.W++y.W++P) O)(hf:1+x.W.length<=nF m.C)(hyw:y.W.length=1)(hr:zr (JM x y))(hl:zw 3 y.L=true):MM (chM m x y).1 (lws (chM m x y).2++P) O/\(chM m x y).1.C.length=m.C.length:=by
 rw[Z7 hyw]at h;unfold chM;by_cases hx:x.W=[]
 ·rw[iP hx];rw[hx]at h;obtain⟨r,r1,r2,r3⟩:=YI (c:=JM x y) (P:=y.W.getD 0 w0::P) h (by omega) rfl hr;refine⟨?_,r2.len⟩;simp only[r2.fr,lws];exact MI.perm r3 (List.Perm.swap _ _ _)
 ·rw[iN hx];have hpos:0<x.W.length:=List.length_pos_iff.2 hx;have h':MM m (x.W++y.W.getD 0 w0::P) O:=by
   refine MI.perm h ?_;simp
  obtain⟨r,ks,e0,I⟩:=qAV (x:=x) (y:=y) h' hr x.W.length (by omega);obtain⟨a,e1,g1,g2,g3⟩:=qcB (x:=x) (P:=P) rfl hpos hl I x.W.length (nLr _);have hgd:(chA m x y x.W.length).2.getD 0 0=(a:Int):=by
   rw[I.ap];simp only[List.getD,gMp,e1,oMs,Option.getD_some]
  rw[hgd,e0];rw[List.drop_eq_nil_of_le (show ks.length<=x.W.length+1 by have:=I.len;omega),List.drop_eq_nil_of_le (show ks.length<=x.W.length by have:=I.len;omega),iN (by omega),List.drop_length,Y8]at g1;have:=(MI.redex (a:=r) (b:=a) g1).2;exact⟨this,g3⟩
end
section
variable {m:qH} {a b:Int} {c d:qD} {ws u v:List qF} {i j k:Nat}
theorem qAQ(h:a.toNat≠b.toNat):zZ (qo m a ws) b=zZ m b:=by
 unfold zZ qo;simp only;rw[gSn h]
theorem qkO(h:m.F.toNat≠b.toNat):zZ (qR m c) b=zZ m b:=by
 unfold zZ qR;simp only;rw[gSn h]
theorem YK(h:m.F.toNat≠a.toNat):qR (qo m a ws) c=qo (qR m c) a ws:=by
 have e1:zZ (qo m a ws) m.F=zZ m m.F:=qAQ (Ne.symm h);have e2:zZ (qR m c) a=zZ m a:=qkO h;have e3:(qo m a ws).F=m.F:=rfl
 conv=>lhs;rw[qR,e3,e1]
 conv=>rhs;rw[qo,e2]
 simp only[qo,qR];rw[List.set_comm _ _ (Ne.symm h)]
theorem qCJ(h:a.toNat≠b.toNat):qo (qo m a u) b v=qo (qo m b v) a u:=by
 have e1:zZ (qo m a u) b=zZ m b:=qAQ h;have e2:zZ (qo m b v) a=zZ m a:=qAQ (Ne.symm h)
 conv=>lhs;rw[qo,e1]
 conv=>rhs;rw[qo,e2]
 simp only[qo];rw[List.set_comm _ _ h]
theorem qCK:qo (qo m a u) a v=qo m a v:=by
 by_cases h:a.toNat<m.C.length
 ·have e:zZ (qo m a u) a={zZ m a with W:=u}:=by
   unfold zZ qo;simp only;rw[gSs h];rfl
  conv=>lhs;rw[qo,e]
  simp only[qo,List.set_set]
 ·have e:∀(x:qD),m.C.set a.toNat x=m.C:=λx=>List.set_eq_of_length_le (by omega);simp only[qo,e]
theorem X2:(qo m a ws).F=m.F:=rfl
theorem qo5:(qo m a ws).C.length=m.C.length:=by simp[qo]
theorem qCL(h:m.C[k]?=some c):(qo m (k:Int) ws).C[k]?=some {c with W:=ws}:=by
 rw[wB h];exact jV h
theorem Zt(h:j≠k):(qo m (k:Int) ws).C[j]?=m.C[j]?:=by
 unfold qo;simp only[iTn];exact zb h
def two(m:qH)(ck dk:Nat)(us vs:List qF):qH:=qo (qo m (ck:Int) us) (dk:Int) vs
theorem W8{ck dk f:Nat}{us vs:List qF}(hf:m.F=(f:Int))(h1:f≠ck)(h2:f≠dk):qR (two m ck dk us vs) c=two (qR m c) ck dk us vs:=by
 unfold two;rw[YK (by rw[X2,hf];simpa using h2),YK (by rw[hf];simpa using h1)]
theorem qh3{ck dk f:Nat}{us vs:List qF}(h1:f≠ck)(h2:f≠dk):qo (two m ck dk us vs) (f:Int) ws=two (qo m (f:Int) ws) ck dk us vs:=by
 unfold two;rw[qCJ (a:=(dk:Int)) (b:=(f:Int)) (by simpa using Ne.symm h2),qCJ (a:=(ck:Int)) (b:=(f:Int)) (by simpa using Ne.symm h1)]
theorem qhZ{ck dk:Nat}{us vs:List qF}(h:ck≠dk):qo (two m ck dk us vs) (ck:Int) ws=two m ck dk ws vs:=by
 unfold two;rw[qCJ (a:=(dk:Int)) (b:=(ck:Int)) (by simpa using Ne.symm h),qCK]
theorem qh1{ck dk:Nat}{us vs:List qF}:qo (two m ck dk us vs) (dk:Int) ws=two m ck dk us ws:=by
 unfold two;rw[qCK]
theorem ZV{ck dk f:Nat}{us vs:List qF}(h1:f≠ck)(h2:f≠dk):(two m ck dk us vs).C[f]?=m.C[f]?:=by
 unfold two;rw[Zt h2,Zt h1]
theorem qh0{ck dk:Nat}{us vs:List qF}(h:ck≠dk)(hc:m.C[ck]?=some c):(two m ck dk us vs).C[ck]?=some {c with W:=us}:=by
 unfold two;rw[Zt h,qCL hc]
theorem qh2{ck dk:Nat}{us vs:List qF}(h:ck≠dk)(hd:m.C[dk]?=some d):(two m ck dk us vs).C[dk]?=some {d with W:=vs}:=by
 unfold two;exact qCL (by rw[Zt (Ne.symm h)];exact hd)
end
def ovC(g:Nat->Option (List qF))(k:Nat)(c:qD):qD:=match g k with
 | some ws=>{c with W:=ws}
 | none=>c
def ovM(m:qH)(g:Nat->Option (List qF)):qH:={m with C:=m.C.mapIdx (ovC g)}
def ZW(g:Nat->Option (List qF))(k:Nat)(ws:List qF)(j:Nat):Option (List qF):=if j=k then some ws else g j
section
variable {m:qH} {g g':Nat->Option (List qF)} {c d:qD} {k f:Nat} {ws u:List qF}
theorem J5:(ovM m g).C[k]?=(m.C[k]?).map (ovC g k):=by simp[ovM,List.getElem?_mapIdx]
theorem qoQ:(ovC g k c).V=c.V:=by unfold ovC;split<;>rfl
theorem qB7(h:g k=none):ovC g k c=c:=by unfold ovC;rw[h]
theorem qB8(h:g k=some ws):ovC g k c={c with W:=ws}:=by unfold ovC;rw[h]
theorem qCA:(ovM m g).C.length=m.C.length:=by simp[ovM]
theorem qCB:ovM m (λ_=>none)=m:=by
 have:m.C.mapIdx (ovC λ_=>none)=m.C:=List.ext_getElem? λj=>by
  rw[List.getElem?_mapIdx];cases m.C[j]?<;>rfl
 unfold ovM;rw[this]
theorem Yk{a b:qH}(h:∀j:Nat,a.C[j]?=b.C[j]?)(h1:a.F=b.F)(h2:a.O=b.O)(h3:a.R=b.R):a=b:=by
 obtain⟨a1,a2,a3,a4⟩:=a;obtain⟨b1,b2,b3,b4⟩:=b;have:a1=b1:=List.ext_getElem? h;simp only at h1 h2 h3;rw[this,h1,h2,h3]
theorem qfW(hf:m.F=(f:Int))(hg:g f=none):qR (ovM m g) c=ovM (qR m c) g:=by
 refine Yk (λj=>?_) ?_ rfl rfl
 ·have e:(qR m c).C=m.C.set f c:=by unfold qR;rw[hf];rfl
  have e2:(qR (ovM m g) c).C=(ovM m g).C.set f c:=by unfold qR;rw[show (ovM m g).F=(f:Int)from hf];rfl
  rw[J5,e,e2];by_cases q:j=f
  ·subst q;by_cases l:j<m.C.length
   ·rw[gSs (by rw[qCA];exact l),gSs l,oMs,qB7 hg]
   ·rw[gEn (by rw[lLs,qCA];omega),gEn (by rw[lLs];omega)];rfl
  ·rw[gSn (Ne.symm q),gSn (Ne.symm q),J5]
 ·show (zZ (ovM m g) m.F).V=(zZ m m.F).V;unfold zZ;rw[J5];cases m.C[m.F.toNat]? with
  | none=>rfl
  | some d=>exact qoQ
theorem Wq(hc:m.C[k]?=some c):qo (ovM m g) (k:Int) ws=ovM m (ZW g k ws):=by
 have h1:(ovM m g).C[k]?=some (ovC g k c):=by rw[J5,hc];rfl
 rw[wB h1];refine Yk (λj=>?_) rfl rfl rfl;rw[J5];by_cases q:j=k
 ·subst q;have e:({ovC g j c with W:=ws}:qD)={c with W:=ws}:=by unfold ovC;split<;>rfl
  simp only;rw[jV h1,hc,oMs,qB8 (g:=ZW g j ws) (ws:=ws) (iP rfl),e]
 ·simp only;rw[zb q,J5];have:ovC (ZW g k ws) j=ovC g j:=by funext c;unfold ovC;rw[show ZW g k ws j=g j from iN q]
  rw[this]
end
section
variable {R:Nat->Bool} {bk:List qE} {N:Ags} {a b:Nat} {x y:qC}
theorem YL(hb:jH bk=true){v:Int}(h0:0<=v)(h:v<bk.length):zF (qr bk v)=true:=by
 unfold jH at hb;simp only[bAt]at hb;have hv:v.toNat<bk.length:=by omega
 unfold qr;rw[gEg hv];exact lAt.1 hb.2 _ (gMm hv)
theorem qmN:∀{xs:Ags}{x:qC},x∈xs->x.L<=hiI xs:=by
 have key:∀(xs:Ags)(m:Int),m<=xs.foldl (λm x=>if x.L<m then m else x.L) m/\∀x∈xs,x.L<=xs.foldl (λm x=>if x.L<m then m else x.L) m:=by
  intro xs
  induction xs with
  | nil=>intro m;exact⟨Int.le_refl _,by simp⟩
  | cons y ys ih=>
   intro m;simp only[List.foldl_cons];have hm:m<=(if y.L<m then m else y.L)/\y.L<=(if y.L<m then m else y.L):=by split<;>omega
   obtain⟨h1,h2⟩:=ih (if y.L<m then m else y.L);refine⟨Int.le_trans hm.1 h1,λx hx=>?_⟩;rcases mCo.1 hx with rfl | q
   ·exact Int.le_trans hm.2 h1
   ·exact h2 x q
 intro xs x hx;exact(key xs 0).2 x hx
theorem qmM{xs:Ags}(h:∀x∈xs,0<=x.L/\x.L<=8):0<=hiI xs/\hiI xs<=8:=by
 have key:∀(xs:Ags)(m:Int),0<=m->m<=8->(∀x∈xs,0<=x.L/\x.L<=8)->0<=xs.foldl (λm x=>if x.L<m then m else x.L) m/\xs.foldl (λm x=>if x.L<m then m else x.L) m<=8:=by
  intro xs
  induction xs with
  | nil=>intro m h1 h2 _;exact⟨h1,h2⟩
  | cons y ys ih=>
   intro m h1 h2 h3;have:=h3 y (by simp);have hm:0<=(if y.L<m then m else y.L)/\(if y.L<m then m else y.L)<=8:=by split<;>omega
   exact ih _ hm.1 hm.2 λx hx=>h3 x (by simp[hx])
 exact key xs 0 (by omega) (by omega) h
theorem QJ{x:qC}(h:qg x=true):0<=x.L/\x.L<=8:=by
 have:=J4 h;unfold zw at this;split at this
 ·rwa[Jz]at this
 ·simp at this;omega
end
section
variable {R:Nat->Bool} {bk:List qE} {N:Ags} {a b:Nat} {x y:qC} {t:qE} {lev:Int}
theorem Zx(ht:zF t=true){z:qC}(hz:t.G[0]?=some z):z.P.length=1:=by
 obtain⟨q1,q2⟩:=gSi.1 hz;have k:=(qB2 ht 0 q1).2 rfl;rw[q2]at k;have:=(QK (Zp ht hz)).1;unfold fieldsOf jy at this;rw[k]at this;simp at this;omega
theorem X6(ht:zF t=true):∃c r,qO t.G (pt 0 0)=pt (c+1) r/\atP t.G 0 0=some (pt (c+1) r)/\atP t.G (c+1) r=some (pt 0 0)/\c+1<t.G.length:=by
 have h0:=ZI ht;have hz:t.G[0]?=some t.G[0]:=gEg h0;have hp:=Zx ht hz;obtain⟨c,r,e1,e2,e3,_,e5,e6⟩:=(Zo ht).live (a:=0) (s:=0) (ju.2 ⟨_,hz,by omega⟩) id;cases c with
 | zero=>
  have:=e3.in hz;obtain rfl:r=0:=by omega
  exact absurd ⟨rfl,rfl⟩ e6
 | succ c=>exact⟨c,r,e1,e2,e5,qiY e5⟩
end
structure zU where
 A:qM
 B:qM
def zU.enc(x:zU):AV:=.agg [iI x.A.N,iI x.A.S,iI x.B.N,iI x.B.S]
theorem zU.isSh:Sh zU.enc 4 (some 4):=⟨λx=>by simp[zU.enc,AV.tree,AV.trees],λ_=>rfl,λ_=>rfl,by decide,λx=>by simp[zU.enc]⟩
section
variable {x:zU}
@[go_sem] theorem zU.tr:x.enc.tree=true:=zU.isSh.tree x
@[go_sem] theorem zU.ln:x.enc.cells.length=4:=nr rfl
@[go_sem] theorem zU.all:x.enc.part 0 (some 4)=some x.enc:=nr rfl
@[go_sem] theorem zU.q0:x.enc.part 0 (some 2)=some (qM.enc x.A):=nr rfl
@[go_sem] theorem zU.q2:x.enc.part 2 (some 2)=some (qM.enc x.B):=nr rfl
end
def bef(p q:qM):Bool:=decide (p.N<q.N) || (decide (p.N=q.N)&&decide (p.S<q.S))
def wrs(xs:List qC)(ps:List qM):List zU:=(ps.filter λp=>bef p (qO xs p)).map λp=>⟨p,qO xs p⟩
def zC(xs:List qC):List zU:=wrs xs (qv xs xs.length)
theorem qiF{xs:List qC}{a b:List qM}:wrs xs (a++b)=wrs xs a++wrs xs b:=by simp[wrs]
theorem qDH{xs:List qC}{a:List qM}:(wrs xs a).length<=a.length:=by rw[wrs,lMp];exact List.length_filter_le ..
theorem qiG{xs:List qC}{p:qM}:wrs xs [p]=if bef p (qO xs p)=true then [⟨p,qO xs p⟩]else []:=by
 unfold wrs;cases h:bef p (qO xs p)<;>simp[h]
theorem qBW{xs:List qC}{a s:Nat}(h:Has xs a s):∀{i:Nat},a<i->i<=xs.length->pt a s∈qv xs i
 | 0,h0,_=>by omega
 | i+1,h1,h2=>by
  rw[qv];by_cases e:a=i
  ·subst e;obtain⟨x,hx,hs⟩:=ju.1 h;refine List.mem_append_right _ ?_;have:jE xs (a:Int)=x.P.length:=by simp[jE,hx]
   rw[this];exact List.mem_map.2 ⟨s,lMr.2 hs,rfl⟩
  ·exact List.mem_append_left _ (qBW h (by omega) (by omega))
theorem qrB{n:qE}(ok:zF n=true):zC n.G≠[]:=by
 obtain⟨c,r,e1,e2,e3,e4⟩:=X6 ok;have hm:=qBW (xs:=n.G) (a:=0) (s:=0) ⟨_,e2⟩ (i:=n.G.length) (by omega) (nLr _);have hb:bef (pt 0 0) (qO n.G (pt 0 0))=true:=by
  rw[e1];simp only[bef,pt,Bool.or_eq_true,dTe];exact .inl (by omega)
 have:(⟨pt 0 0,qO n.G (pt 0 0)⟩:zU)∈zC n.G:=List.mem_map.2 ⟨pt 0 0,mFi.2 ⟨hm,hb⟩,rfl⟩;intro h;rw[h]at this;cases this
def agC(lev:Int)(x:qC):qD:=⟨x.K,if jQ x.K=true then x.L+lev else x.L,x.V,x.D,List.replicate (x.P.length-1) w0⟩
def tkA(lev:Int)(N:List qC)(m:qH):Nat->qH×List Int
 | 0=>(m,[])
 | i+1=>match N[i+1]? with
  | some x=>(qR (tkA lev N m i).1 (agC lev x),(tkA lev N m i).2++[(tkA lev N m i).1.F])
  | none=>tkA lev N m i
def tkV(m:qH):Nat->qH×List Int
 | 0=>(m,[])
 | i+1=>(qR (tkV m i).1 (qd []),(tkV m i).2++[(tkV m i).1.F])
def nI2(ks:List Nat):List Int:=ks.map λk:Nat=>(k:Int)
theorem J0{k:Int}(h:qt k=true):k≠0:=by
 rintro rfl;cases h
section
variable {P:List qF} {O:Nat->Bool} {m m0:qH} {lev:Int} {N:List qC}
structure TkI(m0:qH)(N:List qC)(lev:Int)(P:List qF)(O:Nat->Bool)(ks:List Nat)(s:qH×List Int)(i:Nat):Prop where
 at':s.2=nI2 ks
 len:ks.length=i
 nd:ks.Nodup
 new:∀k∈ks,O k=false
 mm:MM s.1 (ks.map aW++P) (inO O ks)
 cell:∀(j k:Nat)(x:qC),ks[j]?=some k->N[j+1]?=some x->s.1.C[k]?=some (agC lev x)
 nf:nF m0.C=nF s.1.C+i
 cl:s.1.C.length=m0.C.length
 root:s.1.O=m0.O
 rx:s.1.R=m0.R
 keep:∀(k:Nat)(c:qD),m0.C[k]?=some c->c.K≠0->s.1.C[k]?=some c/\k∉ks
theorem Vy(h:MM m P O)(hk:∀(i:Nat)(x:qC),N[i+1]?=some x->qt x.K=true):∀i,i<=nF m.C->i+1<=N.length->∃ks,TkI m N lev P O ks (tkA lev N m i) i
 | 0,_,_=>⟨[],rfl,rfl,List.nodup_nil,λk q=>(by cases q),by rw[Y8];exact h,λj k x q=>(by cases q),rfl,rfl,rfl,rfl,λk c q _=>⟨q,by simp⟩⟩
 | i+1,hf,hi=>by
  obtain⟨ks,a1,a2,a3,a4,a5,a6,a7,a8,a9,a10,a11⟩:=Vy h hk i (by omega) (by omega);have hx:=gEg (show i+1<N.length by omega);generalize N[i+1]=x at hx;have ag:=hk i x hx;have k0:(agC lev x).K≠0:=J0 ag;obtain⟨k,t1,t2,t3⟩:=Qn (c:=agC lev x) a5 (by omega) ag;have e:tkA lev N m (i+1)=(qR (tkA lev N m i).1 (agC lev x),(tkA lev N m i).2++[(tkA lev N m i).1.F]):=by
   rw[tkA,hx]
  have hkn:k∉ks:=λq=>by simp[inO,q]at t1
  have hko:O k=false:=Bool.eq_false_iff.2 λq=>by simp[inO,q]at t1
  rw[e];refine⟨ks++[k],by simp only[a1,t2.fr,nI2,lMa];rfl,by simp[a2], ?_,λj q=>?_, ?_,λj l y q1 q2=>?_, ?_, ?_, ?_, ?_,λl c q1 q2=>?_⟩
  ·rw[List.nodup_append];exact⟨a3,by simp,λa ha b hb=>by simp only[lMg]at hb;rintro rfl;rw[hb]at ha;exact hkn ha⟩
  ·rcases jR.1 q with q | q
   ·exact a4 j q
   ·rw[lMg.1 q];exact hko
  ·rw[<-qd8];refine MI.perm t3 ?_;rw[lMa,lMc,List.map_nil,lAa];exact(List.perm_middle (a:=aW k) (l₁:=ks.map aW) (l₂:=P)).symm
  ·by_cases q:j<ks.length
   ·rw[gAl q]at q1;exact(t2.keep (a6 j l y q1 q2) (J0 (hk j y q2))).1
   ·have:j=i:=by
     have:=qp q1;rw[lAp,List.length_singleton]at this;omega
    subst this;rw[gAr (by omega),a2,nSs]at q1;simp only[List.getElem?_cons_zero,oSi]at q1;subst q1;rw[hx]at q2;cases q2;exact t2.new
  ·have:=t2.nf k0;simp only;omega
  ·simp only;rw[t2.len,a8]
  ·simp only;rw[t2.root,a9]
  ·simp only;rw[t2.rx,a10]
  ·obtain⟨b1,b2⟩:=a11 l c q1 q2;obtain⟨b3,b4⟩:=t2.keep b1 q2;exact⟨b3,λq=>(jR.1 q).elim b2 λq=>b4 (lMg.1 q)⟩
structure TkV(m0:qH)(P:List qF)(O:Nat->Bool)(vs:List Nat)(s:qH×List Int)(i:Nat):Prop where
 at':s.2=nI2 vs
 len:vs.length=i
 nd:vs.Nodup
 mm:MM s.1 ((vs.flatMap λv=>[vW v,vW v])++P) O
 cell:∀v∈vs,s.1.C[v]?=some (qd [])
 nf:nF m0.C=nF s.1.C+i
 cl:s.1.C.length=m0.C.length
 root:s.1.O=m0.O
 rx:s.1.R=m0.R
 keep:∀(k:Nat)(c:qD),m0.C[k]?=some c->c.K≠0->s.1.C[k]?=some c/\k∉vs
theorem V0(h:MM m P O):∀i,i<=nF m.C->∃vs,TkV m P O vs (tkV m i) i
 | 0,_=>⟨[],rfl,rfl,List.nodup_nil,h,λv q=>(by cases q),rfl,rfl,rfl,rfl,λk c q _=>⟨q,by simp⟩⟩
 | i+1,hf=>by
  obtain⟨vs,a1,a2,a3,a5,a6,a7,a8,a9,a10,a11⟩:=V0 h i (by omega);obtain⟨k,t1,t2,t3⟩:=YJ a5 (by omega);have hkn:k∉vs:=λq=>(t2.keep (a6 k q) (by decide)).2 rfl;refine⟨vs++[k],by simp only[tkV,a1,t2.fr,nI2,lMa];rfl,by simp[a2], ?_, ?_,λv q=>?_, ?_, ?_, ?_, ?_,λl c q1 q2=>?_⟩
  ·rw[List.nodup_append];exact⟨a3,by simp,λa ha b hb=>by simp only[lMg]at hb;rintro rfl;rw[hb]at ha;exact hkn ha⟩
  ·refine MI.perm t3 ?_;rw[List.flatMap_append,List.perm_iff_count];intro a;simp only[List.flatMap_cons,List.flatMap_nil,lAn,List.count_append,List.count_cons,List.count_nil];omega
  ·rcases jR.1 q with q | q
   ·exact(t2.keep (a6 v q) (by decide)).1
   ·rw[lMg.1 q];exact t2.new
  ·have:=t2.nf (show (qd []).K≠0 by decide);simp only[tkV];omega
  ·simp only[tkV];rw[t2.len,a8]
  ·simp only[tkV];rw[t2.root,a9]
  ·simp only[tkV];rw[t2.rx,a10]
  ·obtain⟨b1,b2⟩:=a11 l c q1 q2;obtain⟨b3,b4⟩:=t2.keep b1 q2;exact⟨b3,λq=>(jR.1 q).elim b2 λq=>b4 (lMg.1 q)⟩
end
section
variable {N:Ags} {p q:qM} {a s i:Nat}
def qi(N:Ags):List qM:=qv N N.length
theorem qCH:∀{i:Nat},p∈qv N i->∃a s,p=pt a s/\a<i/\(i<=N.length->Has N a s)
 | 0,h=>by cases h
 | i+1,h=>by
  rw[qv]at h;rcases jR.1 h with h | h
  ·obtain⟨a,s,e1,e2,e3⟩:=qCH h;exact⟨a,s,e1,by omega,λhi=>e3 (by omega)⟩
  ·obtain⟨s,hs,rfl⟩:=List.mem_map.1 h;refine⟨i,s,rfl,by omega,λhi=>?_⟩;have hx:=gEg (show i<N.length by omega);generalize N[i]=x at hx;have:jE N (i:Int)=x.P.length:=by simp[jE,hx]
   rw[this]at hs;exact ju.2 ⟨x,hx,lMr.1 hs⟩
theorem JR:p∈qi N↔∃a s,p=pt a s/\Has N a s:=by
 constructor
 ·intro h;obtain⟨a,s,e1,e2,e3⟩:=qCH h;exact⟨a,s,e1,e3 (nLr _)⟩
 ·rintro⟨a,s,rfl,h⟩;obtain⟨x,hx,hs⟩:=ju.1 h;exact qBW h (qp hx) (nLr _)
theorem Vi:∀{i:Nat},(qv N i).Nodup
 | 0=>List.nodup_nil
 | i+1=>by
  rw[qv,List.nodup_append];refine⟨Vi, ?_,λa ha b hb=>?_⟩
  ·unfold ze;rw[List.nodup_iff_pairwise_ne,List.pairwise_map];refine List.Pairwise.imp ?_ List.nodup_range;intro a b h e;simp only[qM.mk.injEq]at e;exact h (by omega)
  ·obtain⟨a',s',e1,e2,_⟩:=qCH ha;obtain⟨s,hs,rfl⟩:=List.mem_map.1 hb;rintro rfl;have:(⟨(i:Int),(s:Int)⟩:qM)=pt i s:=rfl;rw[this]at e1;have:=(ZN.1 e1).1;omega
structure Peer(N:Ags)(p:qM):Prop where
 m:qO N p∈qi N
 pp:qO N (qO N p)=p
 ne:qO N p≠p
theorem jx(hW:W N λ_ _=>False)(h:p∈qi N):Peer N p:=by
 obtain⟨a,s,rfl,hs⟩:=JR.1 h;obtain⟨c,k,e1,e2,e3,_,e5,e6⟩:=hW.live hs id;refine⟨JR.2 ⟨c,k,e1,e3⟩,by rw[e1];exact Ws e5, ?_⟩;rw[e1];exact λe=>e6 (ZN.1 e)
theorem qo1(hW:W N λ_ _=>False):((qi N).map (qO N)).Perm (qi N):=by
 refine(List.perm_ext_iff_of_nodup ?_ Vi).2 λq=>⟨λh=>?_,λh=>?_⟩
 ·rw[List.nodup_iff_pairwise_ne,List.pairwise_map];refine List.Pairwise.imp_of_mem ?_ (Vi (N:=N) (i:=N.length));intro a b ha hb hne e;have:=congrArg (qO N) e;rw[(jx hW ha).pp,(jx hW hb).pp]at this;exact hne this
 ·obtain⟨p,hp,rfl⟩:=List.mem_map.1 h;exact(jx hW hp).m
 ·exact List.mem_map.2 ⟨qO N q,(jx hW h).m,(jx hW h).pp⟩
theorem qf6{α:Type}(hW:W N λ_ _=>False)(g:qM->List α):((qi N).flatMap λp=>g (qO N p)).Perm ((qi N).flatMap g):=by
 have h:=(qo1 hW).flatMap_right g;rw[List.flatMap_map]at h;exact h
theorem XM{p q:qM}(h:p≠q):bef q p= !bef p q:=by
 obtain⟨a,s⟩:=p;obtain⟨b,t⟩:=q;have h2:¬(a=b/\s=t):=λe=>h (by rw[e.1,e.2]);unfold bef;by_cases h1:a<b
 ·simp only[h1,decide_true,Bool.true_or,Bool.not_true,Bool.or_eq_false_iff,decide_eq_false_iff_not,Bool.and_eq_false_iff];exact⟨by omega,.inl (by omega)⟩
 ·by_cases h3:a=b
  ·subst h3;by_cases h4:s<t
   ·have:¬t<s:=by omega
    simp[h4,this]
   ·have:t<s:=by omega
    simp[h4,this]
  ·have:b<a:=by omega
   have h5:¬b=a:=λe=>h3 e.symm;simp[h1,this,h3]
theorem Xh{α β:Type}{f g:α->List β}:∀(l:List α),(l.flatMap f++l.flatMap g).Perm (l.flatMap λx=>f x++g x)
 |[]=>.refl _
 | x::l=>by
  simp only[List.flatMap_cons];refine List.Perm.trans ?_ (List.Perm.append_left (f x++g x) (Xh l));rw[lAa,lAa];refine List.Perm.append_left _ ?_;rw[<-lAa,<-lAa];exact List.Perm.append_right _ List.perm_append_comm
theorem qd1{α:Type}(hW:W N λ_ _=>False)(c:qM->Bool)(hc:∀p∈qi N,c (qO N p)=c p)(g:qM->List α):
  ((qi N).flatMap λp=>if c p=true then g p else []).Perm ((qi N).flatMap λp=>if c p=true/\bef p (qO N p)=true then g p++g (qO N p)else []):=by
 have h1:((qi N).flatMap λp=>if c p=true then g p else []).Perm (((qi N).flatMap λp=>if c p=true/\bef p (qO N p)=true then g p else [])++((qi N).flatMap λp=>if c p=true/\bef (qO N p) p=true then g p else [])):=by
  have e:∀p∈qi N,(if c p=true then g p else [])=(if c p=true/\bef p (qO N p)=true then g p else [])++(if c p=true/\bef (qO N p) p=true then g p else []):=λp hp=>by
   rw[XM (p:=p) (q:=qO N p) (jx hW hp).ne.symm];by_cases hc:c p=true
   ·cases hb:bef p (qO N p)<;>simp[hc]
   ·simp[hc]
  have e2:((qi N).flatMap λp=>if c p=true then g p else [])=(qi N).flatMap λp=>(if c p=true/\bef p (qO N p)=true then g p else [])++(if c p=true/\bef (qO N p) p=true then g p else []):=by
   rw[List.flatMap_def,List.flatMap_def,List.map_congr_left e]
  rw[e2];exact(Xh _).symm
 have h2:((qi N).flatMap λp=>if c p=true/\bef (qO N p) p=true then g p else []).Perm ((qi N).flatMap λp=>if c p=true/\bef p (qO N p)=true then g (qO N p)else []):=by
  have:=(qf6 hW λp=>if c p=true/\bef (qO N p) p=true then g p else []).symm;refine this.trans ?_;have e:((qi N).flatMap λp=>if c (qO N p)=true/\bef (qO N (qO N p)) (qO N p)=true then g (qO N p)else [])=(qi N).flatMap λp=>if c p=true/\bef p (qO N p)=true then g (qO N p)else []:=by
   rw[List.flatMap_def,List.flatMap_def];congr 1;refine List.map_congr_left λp hp=>?_;rw[hc p hp,(jx hW hp).pp]
  rw[e]
 refine h1.trans ((List.Perm.append_left _ h2).trans ?_);have e:((qi N).flatMap λp=>if c p=true/\bef p (qO N p)=true then g p++g (qO N p)else [])=(qi N).flatMap λp=>(if c p=true/\bef p (qO N p)=true then g p else [])++(if c p=true/\bef p (qO N p)=true then g (qO N p)else []):=by
  rw[List.flatMap_def,List.flatMap_def];congr 1;refine List.map_congr_left λp hp=>?_;split<;>rfl
 rw[e];exact Xh _
end
def jD(w:zU):Bool:=decide (0<w.A.S)&&decide (0<w.B.S)
def qn(N:List qC):List zU:=(zC N).filter jD
def atF(b:Nat)(ks:List Nat)(a:Nat):Nat:=(b::ks).getD a 0
structure TOk(N:List qC)(b:Nat)(ks vs:List Nat)(T:qM->qF):Prop where
 t1:∀p∈qi N,0<p.S->(qO N p).S=0->T p=aW (atF b ks (qO N p).N.toNat)
 t2:∀(i:Nat)(w:zU)(v:Nat),(qn N)[i]?=some w->vs[i]?=some v->T w.A=vW v/\T w.B=vW v
 vl:vs.length=(qn N).length
section
variable {N:List qC} {b:Nat} {ks vs:List Nat} {T:qM->qF}
theorem qgA(hp:∀(a:Nat)(x:qC),N[a]?=some x->0<x.P.length)(hl:ks.length+1=N.length):∀i,i<=N.length->((qv N i).flatMap λq=>if q.S=0 then [aW (atF b ks q.N.toNat)]else [])=((b::ks).take i).map aW
 | 0,_=>rfl
 | i+1,hi=>by
  have ih:=qgA hp hl i (by omega);have hx:=gEg (show i<N.length by omega);generalize N[i]=x at hx;have hx0:=hp i x hx;have hc:jE N (i:Int)=x.P.length:=by simp[jE,hx]
  rw[qv,List.flatMap_append,ih,hc];have hk:i<(b::ks).length:=by simp;omega
  rw[tA1,gEg hk,Option.toList_some,lMa];congr 1;have hs:∀n:Nat,((ze i (n+1)).flatMap λq=>if q.S=0 then [aW (atF b ks q.N.toNat)]else [])=[aW (b::ks)[i]]:=by
   intro n
   induction n with
   | zero=>
    have:atF b ks i=(b::ks)[i]:=by unfold atF;rw[lGd,gEg hk];rfl
    simp[ze,this]
   | succ n ih=>
    rw[YF,List.flatMap_append,ih];have:¬((n:Int)+1=0):=by omega
    simp[this]
  obtain⟨n,hn⟩:∃n,x.P.length=n+1:=⟨x.P.length-1,by omega⟩;rw[hn,hs];rfl
def XA(N:List qC)(b:Nat)(ks:List Nat)(T:qM->qF):List qF:=(qi N).flatMap λp=>if 0<p.S then [T p]else if (qO N p).S=0 then [aW (atF b ks (qO N p).N.toNat)]else []
theorem W4{p:qM}(h:p∈qi N):0<=p.S:=by
 obtain⟨a,s,rfl,_⟩:=JR.1 h;simp only[pt];omega
theorem qmV{α:Type}(f:qM->qM->List α):((qi N).flatMap λp=>if (decide (0<p.S)&&decide (0<(qO N p).S))=true/\bef p (qO N p)=true then f p (qO N p)else [])=(qn N).flatMap λw=>f w.A w.B:=by
 unfold qn zC wrs qi;generalize qv N N.length=l
 induction l with
 | nil=>rfl
 | cons p l ih=>
  rw[List.flatMap_cons,ih];by_cases hb:bef p (qO N p)=true
  ·by_cases hi:jD ⟨p,qO N p⟩=true
   ·have hi':(decide (0<p.S)&&decide (0<(qO N p).S))=true:=hi;rw[iP ⟨hi',hb⟩,List.filter_cons_of_pos (p:=λp=>bef p (qO N p)) hb,lMc,List.filter_cons_of_pos hi,List.flatMap_cons]
   ·have hi':¬(decide (0<p.S)&&decide (0<(qO N p).S))=true:=hi;rw[iN (λq=>hi' q.1),List.filter_cons_of_pos (p:=λp=>bef p (qO N p)) hb,lMc,List.filter_cons_of_neg hi];rfl
  ·rw[iN (λq=>hb q.2),List.filter_cons_of_neg (p:=λp=>bef p (qO N p)) hb];rfl
theorem qdH{α β:Type}{f:α->List β}{g:Nat->List β}:∀{l:List α}{vs:List Nat},vs.length=l.length->(∀(i:Nat)(a:α)(v:Nat),l[i]?=some a->vs[i]?=some v->f a=g v)->l.flatMap f=vs.flatMap g
 |[],[],_,_=>rfl
 |[],v::vs,h,_=>by simp at h
 | a::l,[],h,_=>by simp at h
 | a::l,v::vs,h,hf=>by
  rw[List.flatMap_cons,List.flatMap_cons,hf 0 a v rfl rfl,qdH (by simpa using h) λi a v h1 h2=>hf (i+1) a v (by simpa using h1) (by simpa using h2)]
theorem qq6(hW:W N λ_ _=>False)(hp:∀(a:Nat)(x:qC),N[a]?=some x->0<x.P.length)(hl:ks.length+1=N.length)(t:TOk N b ks vs T):(XA N b ks T).Perm ((b::ks).map aW++vs.flatMap λv=>[vW v,vW v]):=by
 let g:qM->List qF:=λq=>if q.S=0 then [aW (atF b ks q.N.toNat)]else if (qO N q).S=0 then []else [T (qO N q)];have h1:XA N b ks T=(qi N).flatMap λp=>g (qO N p):=by
  unfold XA;rw[List.flatMap_def,List.flatMap_def];congr 1;refine List.map_congr_left λp hp=>?_;have P:=jx hW hp;have s0:=W4 hp;have s1:=W4 P.m;simp only[g,P.pp];by_cases a:0<p.S
  ·rw[iP a];by_cases c:(qO N p).S=0
   ·rw[iP c,t.t1 p hp a c]
   ·rw[iN c,iN (by omega)]
  ·rw[iN a];by_cases c:(qO N p).S=0
   ·rw[iP c,iP c]
   ·rw[iN c,iN c,iP (by omega)]
 rw[h1];refine(qf6 hW g).trans ?_;let c:qM->Bool:=λp=>decide (0<p.S)&&decide (0<(qO N p).S);have h2:(qi N).flatMap g=(qi N).flatMap λq=>(if q.S=0 then [aW (atF b ks q.N.toNat)]else [])++(if c q=true then [T (qO N q)]else []):=by
  rw[List.flatMap_def,List.flatMap_def];congr 1;refine List.map_congr_left λp hp=>?_;have P:=jx hW hp;have s0:=W4 hp;have s1:=W4 P.m;simp only[g,c];by_cases a:p.S=0
  ·rw[iP a,iP a,iN (by simp[a])];rfl
  ·rw[iN a,iN a];by_cases d:(qO N p).S=0
   ·rw[iP d,iN (by simp[d])];rfl
   ·rw[iN d,iP (by simp;omega)];rfl
 rw[h2];refine(Xh _).symm.trans ?_;have h3:((qi N).flatMap λq=>if q.S=0 then [aW (atF b ks q.N.toNat)]else [])=(b::ks).map aW:=by
  have:=qgA (b:=b) hp hl N.length (nLr _);rw[tOl (by simp;omega)]at this;exact this
 rw[h3];refine List.Perm.append_left _ ?_;refine(qd1 hW c (λp hp=>?_) λq=>[T (qO N q)]).trans ?_
 ·have P:=jx hW hp;simp only[c,P.pp];exact Bool.and_comm _ _
 ·have h4:((qi N).flatMap λp=>if c p=true/\bef p (qO N p)=true then [T (qO N p)]++[T (qO N (qO N p))]else [])=(qi N).flatMap λp=>if (decide (0<p.S)&&decide (0<(qO N p).S))=true/\bef p (qO N p)=true then(λp q=>[T q,T p]) p (qO N p)else []:=by
   rw[List.flatMap_def,List.flatMap_def];congr 1;refine List.map_congr_left λp hp=>?_;simp only[c,(jx hW hp).pp];rfl
  refine List.Perm.of_eq (h4.trans ((qmV (N:=N) λp q=>[T q,T p]).trans ?_));exact qdH (g:=λv=>[vW v,vW v]) t.vl λi w v h1 h2=>by rw[(t.t2 i w v h1 h2).1,(t.t2 i w v h1 h2).2]
end
def gkw(ks:List Nat)(f:Nat->List qF)(k:Nat):Option (List qF):=if k∈ks then some (f (ks.idxOf k))else none
section
variable {m:qH} {ks:List Nat} {f f':Nat->List qF} {i k j n:Nat} {ws:List qF} {P:List qF} {O:Nat->Bool} {c:qD}
theorem qmS(nd:ks.Nodup)(h:ks[i]?=some k):ks.idxOf k=i:=by
 have hi:=qp h;rw[gEg hi]at h;cases h;have h1:=List.idxOf_lt_length_of_mem (gMm hi);have h2:ks[ks.idxOf ks[i]]=ks[i]:=List.getElem_idxOf h1;exact(List.getElem_inj nd).1 h2
theorem Y5(nd:ks.Nodup)(h:ks[i]?=some k):gkw ks f k=some (f i):=by
 rw[gkw,iP (lMo h),qmS nd h]
theorem Zh(h:k∉ks):gkw ks f k=none:=iN h
theorem qdS(nd:ks.Nodup)(h:ks[i]?=some k):ZW (gkw ks f) k ws=gkw ks (λj=>if j=i then ws else f j):=by
 funext q;unfold ZW;by_cases e:q=k
 ·subst e;rw[iP rfl,Y5 nd h,iP rfl]
 ·rw[iN e];unfold gkw;by_cases hm:q∈ks
  ·rw[iP hm,iP hm];refine congrArg some (iN λhi=>?_).symm;apply e;have h1:=List.idxOf_lt_length_of_mem hm;have h2:ks[ks.idxOf q]=q:=List.getElem_idxOf h1;rw[gSi]at h;obtain⟨h3,h4⟩:=h;rw[<-h2,<-h4];congr 1
  ·rw[iN hm,iN hm]
theorem qBK(hf:∀i,i<ks.length->f i=f' i):gkw ks f=gkw ks f':=by
 funext q;unfold gkw;by_cases hm:q∈ks
 ·rw[iP hm,iP hm,hf _ (List.idxOf_lt_length_of_mem hm)]
 ·rw[iN hm,iN hm]
theorem Y6(nd:ks.Nodup)(h:ks[j]?=some k):gkw (ks.take (j+1)) f=ZW (gkw (ks.take j) f) k (f j):=by
 have hj:=qp h;have e:ks.take (j+1)=ks.take j++[k]:=by rw[tA1,h];rfl
 have nd1:(ks.take (j+1)).Nodup:=nd.sublist (List.take_sublist _ _);have hk:k∉ks.take j:=by
  rw[e,List.nodup_append]at nd1;exact λq=>nd1.2.2 k q k (by simp) rfl
 funext q;unfold ZW;by_cases e2:q=k
 ·subst e2;rw[iP rfl];exact Y5 nd1 (by rw[gTk,iP (by omega)];exact h)
 ·rw[iN e2];unfold gkw;by_cases hm:q∈ks.take j
  ·rw[iP (by rw[e];exact List.mem_append_left _ hm),iP hm,e,List.idxOf_append,iP hm]
  ·rw[iN (by rw[e];simp[hm,e2]),iN hm]
theorem qcP(nd:ks.Nodup)(no:∀k∈ks,O k=false)(hc:∀(i k:Nat),ks[i]?=some k->∃c,m.C[k]?=some c/\zr {c with W:=f i})(h:MM m ((List.range ks.length).flatMap f++P) (inO O ks)):
  ∀j,j<=ks.length->MM (ovM m (gkw (ks.take j) f)) ((List.range' j (ks.length-j)).flatMap f++P) (inO O (ks.drop j))/\nF (ovM m (gkw (ks.take j) f)).C=nF m.C
 | 0,_=>by
  have e:gkw (ks.take 0) f=λ_=>none:=by funext q;exact Zh (by simp)
  rw[e,qCB,List.drop_zero,Nat.sub_zero,<-List.range_eq_range'];exact⟨h,rfl⟩
 | j+1,hj=>by
  obtain⟨h1,h2⟩:=qcP nd no hc h j (by omega);have hk:=gEg (show j<ks.length by omega);generalize hkk:ks[j]=k at hk;obtain⟨c,c1,c2⟩:=hc j k hk;have hkn:k∉ks.take j:=by
   have nd1:(ks.take (j+1)).Nodup:=nd.sublist (List.take_sublist _ _);rw[tA1,hk,Option.toList_some,List.nodup_append]at nd1;exact λq=>nd1.2.2 k q k (by simp) rfl
  have hat:(ovM m (gkw (ks.take j) f)).C[k]?=some c:=by rw[J5,c1,oMs,qB7 (Zh hkn)]
  have ed:ks.drop j=k::ks.drop (j+1):=by rw[lDc (show j<ks.length by omega),hkk]
  rw[ed,show ks.length-j=(ks.length-(j+1))+1 by omega,List.range'_succ,List.flatMap_cons,lAa]at h1;obtain⟨p1,p2,p3⟩:=X3 (k:=k) (c:=c) h1 hat (by simp[inO]) c2;have nd2:(k::ks.drop (j+1)).Nodup:=by rw[<-ed];exact nd.sublist (List.drop_sublist _ _)
  rw[qd7 (List.nodup_cons.1 nd2).1 (no k (lMo hk)),Wq c1,<-Y6 nd hk]at p1;rw[Wq c1,<-Y6 nd hk]at p2;exact⟨p1,by rw[p2,h2]⟩
def wW(m:qH)(ps:List (Nat×Nat)):qH:=ps.foldl (λm p=>Jo m p.1 p.2) m
theorem qgO:∀(ps:List (Nat×Nat)){m:qH},MM m ((ps.flatMap λp=>[aW p.1,aW p.2])++P) O->MM (wW m ps) P O
 |[],m,h=>h
 | (a,b)::ps,m,h=>by
  rw[List.flatMap_cons]at h;exact qgO ps (m:=Jo m a b) (MI.redex h).2
end
def tW(N:List qC)(b:Nat)(ks vs:List Nat)(p:qM):qF:=
 if (qO N p).S=0 then aW (atF b ks (qO N p).N.toNat)
 else match ((qn N).zip vs).find? (λq=>decide (q.1.A=p) || decide (q.1.B=p))with
  | some q=>vW q.2
  | none=>w0
section
variable {N:List qC} {b:Nat} {ks vs:List Nat} {w:zU} {i j:Nat} {p:qM}
theorem WX:w∈qn N↔w.A∈qi N/\w.B=qO N w.A/\bef w.A w.B=true/\0<w.A.S/\0<w.B.S:=by
 unfold qn zC wrs;simp only[mFi,List.mem_map,jD,bAt,dTe];constructor
 ·rintro⟨⟨p,⟨h1,h2⟩,rfl⟩,h3⟩;exact⟨h1,rfl,h2,h3⟩
 ·rintro⟨h1,h2,h3,h4⟩;obtain⟨A,B⟩:=w;simp only at h1 h2 h3 h4|-;subst h2;exact⟨⟨A,⟨h1,h3⟩,rfl⟩,h4⟩
theorem qmW:(qn N).Nodup:=by
 unfold qn zC wrs;refine List.Nodup.sublist List.filter_sublist ?_;rw[List.nodup_iff_pairwise_ne,List.pairwise_map];refine List.Pairwise.imp ?_ (List.Nodup.sublist List.filter_sublist (Vi (N:=N) (i:=N.length)));intro a c h e;exact h (congrArg zU.A e)
theorem qmX(hW:W N λ_ _=>False){w w':zU}(h:w∈qn N)(h':w'∈qn N)(hp:p=w.A\/p=w.B)(hq:w'.A=p\/w'.B=p):w'=w:=by
 obtain⟨a1,a2,a3,a4,a5⟩:=WX.1 h;obtain⟨b1,b2,b3,b4,b5⟩:=WX.1 h';obtain⟨A,B⟩:=w;obtain⟨A',B'⟩:=w';simp only at*;have P:=jx hW a1;have P':=jx hW b1;subst a2 b2;have key:A'=A:=by
  rcases hp with rfl | rfl
  ·rcases hq with e | e
   ·exact e
   ·have e2:A'=qO N p:=by rw[<-e,P'.pp]
    rw[e2,P.pp,XM P.ne.symm,a3]at b3;cases b3
  ·rcases hq with e | e
   ·rw[e,P.pp,XM P.ne.symm,a3]at b3;cases b3
   ·have:=congrArg (qO N) e;rw[P'.pp,P.pp]at this;exact this
 rw[key]
theorem qC9(hW:W N λ_ _=>False)(hv:vs.length=(qn N).length):TOk N b ks vs (tW N b ks vs) where
 t1:=λp hp h1 h2=>by rw[tW,iP h2]
 t2:=λi w v h1 h2=>by
  have hm:=lMo h1;obtain⟨a1,a2,a3,a4,a5⟩:=WX.1 hm;have P:=jx hW a1;have key:∀p,(p=w.A\/p=w.B)->((qn N).zip vs).find? (λq=>decide (q.1.A=p) || decide (q.1.B=p))=some (w,v):=λp hp=>by
   have hz:((qn N).zip vs)[i]?=some (w,v):=List.getElem?_zip_eq_some.2 ⟨h1,h2⟩;have hmz:=lMo hz;cases hf:((qn N).zip vs).find? (λq=>decide (q.1.A=p) || decide (q.1.B=p))with
   | none=>
    have:=List.find?_eq_none.1 hf (w,v) hmz;rcases hp with rfl | rfl<;>simp at this
   | some q=>
    have h3:=List.find?_some hf;have h4:=List.mem_of_find?_eq_some hf;obtain⟨k,hk⟩:=List.getElem?_of_mem h4;obtain⟨k1,k2⟩:=List.getElem?_zip_eq_some.1 hk;simp only[Bool.or_eq_true,dTe]at h3;have e:=qmX hW hm (lMo k1) hp h3;have hki:k=i:=by
     have l1:=qp k1;have l2:=qp h1;rw[gEg l1]at k1;rw[gEg l2]at h1;have:(qn N)[k]=(qn N)[i]:=by
      rw[Option.some.inj k1,Option.some.inj h1];exact e
     exact(List.getElem_inj qmW).1 this
    subst hki;rw[hz]at hk;rw[Option.some.inj hk]
  refine⟨?_, ?_⟩
  ·rw[tW,<-a2,iN (by omega),key _ (.inl rfl)]
  ·rw[tW,a2,P.pp,iN (by omega),<-a2,key _ (.inr rfl)]
 vl:=hv
def fW(N:List qC)(T:qM->qF)(i:Nat):List qF:=match N[i+1]? with
 | some x=>(List.range (x.P.length-1)).map λs=>T (pt (i+1) (s+1))
 | none=>[]
theorem qbF{T:qM->qF}(h0:∀x,N[0]?=some x->x.P.length=1):∀i,i<N.length->((qv N (i+1)).flatMap λp=>if 0<p.S then [T p]else [])=(List.range i).flatMap (fW N T)
 | 0,hi=>by
  have hx:=gEg hi;have h1:=h0 _ hx;have hc:jE N ((0:Nat):Int)=1:=by simp only[jE,iTn,hx];exact h1
  rw[qv,qv,hc];simp[ze]
 | i+1,hi=>by
  have ih:=qbF (T:=T) h0 i (by omega);have hx:=gEg hi;generalize N[i+1]=x at hx;have hc:jE N ((i+1:Nat):Int)=x.P.length:=by simp only[jE,iTn,hx]
  rw[qv,List.flatMap_append,ih,hc,List.range_succ,List.flatMap_append];congr 1;simp only[List.flatMap_cons,List.flatMap_nil,lAn,fW,hx];have:∀n:Nat,((ze (i+1) n).flatMap λp=>if 0<p.S then [T p]else [])=(List.range (n-1)).map λs=>T (pt (i+1) (s+1)):=by
   intro n
   induction n with
   | zero=>rfl
   | succ n ih=>
    rw[YF,List.flatMap_append,ih];cases n with
    | zero=>simp
    | succ n=>
     have:(0:Int)<(n:Int)+1:=by omega
     simp[this,List.range_succ,pt]
  exact this _
end
def ppC(N:List qC)(p:qM):Bool:=decide (p.S=0)&&decide ((qO N p).S=0)
def jc(N:List qC)(b:Nat)(ks:List Nat):List (Nat×Nat):=(zB N (N.length-1)).map λp=>(atF b ks p.A.toNat,atF b ks p.B.toNat)
def wA(N:List qC)(b:Nat)(ks:List Nat):List (Nat×Nat):=if (qO N (pt 0 0)).S=0 then [(b,atF b ks (qO N (pt 0 0)).N.toNat)]else []
section
variable {N:List qC} {b:Nat} {ks vs:List Nat} {T:qM->qF} {P:List qF} {O:Nat->Bool} {m:qH} {lev:Int}
theorem qCI{a:Nat}:∀n:Nat,(ze a (n+1)).filter (λp=>ppC N p&&bef p (qO N p))=if (ppC N (pt a 0)&&bef (pt a 0) (qO N (pt a 0)))=true then [pt a 0]else []
 | 0=>by
  have:ze a (0+1)=[pt a 0]:=rfl;rw[this,List.filter_cons];rfl
 | n+1=>by
  rw[YF,List.filter_append,qCI n];have:ppC N ⟨(a:Int),((n+1:Nat):Int)⟩=false:=by
   unfold ppC;simp only[Bool.and_eq_false_iff,decide_eq_false_iff_not];left;omega
  rw[List.filter_cons_of_neg (by rw[this];simp)];simp
theorem qf9(hr:∀(a:Nat)(x:qC),N[a]?=some x->0<x.P.length/\x.K≠0)(h00:0<(qO N (pt 0 0)).N):∀i,i<N.length->
  ((qv N (i+1)).filter λp=>ppC N p&&bef p (qO N p)).map (λp=>(atF b ks p.N.toNat,atF b ks (qO N p).N.toNat))=wA N b ks++(zB N i).map λp=>(atF b ks p.A.toNat,atF b ks p.B.toNat)
 | 0,hi=>by
  have hx:=gEg hi;generalize N[0]=x at hx;obtain⟨n,hn⟩:∃n,x.P.length=n+1:=⟨x.P.length-1,by have:=(hr 0 x hx).1;omega⟩;have hc:jE N ((0:Nat):Int)=n+1:=by simp only[jE,iTn,hx];exact hn
  rw[qv,qv,hc,lNa,qCI,zB];unfold wA;have hb:bef (pt 0 0) (qO N (pt 0 0))=true:=by
   unfold bef;rw[Bool.or_eq_true];exact .inl (dEt h00)
  rw[hb,Bool.and_true];by_cases h:(qO N (pt 0 0)).S=0
  ·rw[iP h,iP (by simp only[ppC,h,decide_true,Bool.and_true];rfl)];simp[pt,atF]
  ·rw[iN h,iN (by simp[ppC,h])];rfl
 | i+1,hi=>by
  have ih:=qf9 hr h00 i (by omega);have hx:=gEg hi;generalize N[i+1]=x at hx;obtain⟨h1,h2⟩:=hr (i+1) x hx;obtain⟨n,hn⟩:∃n,x.P.length=n+1:=⟨x.P.length-1,by omega⟩;have hc:jE N ((i+1:Nat):Int)=n+1:=by simp only[jE,iTn,hx];exact hn
  rw[qv,List.filter_append,lMa,ih,hc,qCI,zB,lMa,lAa];congr 1;congr 1;have hq:=gEg (show 0<x.P.length by omega);generalize x.P[0]=q at hq;have hpe:qO N (pt (i+1) 0)=q:=Ws (Qv.2 ⟨x,hx,hq⟩);simp only[Jf,hx,h2,if_false,hq,hpe,ppC,bef];by_cases hs:q.S=0
  ·by_cases hl:((i+1:Nat):Int)<q.N
   ·rw[iP,iP ⟨hs,hl⟩]
    ·rw[lMc,List.map_nil,hpe];rfl
    ·simp[hs,pt];omega
   ·rw[iN,iN (λa=>hl a.2)]
    ·rfl
    ·simp[hs,pt];omega
  ·rw[iN (by simp[hs]),iN (λa=>hs a.1)];rfl
theorem qq7(hW:W N λ_ _=>False)(hr:∀(a:Nat)(x:qC),N[a]?=some x->0<x.P.length/\x.K≠0)(h00:0<(qO N (pt 0 0)).N)(h1:∀x,N[0]?=some x->x.P.length=1)(hn:0<N.length):
  (XA N b ks T).Perm ((List.range (N.length-1)).flatMap (fW N T)++((jc N b ks++wA N b ks).flatMap λp=>[aW p.1,aW p.2])):=by
 have e1:XA N b ks T=(qi N).flatMap λp=>(if 0<p.S then [T p]else [])++(if ppC N p=true then [aW (atF b ks (qO N p).N.toNat)]else []):=by
  unfold XA;rw[List.flatMap_def,List.flatMap_def];congr 1;refine List.map_congr_left λp hp=>?_;have s0:=W4 hp;by_cases a:0<p.S
  ·rw[iP a,iP a,iN]
   ·rfl
   ·unfold ppC;simp;omega
  ·rw[iN a,iN a,lNa];have:p.S=0:=by omega
   by_cases c:(qO N p).S=0
   ·rw[iP c,iP (by simp[ppC,this,c])]
   ·rw[iN c,iN (by simp[ppC,c])]
 rw[e1];refine(Xh _).symm.trans ?_;obtain⟨n,e⟩:∃n,N.length=n+1:=⟨N.length-1,by omega⟩;have e2:((qi N).flatMap λp=>if 0<p.S then [T p]else [])=(List.range (N.length-1)).flatMap (fW N T):=by
  unfold qi;rw[e];exact qbF h1 n (by omega)
 rw[e2];refine List.Perm.append_left _ ?_;refine(qd1 hW (ppC N) (λp hp=>?_) _).trans ?_
 ·unfold ppC;rw[(jx hW hp).pp,Bool.and_comm]
 ·have e3:((qi N).flatMap λp=>if ppC N p=true/\bef p (qO N p)=true then [aW (atF b ks (qO N p).N.toNat)]++[aW (atF b ks (qO N (qO N p)).N.toNat)]else [])=(((qi N).filter λp=>ppC N p&&bef p (qO N p)).map λp=>(atF b ks p.N.toNat,atF b ks (qO N p).N.toNat)).flatMap λp=>[aW p.2,aW p.1]:=by
   have:∀l:List qM,(∀p∈l,p∈qi N)->(l.flatMap λp=>if ppC N p=true/\bef p (qO N p)=true then [aW (atF b ks (qO N p).N.toNat)]++[aW (atF b ks (qO N (qO N p)).N.toNat)]else [])=((l.filter λp=>ppC N p&&bef p (qO N p)).map λp=>(atF b ks p.N.toNat,atF b ks (qO N p).N.toNat)).flatMap λp=>[aW p.2,aW p.1]:=by
    intro l hl
    induction l with
    | nil=>rfl
    | cons p l ih=>
     rw[List.flatMap_cons,ih λq hq=>hl q (.tail _ hq),(jx hW (hl p (.head _))).pp];by_cases q:ppC N p=true/\bef p (qO N p)=true
     ·rw[iP q,List.filter_cons_of_pos (by simp[q.1,q.2]),lMc,List.flatMap_cons];rfl
     ·rw[iN q,List.filter_cons_of_neg (by simpa using q)];rfl
   exact this _ λp hp=>hp
  rw[e3];have e4:=qf9 (b:=b) (ks:=ks) hr h00 n (by omega);unfold qi;rw[e,e4,show n=N.length-1 by omega];change ((wA N b ks++jc N b ks).flatMap _).Perm _;refine((List.perm_append_comm (l₁:=wA N b ks) (l₂:=jc N b ks)).flatMap_right _).trans ?_;generalize jc N b ks++wA N b ks=l
  induction l with
  | nil=>exact .refl _
  | cons p l ih=>
   rw[List.flatMap_cons,List.flatMap_cons];exact List.Perm.append (List.Perm.swap _ _ _) ih
end
section
variable {b:Nat} {P:List qF} {O:Nat->Bool} {m:qH} {lev:Int} {t:qE}
structure WC(t:qE)(lev:Int)(m:qH)(b:Nat)(P:List qF)(O:Nat->Bool)(ks vs:List Nat):Prop where
 i:TkI m t.G lev (aW b::P) O ks (tkA lev t.G m (t.G.length-1)) (t.G.length-1)
 j:TkV (tkA lev t.G m (t.G.length-1)).1 (ks.map aW++aW b::P) (inO O ks) vs (tkV (tkA lev t.G m (t.G.length-1)).1 (qn t.G).length) (qn t.G).length
 mm:MM (wW (ovM (tkV (tkA lev t.G m (t.G.length-1)).1 (qn t.G).length).1 (gkw ks (fW t.G (tW t.G b ks vs)))) (jc t.G b ks++wA t.G b ks)) P O
theorem qgN:∀(ps:List (Nat×Nat)){m:qH},(wW m ps).C=m.C/\(wW m ps).O=m.O
 |[],m=>⟨rfl,rfl⟩
 | p::ps,m=>qgN ps (m:=Jo m p.1 p.2)
theorem ql6(ok:zF t=true)(h:MM m (aW b::P) O)(hf:t.G.length-1+(qn t.G).length<=nF m.C)
  (hC:∀(i:Nat)(x:qC),t.G[i+1]?=some x->qt x.K=true/\∀ws:List qF,ws.length=x.P.length-1->zr {agC lev x with W:=ws}):∃ks vs,WC t lev m b P O ks vs:=by
 have hn:=ZI ok;have hW:=Zo ok;obtain⟨ks,I⟩:=Vy (lev:=lev) h (λi x hx=>(hC i x hx).1) (t.G.length-1) (by omega) (by omega);obtain⟨vs,J⟩:=V0 I.mm (qn t.G).length (by have:=I.nf;omega);refine⟨ks,vs,I,J, ?_⟩;have hkl:=I.len;have hp:∀(a:Nat)(x:qC),t.G[a]?=some x->0<x.P.length/\x.K≠0:=λa x hx=>by
  have oa:=Zp ok hx;refine⟨(QK oa).2,λe=>?_⟩;have hl:=qp hx;rw[gEg hl]at hx;exact qe9 ok a hl (by rw[Option.some.inj hx];exact e)
 have h1:∀x,t.G[0]?=some x->x.P.length=1:=λx hx=>Zx ok hx;have h00:0<(qO t.G (pt 0 0)).N:=by
  obtain⟨c,r,e1,_⟩:=X6 ok;rw[e1];simp only[pt];omega
 have T:=qC9 (b:=b) (ks:=ks) hW J.len;have u1:=qq6 hW (λa x hx=>(hp a x hx).1) (by omega) T;have u2:=qq7 (b:=b) (ks:=ks) (T:=tW t.G b ks vs) hW hp h00 h1 hn;have u3:=u2.symm.trans u1;have hmm:MM (tkV (tkA lev t.G m (t.G.length-1)).1 (qn t.G).length).1 ((List.range ks.length).flatMap (fW t.G (tW t.G b ks vs))++(((jc t.G b ks++wA t.G b ks).flatMap λp=>[aW p.1,aW p.2])++P)) (inO O ks):=by
  refine MI.perm J.mm ?_;rw[hkl];refine List.Perm.trans ?_ (List.Perm.of_eq (lAa _ _ _));refine List.Perm.trans ?_ (List.Perm.append_right P u3.symm);rw[List.perm_iff_count];intro a;simp only[lMc,List.count_append,List.count_cons];omega
 have hcc:∀(i k:Nat),ks[i]?=some k->∃c,(tkV (tkA lev t.G m (t.G.length-1)).1 (qn t.G).length).1.C[k]?=some c/\zr {c with W:=fW t.G (tW t.G b ks vs) i}:=λi k hk=>by
  have hi:=qp hk;have hx:=gEg (show i+1<t.G.length by omega);generalize t.G[i+1]=x at hx;obtain⟨q1,q2⟩:=hC i x hx;have e:=I.cell i k x hk hx;refine⟨agC lev x,(J.keep k _ e (J0 q1)).1,q2 _ ?_⟩;unfold fW;rw[hx];simp
 obtain⟨c1,c2⟩:=qcP I.nd I.new hcc hmm ks.length (nLr _);rw[nSs,lTl,List.drop_length,Y8]at c1;exact qgO _ c1
end
section
variable {w:Nat} {post:List AV} {base:Nat->Prop} {nid:Nat} {h:List qB} {N:Ags} {K:AV->List qB->Prop} {a b s c k:Nat} {x y:qC} {X:Nat->Nat->Prop}
end
section
variable {w:Nat} {post:List AV} {base:Nat->Prop} {nid:Nat} {h:List qB} {N:Ags} {K:AV->List qB->Prop} {a b s c k:Nat} {x y:qC} {X:Nat->Nat->Prop}
end
section
variable {w:Nat} {post:List AV} {base:Nat->Prop} {nid:Nat} {h:List qB} {N:Ags} {K:AV->List qB->Prop} {a b s c k:Nat} {x y:qC} {X:Nat->Nat->Prop} {t:qE}
theorem layP{ps:List qM}{c:Bool}{n:Nat}:(lay (.lst 2 (ps.map qM.enc) c) n).2=[.row 2 (ps.map qM.enc) true]:=by simp[lay,qM.flat]
theorem layD{ps:List Int}{c:Bool}{n:Nat}:(lay (.lst 1 (ps.map qP) c) n).2=[.row 1 (ps.map qP) true]:=by simp[lay,lI]
end
theorem WP{x:qC}(h:qg x=true):x.D.length<=4:=by
 have:=Zq h;unfold jB at this;simp only[bAt,dTe,inI]at this
 repeat' split at this
 all_goals (simp only[bAt,dTe]at this;omega)
theorem qfK{x:qC}(h:qg x=true):x.sz<=8:=by
 have:=WP h;have:=Jd h;unfold qC.sz;omega
theorem qC7{α:Type}{f:α->Nat}{k:Nat}:∀{xs:List α},(∀x∈xs,f x<=k)->qx f xs<=k*xs.length
 |[],_=>nZl _
 | x::xs,h=>by
  have h1:=h x (by simp);have h2:=qC7 (xs:=xs) λy hy=>h y (by simp[hy]);simp only[qx,lCo,Nat.mul_add];omega
theorem ZJ{n:qE}(h:zF n=true):n.sz<=5400/\n.G.length<=600:=by
 have h1:n.G.length<=600:=by
  have:=h;unfold zF wL at this;simp only[bAt,Jz]at this;omega
 have h2:=qC7 (f:=qC.sz) (k:=8) λx hx=>qfK (J9 (Qi h) x hx);unfold qE.sz;omega
section
variable {w:Nat} {post:List AV} {base:Nat->Prop} {nid:Nat} {h:List qB} {N:Ags} {K:AV->List qB->Prop} {a b s c k:Nat} {x y:qC} {X:Nat->Nat->Prop} {bk:List qE} {R:Nat->Bool}
end
section
variable {w:Nat} {post:List AV} {base:Nat->Prop} {nid aid:Nat} {h:List qB} {N M:Ags} {K:AV->List qB->Prop} {a b s c k:Nat} {x y:qC} {R:Nat->Bool}
end
section
variable {w:Nat} {post:List AV} {base:Nat->Prop} {nid:Nat} {h:List qB} {N:Ags} {K:AV->List qB->Prop} {a s c k:Nat}
end
def lvA(by':Int)(x:qC):qC:=if jQ x.K then{x with L:=x.L+by'}else x
def wT(by':Int)(x:qC):Bool:= !jQ x.K || decide (x.L+by'<=8)
def JN(n:qE)(by':Int):qE×Bool:=if n.G.all (wT by')then(⟨n.G.map (lvA by')⟩,true)else(⟨[]⟩,false)
def QL(r:qE×Bool):AV:=.tup [r.1.enc,.bool r.2]
def Jb(by':Int)(xs:Ags)(i:Nat):Ags:=(xs.take i).map (lvA by')++xs.drop i
theorem Wg:∀{N:Ags}{m k:Nat}{x:qC},N[k]?=some x->(qT (N.map qC.enc) m).1[k]?=some (.agg [.int .i64 x.K,.int .i64 x.L,.int .i64 x.V,sQ 1 (m+2*k) x.D.length,sQ 2 (m+2*k+1) x.P.length])
 | y::ys,m,0,x,h=>by
  cases h;simp only[lMc,qT,qC.layE,AV.rows,qpZ,nZa,List.getElem?_cons_zero,Nat.mul_zero,nAz]
 | y::ys,m,k+1,x,h=>by
  have:=Wg (N:=ys) (m:=m+2) (k:=k) (x:=x) h;simp only[lMc,qT,qC.layE,layP,layD,lCa,lNa,lCo,lNi,List.getElem?_cons_succ];rw[show m+2*(k+1)=m+2+2*k by omega];exact this
theorem qeM:∀{A B:Ags}{m:Nat},A.map (λx=>(x.D,x.P))=B.map (λx=>(x.D,x.P))->(qT (A.map qC.enc) m).2=(qT (B.map qC.enc) m).2
 |[],[],_,_=>rfl
 |[],_::_,_,h=>by simp at h
 | _::_,[],_,h=>by simp at h
 | x::A,y::B,m,h=>by
  simp only[lMc,List.cons.injEq,Prod.mk.injEq]at h;simp only[lMc,qT,qC.layE,layP,layD,h.1.1,h.1.2,lCa,lNa,lCo,lNi,qeM (A:=A) (B:=B) h.2]
theorem qnJ{by':Int}{x:qC}:((lvA by' x).D,(lvA by' x).P)=(x.D,x.P):=by unfold lvA;split<;>rfl
theorem qnU{by':Int}{xs:Ags}{i:Nat}(h:i<xs.length):(Jb by' xs i)[i]?=some xs[i]:=by
 unfold Jb;rw[gAr (by simp;omega)];simp only[lMp,lLt,Nat.min_eq_left (Nat.le_of_lt h),nSs,gDr,nAz];exact gEg h
theorem qnV{by':Int}{xs:Ags}{i:Nat}(h:i<xs.length):(Jb by' xs i).set i (lvA by' xs[i])=Jb by' xs (i+1):=by
 unfold Jb;rw[lSr _ _ (by simp;omega)];simp only[lMp,lLt,Nat.min_eq_left (Nat.le_of_lt h),nSs];rw[lDc h,lSz,lTs h,lMa];simp only[lMc,List.map_nil,lAa,lCa,lNa]
theorem qnC{N:Ags}{m k:Nat}{x y:qC}(hx:N[k]?=some x)(e1:y.D=x.D)(e2:y.P=x.P):
  (qT (N.map qC.enc) m).1.set k (.agg [.int .i64 y.K,.int .i64 y.L,.int .i64 y.V,sQ 1 (m+2*k) x.D.length,sQ 2 (m+2*k+1) x.P.length])=(qT ((N.set k y).map qC.enc) m).1:=by
 have hk:=qp hx;refine List.ext_getElem? λi=>?_;rcases Nat.lt_or_ge i N.length with q | q
 ·by_cases e:i=k
  ·subst e;rw[gSs (by rw[Jk];simpa using hk),Wg (x:=y) (gSs hk),e1,e2]
  ·rw[gSn (Ne.symm e),Wg (gEg q),Wg (x:=N[i]) (by rw[gSn (Ne.symm e)];exact gEg q)]
 ·rw[gEn (by rw[lLs,Jk];simpa using q),gEn (by rw[Jk];simpa using q)]
theorem qfU(r:qE×Bool):(QL r).pl=true:=by unfold QL;simp[AV.pl,AV.pls,qE.plx]
theorem qqO{h:List qB}:XF (some [.agg [.nils],.bool false]) h (QL (⟨[]⟩,false)):=by
 refine⟨[none],rfl,⟨.ph,trivial⟩, ?_⟩;have a:VR2 [none] (.agg [.nils]) (.agg [sQ 5 0 0]):=.agg rfl (VR2s.cons (.ph rfl) VR2s.nil).2;exact .tup rfl (VR2s.cons a (VR2s.cons (.tree rfl) VR2s.nil)).2
theorem qe4(n:qE)(b:Int)(hz:n.sz<=1048576)(hb:0<=b/\b<=8)(hl:∀x∈n.G,0<=x.L/\x.L<=8):Fresh Gm 1456 [n.enc,.int .i64 b] (QL (JN n b)):=by
 refine fI KZ (by simp[AV.trees,AV.tree,qE.tr]) (qfU _) ?_;simp only[KZ,qN,go_sem];refine qW rfl ?_;simp only[go_sem];refine Ju (n798 n hz) ?_;simp only[lNa,lNi];have eL:(lay n.enc 0)=(.agg [sQ 5 0 n.G.length],.row 5 (qT (n.G.map qC.enc) 1).1 true::(qT (n.G.map qC.enc) 1).2):=by rw[qE.layE,lAn];rfl
 rw[eL];simp only[go_sem];unfold qE.sz at hz;refine Sem.loop (λi:Nat=>i<=n.G.length/\(n.G.take i).all (wT b)=true) (λi=>(⟨[(1,.int .i64 b),(13,.int .i64 (n.G.length:Nat)),(14,.int .i64 (i:Nat))],[(6,.agg [sQ 5 0 n.G.length]),(4,.agg [.nils])],.row 5 (qT ((Jb b n.G i).map qC.enc) 1).1 true::(qT (n.G.map qC.enc) 1).2⟩:VSt)) (λi=>n.G.length-i) 0 (by kernel_rfl) ⟨nZl _,by simp⟩ (by rw[show Jb b n.G 0=n.G by simp[Jb]];exact csA) ?_;rintro i ⟨hi,hI⟩;simp only[go_sem];apply qS<;>intro hc<;>simp only[hc,go_sem]
 ·have hlt:i<n.G.length:=by have:=odT hc;omega
  clear hc;have hx:=qnU (by':=b) hlt;have hg:=Wg (m:=1) hx;have hlx:=hl _ (gMm hlt);have ms:=qnV (by':=b) hlt;have al:(n.G.take (i+1)).all (wT b)=((n.G.take i).all (wT b)&&wT b n.G[i]):=by rw[lTs hlt,List.all_append];simp only[lAc,List.all_nil,Bool.and_true]
  rw[hI,Bool.true_and]at al;have alf:wT b n.G[i]=false->n.G.all (wT b)=false:=λe=>by
   rw[<-Bool.not_eq_true,lAt];intro q;have:=q _ (gMm hlt);rw[e]at this;cases this
  generalize n.G[i]=x at hx hg hlx ms al alf;simp only[qmR hlt,hg,go_sem];refine qI qAK ?_;simp only[go_sem];apply qS<;>intro hc<;>simp only[hc,go_sem]
  ·have hv:jQ x.K=false:=by simpa using hc
   have e1:lvA b x=x:=by unfold lvA;simp[hv]
   rw[e1]at ms;have e2:(Jb b n.G i).set i x=Jb b n.G i:=by
    refine List.ext_getElem? λj=>?_;by_cases e:j=i
    ·subst e;rw[gSs (qp hx),hx]
    ·rw[gSn (Ne.symm e)]
   rw[e2]at ms;rw[ms];simp only[wuA (n:=i)];refine qa (i+1) ⟨by omega, ?_⟩ (by omega) csA;rw[al];unfold wT;simp[hv]
  ·have hv:jQ x.K=true:=by simpa using hc
   clear hc;have e1:lvA b x={x with L:=x.L+b}:=by unfold lvA;simp[hv]
   have ew:IntKind.i64.wrap (x.L+b)=x.L+b:=wsA;simp only[hg,ew,go_sem];refine jF (e':=.agg [.int .i64 x.K,.int .i64 (x.L+b),.int .i64 x.V,sQ 1 (1+2*i) x.D.length,sQ 2 (1+2*i+1) x.P.length]) rfl (by rfl) hg rfl ?_;simp only[lSz];have es:=qnC (m:=1) (y:={x with L:=x.L+b}) hx rfl rfl;simp only at es;rw[es,<-e1,ms];have hx2:(Jb b n.G (i+1))[i]?=some (lvA b x):=by rw[<-ms,gSs (qp hx)]
   have hg2:=Wg (m:=1) hx2;rw[e1]at hg2;simp only at hg2;simp only[hg2,go_sem];apply qS<;>intro hc<;>simp only[hc,go_sem]
   ·have eo:wT b x=false:=by unfold wT;have:=odT hc;simp[hv];omega
    have er:JN n b=(⟨[]⟩,false):=by unfold JN;rw[alf eo];rfl
    rw[er];exact qqO
   ·have eo:wT b x=true:=by unfold wT;have:=odF hc;simp[hv];omega
    simp only[wuA (n:=i)];refine qa (i+1) ⟨by omega, ?_⟩ (by omega) csA;rw[al,eo]
 ·have hlt:i=n.G.length:=by have:=odF hc;omega
  subst hlt;rw[lTl]at hI;have er:JN n b=(⟨n.G.map (lvA b)⟩,true):=by unfold JN;rw[hI];rfl
  have em:Jb b n.G n.G.length=n.G.map (lvA b):=by simp[Jb]
  rw[er,em];have e2:(qT (n.G.map qC.enc) 1).2=(qT ((n.G.map (lvA b)).map qC.enc) 1).2:=(qeM (by rw[List.map_map];exact List.map_congr_left λx _=>qnJ)).symm;rw[e2];refine Xe (pre:=[]) (post:=[]) (qfU _) ?_ ?_
  ·simp[ja,QL,lay,qT,qE.layE]
  ·simp[QL,lay,qT,qE.layE]
theorem qmO{m:Int}(h0:0<=m){xs:Ags}(h:∀x∈xs,x.L<=m):hiI xs<=m:=by
 have key:∀(xs:Ags)(k:Int),k<=m->(∀x∈xs,x.L<=m)->xs.foldl (λm x=>if x.L<m then m else x.L) k<=m:=by
  intro xs
  induction xs with
  | nil=>intro k h1 _;exact h1
  | cons y ys ih=>
   intro k h1 h2;have:=h2 y (by simp);exact ih _ (by simp only;split<;>omega) λx hx=>h2 x (by simp[hx])
 exact key xs 0 h0 h
theorem Vt{t:qE}{lev:Int}(ht:zF t=true)(hl:0<=lev/\lev<=8):t.G.all (wT lev)=true↔¬8<IntKind.i64.wrap (hiI t.G+lev):=by
 have hb:=qmM (xs:=t.G) λx hx=>QJ (J9 (Qi ht) x hx);rw[wsA,lAt];constructor
 ·intro h;have:=qmO (m:=8-lev) (by omega) (xs:=t.G) λx hx=>by
   have h1:=h x hx;unfold wT at h1;have h2:=J4 (J9 (Qi ht) x hx);unfold zw at h2;by_cases q:jQ x.K=true
   ·simp[q]at h1;omega
   ·rw[iN q]at h2;simp at h2;omega
  omega
 ·intro h x hx;have:=qmN hx;unfold wT;simp;right;omega
section
variable {w:Nat} {post:List AV} {bk:List qE} {bid:Nat} {es:List (AV×AV)} {base:Nat->Prop} {mid nid:Nat} {h:List qB} {N:Ags} {K:AV->List qB->Prop} {a b s c k:Nat} {x y:qC}
theorem Xj{v:Int}(h0:0<=v)(h1:v<bk.length):idx 1 (some (.lst 1 (bk.map qE.enc) false)) (some (.int .i64 v))=some (.ept (qr bk v).enc 0):=by
 have lv:v.toNat<bk.length:=by omega
 have e:v=((v.toNat:Nat):Int):=by omega
 unfold qr;generalize v.toNat=n at e lv;subst e;rw[qd5,gMp,gEg lv];rfl
def wU(bk:List qE)(x y:qC)(a b:Nat):AV:=if (Jj bk x y).2=0 then .tup [.int .i64 (za x y),.int .i64 (a:Nat),.int .i64 (b:Nat),.int .i64 0]else .tup [.int .i64 0,.int .i64 0,.int .i64 0,.int .i64 (Jj bk x y).2]
theorem qmG(h:za x y=8):(Jj bk x y).2=11:=by unfold Jj;rw[iP h]
theorem qmF(h:za x y=7)(q:(bk.length:Int)<=x.V):(Jj bk x y).2=3:=by unfold Jj;rw[iN (by omega),iP ⟨h,q⟩]
theorem qmH(h:za x y=7)(q:¬(bk.length:Int)<=x.V)(r:8<IntKind.i64.wrap (hiI (qr bk x.V).G+x.L)):(Jj bk x y).2=9:=by unfold Jj;rw[iN (by omega),iN (by omega),iP ⟨h,r⟩]
theorem qdZ(h8:za x y≠8)(q:za x y=7->¬(bk.length:Int)<=x.V/\¬8<IntKind.i64.wrap (hiI (qr bk x.V).G+x.L)):(Jj bk x y).2=0:=by
 unfold Jj;rw[iN h8,iN (λe=>(q e.1).1 e.2),iN (λe=>(q e.1).2 e.2)]
end
section
variable {m:qH} {lev b:Int} {t:qE} {x:qC}
theorem qoH{k l v:Int}{d:List Int}{p q:List qM}(h:p.length=q.length):qg ⟨k,l,v,d,p⟩=qg ⟨k,l,v,d,q⟩:=by
 simp only[qg,fieldsOf,jB,h]
theorem qiM(oa:qg x=true)(k1:x.K≠1)(hl:jQ x.K=true->inI (x.L+lev) 0 8=true):qt x.K=true/\∀ws:List qF,ws.length=x.P.length-1->zr {agC lev x with W:=ws}:=by
 have hk:qt x.K=true:=by
  have h1:zw x.K x.L=true:=by
   unfold qg at oa;simp only[bAt]at oa;exact oa.1.2
  have h2:JX x.K=true:=by
   unfold zw at h1;split at h1
   ·next q=>unfold jQ at q;unfold JX inI;simp at q|-;omega
   ·simp only[bAt]at h1;exact h1.1
  unfold JX inI at h2;simp only[qt,bAt,dTe]at h2|-;omega
 refine⟨hk,λws hw=>.inl ⟨hk, ?_⟩⟩;have s:=qfJ (base:=0) oa hl;have hp:=(QK oa).2;have e:qg (qX {agC lev x with W:=ws})=qg (QO lev 0 x):=by
  unfold qX agC QO;exact qoH (by simp;omega)
 rw[e];exact s
theorem qDA(ok:zF t=true)(hl:0<=lev/\lev<=8)(h8:¬8<IntKind.i64.wrap (hiI t.G+lev))(i:Nat)(x:qC)(hx:t.G[i+1]?=some x):qt x.K=true/\∀ws:List qF,ws.length=x.P.length-1->zr {agC lev x with W:=ws}:=by
 have oa:=Zp ok hx;have hi:=qp hx;refine qiM oa (λe=>?_) λq=>?_
 ·have:=(qB2 ok (i+1) hi).1 (by
   rw[gEg hi]at hx;rw[Option.some.inj hx];exact e)
  omega
 ·have h1:=(Vt ok hl).2 h8;have h2:=lAt.1 h1 x (lMo hx);have h3:=Va oa q;unfold wT at h2;simp only[inI,bAt,dTe]at h3|-;simp[q]at h2;omega
end
def dW(N:List qC)(T:qM->qF)(D:qM->Bool)(i:Nat):List qF:=match N[i+1]? with
 | some x=>(List.range (x.P.length-1)).map λs=>if D (pt (i+1) (s+1))=true then T (pt (i+1) (s+1))else w0
 | none=>[]
def je(D:qM->Bool)(p:qM):qM->Bool:=λq=>decide (q=p) || D q
section
variable {N:List qC} {T:qM->qF} {D D':qM->Bool} {i j k s n:Nat} {x:qC} {m m0:qH} {ks vs:List Nat} {c:qD} {lev:Int} {P:List qF} {O:Nat->Bool} {f:Nat->List qF}
theorem Ys(hx:N[i+1]?=some x):dW N T D i=(List.range (x.P.length-1)).map λs=>if D (pt (i+1) (s+1))=true then T (pt (i+1) (s+1))else w0:=by unfold dW;rw[hx]
theorem qcX(hx:N[i+1]?=some x):(dW N T D i).length=x.P.length-1:=by rw[Ys hx];simp
theorem qlJ(hx:N[i+1]?=some x)(hs:s+1<x.P.length):(dW N T D i).set s (T (pt (i+1) (s+1)))=dW N T (je D (pt (i+1) (s+1))) i:=by
 rw[Ys hx,Ys hx];refine List.ext_getElem (by simp) λq h1 h2=>?_;rw[List.getElem_set];simp only[List.getElem_map,List.getElem_range,je,Bool.or_eq_true,dTe];by_cases e:s=q
 ·subst e;simp
 ·have:pt (i+1) (q+1)≠pt (i+1) (s+1):=λz=>e (by have:=(ZN.1 z).2;omega);simp[e,this]
theorem qlI(h:j≠i):dW N T (je D (pt (i+1) (s+1))) j=dW N T D j:=by
 unfold dW;cases N[j+1]? with
 | none=>rfl
 | some y=>
  refine List.map_congr_left λq _=>?_;have:pt (j+1) (q+1)≠pt (i+1) (s+1):=λz=>h (by have:=(ZN.1 z).1;omega);simp[je,this]
theorem qA4(h:∀a s,Has N a s->0<a->0<s->D (pt a s)=D' (pt a s)):dW N T D=dW N T D':=by
 funext i;unfold dW;cases hx:N[i+1]? with
 | none=>rfl
 | some y=>
  refine List.map_congr_left λq hq=>?_;rw[lMr]at hq;rw[h (i+1) (q+1) (ju.2 ⟨y,hx,by omega⟩) (by omega) (by omega)]
theorem XX{a:Nat}(h:a=0\/s=0):dW N T (je D (pt a s))=dW N T D:=qA4 λa' s' _ h1 h2=>by
 have:pt a' s'≠pt a s:=λz=>by have:=ZN.1 z;omega
 simp[je,this]
theorem qcY{a:Nat}{p:qM}(h:a=0\/s=0):dW N T (je (je D (pt a s)) p)=dW N T (je D p):=qA4 λa' s' _ h1 h2=>by
 have:pt a' s'≠pt a s:=λz=>by have:=ZN.1 z;omega
 simp[je,this]
theorem QA{b:Nat}{a ka:Nat}(h:ks[a]?=some ka):atF b ks (a+1)=ka:=by simp[atF,lGd,h]
theorem qgC(nd:ks.Nodup)(hk:ks[i]?=some k)(hc:m.C[k]?=some c)(hx:N[i+1]?=some x)(hs:s+1<x.P.length):
  qo (ovM m (gkw ks (dW N T D))) (k:Int) ((dW N T D i).set s (T (pt (i+1) (s+1))))=ovM m (gkw ks (dW N T (je D (pt (i+1) (s+1))))):=by
 rw[Wq hc,qdS nd hk,qlJ hx hs];congr 1;refine qBK λj _=>?_;split
 ·next e=>rw[e]
 ·next e=>rw[qlI e]
theorem qcW(h:∀a s,Has N a s->0<a->0<s->D (pt a s)=true):dW N T D=fW N T:=by
 rw[qA4 (D':=λ_=>true) h];funext i;unfold dW fW;cases N[i+1]? with
 | none=>rfl
 | some y=>simp
theorem qB9(nd:ks.Nodup)(hk:ks[i]?=some k)(hc:m.C[k]?=some c):(ovM m (gkw ks f)).C[k]?=some {c with W:=f i}:=by
 rw[J5,hc,oMs,qB8 (Y5 nd hk)]
theorem qfV(nd:ks.Nodup)(hl:ks.length+1<=N.length)(hc:∀(j k:Nat)(x:qC),ks[j]?=some k->N[j+1]?=some x->m.C[k]?=some (agC lev x)):ovM m (gkw ks (dW N T λ_=>false))=m:=by
 refine Yk (λq=>?_) rfl rfl rfl;rw[J5];by_cases hm:q∈ks
 ·obtain⟨j,hj⟩:=List.getElem?_of_mem hm;have hx:=gEg (show j+1<N.length by have:=qp hj;omega);have e:=hc j q _ hj hx;rw[e,oMs,qB8 (Y5 nd hj),Ys hx];simp[agC,List.map_const']
 ·cases m.C[q]? with
  | none=>rfl
  | some d=>rw[oMs,qB7 (Zh hm)]
theorem Vz:∀n,(tkV m n).2.length=n
 | 0=>rfl
 | n+1=>by rw[tkV,lAp,Vz n];rfl
theorem qhT:∀n,i<n->((tkV m n).2)[i]?=some (tkV m i).1.F
 | n+1,h=>by
  rw[tkV];by_cases e:i=n
  ·subst e;rw[gAr (by rw[Vz];omega),Vz,nSs];rfl
  ·rw[gAl (by rw[Vz];omega)];exact qhT n (by omega)
theorem qhV(h:MM m P (inO O ks))(J:TkV m P (inO O ks) vs (tkV m n) n)(hn:n<=nF m.C)(hi:i<n):∃v,vs[i]?=some v/\(tkV m i).1.F=(v:Int)/\(∃d,(ovM (tkV m i).1 (gkw ks f)).C[v]?=some d)/\qR (ovM (tkV m i).1 (gkw ks f)) (qd [])=ovM (tkV m (i+1)).1 (gkw ks f):=by
 obtain⟨us,K⟩:=V0 h i (by omega);obtain⟨v,d,a1,a2,a3,a4,a5⟩:=wX K.mm (by have:=K.nf;omega);have hv:=qhT (m:=m) n hi;rw[J.at',nI2,gMp,oMi]at hv;obtain⟨v',b1,b2⟩:=hv;rw[a1]at b2;have:v'=v:=by omega
 subst this;have hn:v'∉ks:=λq=>by simp[inO,q]at a4
 exact⟨v',b1,a1,⟨_,by rw[J5,a2];rfl⟩,qfW a1 (Zh hn)⟩
theorem qhU(h:MM m P (inO O ks))(hi:i<=nF m.C)(hc:m.C[k]?=some c)(h0:c.K≠0):(tkV m i).1.C[k]?=some c:=by
 obtain⟨us,K⟩:=V0 h i hi;exact(K.keep k c hc h0).1
def onW(ws:List zU):qM->Bool:=λq=>ws.any λw=>decide (q=w.A) || decide (q=w.B)
theorem qfM:onW []=λ_=>false:=rfl
theorem qfN{ws:List zU}{w:zU}:onW (ws++[w])=je (je (onW ws) w.A) w.B:=by
 funext q;simp only[onW,je,List.any_append,List.any_cons,List.any_nil,Bool.or_false];cases decide (q=w.A)<;>cases decide (q=w.B)<;>simp
theorem qDD{w:zU}:w∈zC N↔w.A∈qi N/\w.B=qO N w.A/\bef w.A w.B=true:=by
 unfold zC wrs;rw[List.mem_map];constructor
 ·rintro⟨p,h,rfl⟩;rw[mFi]at h;exact⟨h.1,rfl,h.2⟩
 ·rintro⟨h1,h2,h3⟩;refine⟨w.A,mFi.2 ⟨h1,by rw[<-h2];exact h3⟩, ?_⟩;rw[<-h2]
theorem qdI{α:Type}{p:α->Bool}:∀{l:List α}{j:Nat}{x:α},l[j]?=some x->p x=true->(l.filter p)[(l.take j).countP p]?=some x
 |[],j,x,h,_=>by simp at h
 | a::l,0,x,h,hp=>by
  simp only[List.getElem?_cons_zero,oSi]at h;subst h;rw[List.filter_cons_of_pos hp];rfl
 | a::l,j+1,x,h,hp=>by
  have ih:=qdI (l:=l) (j:=j) (by simpa using h) hp;rw[List.take_succ_cons,List.countP_cons];cases ha:p a
  ·rw[List.filter_cons_of_neg (by rw[ha];decide)];simpa using ih
  ·rw[List.filter_cons_of_pos ha];simpa using ih
theorem qfZ{p:qL}:∀{i:Nat},p∈zB N i->1<=p.A/\p.A<p.B
 | 0,h=>by cases h
 | i+1,h=>by
  rcases jR.1 h with h | h
  ·exact qfZ h
  ·unfold Jf at h;split at h
   ·split at h
    ·cases h
    ·split at h
     ·split at h
      ·next q=>simp only[lMg]at h;subst h;simp only;omega
      ·cases h
     ·cases h
   ·cases h
theorem qfY{n:qE}{p:qL}{i:Nat}(ok:zF n=true)(h:p∈zB n.G i):∃a c:Nat,p=⟨(a+1:Nat),(c+1:Nat)⟩/\a+1<n.G.length/\c+1<n.G.length:=by
 obtain⟨a,c,rfl,h1,h2⟩:=qf0 ok h;have:=qfZ h;simp only at this;exact⟨a-1,c-1,by rw[show a-1+1=a by omega,show c-1+1=c by omega],by omega,by omega⟩
theorem Vk{ps:List (Nat×Nat)}{a b:Nat}:wW m (ps++[(a,b)])=Jo (wW m ps) a b:=by simp[wW]
theorem X5:∀{ps:List (Nat×Nat)}{m:qH},(wW m ps).R.length=m.R.length+ps.length
 |[],m=>rfl
 | p::ps,m=>by
  show (wW (Jo m p.1 p.2) ps).R.length=_;rw[X5];simp[Jo];omega
theorem qfL(hW:W N λ_ _=>False){p:qM}(h:p∈qi N):onW (zC N) p=true:=by
 have Q:=jx hW h;unfold onW;rw[List.any_eq_true];cases hb:bef p (qO N p)
 ·refine⟨⟨qO N p,p⟩,qDD.2 ⟨Q.m,Q.pp.symm, ?_⟩,by simp⟩;have:=XM Q.ne.symm;rw[hb]at this;simpa using this
 ·exact⟨⟨p,qO N p⟩,qDD.2 ⟨h,rfl,hb⟩,by simp⟩
end
section
variable {w:Nat} {post:List AV} {base:Nat->Prop} {nid:Nat} {h:List qB} {N:Ags} {K:AV->List qB->Prop} {a b s c k:Nat} {x y:qC} {X:Nat->Nat->Prop}
end
section
variable {N M A:Ags} {a b c d s k t u:Nat} {x y:qC} {lev v:Int} {X:Nat->Nat->Prop}
end
section
variable {w:Nat} {post:List AV} {base:Nat->Prop} {nid:Nat} {h:List qB} {N:Ags} {K:AV->List qB->Prop} {a b s c k:Nat} {x y:qC} {X:Nat->Nat->Prop}
end
section
variable {w:Nat} {post:List AV} {base:Nat->Prop} {nid:Nat} {h:List qB} {N:Ags} {K:AV->List qB->Prop} {a b s c k:Nat} {x y:qC} {X:Nat->Nat->Prop}
end
section
variable {w:Nat} {post:List AV} {base:Nat->Prop} {nid aid:Nat} {h:List qB} {N:Ags}
end
section
variable {w:Nat} {post:List AV} {base:Nat->Prop} {nid:Nat} {h:List qB} {N:Ags} {K:AV->List qB->Prop} {a b s c k:Nat} {x y:qC} {X:Nat->Nat->Prop} {t:qE}
theorem qqN{lev d:Int}{z:qC}:Q0 (QO lev d z)=Q0 (lvA lev z):=by unfold QO lvA;split<;>simp[Q0]
end
section
variable {w:Nat} {post:List AV} {bk:List qE} {bid:Nat} {es:List (AV×AV)} {base:Nat->Prop} {mid nid lid:Nat} {h:List qB} {N:Ags} {K:AV->List qB->Prop} {a b s c k:Nat} {x y:qC} {ks rem:List Nat}
end
section
variable {e:Env} {w i:Nat} {el:List AV} {v:AV} {x:Ao} {r:List (Nat×Ao)}
@[go_sem] theorem qsJ{a b:AV}(h:v.cells.length=w):fil e w [a,b] 0 (some v) r=z9 e w [v,b] r:=by
 show (if v.cells.length=w/\0<2 then _ else _)=_;rw[iP ⟨h,by omega⟩];rfl
@[go_sem] theorem qsK{a b:AV}(h:v.cells.length=w):fil e w [a,b] 1 (some v) r=z9 e w [a,v] r:=by
 show (if v.cells.length=w/\1<2 then _ else _)=_;rw[iP ⟨h,by omega⟩];rfl
@[go_sem] theorem rep2{v:AV}:List.replicate 2 v=[v,v]:=nr rfl
end
section
variable {w:Nat} {post:List AV} {bk:List qE} {bid:Nat} {es:List (AV×AV)} {base:Nat->Prop} {mid nid lid A B:Nat} {h:List qB} {N:Ags} {K:AV->List qB->Prop} {a b s c k:Nat} {x y u v:qC} {ks rem:List Nat} {R:Nat->Bool}
end
section
variable {w:Nat} {post:List AV} {base:Nat->Prop} {nid lid:Nat} {h:List qB} {N:Ags} {K:AV->List qB->Prop} {R:Nat->Bool}
end
@[go_sem] theorem qrZ{w:Nat}:(AV.map w).cells=[.map w]:=rfl
section
variable {w:Nat} {post:List AV} {bk:List qE} {bid:Nat} {base:Nat->Prop} {nid mid:Nat} {h:List qB} {N:Ags} {K:AV->List qB->Prop} {R:Nat->Bool} {ks:List Nat}
end
section
variable {r:Nat->Nat} {R:Nat->Bool} {N M:Ags} {a b c d s t k f n:Nat} {x y:qC} {lab lev v:Int} {X:Nat->Nat->Prop}
end
section
variable {r:Nat->Nat} {R:Nat->Bool} {N M:Ags} {a b c d s t k f n:Nat} {x y:qC} {lab lev v:Int} {X:Nat->Nat->Prop}
end
section
variable {r:Nat->Nat} {R:Nat->Bool} {bk:List qE} {N M:Ags} {a b c d s k f n:Nat} {x y:qC} {t:qE} {lev v:Int} {X:Nat->Nat->Prop}
end
section
variable {R D D':Nat->Bool} {bk:List qE} {N M:Ags} {a b c d s k f n:Nat} {x y:qC}
end
section
variable {R:Nat->Bool} {bk:List qE} {N A:Ags} {a b c d s k u:Nat} {x y:qC}
end
section
variable {R:Nat->Bool} {N:Ags} {bk:List qE} {sch:List Int} {k:Nat}
end
section
variable {R:Nat->Bool} {N:Ags} {bk:List qE} {sch:List Int} {k a b:Nat} {x y:qC}
end
section
variable {R:Nat->Bool} {bk:List qE} {N:Ags} {a b:Nat} {x y:qC}
end
section
variable {w:Nat} {post:List AV} {bk:List qE} {bid:Nat} {base:Nat->Prop} {nid mid bx rid oid n:Nat} {h:List qB} {N:Ags} {K:AV->List qB->Prop} {R:Nat->Bool} {ks:List Nat} {rest:List AV}
end
section
variable {α:Type} {p:α->Bool}
end
section
variable {oid n f:Nat} {h:List qB} {K:AV->List qB->Prop} {caps:List AV} {p:qL->Bool} {xs:List qL}
end
section
variable {Γ:Nat->Option AFn} {g:Nat} {vs:List AV} {h:List qB} {K:AV->List qB->Prop}
end
abbrev ZL:=List (Nat×List Int)
abbrev ids(rid:Nat)(Z:ZL):List Nat:=rid::Z.map (·.1)
section
variable {bk:List qE} {bid b rid nid mid:Nat} {ks:List Nat} {R:Nat->Bool} {N:Ags} {Z:ZL} {h h' h0:List qB} {K:AV->List qB->Prop}
end
section
variable {bk:List qE} {bid b rid nid mid:Nat} {ks:List Nat} {R:Nat->Bool} {N:Ags} {Z:ZL} {h h' h0:List qB} {K:AV->List qB->Prop}
def Qe(c:List Int)(x:Int):List Int:=c.set (x-1).toNat (c.getD (x-1).toNat 0+1)
def jm(T:List Int):List Int:=T.foldl Qe (List.replicate 7 0)
theorem qkZ{T:List Int}{x:Int}:jm (T++[x])=Qe (jm T) x:=by unfold jm;rw[List.foldl_append];rfl
theorem qkY{T:List Int}:(jm T).length=7:=by
 have:∀(T:List Int)(c:List Int),(T.foldl Qe c).length=c.length:=by
  intro T
  induction T with
  | nil=>intro c;rfl
  | cons x T ih=>intro c;rw[List.foldl_cons,ih];simp[Qe]
 unfold jm;rw[this];rfl
theorem qmT{c:List Int}{x:Int}{m:Int}(h0:0<=m)(h:∀y∈c,0<=y/\y<=m):∀y∈Qe c x,0<=y/\y<=m+1:=by
 intro y hy;unfold Qe at hy;rcases List.mem_or_eq_of_mem_set hy with q | q
 ·have:=h y q;omega
 ·subst q;rw[lGd];cases e:c[(x-1).toNat]? with
  | none=>simp;omega
  | some z=>have:=h z (lMo e);simp;omega
theorem qkX{T:List Int}:∀y∈jm T,0<=y/\y<=(T.length:Int):=by
 have:∀(T:List Int)(c:List Int)(m:Int),0<=m->(∀y∈c,0<=y/\y<=m)->∀y∈T.foldl Qe c,0<=y/\y<=m+T.length:=by
  intro T
  induction T with
  | nil=>intro c m _ h y hy;have:=h y hy;simp;omega
  | cons x T ih=>
   intro c m h0 h y hy;have:=ih (Qe c x) (m+1) (by omega) (qmT h0 h) y hy;simp;omega
 intro y hy;have:=this T _ 0 (by omega) (λy hy=>by simp at hy;omega) y hy;omega
end
section
variable {bk:List qE} {bid b rid nid mid:Nat} {ks:List Nat} {R:Nat->Bool} {N:Ags} {Z:ZL} {h h':List qB} {K:AV->List qB->Prop} {i id:Nat} {xs ys:List Int} {v:Int}
end
section
variable {bk:List qE} {bid b rid nid mid cid tid uid eid A B a c:Nat} {ks:List Nat} {R:Nat->Bool} {N:Ags} {Z:ZL} {h h':List qB} {K:AV->List qB->Prop} {T U E:List Int} {x y u v:qC}
end
structure zT where
 Id:Int
 Weight:Int
 State:Int
 Code:Int
 Left:Int
 Slices:Int
 U:List Int
 Q:List Int
 Y:List qE
 Net:qE
def zT.enc(x:zT):AV:=.agg [iI x.Id,iI x.Weight,iI x.State,iI x.Code,iI x.Left,iI x.Slices,lQ x.U,lQ x.Q,.lst 1 (x.Y.map qE.enc) false,.lst 5 (x.Net.G.map qC.enc) false]
theorem zT.isSh:Sh zT.enc 10 (some 10):=⟨λx=>by simp[zT.enc,AV.tree,AV.trees,qb qC.isSh.tree,qb qE.isSh.tree,qb shI.tree],λ_=>rfl,λ_=>rfl,by decide,λx=>by simp[zT.enc]⟩
section
variable {x:zT}
@[go_sem] theorem zT.tr:x.enc.tree=true:=zT.isSh.tree x
@[go_sem] theorem zT.ln:x.enc.cells.length=10:=nr rfl
@[go_sem] theorem zT.all:x.enc.part 0 (some 10)=some x.enc:=nr rfl
@[go_sem] theorem zT.cs:x.enc.cells=[iI x.Id,iI x.Weight,iI x.State,iI x.Code,iI x.Left,iI x.Slices,lQ x.U,lQ x.Q,.lst 1 (x.Y.map qE.enc) false,.lst 5 (x.Net.G.map qC.enc) false]:=nr rfl
@[go_sem] theorem zT.p0:x.enc.part 0 none=some (iI x.Id):=nr rfl
@[go_sem] theorem zT.p1:x.enc.part 1 none=some (iI x.Weight):=nr rfl
@[go_sem] theorem zT.p2:x.enc.part 2 none=some (iI x.State):=nr rfl
@[go_sem] theorem zT.p3:x.enc.part 3 none=some (iI x.Code):=nr rfl
@[go_sem] theorem zT.p4:x.enc.part 4 none=some (iI x.Left):=nr rfl
end
def zT.sz(x:zT):Nat:=x.U.length+x.Q.length+(x.Y.length+qx qE.sz x.Y)+qE.sz x.Net
def zT.bd(x:zT):Prop:=x.U.length<=140737488355328/\x.Q.length<=140737488355328/\x.Y.length<=140737488355328/\(∀y∈x.Y,qE.bd y)/\qE.bd x.Net
structure zq where
 Quantum:Int
 NextId:Int
 Turn:Int
 Jobs:List zT
def zq.enc(x:zq):AV:=.agg [iI x.Quantum,iI x.NextId,iI x.Turn,.lst 10 (x.Jobs.map zT.enc) false]
theorem zq.isSh:Sh zq.enc 4 (some 4):=⟨λx=>by simp[zq.enc,AV.tree,AV.trees,qb zT.isSh.tree],λ_=>rfl,λ_=>rfl,by decide,λx=>by simp[zq.enc]⟩
section
variable {x:zq}
@[go_sem] theorem zq.tr:x.enc.tree=true:=zq.isSh.tree x
@[go_sem] theorem zq.ln:x.enc.cells.length=4:=nr rfl
@[go_sem] theorem zq.all:x.enc.part 0 (some 4)=some x.enc:=nr rfl
@[go_sem] theorem zq.cs:x.enc.cells=[iI x.Quantum,iI x.NextId,iI x.Turn,.lst 10 (x.Jobs.map zT.enc) false]:=nr rfl
@[go_sem] theorem zq.p0:x.enc.part 0 none=some (iI x.Quantum):=nr rfl
@[go_sem] theorem zq.p1:x.enc.part 1 none=some (iI x.NextId):=nr rfl
@[go_sem] theorem zq.p2:x.enc.part 2 none=some (iI x.Turn):=nr rfl
@[go_sem] theorem zq.p3:x.enc.part 3 none=some (.lst 10 (x.Jobs.map zT.enc) false):=nr rfl
end
def zq.sz(x:zq):Nat:=(x.Jobs.length+qx zT.sz x.Jobs)
def zq.bd(x:zq):Prop:=x.Jobs.length<=140737488355328/\(∀y∈x.Jobs,zT.bd y)
theorem zT.plx(x:zT):x.enc.pl=true:=by simp[zT.enc,AV.pl,AV.pls,jb (enc:=qP) (λ_=>rfl),jb qC.plx,jb qE.plx]
theorem zT.cnx(x:zT):x.enc.cn=true:=by simp[zT.enc,AV.cn,AV.cns,wP (enc:=qP) (λ_=>rfl),wP qC.cnx,wP qE.cnx]
theorem zT.layE(x:zT)(n:Nat):lay x.enc n=(.agg [iI x.Id,iI x.Weight,iI x.State,iI x.Code,iI x.Left,iI x.Slices,sQ 1 (n) x.U.length,.slice 1 (n+AV.rows (lQ x.U)) 0 x.Q.length false,.slice 1 (n+AV.rows (lQ x.U)+AV.rows (lQ x.Q)) 0 x.Y.length false,.slice 5 (n+AV.rows (lQ x.U)+AV.rows (lQ x.Q)+AV.rows (.lst 1 (x.Y.map qE.enc) false)) 0 x.Net.G.length false],(lay (lQ x.U) (n)).2++((lay (lQ x.Q) (n+AV.rows (lQ x.U))).2++((lay (.lst 1 (x.Y.map qE.enc) false) (n+AV.rows (lQ x.U)+AV.rows (lQ x.Q))).2++((lay (.lst 5 (x.Net.G.map qC.enc) false) (n+AV.rows (lQ x.U)+AV.rows (lQ x.Q)+AV.rows (.lst 1 (x.Y.map qE.enc) false))).2++[])))):=by
 simp[zT.enc,lay,qT,wk,AV.rows,Nat.add_assoc,Nat.add_comm,Nat.add_left_comm]
theorem zT.rowsE(x:zT):x.enc.rows=AV.rows (lQ x.U)+AV.rows (lQ x.Q)+AV.rows (.lst 1 (x.Y.map qE.enc) false)+AV.rows (.lst 5 (x.Net.G.map qC.enc) false):=by simp[zT.enc,AV.rows,AV.rowss,Nat.add_assoc]
def zT.mrk(x:zT)(k:Int):zT:={Id:=k,Weight:=k+1,State:=k+1+1,Code:=k+1+1+1,Left:=k+1+1+1+1,Slices:=k+1+1+1+1+1,U:=mkL mkI ctI x.U (k+1+1+1+1+1+1),Q:=mkL mkI ctI x.Q (k+1+1+1+1+1+1+((qx ctI x.U:Nat):Int)),Y:=mkL qE.mrk qE.ct x.Y (k+1+1+1+1+1+1+((qx ctI x.U:Nat):Int)+((qx ctI x.Q:Nat):Int)),Net:={G:=mkL qC.mrk qC.ct x.Net.G (k+1+1+1+1+1+1+((qx ctI x.U:Nat):Int)+((qx ctI x.Q:Nat):Int)+((qx qE.ct x.Y:Nat):Int))}}
def zT.ct(x:zT):Nat:=1+1+1+1+1+1+qx ctI x.U+qx ctI x.Q+qx qE.ct x.Y+qx qC.ct x.Net.G
def zT.mkV(x:zT)(k:Int):zT:={Id:=x.Id,Weight:=x.Weight,State:=x.State,Code:=x.Code,Left:=x.Left,Slices:=x.Slices,U:=mkL mkI ctI x.U (k),Q:=mkL mkI ctI x.Q (k+((qx ctI x.U:Nat):Int)),Y:=mkL qE.mrk qE.ct x.Y (k+((qx ctI x.U:Nat):Int)+((qx ctI x.Q:Nat):Int)),Net:={G:=mkL qC.mrk qC.ct x.Net.G (k+((qx ctI x.U:Nat):Int)+((qx ctI x.Q:Nat):Int)+((qx qE.ct x.Y:Nat):Int))}}
def zT.ctV(x:zT):Nat:=qx ctI x.U+qx ctI x.Q+qx qE.ct x.Y+qx qC.ct x.Net.G
theorem zT.rowsM(x:zT)(k:Int):(x.mrk k).enc.rows=x.enc.rows:=by simp[zT.rowsE,zT.mrk,AV.rows,W1 qC.mrk qC.ct (enc:=qC.enc) qC.rowsM,W1 qE.mrk qE.ct (enc:=qE.enc) qE.rowsM,W1 mkI ctI (enc:=qP) (λ_ _=>rfl)]
theorem zT.rowsV(x:zT)(k:Int):(x.mkV k).enc.rows=x.enc.rows:=by simp[zT.rowsE,zT.mkV,AV.rows,W1 qC.mrk qC.ct (enc:=qC.enc) qC.rowsM,W1 qE.mrk qE.ct (enc:=qE.enc) qE.rowsM,W1 mkI ctI (enc:=qP) (λ_ _=>rfl)]
theorem zT.ctle(x:zT):x.ct<=16+16*x.sz:=by
 have h0:=qxD (c:=ctI) (λ_=>by simp[ctI]) x.U;have h1:=qxD (c:=ctI) (λ_=>by simp[ctI]) x.Q;have h2:=qxE (c:=qE.ct) (z:=qE.sz) qE.ctle x.Y;have h3:=qxE (c:=qC.ct) (z:=qC.sz) qC.ctle x.Net.G;simp only[zT.ct,zT.sz,qE.sz];omega
theorem zT.ctVle(x:zT):x.ctV<=16*x.sz:=by
 have h0:=qxD (c:=ctI) (λ_=>by simp[ctI]) x.U;have h1:=qxD (c:=ctI) (λ_=>by simp[ctI]) x.Q;have h2:=qxE (c:=qE.ct) (z:=qE.sz) qE.ctle x.Y;have h3:=qxE (c:=qC.ct) (z:=qC.sz) qC.ctle x.Net.G;simp only[zT.ctV,zT.sz,qE.sz];omega
theorem zq.plx(x:zq):x.enc.pl=true:=by simp[zq.enc,AV.pl,AV.pls,jb zT.plx]
theorem zq.cnx(x:zq):x.enc.cn=true:=by simp[zq.enc,AV.cn,AV.cns,wP zT.cnx]
theorem zq.layE(x:zq)(n:Nat):lay x.enc n=(.agg [iI x.Quantum,iI x.NextId,iI x.Turn,sQ 10 (n) x.Jobs.length],(lay (.lst 10 (x.Jobs.map zT.enc) false) (n)).2++[]):=by
 simp[zq.enc,lay,qT,wk,AV.rows,Nat.add_assoc,Nat.add_comm,Nat.add_left_comm]
theorem zq.rowsE(x:zq):x.enc.rows=AV.rows (.lst 10 (x.Jobs.map zT.enc) false):=by simp[zq.enc,AV.rows,AV.rowss,Nat.add_assoc]
def zq.mrk(x:zq)(k:Int):zq:={Quantum:=k,NextId:=k+1,Turn:=k+1+1,Jobs:=mkL zT.mrk zT.ct x.Jobs (k+1+1+1)}
def zq.ct(x:zq):Nat:=1+1+1+qx zT.ct x.Jobs
def zq.mkV(x:zq)(k:Int):zq:={Quantum:=x.Quantum,NextId:=x.NextId,Turn:=x.Turn,Jobs:=mkL zT.mrk zT.ct x.Jobs (k)}
def zq.ctV(x:zq):Nat:=qx zT.ct x.Jobs
theorem zq.rowsM(x:zq)(k:Int):(x.mrk k).enc.rows=x.enc.rows:=by simp[zq.rowsE,zq.mrk,AV.rows,W1 zT.mrk zT.ct (enc:=zT.enc) zT.rowsM]
theorem zq.rowsV(x:zq)(k:Int):(x.mkV k).enc.rows=x.enc.rows:=by simp[zq.rowsE,zq.mkV,AV.rows,W1 zT.mrk zT.ct (enc:=zT.enc) zT.rowsM]
theorem zq.ctle(x:zq):x.ct<=16+16*x.sz:=by
 have h0:=qxE (c:=zT.ct) (z:=zT.sz) zT.ctle x.Jobs;simp only[zq.ct,zq.sz];omega
theorem zq.ctVle(x:zq):x.ctV<=16*x.sz:=by
 have h0:=qxE (c:=zT.ct) (z:=zT.sz) zT.ctle x.Jobs;simp only[zq.ctV,zq.sz];omega
section
variable {S Sb Sn Sc Ss:List (Option Nat)} {h h':List qB} {v vc vs vb vn:AV} {j:zT} {cj sj bj aj:Nat}
end
section
variable {h:List qB} {K:AV->List qB->Prop} {jid k:Nat} {vs:List AV} {i0 i1 i2 i3 i4 i5 st cd:Int} {vc vq vb vn u:AV}
end
section
variable {h:List qB} {K:AV->List qB->Prop} {jid k most:Nat} {vs:List AV} {v:AV} {j:zT} {S:List (Option Nat)}
end
section
variable {S:List (Option Nat)} {h h':List qB} {v t:AV} {vs ts:List AV}
end
section
variable {Z:List (Option Nat)->Prop} {qid jid:Nat} {vs:List AV} {SS:List (List (Option Nat))} {q:zq} {h:List qB} {K:AV->List qB->Prop}
end
section
variable {Z:List (Option Nat)->Prop} {qid jid:Nat} {vs:List AV} {SS:List (List (Option Nat))} {q:zq} {h:List qB} {K:AV->List qB->Prop}
end
section
variable {Z:List (Option Nat)->Prop} {qid jid:Nat} {vs:List AV} {SS:List (List (Option Nat))} {q:zq} {h:List qB}
end
section
variable {h:List qB} {K:AV->List qB->Prop} {jid k:Nat} {vs:List AV} {i0 i1 i2 i3 i4 i5 st cd:Int} {vc vq vb vn u:AV}
theorem c978{a b:Int}:Pure Gm 978 [iI a,iI b] (iI (if a<b then a else b)):=by
 refine pJ F978 ?_;simp only[F978,qN,go_sem]
 repeat' (first | (refine qW rfl ?_;simp only[go_sem]) | (first | (apply zA<;>intro hc<;>simp only[hc,go_sem]) | (apply qS<;>intro hc<;>simp only[hc,go_sem])) | refine qK rfl ?_ | refine zW (by rfl) ?_)
 all_goals (simp_all<;>omega)
end
section
variable {h:List qB} {K:AV->List qB->Prop} {jid k:Nat} {vs:List AV} {i0 i1 i2 i3 i4 i5:Int} {vc vq vb:AV} {J:zT}
end
theorem qkT{u v:qC}(hu:qg u=true)(hv:qg v=true)(h:zu u.K u.L v.K v.L=2):za u v=za v u:=by
 rw[qcM hu hv h];unfold za;rw[iN (by rintro⟨a,b,_⟩;have:=(qfD hu hv a b).2;omega)]
section
variable {w:Nat} {post post':List AV} {P P':Nat->Prop} {nid aid rid:Nat} {ps:List Nat} {h h':List qB} {N:Ags} {T:List Int} {R:Nat->Bool} {bk:List qE} {a b A B:Nat} {x y u v:qC} {K:AV->List qB->Prop}
end
section
variable {P:Nat->Prop} {rid sid most:Nat} {h:List qB} {N:Ags} {T sch:List Int} {R:Nat->Bool} {bk:List qE} {K:AV->List qB->Prop} {RES:Ags×List Int×Bool×Int}
end
section
variable {S:List Nat} {h h':List qB} {v:AV} {j:zT}
theorem Cv.ints{x:Int}:Cv h (iI x) (iI x):=.refl rfl
end
section
variable {qid jid:Nat} {vs:List AV} {SS:List (List Nat)} {q:zq} {h:List qB}
end
set_option maxHeartbeats 4000000
section
variable {S T:Nat->Prop} {h h' h1 h2 h3:List qB} {i j id:Nat} {o:qB}
theorem ends{h:List qB}{o:qB}:(h++[o])[h.length]?=some o:=by simp
def Up(S:Nat->Prop)(h h':List qB):Prop:=h.length<=h'.length/\∀(j:Nat)(o:qB),h[j]?=some o->¬S j->h'[j]?=some o
theorem z7{o:List qB}{o':qB}(q:h[j]?=some o'):(h++o)[j]?=some o':=by rw[gAl (qp q)];exact q
theorem Up.refl:Up S h h:=⟨nLr _,λ_ _ q _=>q⟩
theorem Up.trans(x:Up S h h1)(y:Up T h1 h2)(hs:∀j,j<h.length->T j->S j):Up S h h2:=⟨nLt x.1 y.1,λj o q n=>y.2 j o (x.2 j o q n) λt=>n (hs j (qp q) t)⟩
theorem Up.app(o:List qB):Up S h (h++o):=⟨by simp,λj o' q _=>z7 q⟩
theorem Up.set:Up (λj=>j=id) h (h.set id o):=⟨by simp,λj o' q n=>by rw[gSn (Ne.symm n)];exact q⟩
theorem Up.at(x:Up S h h1)(q:h[j]?=some o)(n:¬S j):h1[j]?=some o:=x.2 j o q n
theorem Up.w(x:Up S h h1)(q:∀j,j<h.length->S j->T j):Up T h h1:=⟨x.1,λj o e n=>x.2 j o e λs=>n (q j (qp e) s)⟩
theorem qe8{a b:qB}(x:h[id]?=some a)(y:h[j]?=some b)(n:a≠b):id≠j:=λe=>by subst e;rw[x]at y;cases y;exact n rfl
end
def LsW(P:Nat->Prop)(w:Nat)(h:List qB)(v:AV)(el:List AV):Prop:=(v=.nils/\el=[])\/∃id,P id/\v=sQ w id el.length/\h[id]?=some (.row w el true)
section
variable {P Q':Nat->Prop} {w:Nat} {h h1:List qB} {v:AV} {el:List AV}
theorem LsW.len(x:LsW P w h v el):Qf (some v)=some (iI (el.length:Nat)):=by
 rcases x with⟨rfl,rfl⟩ | ⟨id,_,rfl,_⟩<;>rfl
theorem LsW.keep(x:LsW P w h v el)(k:∀j,P j->h[j]?=some (.row w el true)->h1[j]?=some (.row w el true)):LsW P w h1 v el:=by
 rcases x with x | ⟨id,q1,q2,q3⟩
 ·exact .inl x
 ·exact .inr ⟨id,q1,q2,k _ q1 q3⟩
theorem LsW.app(x:LsW P w h v el)(o:List qB):LsW P w (h++o) v el:=x.keep λj _ q=>z7 q
theorem LsW.cv(x:LsW P w h v el)(ht:AV.trees el=true)(hw:0<w):Cv h v (.lst w el false):=by
 rcases x with⟨rfl,rfl⟩ | ⟨id,q1,rfl,q3⟩
 ·exact .nils
 ·exact Cv.row (c:=false) q3 rfl ht hw
theorem JH{E:Ev}{l:List qA}{ks:List Fr1}{s m:qq}{Q:qf->VSt->Prop}{k id2:Nat}{c2:Bool}{x:AV}(ho:LsW P w h v el)(h2:h[id2]?=some (.row w [x] true))(hl:el.length<4000000000)
  (hr:∀h3,Up (λj=>P j/\v=sQ w j el.length) h h3->h3[h.length]?=some (.row w (el++[x]) true)->h3.length=h.length+1->R E (.ops l::ks) ⟨(k,sQ w h.length (el.length+1))::s,m,h3⟩ Q):JP E w (some k) (some v) (some (.slice w id2 0 1 c2)) l ks ⟨s,m,h⟩ Q:=by
 rcases ho with⟨rfl,rfl⟩ | ⟨id,q1,rfl,q3⟩
 ·exact qbD (ys:=[x]) (Els.row h2 rfl) (by simp) (hr _ (Up.app _) (by simp) (by simp))
 ·exact Za h2 q3 rfl (by omega) (hr _ ((Up.set (id:=id)).trans (Up.app _ (S:=λj=>j=id)) (λ_ _ q=>q) |>.w λj _ e=>⟨by rw[e];exact q1,by rw[e]⟩) (by rw[gAr (by simp)];simp) (by simp))
end
theorem qjJ(xs:List qF)(hx:xs.length<=140737488355328)(left:Nat)(hl:left<=1048576):Pure Gm 1242 [.lst 2 (xs.map qF.enc) false,iI left] (iI (jv xs.length left)):=
 Vv (gk _ qHW) qF.isSh.tree xs left hl hx
theorem c922(x:qD)(hb:x.bd)(left:Nat)(hl:left<=1048576):Pure Gm 922 [x.enc,iI left] (iI (jv x.sz left)):=by
 refine pI F922 (by simp[AV.trees,AV.tree,qD.tr]) rfl ?_;simp only[F922,qN,go_sem];refine qW rfl ?_;simp only[go_sem];unfold qD.bd at hb;refine qI (c338 _ hb.1 _ (by omega)) ?_;simp only[go_sem];apply qS<;>intro hc<;>simp only[hc,go_sem]
 ·have hq:=odT hc;rw[wE]at hq;exact qK rfl (by rw[JY (by unfold qD.sz;omega)])
 have hq:=odF hc;rw[wE]at hq;rw[wF (by omega)];clear hc;refine qI (qjJ _ hb.2 _ (by omega)) ?_;simp only[go_sem];apply qS<;>intro hc<;>simp only[hc,go_sem]
 ·have hq:=odT hc;rw[wE]at hq;exact qK rfl (by rw[JY (by unfold qD.sz;omega)])
 have hq:=odF hc;rw[wE]at hq;rw[wF (by omega)];clear hc;exact qK rfl (by rw[wF (by unfold qD.sz;omega)];unfold qD.sz;first | rfl | (congr 2;omega))
theorem c542(xs:List qD)(hx:xs.length<=140737488355328/\(∀y∈xs,qD.bd y))(left:Nat)(hl:left<=1048576):Pure Gm 542 [.lst 5 (xs.map qD.enc) false,iI left] (iI (jv (xs.length+qx qD.sz xs) left)):=
 qC8 qD.isSh (gk _ F542) qD.sz xs (λx hm lf hlf=>c922 x (hx.2 x hm) lf hlf) left hl hx.1
theorem c543(xs:List qL)(hx:xs.length<=140737488355328)(left:Nat)(hl:left<=1048576):Pure Gm 543 [.lst 2 (xs.map qL.enc) false,iI left] (iI (jv xs.length left)):=
 Vv (gk _ F543) qL.isSh.tree xs left hl hx
theorem c209(x:qH)(hb:x.bd)(left:Nat)(hl:left<=1048576):Pure Gm 209 [x.enc,iI left] (iI (jv x.sz left)):=by
 refine pI Kr (by simp[AV.trees,AV.tree,qH.tr]) rfl ?_;simp only[Kr,qN,go_sem];refine qW rfl ?_;simp only[go_sem];unfold qH.bd at hb;refine qI (c542 _ ⟨hb.1,hb.2.1⟩ _ (by omega)) ?_;simp only[go_sem];apply qS<;>intro hc<;>simp only[hc,go_sem]
 ·have hq:=odT hc;rw[wE]at hq;exact qK rfl (by rw[JY (by unfold qH.sz;omega)])
 have hq:=odF hc;rw[wE]at hq;rw[wF (by omega)];clear hc;refine qI (c543 _ hb.2.2 _ (by omega)) ?_;simp only[go_sem];apply qS<;>intro hc<;>simp only[hc,go_sem]
 ·have hq:=odT hc;rw[wE]at hq;exact qK rfl (by rw[JY (by unfold qH.sz;omega)])
 have hq:=odF hc;rw[wE]at hq;rw[wF (by omega)];clear hc;exact qK rfl (by rw[wF (by unfold qH.sz;omega)];unfold qH.sz;first | rfl | (congr 2;omega))
theorem c547(x:qF):Pure Gm 547 [x.enc] x.enc:=by
 refine pI K8 (by simp[AV.trees,AV.tree,qF.tr]) qF.tr ?_;simp only[K8,qN,go_sem];refine qW rfl ?_;simp only[go_sem];refine lsA ?_;simp only[go_sem];exact qK qF.tr rfl
theorem qjK(xs:List qF)(hl:xs.length<=1048576):Pure Gm 1243 [.lst 2 (xs.map qF.enc) false] (.lst 2 (xs.map qF.enc) false):=
 W7 qF.isSh rfl rfl (by simp) (gk _ qHX) xs (λx hm=>c547 x) (by omega)
theorem c925(x:qD)(hz:x.sz<=1048576):Pure Gm 925 [x.enc] x.enc:=by
 refine pI F925 (by simp[AV.trees,AV.tree,qD.tr]) qD.tr ?_;simp only[F925,qN,go_sem];refine qW rfl ?_;simp only[go_sem];unfold qD.sz at hz;refine qI (c147 _ (by omega)) ?_;simp only[go_sem];refine qI (qjK _ (by omega)) ?_;simp only[go_sem];refine lsA ?_;simp only[go_sem];exact qK qD.tr rfl
theorem c546(xs:List qD)(hl:xs.length+qx qD.sz xs<=1048576):Pure Gm 546 [.lst 5 (xs.map qD.enc) false] (.lst 5 (xs.map qD.enc) false):=
 W7 qD.isSh rfl rfl (by simp) (gk _ F546) xs (λx hm=>c925 x (by have:=jg (f:=qD.sz) hm;omega)) (by omega)
theorem c926(x:qL):Pure Gm 926 [x.enc] x.enc:=by
 refine pI F926 (by simp[AV.trees,AV.tree,qL.tr]) qL.tr ?_;simp only[F926,qN,go_sem];refine qW rfl ?_;simp only[go_sem];refine lsA ?_;simp only[go_sem];exact qK qL.tr rfl
theorem c548(xs:List qL)(hl:xs.length<=1048576):Pure Gm 548 [.lst 2 (xs.map qL.enc) false] (.lst 2 (xs.map qL.enc) false):=
 W7 qL.isSh rfl rfl (by simp) (gk _ F548) xs (λx hm=>c926 x) (by omega)
theorem c211(x:qH)(hz:x.sz<=1048576):Pure Gm 211 [x.enc] x.enc:=by
 refine pI Kt (by simp[AV.trees,AV.tree,qH.tr]) qH.tr ?_;simp only[Kt,qN,go_sem];refine qW rfl ?_;simp only[go_sem];unfold qH.sz at hz;refine qI (c546 x.C (by omega)) ?_;simp only[go_sem];refine qI (c547 x.O) ?_;simp only[go_sem];refine Xt (c':=.agg [.lst 5 (x.C.map qD.enc) false,iI x.F,iI x.O.T,iI x.O.I,.nils]) rfl rfl ?_;simp only[go_sem];refine qI (c548 x.R (by omega)) ?_;simp only[go_sem];refine lsA ?_;simp only[go_sem];exact qK qH.tr rfl
theorem c550(x:qF):Pure Gm 550 [x.enc,x.enc] (.bool true):=by
 refine pI K9 (by simp[AV.trees,AV.tree,qF.tr]) rfl ?_;simp only[K9,qN,go_sem];refine qW rfl ?_;simp only[go_sem];refine qW rfl ?_;simp only[go_sem];exact qK rfl rfl
theorem qjL(xs:List qF)(hl:xs.length<=2097152):Pure Gm 1244 [.lst 2 (xs.map qF.enc) false,.lst 2 (xs.map qF.enc) false] (.bool true):=
 WS qF.isSh (gk _ qHY) xs (λx hm=>c550 x) (by omega)
theorem c927(x:qD)(hz:x.sz<=2097152):Pure Gm 927 [x.enc,x.enc] (.bool true):=by
 refine pI F927 (by simp[AV.trees,AV.tree,qD.tr]) rfl ?_;simp only[F927,qN,go_sem];refine qW rfl ?_;simp only[go_sem];refine qW rfl ?_;simp only[go_sem];unfold qD.sz at hz;refine qI (c86 _ (by omega)) ?_;simp only[go_sem];refine qI (qjL _ (by omega)) ?_;simp only[go_sem];exact qK rfl rfl
theorem c549(xs:List qD)(hl:xs.length+qx qD.sz xs<=2097152):Pure Gm 549 [.lst 5 (xs.map qD.enc) false,.lst 5 (xs.map qD.enc) false] (.bool true):=
 WS qD.isSh (gk _ F549) xs (λx hm=>c927 x (by have:=jg (f:=qD.sz) hm;omega)) (by omega)
theorem c928(x:qL):Pure Gm 928 [x.enc,x.enc] (.bool true):=by
 refine pI F928 (by simp[AV.trees,AV.tree,qL.tr]) rfl ?_;simp only[F928,qN,go_sem];refine qW rfl ?_;simp only[go_sem];refine qW rfl ?_;simp only[go_sem];exact qK rfl rfl
theorem c551(xs:List qL)(hl:xs.length<=2097152):Pure Gm 551 [.lst 2 (xs.map qL.enc) false,.lst 2 (xs.map qL.enc) false] (.bool true):=
 WS qL.isSh (gk _ F551) xs (λx hm=>c928 x) (by omega)
theorem c213(x:qH)(hz:x.sz<=2097152):Pure Gm 213 [x.enc,x.enc] (.bool true):=by
 refine pI Kv (by simp[AV.trees,AV.tree,qH.tr]) rfl ?_;simp only[Kv,qN,go_sem];refine qW rfl ?_;simp only[go_sem];refine qW rfl ?_;simp only[go_sem];unfold qH.sz at hz;refine qI (c549 _ (by omega)) ?_;simp only[go_sem];refine qI (c550 _) ?_;simp only[go_sem];refine qI (c551 _ (by omega)) ?_;simp only[go_sem];exact qK rfl rfl
theorem XQ{c:qD}:Pure Gm 950 [.ept c.enc 0] (.bool (qt c.K)):=by
 refine pJ F950 ?_;simp only[F950,qN,go_sem];refine qI wN ?_;simp only[go_sem];exact qK rfl rfl
theorem qpP{α:Type}{a:α}{n:Nat}:List.replicate n a++[a]=List.replicate (n+1) a:=by
 rw[List.replicate_succ',]
theorem qAI{c:qD}(hl:c.W.length<=1048576):Pure Gm 1277 [.ept c.enc 0] (qX c).enc:=by
 refine pI UZ (by simp[AV.trees,AV.tree,go_sem]) qC.tr ?_;simp only[UZ,qN,go_sem];refine lsA ?_;simp only[go_sem];refine Sem.loop (λa:Nat×AV×List qB=>a.1<=c.W.length/\LsW (λ_=>True) 2 a.2.2 a.2.1 ((List.replicate (a.1+1) (⟨0,0⟩:qM)).map qM.enc))
  (λa=>(⟨[(0,.ept c.enc 0),(4,iI (a.1:Nat))],[(3,.agg [iI c.K,iI c.L,iI c.V,lQ c.D,a.2.1]),(2,.agg [iI 0,iI 0,iI 0,.nils,.nils])],a.2.2⟩:VSt)) (λa=>c.W.length-a.1)
  (0,sQ 2 0 1,_) (by kernel_rfl) ⟨nZl _,.inr ⟨0,trivial,rfl,rfl⟩⟩ csA ?_
 rintro⟨i,v,hh⟩ ⟨hi,I⟩;simp only at hi I;simp only[go_sem];by_cases hlt:i<c.W.length
 ·have e:decide ((i:Int)<(c.W.length:Nat))=true:=dEt (by omega);simp only[e,go_sem];refine JH (I.app _) ends (by simp;omega) λh3 u3 v3 l3=>?_;simp only[go_sem,wuA (n:=i)];have ex:(List.replicate (i+1) (⟨0,0⟩:qM)).map qM.enc++[AV.agg [iI 0,iI 0]]=(List.replicate (i+1+1) (⟨0,0⟩:qM)).map qM.enc:=by
   rw[<-qpP (n:=i+1),lMa];rfl
  refine qa (i+1,.slice 2 (hh++[qB.row 2 [AV.agg [AV.int IntKind.i64 0,AV.int IntKind.i64 0]] true]).length 0 ((List.replicate (i+1) (⟨0,0⟩:qM)).map qM.enc).length.succ false,h3) ⟨hlt,.inr ⟨(hh++[qB.row 2 [AV.agg [AV.int IntKind.i64 0,AV.int IntKind.i64 0]] true]).length,trivial,by simp,by rw[<-ex];exact v3⟩⟩ (by simp only;omega) csA
 ·have e:decide ((i:Int)<(c.W.length:Nat))=false:=dEf (by omega);simp only[e,go_sem];refine lsA ?_;simp only[go_sem];obtain rfl:i=c.W.length:=by omega
  have hc:=I.cv (qb qM.isSh.tree _) (by decide);have:=Cvs.cons (Cv.ints (h:=hh) (x:=c.K)) (Cvs.cons (Cv.ints (x:=c.L)) (Cvs.cons (Cv.ints (x:=c.V)) (Cvs.cons (.refl (v:=lQ c.D) (qb shI.tree _)) (Cvs.cons hc Cvs.nil))));exact QC (.agg this.1 this.2)
def kB(w:qF)(c:qD):Bool:=(decide (w.T=1)&&qt c.K) || (decide (w.T=2)&&decide (c.K=13))
def wt(C:List qD)(w:qF):Bool:=inI w.I 0 ((C.length:Int)-1)&&((C[w.I.toNat]?).map (kB w)).getD false
theorem V8{C:List qD}{w:qF}:wt C w=true↔wOk C w:=by
 unfold wt wOk;constructor
 ·intro h;simp only[bAt,inI,dTe]at h;obtain⟨⟨h1,h2⟩,h3⟩:=h;obtain⟨k,hk⟩:=eOz h1;rw[hk,iTn]at h3;cases hc:C[k]? with
  | none=>rw[hc]at h3;cases h3
  | some c=>
   rw[hc]at h3;refine⟨k,c,hk,hc, ?_⟩;simpa[kB]using h3
 ·rintro⟨k,c,h1,h2,h3⟩;have:=(gSi.1 h2).1;rw[h1,iTn,h2];simp only[oMs,Option.getD_some,bAt,inI,dTe];refine⟨by omega, ?_⟩;simpa[kB]using h3
theorem qiE{C:List qD}{w:qF}(h:inI w.I 0 ((C.length:Int)-1)=false):wt C w=false:=by rw[wt,h];rfl
theorem qiD{C:List qD}{t:Int}{k:Nat}{c:qD}(hc:C[k]?=some c):wt C ⟨t,k⟩=kB ⟨t,k⟩ c:=by
 have:=zH hc;have e:inI (k:Int) 0 ((C.length:Int)-1)=true:=by simp only[inI,bAt,dTe];omega
 rw[wt];simp only[e,Bool.true_and,iTn,hc,oMs,Option.getD_some]
theorem qjQ{m:qH}{w:qF}(hs:m.C.length<=140737488355328):Pure Gm 1353 [.ept m.enc 0,w.enc] (.bool (wt m.C w)):=by
 refine pJ Uv ?_;simp only[Uv,qN,go_sem];refine qW rfl ?_;simp only[go_sem];refine qI wN ?_;simp only[go_sem,jO (show-9223372036854775808<=((m.C.length:Int)-1) by omega) (by omega)];cases hi:inI w.I 0 ((m.C.length:Int)-1)
 ·simp only[go_sem];exact qK rfl (by rw[qiE hi])
 ·simp only[go_sem];obtain⟨t,a⟩:=w;have hj:=hi;simp only[inI,bAt,dTe]at hj;obtain⟨k,rfl⟩:=eOz hj.1;have hk:k<m.C.length:=by omega
  have hc:=gEg hk;generalize m.C[k]=c at hc;rw[qiD hc];simp only[gMp,hc,oMs,go_sem]
  repeat' (first | (first | (apply zA<;>intro h1<;>simp only[h1,go_sem]) | (apply qS<;>intro h1<;>simp only[h1,go_sem])) | (refine qI XQ ?_;simp only[go_sem]) | refine qK rfl ?_)
  all_goals (simp_all[kB])
def JI(c:qD)(size:Int):Bool:=
 if c.K=0 then decide (c.L=0)&&decide ((c.D.length:Int)=0)&&decide ((c.W.length:Int)=0)&&inI c.V (-1) (size-1)
 else if c.K=13 then decide (c.L=0)&&decide (c.V=0)&&decide ((c.D.length:Int)=0)&&decide ((c.W.length:Int)<2)
 else if qt c.K=true then qg (qX c)else false
theorem qjP{c:qD}{size:Int}(hz:c.sz<=1048575)(h0:0<=size)(h1:size<=140737488355328):Pure Gm 1351 [.ept c.enc 0,iI size] (.bool (JI c size)):=by
 refine pJ Ut ?_;simp only[Ut,qN,go_sem];unfold qD.sz at hz
 repeat' (first | (first | (refine zA ?_ ?_<;>intro hc<;>simp only[hc,go_sem]) | (refine qS ?_ ?_<;>intro hc<;>simp only[hc,go_sem])) | (refine qI XQ ?_;simp only[go_sem]) | (refine qI wN ?_;simp only[go_sem]) | (refine qI (qAI (by omega)) ?_;simp only[go_sem]) | refine qK rfl ?_)
 case refine_2.refine_2.refine_1=>
  refine jF (e':=(qX c).enc) rfl rfl rfl rfl ?_;simp only[go_sem];refine Jv (Cvs.cons (.ptr rfl (by decide) rfl (.refl qC.tr)) .nil) (qbS (x:=qX c) (by simp[qC.sz,qX];omega)) rfl ?_;simp only[go_sem];exact qK rfl (by simp_all[JI])
 all_goals (try rw[wsA])
 all_goals (simp_all[JI])
def V5(C:List qD)(w:qF):List qF:=((C[w.I.toNat]?).map (·.W)).getD []
def res(C:List qD):Nat->qF->qF×Bool
 | 0,w=>(w,false)
 | n+1,w=>if w.T≠2 then(w,true)else match V5 C w with
  |[]=>(w,true)
  | x::_=>res C n x
def allW(C:List qD):Prop:=∀(k:Nat)(c:qD),C[k]?=some c->∀w∈c.W,wOk C w
theorem YQ{C:List qD}{t:Int}{k:Nat}{c:qD}(hc:C[k]?=some c):V5 C ⟨t,k⟩=c.W:=by
 simp[V5,hc]
theorem c951{m:qH}{w:qF}(hs:m.C.length<=140737488355328)(hw:wOk m.C w)(ha:allW m.C):Pure Gm 951 [.ept m.enc 0,w.enc] (.tup [(res m.C (m.C.length+1) w).1.enc,.bool (res m.C (m.C.length+1) w).2]):=by
 refine pI F951 (by simp[AV.trees,AV.tree,go_sem]) (by simp[AV.trees,AV.tree,go_sem]) ?_;simp only[F951,qN,go_sem];refine qW rfl ?_;simp only[go_sem];generalize hR:res m.C (m.C.length+1) w=R;refine Sem.loop (λa:Nat×qF=>a.1<=m.C.length+1/\wOk m.C a.2/\res m.C a.1 a.2=R) (λa=>(⟨[(6,iI ((a.1:Int)-1)),(5,.bool false),(0,.ept m.enc 0)],[(4,.agg [iI 0,iI 0]),(3,a.2.enc)],[]⟩:VSt)) (λa=>a.1) (m.C.length+1,w) (by kernel_rfl) ⟨nLr _,hw,hR⟩ csA ?_;rintro⟨n,t,a⟩ ⟨hi,hk,he⟩;simp only at hi hk he;simp only[go_sem];obtain⟨k,c,rfl,hc,hkc⟩:=hk;cases n with
 | zero=>
  simp only[show decide ((0:Int)<=((0:Nat):Int)-1)=false from rfl,go_sem];refine lsA ?_;simp only[go_sem];exact zW (by rfl) (by rw[<-he];rfl)
 | succ n=>
  have e:decide ((0:Int)<=((n+1:Nat):Int)-1)=true:=dEt (by omega);simp only[e,go_sem];by_cases ht:t=2
  ·simp only[ht,gMp,hc,oMs,go_sem];cases hw:c.W with
   | nil=>
    simp only[hw,List.map_nil,Int.natCast_zero,go_sem];refine lsA ?_;simp only[go_sem];refine zW (by rfl) ?_;rw[<-he,ht,res,YQ hc,hw];rfl
   | cons x ws=>
    have e2:decide (((ws.length+1:Nat):Int)=0)=false:=dEf (by omega);simp only[hw,lMc,e2,go_sem];simp only[gMp,hc,oMs,go_sem,hw,lMc];refine lsA ?_;simp only[go_sem];rw[wsA];rw[show ((n+1:Nat):Int)-1-1=(n:Int)-1 by omega];refine qa (n,x) ⟨by simp only;omega,ha k c hc x (by rw[hw];exact .head _), ?_⟩ (by simp only;omega) csA;rw[<-he,res,iN (by simp[ht]),YQ hc,hw]
  ·simp only[ht,decide_false,go_sem];refine lsA ?_;simp only[go_sem];refine zW (by rfl) ?_;rw[<-he,res,iP ht]
theorem qbC{P:Nat->Prop}{w:Nat}{h:List qB}{v:AV}{el ys:List AV}{b:AV}{E:Ev}{l:List qA}{ks:List Fr1}{s m:qq}{Q:qf->VSt->Prop}{k:Nat}(ho:LsW P w h v el)(hy:Els h w b ys)(hl:el.length+ys.length<=4294967296)
  (hr:∀h3,Up (λj=>P j/\v=sQ w j el.length) h h3->h3[h.length]?=some (.row w (el++ys) true)->h3.length=h.length+1->R E (.ops l::ks) ⟨(k,sQ w h.length (el.length+ys.length))::s,m,h3⟩ Q):JP E w (some k) (some v) (some b) l ks ⟨s,m,h⟩ Q:=by
 rcases ho with⟨rfl,rfl⟩ | ⟨id,q1,rfl,q3⟩
 ·refine qbD hy (by simpa using hl) ?_;have:=hr (h++[.row w ys true]) (Up.app _) (by simp) (by simp);simpa using this
 ·exact WH hy q3 rfl (by omega) (hr _ ((Up.set (id:=id)).trans (Up.app _ (S:=λj=>j=id)) (λ_ _ q=>q) |>.w λj _ e=>⟨by rw[e];exact q1,by rw[e]⟩) (by rw[gAr (by simp)];simp) (by simp))
theorem qdK{C:List qD}{i:Nat}:((C.take i).flatMap (·.W)).length<=(C.flatMap (·.W)).length:=by
 have h:(C.flatMap (·.W))=((C.take i).flatMap (·.W))++((C.drop i).flatMap (·.W)):=by
  rw[<-List.flatMap_append,List.take_append_drop]
 rw[h,lAp];omega
theorem qdL{C:List qD}{i:Nat}{c:qD}(hc:C[i]?=some c):(C.take (i+1)).flatMap (·.W)=(C.take i).flatMap (·.W)++c.W:=by
 rw[tA1,hc,Option.toList_some,List.flatMap_append];simp
theorem qqG{m:qH}{h0:List qB}(hs:m.C.length<=1048576)(hw:(m.C.flatMap (·.W)).length<=2000000):SCall Gm 1352 [.ept m.enc 0] h0 (λv h'=>Up (λ_=>False) h0 h'/\∃id,h0.length<=id/\v=.slice 2 id 0 (m.O::m.C.flatMap (·.W)).length false/\h'[id]?=some (.row 2 ((m.O::m.C.flatMap (·.W)).map qF.enc) true)):=by
 refine sI Uu ?_;simp only[Uu,qN,go_sem];refine Sem.loop (λa:Nat×AV×List qB=>a.1<=m.C.length/\Up (λ_=>False) h0 a.2.2/\LsW (λj=>h0.length<=j) 2 a.2.2 a.2.1 ((m.O::(m.C.take a.1).flatMap (·.W)).map qF.enc))
  (λa=>(⟨[(0,.ept m.enc 0),(3,a.2.1),(4,iI (a.1:Nat))],[],a.2.2⟩:VSt)) (λa=>m.C.length-a.1)
  (0,sQ 2 h0.length 1,_) (by kernel_rfl) ⟨nZl _,Up.app _,.inr ⟨h0.length,nLr _,rfl,by simp⟩⟩ csA ?_
 rintro⟨i,v,h⟩ ⟨hi,u0,I⟩;simp only at hi u0 I;simp only[go_sem];by_cases hlt:i<m.C.length
 ·have e:decide ((i:Int)<(m.C.length:Nat))=true:=dEt (by omega);have hc:=gEg hlt;generalize m.C[i]=c at hc;simp only[e,gMp,hc,oMs,go_sem];have ex:=qdL hc;have hl:=qdK (C:=m.C) (i:=i+1);rw[ex,lAp]at hl;refine qbC I Els.lst (by simp only[lMp,lCo];omega) λh3 u3 v3 l3=>?_;simp only[go_sem,wuA (n:=i)];refine qa (i+1,.slice 2 h.length 0 (((m.O::(m.C.take i).flatMap (·.W)).map qF.enc).length+(c.W.map qF.enc).length) false,h3) ⟨by simp only;omega,u0.trans u3 (λj hj q=>by have:=q.1;omega),.inr ⟨h.length,u0.1, ?_, ?_⟩⟩ (by simp only;omega) csA
  ·simp only[ex,lMp,lCo,lAp];rw[show ∀a b:Nat,a+b+1=a+1+b from λa b=>by omega]
  ·simp only[ex];rw[v3];simp
 ·have e:decide ((i:Int)<(m.C.length:Nat))=false:=dEf (by omega);simp only[e,go_sem];rw[tOl (by omega)]at I;rcases I with⟨_,h2⟩ | ⟨id,q1,q2,q3⟩
  ·cases h2
  ·exact⟨u0,id,q1,by rw[q2,lMp,lCo],q3⟩
def jP(C:List qD):Nat:=C.countP λc=>decide (c.K=0)
def wO(C:List qD):Nat->Int->Bool
 | 0,a=>decide (a= -1)
 | n+1,a=>inI a 0 ((C.length:Int)-1)&&(((C[a.toNat]?).map λc=>decide (c.K=0)&&wO C n c.V).getD false)
theorem qAX{C:List qD}{n:Nat}{a:Int}(h:inI a 0 ((C.length:Int)-1)=false):wO C (n+1) a=false:=by rw[wO,h];rfl
theorem qAW{C:List qD}{n k:Nat}{c:qD}(hc:C[k]?=some c):wO C (n+1) k=(decide (c.K=0)&&wO C n c.V):=by
 have:=zH hc;have e:inI (k:Int) 0 ((C.length:Int)-1)=true:=by simp only[inI,bAt,dTe];omega
 rw[wO];simp only[e,Bool.true_and,iTn,hc,oMs,Option.getD_some]
theorem qdO{C:List qD}{i:Nat}{c:qD}(hc:C[i]?=some c):jP (C.take (i+1))=jP (C.take i)+(if c.K=0 then 1 else 0):=by
 rw[jP,tA1,hc,Option.toList_some,List.countP_append,List.countP_cons];simp[jP]
theorem Y3{C:List qD}:jP C<=C.length:=List.countP_le_length ..
theorem qjR{m:qH}(hs:m.C.length<=140737488355328):Pure Gm 1354 [.ept m.enc 0] (.bool (wO m.C (jP m.C) m.F)):=by
 refine pJ Uw ?_;simp only[Uw,qN,go_sem];refine Sem.loop (λi:Nat=>i<=m.C.length)
  (λi=>(⟨[(0,.ept m.enc 0),(2,.bool false),(3,iI (jP (m.C.take i):Nat)),(4,iI (i:Nat))],[],[]⟩:VSt)) (λi=>m.C.length-i)
  0 (by kernel_rfl) (nZl _) (Can.sub (by simp[go_sem,jP]) (by simp[go_sem])) ?_
 rintro i hi;simp only[go_sem];by_cases hlt:i<m.C.length
 ·have e:decide ((i:Int)<(m.C.length:Nat))=true:=dEt (by omega);have hc:=gEg hlt;generalize m.C[i]=c at hc;simp only[e,gMp,hc,oMs,go_sem];have ex:=qdO hc;have hn:jP (m.C.take i)<=i:=nLt Y3 (by simp;omega);by_cases hk:c.K=0
  ·simp only[hk,go_sem,wuA (n:=i),jt (show jP (m.C.take i)<4611686018427387904 by omega)];refine qa (i+1) (by omega) (by omega) (Can.sub (by simp[go_sem,ex,hk]) (by simp[go_sem]))
  ·simp only[hk,decide_false,go_sem,wuA (n:=i)];refine qa (i+1) (by omega) (by omega) (Can.sub (by simp[go_sem,ex,hk]) (by simp[go_sem]))
 ·have e:decide ((i:Int)<(m.C.length:Nat))=false:=dEf (by omega);simp only[e,go_sem];rw[tOl (by omega)];have hn:=Y3 (C:=m.C);generalize hR:wO m.C (jP m.C) m.F=R;refine Sem.loop (λa:Nat×Int=>a.1<=m.C.length/\wO m.C a.1 a.2=R)
   (λa=>(⟨[(0,.ept m.enc 0),(2,.bool false),(3,iI (a.1:Nat)),(5,iI a.2)],[],[]⟩:VSt)) (λa=>a.1)
   (jP m.C,m.F) (by kernel_rfl) ⟨hn,hR⟩ csA ?_
  rintro⟨n,a⟩ ⟨h1,h2⟩;simp only at h1 h2;simp only[go_sem];cases n with
  | zero=>
   simp only[show decide ((0:Int)<((0:Nat):Int))=false from rfl,go_sem];exact qK rfl (by rw[<-h2];rfl)
  | succ n=>
   have e:decide ((0:Int)<((n+1:Nat):Int))=true:=dEt (by omega);simp only[e,go_sem];refine qI wN ?_;simp only[go_sem,jO (show-9223372036854775808<=((m.C.length:Int)-1) by omega) (by omega)];cases hi:inI a 0 ((m.C.length:Int)-1)
   ·simp only[go_sem];exact qK rfl (by rw[<-h2,qAX hi])
   ·simp only[go_sem];have hj:=hi;simp only[inI,bAt,dTe]at hj;obtain⟨k,rfl⟩:=eOz hj.1;have hk:k<m.C.length:=by omega
    have hc:=gEg hk;generalize m.C[k]=c at hc;rw[qAW hc]at h2;simp only[gMp,hc,oMs,go_sem];by_cases h0:c.K=0
    ·simp only[h0,go_sem,gMp,hc,oMs];simp only[jO (show-9223372036854775808<=(((n+1:Nat):Int)-1) by omega) (by omega)];refine qa (n,c.V) ⟨by simp only;omega, ?_⟩ (by simp only;omega) csA;rw[<-h2];simp[h0]
    ·simp only[h0,decide_false,go_sem];exact qK rfl (by rw[<-h2];simp[h0])
section
variable {C:List qD} {a fr:Int} {n k:Nat} {L M:List Nat}
theorem qcG:∀{L M:List Nat}{a:Int},chn C a L->chn C a M->L=M
 |[],[],a,_,_=>rfl
 |[],k::M,a,h1,h2=>by have:=h1;have:=h2.1;simp only[chn]at h1;omega
 | k::L,[],a,h1,h2=>by have:=h1.1;simp only[chn]at h2;omega
 | k::L,j::M,a,⟨h1,c,h2,h3,h4⟩,⟨g1,d,g2,g3,g4⟩=>by
  obtain rfl:k=j:=by omega
  rw[h2]at g2;cases g2;rw[qcG h4 g4]
theorem qcI:∀{L:List Nat}{a:Int},chn C a L->k∈L->∃D,chn C k (k::D)/\D.length<L.length
 |[],a,_,h=>by cases h
 | j::L,a,⟨h1,c,h2,h3,h4⟩,h=>by
  rcases mCo.1 h with rfl | h
  ·exact⟨L,⟨rfl,c,h2,h3,h4⟩,by simp⟩
  ·obtain⟨D,d1,d2⟩:=qcI h4 h;exact⟨D,d1,by simp only[lCo];omega⟩
theorem qcH:∀{L:List Nat}{a:Int},chn C a L->L.Nodup
 |[],a,_=>List.nodup_nil
 | j::L,a,⟨h1,c,h2,h3,h4⟩=>by
  refine List.nodup_cons.2 ⟨λh=>?_,qcH h4⟩;obtain⟨D,d1,d2⟩:=qcI h4 h;have:=qcG d1 (M:=j::L) ⟨rfl,c,h2,h3,h4⟩;cases this;omega
theorem qcF:∀{n:Nat}{a:Int},wO C n a=true->∃L:List Nat,L.length=n/\chn C a L
 | 0,a,h=>⟨[],rfl,show a= -1 from odT h⟩
 | n+1,a,h=>by
  have hj:inI a 0 ((C.length:Int)-1)=true:=by
   cases q:inI a 0 ((C.length:Int)-1)
   ·rw[qAX q]at h;cases h
   ·rfl
  simp only[inI,bAt,dTe]at hj;obtain⟨k,rfl⟩:=eOz hj.1;have hk:k<C.length:=by omega
  have hc:=gEg hk;generalize C[k]=c at hc;rw[qAW hc]at h;simp only[bAt,dTe]at h;obtain⟨L,l1,l2⟩:=qcF h.2;exact⟨k::L,by simp[l1],rfl,c,hc,h.1,l2⟩
def Xi(C:List qD):List Nat:=(List.range C.length).filter λk=>decide ((C[k]?.map (·.K))=some 0)
theorem qmA:∀{C:List qD},(Xi C).length=jP C:=by
 intro C;unfold Xi jP;rw[<-List.countP_eq_length_filter]
 induction C with
 | nil=>rfl
 | cons c r ih=>
  rw[lCo,List.range_succ_eq_map,List.countP_cons,List.countP_cons,List.countP_map];have:(List.countP ((λk=>decide (((c::r)[k]?.map (·.K))=some 0))∘Nat.succ) (List.range r.length))=List.countP (λk=>decide ((r[k]?.map (·.K))=some 0)) (List.range r.length):=rfl;rw[this,ih];simp
theorem qdN:k∈Xi C↔∃c,C[k]?=some c/\c.K=0:=by
 simp only[Xi,mFi,lMr,dTe,oMi];exact⟨λh=>h.2,λh=>⟨by obtain⟨c,h1,_⟩:=h;exact zH h1,h⟩⟩
theorem FrC.of(h:wO C (jP C) fr=true):∃L,FrC C fr L:=by
 obtain⟨L,l1,l2⟩:=qcF h;have nd:=qcH l2;refine⟨L,nd,l2,λk c hc hk=>?_⟩;refine Classical.byContradiction λhn=>?_;have h1:(k::L).Nodup:=List.nodup_cons.2 ⟨hn,nd⟩;have h2:=h1.length_le_of_subset (l₂:=Xi C) λj hj=>by
  rcases mCo.1 hj with rfl | hj
  ·exact qdN.2 ⟨c,hc,hk⟩
  ·exact qdN.2 (WL (L:=L) l2 j hj)
 rw[qmA,lCo]at h2;omega
theorem FrC.val(h:FrC C fr L){c:qD}(hc:C[k]?=some c)(h0:c.K=0):inI c.V (-1) ((C.length:Int)-1)=true:=by
 have hk:=h.all k c hc h0;have key:∀{L:List Nat}{a:Int},chn C a L->k∈L->-1<=c.V/\c.V<=(C.length:Int)-1:=by
  intro L
  induction L with
  | nil=>intro a _ q;cases q
  | cons j L ih=>
   rintro a ⟨h1,d,h2,h3,h4⟩ q;rcases mCo.1 q with rfl | q
   ·rw[hc]at h2;cases h2;cases L with
    | nil=>simp only[chn]at h4;omega
    | cons i L=>
     obtain⟨g1,e,g2,_⟩:=h4;have:=zH g2;omega
   ·exact ih h4 q
 have:=key h.ch hk;simp only[inI,bAt,dTe];omega
end
def qZ(m:qH):List qF:=m.O::m.C.flatMap (·.W)
def z8(m:qH)(k:Nat):Nat:=cw k (qZ m)+cr k m.R
def WG(C:List qD)(a:Int):Bool:=((C[a.toNat]?).map λc=>qt c.K).getD false
def jr(C:List qD)(p:qL):Bool:=inI p.B 1 ((C.length:Int)-1)&&inI p.A 0 (p.B-1)&&WG C p.A&&WG C p.B
structure VM(m:qH):Prop where
 sz:inI m.C.length 1 1500=true
 rs:m.R.length<=m.C.length
 cell:∀c∈m.C,JI c m.C.length=true
 wrd:∀w∈qZ m,wt m.C w=true
 rdx:∀p∈m.R,jr m.C p=true
 cnt:∀(k:Nat)(c:qD),m.C[k]?=some c->(qt c.K=true->z8 m k=1)/\(c.K=13->z8 m k+c.W.length=2)
 ends:∀(k:Nat)(c:qD),m.C[k]?=some c->c.K=13->(res m.C (m.C.length+1) ⟨2,k⟩).2=true
 chn:wO m.C (jP m.C) m.F=true
noncomputable def Ja(m:qH):Bool:= @decide (VM m) (Classical.propDecidable _)
theorem Xy{m:qH}:Ja m=true↔VM m:=by unfold Ja;exact @decide_eq_true_iff _ (Classical.propDecidable _)
theorem QH{m:qH}(h:¬VM m):Ja m=false:=by
 cases q:Ja m
 ·rfl
 ·exact absurd (Xy.1 q) h
theorem WY{k:Int}(h:qt k=true):k≠0/\k≠13:=by
 simp only[qt,bAt,dTe]at h;omega
theorem qAR{c:qD}{s:Int}(h:JI c s=true):zr c:=by
 unfold JI at h;split at h
 ·rename_i h0;simp only[bAt,dTe]at h;obtain⟨⟨⟨h1,h2⟩,h3⟩,h4⟩:=h;exact .inr (.inr ⟨h0,h1,lEz (by omega),lEz (by omega)⟩)
 ·split at h
  ·rename_i h0;simp only[bAt,dTe]at h;obtain⟨⟨⟨h1,h2⟩,h3⟩,h4⟩:=h;exact .inr (.inl ⟨h0,h1,h2,lEz (by omega),by omega⟩)
  ·split at h
   ·next h0=>exact .inl ⟨h0,h⟩
   ·cases h
theorem qA2{k:Nat}:∀{C:List qD}(i:Nat),wS (λ_=>false) k i C=cw k (C.flatMap (·.W))
 |[],i=>rfl
 | c::r,i=>by rw[wS,List.flatMap_cons,Zd,<-qA2 (i+1)];rfl
theorem qa7{C:List qD}{a:Int}(h0:0<=a)(h:WG C a=true):wOk C ⟨1,a⟩:=by
 obtain⟨k,rfl⟩:=eOz h0;unfold WG at h;rw[iTn]at h;cases hc:C[k]? with
 | none=>rw[hc]at h;cases h
 | some c=>rw[hc]at h;exact⟨k,c,rfl,hc,.inl ⟨rfl,h⟩⟩
theorem qDB{C:List qD}{w:qF}{k:Nat}{c:qD}(h:wOk C w)(e:w.I=(k:Int))(hc:C[k]?=some c):c.K≠0:=by
 obtain⟨j,d,h1,h2,h3⟩:=h;obtain rfl:j=k:=by omega
 rw[hc]at h2;cases h2;rcases h3 with⟨_,h3⟩ | ⟨_,h3⟩
 ·exact(WY h3).1
 ·omega
theorem qlD{k:Nat}{ws:List qF}(h:∀w∈ws,w.I≠(k:Int)):cw k ws=0:=List.countP_eq_zero.2 λw hw=>by simpa using h w hw
theorem VM.words{m:qH}(h:VM m):∀w∈qZ m,wOk m.C w:=λw hw=>V8.1 (h.wrd w hw)
theorem VM.allW{m:qH}(h:VM m):allW m.C:=λk c hc w hw=>h.words w (.tail _ (List.mem_flatMap.2 ⟨c,lMo hc,hw⟩))
theorem VM.pr{m:qH}(h:VM m):∀p∈m.R,p.A<p.B/\wOk m.C ⟨1,p.A⟩/\wOk m.C ⟨1,p.B⟩:=λp hp=>by
 have:=h.rdx p hp;simp only[jr,bAt,inI,dTe]at this;obtain⟨⟨⟨h1,h2⟩,h3⟩,h4⟩:=this;exact⟨by omega,qa7 h2.1 h3,qa7 (by omega) h4⟩
theorem VM.mi{m:qH}(h:VM m):MI m.C m.F m.O m.R [] (λ_=>false) where
 form:=λk c hc _=>qAR (h.cell c (lMo hc))
 opn:=λk c _ q=>by cases q
 wrd:=λk c hc _=>h.allW k c hc
 rt:=h.words _ (.head _)
 pw:=λw hw=>by cases hw
 pr:=h.pr
 occ:=λk c hc=>by
  have e:cw k (m.O::[])+wS (λ_=>false) k 0 m.C+cr k m.R=z8 m k:=by
   rw[qA2,z8,qZ,zL,zL,Zf];omega
  rw[e];obtain⟨c1,c2⟩:=h.cnt k c hc;rcases qAR (h.cell c (lMo hc))with⟨f1,f2⟩ | ⟨f1,f2,f3,f4,f5⟩ | ⟨f1,f2,f3,f4⟩
  ·have:=WY f1;rw[c1 f1,zR,iN this.1,iN (by simp[this.2])]
  ·have:=c2 f1;rw[zR,iN (by omega)];by_cases q:c.W=[]
   ·rw[iP ⟨f1,q⟩];rw[q]at this;simpa using this
   ·rw[iN (by simp[q])];have:c.W.length≠0:=λe=>q (lEz e);omega
  ·rw[zR,iP f1,z8];have h1:cw k (qZ m)=0:=qlD λw hw e=>qDB (h.words w hw) e hc f1;have h2:cr k m.R=0:=by
    unfold cr;rw[List.countP_eq_zero.2,List.countP_eq_zero.2]
    ·intro p hp q;exact qDB (w:=⟨1,p.B⟩) (h.pr p hp).2.2 (by simpa using q) hc f1
    ·intro p hp q;exact qDB (w:=⟨1,p.A⟩) (h.pr p hp).2.1 (by simpa using q) hc f1
   omega
 fre:=FrC.of h.chn
def jM(n:Nat)(f:Nat->Nat):List AV:=(List.range n).map λk=>iI (f k:Nat)
theorem qk0{n:Nat}{f:Nat->Nat}:(jM n f).length=n:=by simp[jM]
theorem jn{n k:Nat}{f:Nat->Nat}(h:k<n):(jM n f)[k]?=some (iI (f k:Nat)):=by simp[jM,h]
theorem WM{n k:Nat}{f g:Nat->Nat}{v:Int}(h1:v=(g k:Nat))(h2:∀j,j≠k->g j=f j):(jM n f).set k (iI v)=jM n g:=by
 refine List.ext_getElem? λj=>?_;by_cases e:j=k
 ·subst e;by_cases hj:j<n
  ·rw[gSs (by rw[qk0];exact hj),jn hj,h1]
  ·rw[gEn (by simp[jM];omega),gEn (by simp[jM];omega)]
 ·rw[gSn (Ne.symm e)];by_cases hj:j<n
  ·rw[jn hj,jn hj,h2 j e]
  ·rw[gEn (by simp[jM];omega),gEn (by simp[jM];omega)]
theorem qcQ{n:Nat}:jM n (λ_=>0)=List.replicate n (iI 0):=by
 refine List.ext_getElem? λj=>?_;by_cases hj:j<n
 ·rw[jn hj,List.getElem?_replicate,iP hj];rfl
 ·rw[gEn (by simp[jM];omega),gEn (by simp;omega)]
theorem Yr{ws:List qF}{i k:Nat}{w:qF}(h:ws[i]?=some w):cw k (ws.take (i+1))=cw k (ws.take i)+(if w.I=(k:Int)then 1 else 0):=by
 rw[tA1,h,Option.toList_some,Zd,zL,Zf];omega
theorem Ze{ws:List qF}{k:Nat}:cw k ws<=ws.length:=List.countP_le_length ..
theorem qBG:∀{C:List qD},(C.flatMap (·.W)).length<=qx qD.sz C
 |[]=>by simp
 | c::r=>by
  have:=qBG (C:=r);rw[List.flatMap_cons,lAp];simp only[qx,qD.sz];omega
theorem Yq{rx:List qL}{i k:Nat}{p:qL}(h:rx[i]?=some p):cr k (rx.take (i+1))=cr k (rx.take i)+(if p.A=(k:Int)then 1 else 0)+(if p.B=(k:Int)then 1 else 0):=by
 rw[tA1,h,Option.toList_some];unfold cr;rw[List.countP_append,List.countP_append,List.countP_cons,List.countP_cons];simp only[List.countP_nil,dTe];omega
theorem XW{rx:List qL}{k:Nat}:cr k rx<=2*rx.length:=by
 have h1:rx.countP (λp=>decide (p.A=(k:Int)))<=rx.length:=List.countP_le_length ..;have h2:rx.countP (λp=>decide (p.B=(k:Int)))<=rx.length:=List.countP_le_length ..;unfold cr;omega
theorem Qt{C:List qD}{k:Nat}{c:qD}(hc:C[k]?=some c):WG C k=qt c.K:=by
 rw[WG,iTn,hc];rfl
theorem qi8{m:qH}(hz:m.sz<=1048576):Pure Gm 1058 [.ept m.enc 0,.nils,.lst 2 (m.R.map qL.enc) false] (.bool (Ja m)):=by
 have hsz:m.C.length+qx qD.sz m.C<=1048576:=by unfold qH.sz at hz;omega
 refine pI UG (by simp[AV.trees,AV.tree,go_sem,qb qL.isSh.tree]) rfl ?_;simp only[UG,qN,go_sem];refine qI wN ?_;simp only[go_sem];cases h0:inI m.C.length 1 1500
 ·simp only[go_sem];exact qK rfl (by rw[QH λv=>by rw[v.sz]at h0;cases h0])
 simp only[go_sem];by_cases h1:m.R.length<=m.C.length
 case neg=>
  have e:decide ((m.C.length:Int)<(m.R.length:Nat))=true:=dEt (by omega);simp only[e,go_sem];exact qK rfl (by rw[QH λv=>h1 v.rs])
 have e:decide ((m.C.length:Int)<(m.R.length:Nat))=false:=dEf (by omega);simp only[e,go_sem];clear e;have hN:m.C.length<=1500/\1<=m.C.length:=by
  simp only[inI,bAt,dTe]at h0;omega
 refine Sem.loop (λa:Nat×AV×List qB=>a.1<=m.C.length/\(∀c∈m.C.take a.1,JI c m.C.length=true)/\((a.1=0/\a.2.1=.lst 1 [] true)\/∃u,a.2.1=sQ 1 u a.1/\a.2.2[u]?=some (.row 1 (List.replicate a.1 (iI 0)) true)))
  (λa=>(⟨[(0,.ept m.enc 0),(1,.nils),(2,.lst 2 (m.R.map qL.enc) false),(6,.bool false),(7,iI (m.C.length:Nat)),(8,a.2.1),(9,iI (a.1:Nat))],[],a.2.2⟩:VSt)) (λa=>m.C.length-a.1)
  (0,.lst 1 [] true,[]) (by kernel_rfl) ⟨nZl _,by simp,.inl ⟨rfl,rfl⟩⟩ csA ?_
 rintro⟨i,v,h⟩ ⟨hi,hA,I⟩;simp only at hi hA I;simp only[go_sem];by_cases hlt:i<m.C.length
 ·have e:decide ((i:Int)<(m.C.length:Nat))=true:=dEt (by omega);have hc:=gEg hlt;generalize m.C[i]=c at hc;have hm:=lMo hc;have hcz:c.sz<=1048575:=by have:=jg (f:=qD.sz) hm;have:=List.length_pos_of_mem hm;omega
  simp only[e,gMp,hc,oMs,go_sem];refine qI (qjP hcz (by omega) (by omega)) ?_;simp only[go_sem];cases hcb:JI c m.C.length
  ·simp only[go_sem];exact qK rfl (by rw[QH λv=>by have:=v.cell c hm;rw[hcb]at this;cases this])
  ·simp only[go_sem];have hA2:∀d∈m.C.take (i+1),JI d m.C.length=true:=λd hd=>by
    rw[tA1,hc,Option.toList_some]at hd;rcases jR.1 hd with hd | hd
    ·exact hA d hd
    ·rw[lMg.1 hd];exact hcb
   rcases I with⟨rfl,rfl⟩ | ⟨u,rfl,hu⟩
   ·refine Qu (Els.row (ends (o:=qB.row 1 [AV.int IntKind.i64 0] true)) rfl) (by decide) ?_;simp only[go_sem];refine qa (1,sQ 1 (h.length+1) 1,(h++[qB.row 1 [AV.int IntKind.i64 0] true])++[qB.row 1 [AV.int IntKind.i64 0] true]) ⟨by simp only;omega,hA2,.inr ⟨h.length+1,rfl, ?_⟩⟩ (by simp only;omega) (Can.sub (by simp[go_sem,IntKind.wrap]) (by simp[go_sem]));simp
   ·refine Za ends (z7 hu) (by simp) (by omega) ?_;simp only[go_sem,wuA (n:=i)];refine qa (i+1,sQ 1 (h.length+1) (i+1),((h++[qB.row 1 [AV.int IntKind.i64 0] true]).set u .dead)++[qB.row 1 (List.replicate i (AV.int IntKind.i64 0)++[AV.int IntKind.i64 0]) true]) ⟨by simp only;omega,hA2,.inr ⟨h.length+1,rfl, ?_⟩⟩ (by simp only;omega) csA;rw[gAr (by simp)];simp[List.replicate_succ']
 have e:decide ((i:Int)<(m.C.length:Nat))=false:=dEf (by omega);simp only[e,go_sem];have hfm:=qBG (C:=m.C);have hcell:∀c∈m.C,JI c m.C.length=true:=by rw[tOl (by omega)]at hA;exact hA
 have hLl:(qZ m).length<=1048577:=by rw[qZ,lCo];omega
 obtain⟨u,rfl,hu⟩:∃u,v=sQ 1 u m.C.length/\h[u]?=some (.row 1 (jM m.C.length λ_=>0) true):=by
  obtain rfl:i=m.C.length:=by omega
  rcases I with⟨h3,_⟩ | ⟨u,h3,h4⟩
  ·omega
  ·exact⟨u,h3,by rw[qcQ];exact h4⟩
 refine qk (SCall.mono (qqG (by omega) (by omega)) ?_);rintro v1 h1 ⟨up1,wd,hwd,rfl,hw1⟩;simp only[go_sem];have hul:=qp hu;refine WH (ys:=[]) ⟨trivial,rfl⟩ hw1 (by rw[lMp];rfl) (by simp only[lNi,lCo];omega) ?_;simp only[go_sem,nAz,lAn];have g1:(h1.set wd .dead++[qB.row 2 ((qZ m).map qF.enc) true])[u]?=some (.row 1 (jM m.C.length λk=>cw k ((qZ m).take 0)) true):=by
  rw[gAl (by rw[lLs];have:=up1.1;omega),gSn (by omega)];exact up1.at hu id
 have g2:(h1.set wd .dead++[qB.row 2 ((qZ m).map qF.enc) true])[h1.length]?=some (.row 2 ((qZ m).map qF.enc) true):=by
  rw[gAr (by rw[lLs];omega),lLs,nSs];rfl
 change Sem _ _ ⟨_,_,h1.set wd .dead++[qB.row 2 ((qZ m).map qF.enc) true]⟩ _;generalize h1.set wd .dead++[qB.row 2 ((qZ m).map qF.enc) true]=h2 at g1 g2;generalize h1.length=wp at g2;change Sem _ _ ⟨(11,iI 0)::(10,.slice 2 wp 0 (qZ m).length false)::_,_,_⟩ _;clear hw1 up1 hwd I hu;refine Sem.loop (λa:Nat×List qB=>a.1<=(qZ m).length/\(∀w∈(qZ m).take a.1,wt m.C w=true)/\a.2[u]?=some (.row 1 (jM m.C.length λk=>cw k ((qZ m).take a.1)) true)/\a.2[wp]?=some (.row 2 ((qZ m).map qF.enc) true))
  (λa=>(⟨[(0,.ept m.enc 0),(2,.lst 2 (m.R.map qL.enc) false),(6,.bool false),(7,iI (m.C.length:Nat)),(8,sQ 1 u m.C.length),(10,.slice 2 wp 0 (qZ m).length false),(11,iI (a.1:Nat))],[],a.2⟩:VSt)) (λa=>(qZ m).length-a.1)
  (0,h2) (by kernel_rfl) ⟨nZl _,by simp,g1,g2⟩ csA ?_
 clear g1 g2;rintro⟨i,h⟩ ⟨hi,hA,g1,g2⟩;simp only at hi hA g1 g2;simp only[go_sem];by_cases hlt:i<(qZ m).length
 ·have e:decide ((i:Int)<((qZ m).length:Nat))=true:=dEt (by omega);have hc:=gEg hlt;generalize (qZ m)[i]=w at hc;have hm:=lMo hc;simp only[e,qY hlt,nZa,g2,gMp,hc,oMs,go_sem];refine qI (qjQ (by omega)) ?_;simp only[go_sem];cases hwb:wt m.C w
  ·simp only[go_sem];exact qK rfl (by rw[QH λv=>by have:=v.wrd w hm;rw[hwb]at this;cases this])
  obtain⟨k,d,hw1,hw2,hw3⟩:=V8.1 hwb;have hk:=zH hw2;simp only[qY hlt,nZa,g2,gMp,hc,oMs,hw1,qY hk,g1,jn hk,go_sem];have hcl:=Ze (ws:=(qZ m).take i) (k:=k);rw[lLt]at hcl;simp only[jt (show cw k ((qZ m).take i)<4611686018427387904 by omega)];refine jF rfl g1 (jn hk) rfl ?_;simp only[go_sem,wuA (n:=i)];have hne:=qe8 g1 g2 (by simp);refine qa (i+1,h.set u (.row 1 ((jM m.C.length λk=>cw k ((qZ m).take i)).set k (iI ((cw k ((qZ m).take i)+1:Nat):Int))) true)) ⟨by simp only;omega,λx hx=>?_, ?_, ?_⟩ (by simp only;omega) csA
  ·rw[tA1,hc,Option.toList_some]at hx;rcases jR.1 hx with hx | hx
   ·exact hA x hx
   ·rw[lMg.1 hx];exact hwb
  ·rw[gSs (qp g1),WM (g:=λk=>cw k ((qZ m).take (i+1)))]
   ·simp only[Yr hc,hw1,if_true]
   ·intro j hj;simp only[Yr hc,hw1];rw[iN (by omega),nAz]
  ·rw[gSn hne];exact g2
 have e:decide ((i:Int)<((qZ m).length:Nat))=false:=dEf (by omega);simp only[e,go_sem];rw[tOl (by omega)]at hA g1;clear g2;refine Sem.loop (λa:Nat×List qB=>a.1<=m.R.length/\(∀p∈m.R.take a.1,jr m.C p=true)/\a.2[u]?=some (.row 1 (jM m.C.length λk=>cw k (qZ m)+cr k (m.R.take a.1)) true))
  (λa=>(⟨[(0,.ept m.enc 0),(2,.lst 2 (m.R.map qL.enc) false),(6,.bool false),(7,iI (m.C.length:Nat)),(8,sQ 1 u m.C.length),(12,iI (a.1:Nat))],[],a.2⟩:VSt)) (λa=>m.R.length-a.1)
  (0,h) (by kernel_rfl) ⟨nZl _,by simp,g1⟩ csA ?_
 clear g1 hlt e hi;rintro⟨i,h⟩ ⟨hi,hP,g1⟩;simp only at hi hP g1;simp only[go_sem];by_cases hlt:i<m.R.length
 ·have e:decide ((i:Int)<(m.R.length:Nat))=true:=dEt (by omega);have hc:=gEg hlt;generalize m.R[i]=p at hc;have hm:=lMo hc;simp only[e,gMp,hc,oMs,go_sem];refine lsA ?_;simp only[go_sem];refine qI wN ?_;simp only[go_sem,jO (show-9223372036854775808<=((m.C.length:Int)-1) by omega) (by omega)];have no:jr m.C p=false->Ja m=false:=λq=>QH λv=>by have:=v.rdx p hm;rw[q]at this;cases this
  obtain⟨A,B⟩:=p;simp only at no|-;cases q1:inI B 1 ((m.C.length:Int)-1)
  ·simp only[go_sem];exact qK rfl (by rw[no (by simp only[jr,q1,Bool.false_and])])
  simp only[go_sem];have hB:=q1;simp only[inI,bAt,dTe]at hB;simp only[jO (show-9223372036854775808<=B-1 by omega) (by omega)];refine qI wN ?_;simp only[go_sem];cases q2:inI A 0 (B-1)
  ·simp only[go_sem];exact qK rfl (by rw[no (by simp only[jr,q1,q2,Bool.false_and,Bool.and_false])])
  simp only[go_sem];have hA2:=q2;simp only[inI,bAt,dTe]at hA2;obtain⟨ka,rfl⟩:=eOz hA2.1;obtain⟨kb,rfl⟩:=eOz (show 0<=B by omega);have hka:ka<m.C.length:=by omega
  have hkb:kb<m.C.length:=by omega
  have ha:=gEg hka;have hb:=gEg hkb;generalize m.C[ka]=ca at ha;generalize m.C[kb]=cb at hb;simp only[gMp,ha,oMs,go_sem];refine qI XQ ?_;simp only[go_sem];cases q3:qt ca.K
  ·simp only[go_sem];exact qK rfl (by rw[no (by simp only[jr,q1,q2,Qt ha,q3,Bool.false_and,Bool.and_false])])
  simp only[gMp,hb,oMs,go_sem];refine qI XQ ?_;simp only[go_sem];cases q4:qt cb.K
  ·simp only[go_sem];exact qK rfl (by rw[no (by simp only[jr,q1,q2,Qt ha,Qt hb,q3,q4,Bool.false_and,Bool.and_false])])
  simp only[qY hka,nZa,g1,jn hka,go_sem];have hcl:=Ze (ws:=qZ m) (k:=ka);have hcl2:=Ze (ws:=qZ m) (k:=kb);have hcr:=XW (rx:=m.R.take i) (k:=ka);have hcr2:=XW (rx:=m.R.take i) (k:=kb);rw[lLt]at hcr hcr2;simp only[jt (show cw ka (qZ m)+cr ka (m.R.take i)<4611686018427387904 by omega)];refine jF rfl g1 (jn hka) rfl ?_;have g3:(h.set u (.row 1 ((jM m.C.length λk=>cw k (qZ m)+cr k (m.R.take i)).set ka (iI ((cw ka (qZ m)+cr ka (m.R.take i)+1:Nat):Int))) true))[u]?=some (.row 1 (jM m.C.length λk=>cw k (qZ m)+cr k (m.R.take i)+if ka=k then 1 else 0) true):=by
   rw[gSs (qp g1),WM (g:=λk=>cw k (qZ m)+cr k (m.R.take i)+if ka=k then 1 else 0)]
   ·simp only[if_true]
   ·intro j hj;rw[iN (Ne.symm hj)];rfl
  generalize h.set u _=h3 at g3;have hab:ka≠kb:=by omega
  simp only[qY hkb,nZa,g3,jn hkb,iN hab,nAz,go_sem];simp only[jt (show cw kb (qZ m)+cr kb (m.R.take i)<4611686018427387904 by omega)];refine jF rfl g3 (jn hkb) rfl ?_;simp only[go_sem,wuA (n:=i)];refine qa (i+1,h3.set u (.row 1 ((jM m.C.length λk=>cw k (qZ m)+cr k (m.R.take i)+if ka=k then 1 else 0).set kb (iI ((cw kb (qZ m)+cr kb (m.R.take i)+1:Nat):Int))) true)) ⟨by simp only;omega,λx hx=>?_, ?_⟩ (by simp only;omega) csA
  ·rw[tA1,hc,Option.toList_some]at hx;rcases jR.1 hx with hx | hx
   ·exact hP x hx
   ·rw[lMg.1 hx];simp only[jr,q1,q2,Qt ha,Qt hb,q3,q4,Bool.and_self]
  ·rw[gSs (qp g3),WM (g:=λk=>cw k (qZ m)+cr k (m.R.take (i+1)))]
   ·simp only[Yq hc,if_true];rw[iN (by omega)];omega
   ·intro j hj;simp only[Yq hc];rw[iN (show ¬(kb:Int)=j by omega)];by_cases q:ka=j
    ·rw[iP q,iP (by omega)];omega
    ·rw[iN q,iN (by omega)];omega
 have e:decide ((i:Int)<(m.R.length:Nat))=false:=dEf (by omega);simp only[e,go_sem];rw[tOl (by omega)]at hP g1;have hW:∀w∈qZ m,wOk m.C w:=λw hw=>V8.1 (hA w hw);have hAW:allW m.C:=λk c hc w hw=>hW w (.tail _ (List.mem_flatMap.2 ⟨c,lMo hc,hw⟩));have hcl:∀k,cw k (qZ m)+cr k m.R<=4000000:=λk=>by
  have h1:=Ze (ws:=qZ m) (k:=k);have h2:=XW (rx:=m.R) (k:=k);omega
 refine Sem.loop (λi:Nat=>i<=m.C.length/\∀(k:Nat)(c:qD),k<i->m.C[k]?=some c->(qt c.K=true->z8 m k=1)/\(c.K=13->z8 m k+c.W.length=2)/\(c.K=13->(res m.C (m.C.length+1) ⟨2,k⟩).2=true))
  (λi=>(⟨[(0,.ept m.enc 0),(6,.bool false),(8,sQ 1 u m.C.length),(14,iI (i:Nat))],[],h⟩:VSt)) (λi=>m.C.length-i)
  0 (by kernel_rfl) ⟨nZl _,λk c hk=>by omega⟩ csA ?_
 clear hlt e hi;rintro i ⟨hi,hI⟩;simp only[go_sem];by_cases hlt:i<m.C.length
 ·have e:decide ((i:Int)<(m.C.length:Nat))=true:=dEt (by omega);have hc:=gEg hlt;generalize m.C[i]=c at hc;have hm:=lMo hc;have hcz:c.sz<=1048575:=by have:=jg (f:=qD.sz) hm;have:=List.length_pos_of_mem hm;omega
  have hnext:((qt c.K=true->z8 m i=1)/\(c.K=13->z8 m i+c.W.length=2)/\(c.K=13->(res m.C (m.C.length+1) ⟨2,i⟩).2=true))->∀(k:Nat)(c:qD),k<i+1->m.C[k]?=some c->(qt c.K=true->z8 m k=1)/\(c.K=13->z8 m k+c.W.length=2)/\(c.K=13->(res m.C (m.C.length+1) ⟨2,k⟩).2=true):=λq k d hk hd=>by
   by_cases e:k=i
   ·subst e;rw[hc]at hd;cases hd;exact q
   ·exact hI k d (by omega) hd
  have hcw:c.W.length<=1048576:=by unfold qD.sz at hcz;omega
  simp only[e,gMp,hc,oMs,go_sem];refine qI XQ ?_;simp only[go_sem];cases hag:qt c.K
  ·simp only[go_sem];by_cases hk:c.K=13
   ·simp only[hk,qY hlt,nZa,g1,jn hlt,go_sem];simp only[jO (show-9223372036854775808<=(2:Int)-(c.W.length:Nat) by omega) (by omega)];by_cases hq:((cw i (qZ m)+cr i m.R:Nat):Int)=2-(c.W.length:Nat)
    ·simp only[hq,go_sem];simp only[hk,go_sem];refine qI (c951 (w:=⟨2,(i:Int)⟩) (by omega) ⟨i,c,rfl,hc,.inr ⟨rfl,hk⟩⟩ hAW) ?_;simp only[go_sem];refine lsA ?_;simp only[go_sem];cases hr:(res m.C (m.C.length+1) ⟨2,(i:Int)⟩).2
     ·simp only[go_sem];exact qK rfl (by rw[QH λv=>by have:=v.ends i c hc hk;rw[hr]at this;cases this])
     ·simp only[go_sem,wuA (n:=i)];refine qa (i+1) ⟨by omega,hnext ⟨?_, ?_, ?_⟩⟩ (by omega) csA
      ·intro h;cases h.symm.trans hag
      ·intro _;unfold z8;omega
      ·intro _;exact hr
    ·simp only[hq,decide_false,go_sem];exact qK rfl (by rw[QH λv=>hq (by have:=(v.cnt i c hc).2 hk;unfold z8 at this;omega)])
   ·simp only[hk,decide_false,go_sem];simp only[wuA (n:=i)];refine qa (i+1) ⟨by omega,hnext ⟨?_, ?_, ?_⟩⟩ (by omega) csA
    ·intro h;cases h.symm.trans hag
    ·intro h;exact absurd h hk
    ·intro h;exact absurd h hk
  ·have hk:¬c.K=13:=(WY hag).2;simp only[qY hlt,nZa,g1,jn hlt,go_sem];by_cases hq:((cw i (qZ m)+cr i m.R:Nat):Int)=1
   ·simp only[hq,hk,decide_false,go_sem,wuA (n:=i)];refine qa (i+1) ⟨by omega,hnext ⟨?_, ?_, ?_⟩⟩ (by omega) csA
    ·intro _;unfold z8;omega
    ·intro h;exact absurd h hk
    ·intro h;exact absurd h hk
   ·simp only[hq,decide_false,go_sem];exact qK rfl (by rw[QH λv=>hq (by have:=(v.cnt i c hc).1 hag;unfold z8 at this;omega)])
 have e:decide ((i:Int)<(m.C.length:Nat))=false:=dEf (by omega);simp only[e,go_sem];refine qI (qjR (by omega)) ?_;simp only[go_sem];refine qK rfl ?_;cases hch:wO m.C (jP m.C) m.F
 ·rw[QH λv=>by have:=v.chn;rw[hch]at this;cases this]
 ·rw[Xy.2 ⟨h0,by assumption,hcell,hA,hP,λk c hc=>?_,λk c hc=>?_,hch⟩]
  ·have:=hI k c (by have:=zH hc;omega) hc;exact⟨this.1,this.2.1⟩
  ·exact(hI k c (by have:=zH hc;omega) hc).2.2
theorem c923{m:qH}(hz:m.sz<=1048576):Pure Gm 923 [.ept m.enc 0] (.bool (Ja m)):=by
 refine pJ F923 ?_;simp only[F923,qN,go_sem];refine qI (qi8 hz) ?_;simp only[go_sem];exact qK rfl rfl
theorem XN{c:qD}:Pure Gm 1254 [c.enc] (.bool (qt c.K)):=by
 refine pJ UW ?_;simp only[UW,qN,go_sem];refine qW rfl ?_;simp only[go_sem];apply zA<;>intro hc<;>simp only[hc,go_sem]
 ·exact qK rfl (by rw[qt,hc,Bool.true_and])
 ·exact qK rfl (by rw[qt,hc];rfl)
theorem XO{c:qD}:Pure Gm 1368 [c.enc] (.bool (decide (c.K=13))):=by
 refine pJ KD ?_;simp only[KD,qN,go_sem];refine qW rfl ?_;simp only[go_sem];exact qK rfl rfl
theorem XP{c:qD}:Pure Gm 1455 [c.enc] (.bool (decide (c.K=0))):=by
 refine pJ KY ?_;simp only[KY,qN,go_sem];refine qW rfl ?_;simp only[go_sem];exact qK rfl rfl
def JW(C:List qD)(k:Int):Bool:=decide (0<=k)&&decide (k<(C.length:Nat))
theorem qd2{C:List qD}{k:Int}:JW C k=inI k 0 ((C.length:Int)-1):=by
 unfold JW inI;congr 1;exact decide_eq_decide.2 (by omega)
theorem qd3{C:List qD}{k:Int}(h:¬(0<=k/\k<(C.length:Nat))):JW C k=false:=Bool.eq_false_iff.2 λq=>h (by simpa[JW]using q)
theorem Yf{m:qH}{k:Int}:Pure Gm 1484 [.ept m.enc 0,iI k] (.bool (JW m.C k)):=by
 refine pJ Kd ?_;simp only[Kd,qN,go_sem];apply zA<;>intro hc<;>simp only[hc,go_sem]
 ·exact qK rfl (by rw[JW,hc,Bool.true_and])
 ·exact qK rfl (by rw[JW,hc];rfl)
def JS(c:qD):Bool:=
 if qt c.K=true then qg (qX c)
 else if c.K=13 then decide (c.L=0)&&decide (c.V=0)&&decide ((c.D.length:Int)=0)&&decide ((c.W.length:Int)<=1)
 else decide (c.K=0)&&decide (c.L=0)&&decide ((c.D.length:Int)=0)&&decide ((c.W.length:Int)=0)
theorem qjU{c:qD}(hz:c.sz<=1048575):Pure Gm 1358 [c.enc] (.bool (JS c)):=by
 refine pJ Uy ?_;simp only[Uy,qN,go_sem];unfold qD.sz at hz;refine qW rfl ?_;simp only[go_sem];refine qI XN ?_;simp only[go_sem];cases hag:qt c.K
 ·simp only[go_sem];refine qI XO ?_;simp only[go_sem]
  repeat' (first | (apply zA<;>intro h1<;>simp only[h1,go_sem]) | (apply qS<;>intro h1<;>simp only[h1,go_sem]) | (refine qI XP ?_;simp only[go_sem]) | refine qK rfl ?_)
  all_goals (simp_all[JS])
 ·simp only[go_sem];simp only[jt (show c.W.length<4611686018427387904 by omega)];refine QI (by unfold LIM;omega) ?_;simp only[go_sem];refine Jv (vs':=[(qX c).enc]) (Cvs.cons (.agg rfl ?_) .nil) (qbT (by simp[qX];omega) (by simp[qX];omega)) rfl ?_
  ·intro p hp;have e:List.map qM.enc (qX c).P=List.replicate (c.W.length+1) (AV.agg [AV.int .i64 0,AV.int .i64 0]):=by simp[qX];rfl
   rw[e]at hp;simp only[List.zip_cons_cons,List.zip_nil_left,mCo,List.not_mem_nil,or_false]at hp;rcases hp with rfl | rfl | rfl | rfl | rfl
   ·exact .refl rfl
   ·exact .refl rfl
   ·exact .refl rfl
   ·exact .refl (qb shI.tree _)
   ·exact Cv.row (c:=false) rfl (by simp) (by rw[<-e];exact qb qM.isSh.tree _) (by decide)
  simp only[go_sem];exact qK rfl (by rw[JS,iP hag])
theorem qjX{m:qH}{w:qF}:Pure Gm 1362 [.ept m.enc 0,w.enc] (.bool (wt m.C w)):=by
 refine pJ U8 ?_;simp only[U8,qN,go_sem];refine qW rfl ?_;simp only[go_sem];refine qI Yf ?_;rw[qd2];simp only[go_sem];cases hi:inI w.I 0 ((m.C.length:Int)-1)
 ·simp only[go_sem];exact qK rfl (by rw[qiE hi])
 ·simp only[go_sem];obtain⟨t,a⟩:=w;have hj:=hi;simp only[inI,bAt,dTe]at hj;obtain⟨k,rfl⟩:=eOz hj.1;have hk:k<m.C.length:=by omega
  have hc:=gEg hk;generalize m.C[k]=c at hc;rw[qiD hc];simp only[gMp,hc,oMs,go_sem];refine qU (k:=5) rfl (by simp[go_sem]) ⟨_,rfl⟩ (by decide) ?_;simp only[go_sem]
  repeat' (first | (apply zA<;>intro h1<;>simp only[h1,go_sem]) | (apply qS<;>intro h1<;>simp only[h1,go_sem]) | (refine qI XN ?_;simp only[go_sem]) | (refine qI XO ?_;simp only[go_sem]) | refine qK rfl ?_)
  all_goals (simp_all[kB])
theorem qj0{m:qH}{p:qL}:Pure Gm 1365 [.ept m.enc 0,p.enc] (.bool (jr m.C p)):=by
 obtain⟨A,B⟩:=p;refine pJ KA ?_;simp only[KA,qN,go_sem];refine qW rfl ?_;simp only[go_sem];have no:(¬(A<B/\0<=A/\A<(m.C.length:Nat)/\0<=B/\B<(m.C.length:Nat)))->jr m.C ⟨A,B⟩=false:=λq=>by
  cases e:jr m.C ⟨A,B⟩
  ·rfl
  ·refine absurd ?_ q;simp only[jr,bAt,inI,dTe]at e;omega
 by_cases h1:A<B
 case neg=>
  simp only[h1,decide_false,go_sem];exact qK rfl (by rw[no (λq=>h1 q.1)])
 simp only[h1,go_sem];refine qI Yf ?_;simp only[go_sem];by_cases h2:0<=A/\A<(m.C.length:Nat)
 case neg=>
  have e:JW m.C A=false:=qd3 h2;simp only[e,go_sem];exact qK rfl (by rw[no (λq=>h2 ⟨q.2.1,q.2.2.1⟩)])
 have e:JW m.C A=true:=by simpa[JW]using h2
 simp only[e,go_sem];refine qI Yf ?_;simp only[go_sem];by_cases h3:0<=B/\B<(m.C.length:Nat)
 case neg=>
  have e:JW m.C B=false:=qd3 h3;simp only[e,go_sem];exact qK rfl (by rw[no (λq=>h3 ⟨q.2.2.2.1,q.2.2.2.2⟩)])
 have e:JW m.C B=true:=by simpa[JW]using h3
 simp only[e,go_sem];have q1:inI B 1 ((m.C.length:Int)-1)=true:=by simp only[inI,bAt,dTe];omega
 have q2:inI A 0 (B-1)=true:=by simp only[inI,bAt,dTe];omega
 obtain⟨ka,rfl⟩:=eOz h2.1;obtain⟨kb,rfl⟩:=eOz h3.1;have ha:=gEg (show ka<m.C.length by omega);have hb:=gEg (show kb<m.C.length by omega);generalize m.C[ka]=ca at ha;generalize m.C[kb]=cb at hb;simp only[gMp,ha,oMs,go_sem];refine qI XN ?_;simp only[go_sem];cases q3:qt ca.K
 ·simp only[go_sem];exact qK rfl (by simp only[jr,q1,q2,Qt ha,q3,Bool.false_and,Bool.and_false])
 simp only[gMp,hb,oMs,go_sem];refine qI XN ?_;simp only[go_sem];exact qK rfl (by simp only[jr,q1,q2,Qt ha,Qt hb,q3,Bool.true_and])
def J7(C:List qD):Nat->qF->qF×Bool
 | 0,w=>(⟨0,0⟩,false)
 | n+1,w=>if w.T=1 then(w,true)else match V5 C w with
  |[]=>(w,true)
  | x::_=>J7 C n x
theorem qjM{m:qH}{w:qF}(hs:m.C.length<=140737488355328)(hw:wOk m.C w)(ha:allW m.C):Pure Gm 1256 [.ept m.enc 0,w.enc] (.tup [(J7 m.C (m.C.length+1) w).1.enc,.bool (J7 m.C (m.C.length+1) w).2]):=by
 refine pI UX (by simp[AV.trees,AV.tree,go_sem]) (by simp[AV.trees,AV.tree,go_sem]) ?_;simp only[UX,qN,go_sem];refine qW rfl ?_;simp only[go_sem];simp only[jt (show m.C.length<4611686018427387904 by omega)];generalize hR:J7 m.C (m.C.length+1) w=R;refine Sem.loop (λa:Nat×qF=>a.1<=m.C.length+1/\wOk m.C a.2/\J7 m.C (m.C.length+1-a.1) a.2=R) (λa=>(⟨[(12,iI (a.1:Nat)),(11,iI ((m.C.length+1:Nat):Int)),(5,.bool false),(0,.ept m.enc 0)],[(4,.agg [iI 0,iI 0]),(3,a.2.enc)],[]⟩:VSt)) (λa=>m.C.length+1-a.1) (0,w) (by kernel_rfl) ⟨nZl _,hw,hR⟩ csA ?_;rintro⟨n,t,a⟩ ⟨hi,hk,he⟩;simp only at hi hk he;simp only[go_sem];obtain⟨k,c,rfl,hc,hkc⟩:=hk;by_cases hlt:n<m.C.length+1
 case neg=>
  obtain rfl:n=m.C.length+1:=by omega
  have e:decide (((m.C.length+1:Nat):Int)<((m.C.length+1:Nat):Int))=false:=dEf (by omega);simp only[e,go_sem];refine lsA ?_;simp only[go_sem];rw[nSs]at he;exact zW (by rfl) (by rw[<-he];rfl)
 have e:decide ((n:Int)<((m.C.length+1:Nat):Int))=true:=dEt (by omega);simp only[e,go_sem];obtain⟨r,hr⟩:∃r,m.C.length+1-n=r+1:=⟨m.C.length-n,by omega⟩;rw[hr]at he;by_cases ht:t=1
 ·simp only[ht,go_sem];refine lsA ?_;simp only[go_sem];refine zW (by rfl) ?_;rw[<-he,J7,iP ht,ht]
 ·simp only[ht,decide_false,gMp,hc,oMs,go_sem];cases hw:c.W with
  | nil=>
   simp only[hw,List.map_nil,Int.natCast_zero,go_sem];refine lsA ?_;simp only[go_sem];refine zW (by rfl) ?_;rw[<-he,J7,iN ht,YQ hc,hw]
  | cons x ws=>
   have e2:decide (((ws.length+1:Nat):Int)=0)=false:=dEf (by omega);simp only[hw,lMc,e2,go_sem];simp only[gMp,hc,oMs,go_sem,hw,lMc];refine lsA ?_;simp only[go_sem,wuA (n:=n)];refine qa (n+1,x) ⟨by simp only;omega,ha k c hc x (by rw[hw];exact .head _), ?_⟩ (by simp only;omega) csA;rw[<-he,J7,iN (by simp[ht]),YQ hc,hw];simp only;rw[show m.C.length+1-(n+1)=r by omega]
theorem qj2{m:qH}(hs:m.C.length<=140737488355328):Pure Gm 1367 [.ept m.enc 0] (.bool (wO m.C (jP m.C) m.F)):=by
 refine pJ KC ?_;simp only[KC,qN,go_sem];refine Sem.loop (λi:Nat=>i<=m.C.length)
  (λi=>(⟨[(0,.ept m.enc 0),(2,.bool false),(10,.lst 5 (m.C.map qD.enc) false),(11,iI (m.C.length:Nat)),(3,iI (jP (m.C.take i):Nat)),(12,iI (i:Nat))],[],[]⟩:VSt)) (λi=>m.C.length-i)
  0 (by kernel_rfl) (nZl _) (Can.sub (by simp[go_sem,jP]) (by simp[go_sem])) ?_
 rintro i hi;simp only[go_sem];by_cases hlt:i<m.C.length
 ·have e:decide ((i:Int)<(m.C.length:Nat))=true:=dEt (by omega);have hc:=gEg hlt;generalize m.C[i]=c at hc;simp only[e,gMp,hc,oMs,go_sem];refine qU (k:=5) rfl (by simp[go_sem]) ⟨_,rfl⟩ (by decide) ?_;simp only[go_sem];refine qI XP ?_;simp only[go_sem];have ex:=qdO hc;have hn:jP (m.C.take i)<=i:=nLt Y3 (by simp;omega);refine qI Qz ?_;have ew:∀j:Nat,jP (m.C.take (i+1))=j->IntKind.i64.wrap (((jP (m.C.take i):Nat):Int)+(if decide (c.K=0)=true then 1 else 0))=(j:Nat):=λj hj=>by
   by_cases hk:c.K=0
   ·simp only[hk,decide_true,if_true];rw[iP hk]at ex;rw[wsA];omega
   ·simp only[hk,decide_false,bFt,if_false];rw[iN hk]at ex;rw[wsA];omega
  simp only[go_sem,ew _ rfl,wuA (n:=i)];refine lqA (i+1)
 ·have e:decide ((i:Int)<(m.C.length:Nat))=false:=dEf (by omega);simp only[e,go_sem];rw[tOl (by omega)];have hn:=Y3 (C:=m.C);generalize hF:jP m.C=F at hn;generalize hR:wO m.C F m.F=R;refine Sem.loop (λa:Nat×Int=>a.1<=F/\wO m.C (F-a.1) a.2=R)
   (λa=>(⟨[(0,.ept m.enc 0),(2,.bool false),(26,iI (F:Nat)),(27,iI (a.1:Nat)),(6,iI a.2)],[],[]⟩:VSt)) (λa=>F-a.1)
   (0,m.F) (by kernel_rfl) ⟨nZl _,hR⟩ csA ?_
  rintro⟨n,a⟩ ⟨h1,h2⟩;simp only at h1 h2;simp only[go_sem];by_cases hlt:n<F
  case neg=>
   have e:decide ((n:Int)<(F:Nat))=false:=dEf (by omega);simp only[e,go_sem];rw[show F-n=0 by omega]at h2;exact qK rfl (by rw[<-h2];rfl)
  have e:decide ((n:Int)<(F:Nat))=true:=dEt (by omega);obtain⟨r,hr⟩:∃r,F-n=r+1:=⟨F-n-1,by omega⟩;rw[hr]at h2;simp only[e,go_sem];refine qI Yf ?_;rw[qd2];simp only[go_sem];cases hi:inI a 0 ((m.C.length:Int)-1)
  ·simp only[go_sem];exact qK rfl (by rw[<-h2,qAX hi])
  simp only[go_sem];have hj:=hi;simp only[inI,bAt,dTe]at hj;obtain⟨k,rfl⟩:=eOz hj.1;have hk:k<m.C.length:=by omega
  have hc:=gEg hk;generalize m.C[k]=c at hc;rw[qAW hc]at h2;simp only[gMp,hc,oMs,go_sem];refine qI XP ?_;simp only[go_sem];by_cases h0:c.K=0
  ·simp only[h0,go_sem,gMp,hc,oMs];simp only[wuA (n:=n)];refine qa (n+1,c.V) ⟨by simp only;omega, ?_⟩ (by simp only;omega) csA;rw[<-h2];simp only[h0,decide_true,Bool.true_and];rw[show F-(n+1)=r by omega]
  ·simp only[h0,decide_false,go_sem];exact qK rfl (by rw[<-h2];simp[h0])
theorem qjT{c:qD}(hz:c.sz<=1048575):Pure Gm 1357 [c.enc] (.bool (!JS c)):=by
 refine pJ Ux ?_;simp only[Ux,qN,go_sem];refine qW rfl ?_;simp only[go_sem];refine qI (qjU hz) ?_;simp only[go_sem];exact qK rfl rfl
theorem qjW{m:qH}{w:qF}:Pure Gm 1361 [w.enc,.ept (.ept m.enc 0) 0] (.bool (!wt m.C w)):=by
 refine pJ U0 ?_;simp only[U0,qN,go_sem];refine qW rfl ?_;simp only[go_sem];refine qI qjX ?_;simp only[go_sem];exact qK rfl rfl
theorem qjZ{m:qH}{p:qL}:Pure Gm 1364 [p.enc,.ept (.ept m.enc 0) 0] (.bool (!jr m.C p)):=by
 refine pJ U9 ?_;simp only[U9,qN,go_sem];refine qW rfl ?_;simp only[go_sem];refine qI qj0 ?_;simp only[go_sem];exact qK rfl rfl
theorem qjS{xs:List qD}(hx:∀c∈xs,c.sz<=1048575)(hl:xs.length<=1048576):Pure Gm 1356 [.lst 5 (xs.map qD.enc) false,.fn 1357 []] (.bool (xs.any λc=> !JS c)):=
 WO qD.isSh (gc:=1482) (gk _ qM8) (gk _ qQN) _ (λc=> !JS c) rfl xs (λc hc=>⟨1357,[],rfl,qjT (hx c hc)⟩) hl
theorem qjV{m:qH}{xs:List qF}(hl:xs.length<=1048576):Pure Gm 1359 [.lst 2 (xs.map qF.enc) false,.fn 1361 [.ept (.ept m.enc 0) 0]] (.bool (xs.any λc=> !wt m.C c)):=
 WO qF.isSh (gc:=1483) (gk _ qNE) (gk _ qQO) _ (λc=> !wt m.C c) (by simp[AV.trees,AV.tree,go_sem]) xs (λc hc=>⟨1361,[.ept (.ept m.enc 0) 0],rfl,qjW⟩) hl
theorem qjY{m:qH}{xs:List qL}(hl:xs.length<=1048576):Pure Gm 1363 [.lst 2 (xs.map qL.enc) false,.fn 1364 [.ept (.ept m.enc 0) 0]] (.bool (xs.any λc=> !jr m.C c)):=
 WO qL.isSh (gc:=1485) (gk _ qNO) (gk _ qQQ) _ (λc=> !jr m.C c) (by simp[AV.trees,AV.tree,go_sem]) xs (λc hc=>⟨1364,[.ept (.ept m.enc 0) 0],rfl,qjZ⟩) hl
theorem qg8{m:qH}{h0:List qB}(hs:m.C.length<=1048576)(hw:(m.C.flatMap (·.W)).length<=2000000):SCall Gm 1360 [.ept m.enc 0] h0 (λv h'=>Up (λ_=>False) h0 h'/\∃id,h0.length<=id/\v=.slice 2 id 0 (qZ m).length false/\h'[id]?=some (.row 2 ((qZ m).map qF.enc) true)):=by
 refine sI Uz ?_;simp only[Uz,qN,go_sem];refine Sem.loop (λa:Nat×AV×List qB=>a.1<=m.C.length/\Up (λ_=>False) h0 a.2.2/\LsW (λj=>h0.length<=j) 2 a.2.2 a.2.1 ((m.O::(m.C.take a.1).flatMap (·.W)).map qF.enc))
  (λa=>(⟨[(14,.lst 5 (m.C.map qD.enc) false),(15,iI (m.C.length:Nat)),(3,a.2.1),(16,iI (a.1:Nat))],[],a.2.2⟩:VSt)) (λa=>m.C.length-a.1)
  (0,sQ 2 h0.length 1,_) (by kernel_rfl) ⟨nZl _,Up.app _,.inr ⟨h0.length,nLr _,rfl,by simp⟩⟩ csA ?_
 rintro⟨i,v,h⟩ ⟨hi,u0,I⟩;simp only at hi u0 I;simp only[go_sem];by_cases hlt:i<m.C.length
 ·have e:decide ((i:Int)<(m.C.length:Nat))=true:=dEt (by omega);have hc:=gEg hlt;generalize m.C[i]=c at hc;simp only[e,gMp,hc,oMs,go_sem];refine qU (k:=5) rfl (by simp[go_sem]) ⟨_,rfl⟩ (by decide) ?_;simp only[go_sem];have ex:=qdL hc;have hl:=qdK (C:=m.C) (i:=i+1);rw[ex,lAp]at hl;refine qbC I Els.lst (by simp only[lMp,lCo];omega) λh3 u3 v3 l3=>?_;simp only[go_sem,wuA (n:=i)];refine qa (i+1,.slice 2 h.length 0 (((m.O::(m.C.take i).flatMap (·.W)).map qF.enc).length+(c.W.map qF.enc).length) false,h3) ⟨by simp only;omega,u0.trans u3 (λj hj q=>by have:=q.1;omega),.inr ⟨h.length,u0.1, ?_, ?_⟩⟩ (by simp only;omega) csA
  ·simp only[ex,lMp,lCo,lAp];rw[show ∀a b:Nat,a+b+1=a+1+b from λa b=>by omega]
  ·simp only[ex];rw[v3];simp
 ·have e:decide ((i:Int)<(m.C.length:Nat))=false:=dEf (by omega);simp only[e,go_sem];rw[tOl (by omega)]at I;rcases I with⟨_,h2⟩ | ⟨id,q1,q2,q3⟩
  ·cases h2
  ·exact⟨u0,id,q1,by rw[q2,lMp,qZ],q3⟩
noncomputable def Wo(m:qH):Bool:= @decide (∀(k:Nat)(c:qD),m.C[k]?=some c->z8 m k=zR c) (Classical.propDecidable _)
theorem VX{m:qH}:Wo m=true↔∀(k:Nat)(c:qD),m.C[k]?=some c->z8 m k=zR c:=by unfold Wo;exact @decide_eq_true_iff _ (Classical.propDecidable _)
theorem VY{m:qH}{k:Nat}{c:qD}(hc:m.C[k]?=some c)(h:z8 m k≠zR c):Wo m=false:=Bool.eq_false_iff.2 λq=>h (VX.1 q k c hc)
theorem qj1{m:qH}(hs:m.C.length<=1048576)(hfm:(m.C.flatMap (·.W)).length<=1048576)(hrl:m.R.length<=1048576)(hW:∀w∈qZ m,wOk m.C w)(hR:∀p∈m.R,jr m.C p=true):Pure Gm 1366 [.ept m.enc 0,.nils] (.bool (Wo m)):=by
 refine pJ KB ?_;simp only[KB,qN,go_sem];refine QI (by unfold LIM;omega) ?_;simp only[go_sem];refine qk (SCall.mono (qg8 (by omega) (by omega)) ?_);rintro v1 h1 ⟨up1,wd,hwd,rfl,hw1⟩;have hLl:(qZ m).length<=1048577:=by rw[qZ,lCo];omega
 simp only[go_sem];refine WH (ys:=[]) ⟨trivial,rfl⟩ hw1 (by rw[lMp]) (by simp only[lNi];omega) ?_;simp only[go_sem,nAz,lAn];have g1:(h1.set wd .dead++[qB.row 2 ((qZ m).map qF.enc) true])[0]?=some (.row 1 (jM m.C.length λk=>cw k ((qZ m).take 0)) true):=by
  have:=up1.1;simp only[lAp,lCo,lNi]at this hwd;rw[gAl (by rw[lLs];omega),gSn (by omega)];refine up1.at ?_ id;show some (qB.row 1 (List.replicate m.C.length (AV.int .i64 0)) true)=_;rw[<-qcQ];rfl
 have g2:(h1.set wd .dead++[qB.row 2 ((qZ m).map qF.enc) true])[h1.length]?=some (.row 2 ((qZ m).map qF.enc) true):=by
  rw[gAr (by rw[lLs];omega),lLs,nSs];rfl
 generalize h1.set wd .dead++[qB.row 2 ((qZ m).map qF.enc) true]=h2 at g1 g2;generalize h1.length=wp at g2;clear hw1 up1 hwd;refine Sem.loop (λa:Nat×List qB=>a.1<=(qZ m).length/\a.2[0]?=some (.row 1 (jM m.C.length λk=>cw k ((qZ m).take a.1)) true)/\a.2[wp]?=some (.row 2 ((qZ m).map qF.enc) true))
  (λa=>(⟨[(0,.ept m.enc 0),(4,.bool false),(5,sQ 1 0 m.C.length),(22,.slice 2 wp 0 (qZ m).length false),(23,iI ((qZ m).length:Nat)),(24,iI (a.1:Nat))],[],a.2⟩:VSt)) (λa=>(qZ m).length-a.1)
  (0,h2) (by kernel_rfl) ⟨nZl _,g1,g2⟩ csA ?_
 clear g1 g2;rintro⟨i,h⟩ ⟨hi,g1,g2⟩;simp only at hi g1 g2;simp only[go_sem];by_cases hlt:i<(qZ m).length
 ·have e:decide ((i:Int)<((qZ m).length:Nat))=true:=dEt (by omega);have hc:=gEg hlt;generalize (qZ m)[i]=w at hc;have hm:=lMo hc;obtain⟨k,d,hw1,hw2,hw3⟩:=hW w hm;have hk:=zH hw2;simp only[e,qY hlt,nZa,g2,gMp,hc,oMs,go_sem];refine lsA ?_;simp only[hw1,qY hk,nZa,g1,jn hk,go_sem];have hcl:=Ze (ws:=(qZ m).take i) (k:=k);rw[lLt]at hcl;simp only[jt (show cw k ((qZ m).take i)<4611686018427387904 by omega)];refine jF rfl g1 (jn hk) rfl ?_;simp only[go_sem,wuA (n:=i)];have hne:=qe8 g1 g2 (by simp);refine qa (i+1,h.set 0 (.row 1 ((jM m.C.length λk=>cw k ((qZ m).take i)).set k (iI ((cw k ((qZ m).take i)+1:Nat):Int))) true)) ⟨by simp only;omega, ?_, ?_⟩ (by simp only;omega) csA
  ·rw[gSs (qp g1),WM (g:=λk=>cw k ((qZ m).take (i+1)))]
   ·simp only[Yr hc,hw1,if_true]
   ·intro j hj;simp only[Yr hc,hw1];rw[iN (by omega),nAz]
  ·rw[gSn hne];exact g2
 have e:decide ((i:Int)<((qZ m).length:Nat))=false:=dEf (by omega);simp only[e,go_sem];rw[tOl (by omega)]at g1;clear g2;refine Sem.loop (λa:Nat×List qB=>a.1<=m.R.length/\a.2[0]?=some (.row 1 (jM m.C.length λk=>cw k (qZ m)+cr k (m.R.take a.1)) true))
  (λa=>(⟨[(0,.ept m.enc 0),(4,.bool false),(5,sQ 1 0 m.C.length),(39,.lst 2 (m.R.map qL.enc) false),(40,iI (m.R.length:Nat)),(41,iI (a.1:Nat))],[],a.2⟩:VSt)) (λa=>m.R.length-a.1)
  (0,h) (by kernel_rfl) ⟨nZl _,g1⟩ csA ?_
 clear g1 hlt e hi;rintro⟨i,h⟩ ⟨hi,g1⟩;simp only at hi g1;simp only[go_sem];by_cases hlt:i<m.R.length
 ·have e:decide ((i:Int)<(m.R.length:Nat))=true:=dEt (by omega);have hc:=gEg hlt;generalize m.R[i]=p at hc;have hm:=lMo hc;have hp:=hR p hm;simp only[e,gMp,hc,oMs,go_sem];refine lsA ?_;obtain⟨A,B⟩:=p;simp only[jr,bAt,inI,dTe]at hp;obtain⟨ka,rfl⟩:=eOz hp.1.1.2.1;obtain⟨kb,rfl⟩:=eOz (show 0<=B by omega);have hka:ka<m.C.length:=by omega
  have hkb:kb<m.C.length:=by omega
  simp only[qY hka,nZa,g1,jn hka,go_sem];have hcl:=Ze (ws:=qZ m) (k:=ka);have hcl2:=Ze (ws:=qZ m) (k:=kb);have hcr:=XW (rx:=m.R.take i) (k:=ka);have hcr2:=XW (rx:=m.R.take i) (k:=kb);rw[lLt]at hcr hcr2;simp only[jt (show cw ka (qZ m)+cr ka (m.R.take i)<4611686018427387904 by omega)];refine jF rfl g1 (jn hka) rfl ?_;have g3:(h.set 0 (.row 1 ((jM m.C.length λk=>cw k (qZ m)+cr k (m.R.take i)).set ka (iI ((cw ka (qZ m)+cr ka (m.R.take i)+1:Nat):Int))) true))[0]?=some (.row 1 (jM m.C.length λk=>cw k (qZ m)+cr k (m.R.take i)+if ka=k then 1 else 0) true):=by
   rw[gSs (qp g1),WM (g:=λk=>cw k (qZ m)+cr k (m.R.take i)+if ka=k then 1 else 0)]
   ·simp only[if_true]
   ·intro j hj;rw[iN (Ne.symm hj)];rfl
  generalize h.set 0 _=h3 at g3;have hab:ka≠kb:=by omega
  simp only[qY hkb,nZa,g3,jn hkb,iN hab,nAz,go_sem];simp only[jt (show cw kb (qZ m)+cr kb (m.R.take i)<4611686018427387904 by omega)];refine jF rfl g3 (jn hkb) rfl ?_;simp only[go_sem,wuA (n:=i)];refine qa (i+1,h3.set 0 (.row 1 ((jM m.C.length λk=>cw k (qZ m)+cr k (m.R.take i)+if ka=k then 1 else 0).set kb (iI ((cw kb (qZ m)+cr kb (m.R.take i)+1:Nat):Int))) true)) ⟨by simp only;omega, ?_⟩ (by simp only;omega) csA;rw[gSs (qp g3),WM (g:=λk=>cw k (qZ m)+cr k (m.R.take (i+1)))]
  ·simp only[Yq hc,if_true];rw[iN (by omega)];omega
  ·intro j hj;simp only[Yq hc];rw[iN (show ¬(kb:Int)=j by omega)];by_cases q:ka=j
   ·rw[iP q,iP (by omega)];omega
   ·rw[iN q,iN (by omega)];omega
 have e:decide ((i:Int)<(m.R.length:Nat))=false:=dEf (by omega);simp only[e,go_sem];rw[tOl (by omega)]at g1;refine Sem.loop (λi:Nat=>i<=m.C.length/\∀(k:Nat)(c:qD),k<i->m.C[k]?=some c->z8 m k=zR c)
  (λi=>(⟨[(4,.bool false),(5,sQ 1 0 m.C.length),(63,.lst 5 (m.C.map qD.enc) false),(64,iI (m.C.length:Nat)),(65,iI (i:Nat))],[],h⟩:VSt)) (λi=>m.C.length-i)
  0 (by kernel_rfl) ⟨nZl _,λk c hk=>by omega⟩ csA ?_
 clear hlt e hi;rintro i ⟨hi,hI⟩;simp only[go_sem];by_cases hlt:i<m.C.length
 ·have e:decide ((i:Int)<(m.C.length:Nat))=true:=dEt (by omega);have hc:=gEg hlt;generalize m.C[i]=c at hc;simp only[e,gMp,hc,oMs,go_sem];refine qU (k:=5) rfl (by simp[go_sem]) ⟨_,rfl⟩ (by decide) ?_;simp only[go_sem];refine qI XP ?_;have hnext:z8 m i=zR c->∀(k:Nat)(c:qD),k<i+1->m.C[k]?=some c->z8 m k=zR c:=λq k d hk hd=>by
   by_cases e:k=i
   ·subst e;rw[hc]at hd;cases hd;exact q
   ·exact hI k d (by omega) hd
  simp only[go_sem];by_cases h0:c.K=0
  ·have ew:zR c=0:=by rw[zR,iP h0]
   simp only[h0,go_sem];simp only[qY hlt,nZa,g1,jn hlt,go_sem];by_cases hq:((cw i (qZ m)+cr i m.R:Nat):Int)=0
   ·simp only[hq,go_sem,wuA (n:=i)];refine qa (i+1) ⟨by omega,hnext (by rw[ew];unfold z8;omega)⟩ (by omega) csA
   ·simp only[hq,decide_false,go_sem];exact qK rfl (by rw[VY hc (by rw[ew];unfold z8;omega)])
  ·simp only[h0,decide_false,go_sem];refine qI XO ?_;simp only[go_sem];by_cases h13:c.K=13
   ·simp only[h13,go_sem];by_cases hn:c.W=[]
    ·have ew:zR c=2:=by rw[zR,iN h0,iP ⟨h13,hn⟩]
     simp only[hn,List.map_nil,Int.natCast_zero,go_sem];simp only[qY hlt,nZa,g1,jn hlt,go_sem];by_cases hq:((cw i (qZ m)+cr i m.R:Nat):Int)=2
     ·simp only[hq,go_sem,wuA (n:=i)];refine qa (i+1) ⟨by omega,hnext (by rw[ew];unfold z8;omega)⟩ (by omega) csA
     ·simp only[hq,decide_false,go_sem];exact qK rfl (by rw[VY hc (by rw[ew];unfold z8;omega)])
    ·have ew:zR c=1:=by rw[zR,iN h0,iN (by simp[hn])]
     have en:decide ((c.W.length:Int)=0)=false:=dEf λq=>hn (lEz (by omega));simp only[en,go_sem];simp only[qY hlt,nZa,g1,jn hlt,go_sem];by_cases hq:((cw i (qZ m)+cr i m.R:Nat):Int)=1
     ·simp only[hq,go_sem,wuA (n:=i)];refine qa (i+1) ⟨by omega,hnext (by rw[ew];unfold z8;omega)⟩ (by omega) csA
     ·simp only[hq,decide_false,go_sem];exact qK rfl (by rw[VY hc (by rw[ew];unfold z8;omega)])
   ·have ew:zR c=1:=by rw[zR,iN h0,iN (by simp[h13])]
    simp only[h13,decide_false,go_sem];simp only[qY hlt,nZa,g1,jn hlt,go_sem];by_cases hq:((cw i (qZ m)+cr i m.R:Nat):Int)=1
    ·simp only[hq,go_sem,wuA (n:=i)];refine qa (i+1) ⟨by omega,hnext (by rw[ew];unfold z8;omega)⟩ (by omega) csA
    ·simp only[hq,decide_false,go_sem];exact qK rfl (by rw[VY hc (by rw[ew];unfold z8;omega)])
 have e:decide ((i:Int)<(m.C.length:Nat))=false:=dEf (by omega);simp only[e,go_sem];exact qK rfl (by rw[VX.2 λk c hc=>hI k c (by have:=zH hc;omega) hc])
theorem qkP{c:qD}{s:Int}(h:JI c s=true):JS c=true:=by
 unfold JI at h;unfold JS;by_cases h0:c.K=0
 ·rw[iP h0]at h;rw[iN (by rw[h0];decide),iN (by omega)];simp only[bAt,dTe]at h|-;exact⟨⟨⟨h0,h.1.1.1⟩,h.1.1.2⟩,h.1.2⟩
 ·rw[iN h0]at h;by_cases h1:c.K=13
  ·rw[iP h1]at h;rw[iN (by rw[h1];decide),iP h1];simp only[bAt,dTe]at h|-;exact⟨h.1,by omega⟩
  ·rw[iN h1]at h;by_cases h2:qt c.K=true
   ·rw[iP h2]at h|-;exact h
   ·rw[iN h2]at h;cases h
theorem qkR{c:qD}{s:Int}(h:JS c=true)(hv:c.K=0->inI c.V (-1) (s-1)=true):JI c s=true:=by
 unfold JS at h;unfold JI;by_cases h2:qt c.K=true
 ·have:=WY h2;rw[iP h2]at h;rw[iN this.1,iN this.2,iP h2];exact h
 ·rw[iN h2]at h;by_cases h1:c.K=13
  ·rw[iP h1]at h;rw[iN (by omega),iP h1];simp only[bAt,dTe]at h|-;exact⟨h.1,by omega⟩
  ·rw[iN h1]at h;simp only[bAt,dTe]at h;rw[iP h.1.1.1];simp only[bAt,dTe];exact⟨⟨⟨h.1.1.2,h.1.2⟩,h.2⟩,hv h.1.1.1⟩
theorem qgS{C:List qD}(ha:allW C):∀{n:Nat}{w:qF},wOk C w->(J7 C n w).2=(res C n w).2/\((res C n w).2=true->J7 C n w=res C n w)
 | 0,w,_=>⟨rfl,λh=>by cases h⟩
 | n+1,⟨t,a⟩,⟨k,c,e,hc,hk⟩=>by
  simp only at e hk;subst e;rcases hk with⟨rfl,hk⟩ | ⟨rfl,hk⟩
  ·exact⟨rfl,λ_=>rfl⟩
  ·rw[J7,res,iN (show ¬(2:Int)=1 by decide),iN (by simp),YQ hc];cases hw:c.W with
   | nil=>exact⟨rfl,λ_=>rfl⟩
   | cons x ws=>exact qgS ha (ha k c hc x (by rw[hw];exact .head _))
theorem VM.occ{m:qH}(h:VM m):Wo m=true:=VX.2 λk c hc=>by
 rw[<-h.mi.occ k c hc,qA2,z8,qZ,zL,zL,Zf];omega
theorem qi9{m:qH}(hz:m.sz<=1048576):Pure Gm 1068 [.ept m.enc 0,.nils] (.bool (Ja m)):=by
 have hsz:m.C.length+qx qD.sz m.C+m.R.length<=1048576:=by unfold qH.sz at hz;exact hz
 refine pJ UH ?_;simp only[UH,qN,go_sem];refine QD rfl ?_;simp only[go_sem];have g0:([]++[qB.row 1 [m.enc.ept 0] true]:List qB)[0]?=some (.row 1 [.ept m.enc 0] true):=rfl;generalize ([]++[qB.row 1 [m.enc.ept 0] true]:List qB)=h0 at g0|-;simp only[g0,go_sem];have bad:∀{P:Prop},(VM m->P)->¬P->Ja m=false:=λh n=>QH λv=>n (h v);by_cases n1:m.C.length<1
 ·have e:decide ((m.C.length:Int)<1)=true:=dEt (by omega);simp only[e,go_sem];refine qK rfl (by rw[bad (λv=>v.sz) (by simp only[inI,bAt,dTe];omega)])
 have e:decide ((m.C.length:Int)<1)=false:=dEf (by omega);simp only[e,g0,go_sem];by_cases n2:1500<m.C.length
 ·have e:decide ((1500:Int)<(m.C.length:Nat))=true:=dEt (by omega);simp only[e,go_sem];refine qK rfl (by rw[bad (λv=>v.sz) (by simp only[inI,bAt,dTe];omega)])
 have e:decide ((1500:Int)<(m.C.length:Nat))=false:=dEf (by omega);simp only[e,g0,go_sem];by_cases n3:m.C.length<m.R.length
 ·have e:decide ((m.C.length:Int)<(m.R.length:Nat))=true:=dEt (by omega);simp only[e,go_sem];refine qK rfl (by rw[bad (λv=>v.rs) (by omega)])
 have e:decide ((m.C.length:Int)<(m.R.length:Nat))=false:=dEf (by omega);simp only[e,g0,go_sem];have hfm:=qBG (C:=m.C);refine qI (qjS (λc hc=>by have:=jg (f:=qD.sz) hc;have:=List.length_pos_of_mem hc;omega) (by omega)) ?_;simp only[go_sem];cases e1:m.C.any λc=> !JS c
 case true=>
  simp only[go_sem];obtain⟨c,hc,hn⟩:=List.any_eq_true.1 e1;exact qK rfl (by rw[bad (λv=>qkP (v.cell c hc)) (by simpa using hn)])
 have hcell:∀c∈m.C,JS c=true:=λc hc=>by
  have:=List.any_eq_false.1 e1 c hc;simpa using this
 simp only[g0,go_sem];refine qk (SCall.mono (qg8 (m:=m) (by omega) (by omega)) ?_);rintro v1 h1 ⟨up1,wd,hwd,rfl,hw1⟩;have hLl:(qZ m).length<=1048576:=by rw[qZ,lCo];omega
 simp only[go_sem];refine WH (ys:=[]) ⟨trivial,rfl⟩ hw1 (by rw[lMp]) (by simp only[lNi];omega) ?_;simp only[go_sem,nAz,lAn];have g1:(h1.set wd .dead++[qB.row 2 ((qZ m).map qF.enc) true])[0]?=some (.row 1 [.ept m.enc 0] true):=by
  have:=up1.1;have:=qp g0;rw[gAl (by rw[lLs];omega),gSn (by omega)];exact up1.at g0 id
 have g2:(h1.set wd .dead++[qB.row 2 ((qZ m).map qF.enc) true])[h1.length]?=some (.row 2 ((qZ m).map qF.enc) true):=by
  rw[gAr (by rw[lLs];omega),lLs,nSs];rfl
 generalize h1.set wd .dead++[qB.row 2 ((qZ m).map qF.enc) true]=h2 at g1 g2;generalize h1.length=wp at g2;clear hw1 up1 hwd;have cf:∀(g:Nat),∀p∈[AV.ptr 0 0 0].zip [AV.ept (.ept m.enc 0) 0],Cv h2 p.1 p.2:=λg p hp=>by
  simp only[List.zip_cons_cons,List.zip_nil_left,mCo,List.not_mem_nil,or_false]at hp;rw[hp];exact .ptr g1 (by decide) rfl (.refl (by simp[AV.tree,go_sem]))
 refine Jv (vs':=[.lst 2 ((qZ m).map qF.enc) false,.fn 1361 [.ept (.ept m.enc 0) 0]]) (Cvs.cons (Cv.row (c:=false) g2 (by simp) (qb qF.isSh.tree _) (by decide)) (Cvs.cons (.fn rfl (cf 0)) .nil)) (qjV (by omega)) rfl ?_;simp only[go_sem];cases e2:(qZ m).any λw=> !wt m.C w
 case true=>
  simp only[go_sem];obtain⟨c,hc,hn⟩:=List.any_eq_true.1 e2;exact qK rfl (by rw[bad (λv=>v.wrd c hc) (by simpa using hn)])
 have hwrd:∀w∈qZ m,wt m.C w=true:=λc hc=>by
  have:=List.any_eq_false.1 e2 c hc;simpa using this
 simp only[g1,go_sem];refine Jv (vs':=[.lst 2 (m.R.map qL.enc) false,.fn 1364 [.ept (.ept m.enc 0) 0]]) (Cvs.cons (.refl (qb qL.isSh.tree _)) (Cvs.cons (.fn rfl (cf 0)) .nil)) (qjY (by omega)) rfl ?_;simp only[go_sem];cases e3:m.R.any λp=> !jr m.C p
 case true=>
  simp only[go_sem];obtain⟨c,hc,hn⟩:=List.any_eq_true.1 e3;exact qK rfl (by rw[bad (λv=>v.rdx c hc) (by simpa using hn)])
 have hrdx:∀p∈m.R,jr m.C p=true:=λc hc=>by
  have:=List.any_eq_false.1 e3 c hc;simpa using this
 have hW:∀w∈qZ m,wOk m.C w:=λw hw=>V8.1 (hwrd w hw);have hAW:allW m.C:=λk c hc w hw=>hW w (.tail _ (List.mem_flatMap.2 ⟨c,lMo hc,hw⟩));simp only[g1,go_sem];refine qI (qj1 (by omega) (by omega) (by omega) hW hrdx) ?_;simp only[go_sem];cases e4:Wo m
 case false=>
  simp only[go_sem];exact qK rfl (by rw[bad (λv=>v.occ) (by simp[e4])])
 simp only[g1,go_sem];refine qI (qj2 (by omega)) ?_;simp only[go_sem];cases e5:wO m.C (jP m.C) m.F
 case false=>
  simp only[go_sem];exact qK rfl (by rw[bad (λv=>v.chn) (by simp[e5])])
 simp only[g1,go_sem];refine Sem.loop (λi:Nat=>i<=m.C.length/\∀(k:Nat)(c:qD),k<i->m.C[k]?=some c->c.K=13->(res m.C (m.C.length+1) ⟨2,k⟩).2=true)
  (λi=>(⟨[(2,.ptr 0 0 0),(4,.bool false),(69,.lst 5 (m.C.map qD.enc) false),(70,iI (m.C.length:Nat)),(71,iI (i:Nat))],[],h2⟩:VSt)) (λi=>m.C.length-i)
  0 (by kernel_rfl) ⟨nZl _,λk c hk=>by omega⟩ csA ?_
 rintro i ⟨hi,hI⟩;simp only[go_sem];by_cases hlt:i<m.C.length
 ·have e:decide ((i:Int)<(m.C.length:Nat))=true:=dEt (by omega);have hc:=gEg hlt;generalize m.C[i]=c at hc;simp only[e,gMp,hc,oMs,go_sem];refine qU (k:=5) rfl (by simp[go_sem]) ⟨_,rfl⟩ (by decide) ?_;simp only[go_sem];refine qI XO ?_;simp only[go_sem];by_cases h13:c.K=13
  ·have hv:wOk m.C ⟨2,(i:Int)⟩:=⟨i,c,rfl,hc,.inr ⟨rfl,h13⟩⟩;have hr:=(qgS hAW (n:=m.C.length+1) hv).1;simp only[h13,g1,go_sem];refine qI (qjM (w:=⟨2,(i:Int)⟩) (by omega) hv hAW) ?_;simp only[go_sem];refine lsA ?_;simp only[go_sem,hr];cases e6:(res m.C (m.C.length+1) ⟨2,(i:Int)⟩).2
   ·simp only[go_sem];exact qK rfl (by rw[bad (λv=>v.ends i c hc h13) (by simp[e6])])
   ·simp only[go_sem,wuA (n:=i)];refine qa (i+1) ⟨by omega,λk d hk hd h3=>?_⟩ (by omega) csA;by_cases e:k=i
    ·subst e;exact e6
    ·exact hI k d (by omega) hd h3
  ·simp only[h13,decide_false,go_sem,wuA (n:=i)];refine qa (i+1) ⟨by omega,λk d hk hd h3=>?_⟩ (by omega) csA;by_cases e:k=i
   ·subst e;rw[hc]at hd;cases hd;exact absurd h3 h13
   ·exact hI k d (by omega) hd h3
 have e:decide ((i:Int)<(m.C.length:Nat))=false:=dEf (by omega);simp only[e,go_sem];refine qK rfl ?_;have hocc:=VX.1 e4;rw[Xy.2 ⟨by simp only[inI,bAt,dTe];omega,by omega,λc hc=>?_,hwrd,hrdx,λk c hc=>?_,λk c hc=>hI k c (by have:=zH hc;omega) hc,e5⟩]
 ·obtain⟨k,hk⟩:=List.getElem?_of_mem hc;refine qkR (hcell c hc) λh0=>?_;obtain⟨L,hL⟩:=FrC.of e5;exact hL.val hk h0
 ·have h:=hocc k c hc;have hv:=hcell c (lMo hc);refine⟨λq=>?_,λq=>?_⟩
  ·have:=WY q;rw[h,zR,iN this.1,iN (by simp[this.2])]
  ·rw[h,zR,iN (by omega)];unfold JS at hv;rw[iN (by rw[q];decide),iP q]at hv;simp only[bAt,dTe]at hv;by_cases hw:c.W=[]
   ·rw[iP ⟨q,hw⟩,hw];rfl
   ·rw[iN (by simp[hw])];have:c.W.length≠0:=λe=>hw (lEz e);omega
theorem c867{m:qH}(hz:m.sz<=1048576):Pure Gm 867 [m.enc] (.bool (Ja m)):=by
 refine pJ kq ?_;simp only[kq,qN,go_sem];refine QD rfl ?_;simp only[go_sem];refine Jv (vs':=[.ept m.enc 0,.nils]) (Cvs.cons (.ptr rfl (by decide) rfl (.refl qH.tr)) (Cvs.cons (.refl rfl) .nil)) (qi9 hz) rfl ?_;simp only[go_sem];exact qK rfl rfl
def cE(c:qD)(dv wv:AV):AV:=.agg [iI c.K,iI c.L,iI c.V,dv,wv]
@[go_sem] theorem qrO{c:qD}{dv wv:AV}:(cE c dv wv).part 0 (some 5)=some (cE c dv wv):=rfl
@[go_sem] theorem qrQ{c:qD}{dv wv:AV}:(cE c dv wv).part 0 none=some (iI c.K):=rfl
@[go_sem] theorem qrR{c:qD}{dv wv:AV}:(cE c dv wv).part 1 none=some (iI c.L):=rfl
@[go_sem] theorem qrS{c:qD}{dv wv:AV}:(cE c dv wv).part 2 none=some (iI c.V):=rfl
@[go_sem] theorem qrT{c:qD}{dv wv:AV}:(cE c dv wv).part 3 none=some dv:=rfl
@[go_sem] theorem qrU{c:qD}{dv wv:AV}:(cE c dv wv).part 4 none=some wv:=rfl
@[go_sem] theorem qrP{c:qD}{dv wv:AV}:(cE c dv wv).cells.length=5:=rfl
def CV(P:Nat->Prop)(h:List qB)(v:AV)(c:qD):Prop:=∃dv wv,v=cE c dv wv/\LsW P 1 h dv (c.D.map qP)/\LsW P 2 h wv (c.W.map qF.enc)
def mE(m:qH)(cid:Nat)(rv:AV)(post:List AV):AV:=.agg (sQ 5 cid m.C.length::iI m.F::iI m.O.T::iI m.O.I::rv::post)
theorem Wu{cs:List AV}{n:Nat}{x v:AV}(hv:v.cells=[v])(hn:cs[n]?=some x):(AV.agg cs).put n v=some (.agg (cs.set n v)):=by
 have hl:=qp hn;show (if n+v.cells.length<=cs.length then some (AV.agg (List.take n cs++(v.cells++List.drop (n+v.cells.length) cs)))else none)=_;rw[hv,iP (by simp;omega)];simp only[lCo,lNi,nZa];rw[List.set_eq_take_append_cons_drop,iP hl];rfl
section
variable {m:qH} {cid:Nat} {rv:AV} {post:List AV}
theorem qnO{f:Int}:(mE m cid rv post).put 1 (iI f)=some (mE {m with F:=f} cid rv post):=Wu rfl rfl
theorem qnP{rx:List qL}{rv':AV}(hv:rv'.cells=[rv']):(mE m cid rv post).put 4 rv'=some (mE {m with R:=rx} cid rv' post):=Wu hv rfl
@[go_sem] theorem quV:(mE m cid rv post).part 0 none=some (sQ 5 cid m.C.length):=rfl
@[go_sem] theorem quW:(mE m cid rv post).part 1 none=some (iI m.F):=rfl
@[go_sem] theorem quX:(mE m cid rv post).part 4 none=some rv:=rfl
end
structure MO(w mid:Nat)(post:List AV)(ow:Nat->Nat)(h:List qB)(m:qH)(cid:Nat)(cs:List AV)(rv:AV):Prop where
 o:h[mid]?=some (.row w [mE m cid rv post] true)
 c:h[cid]?=some (.row 5 cs true)
 l:cs.length=m.C.length
 e:∀(k:Nat)(c:qD),m.C[k]?=some c->∃v,cs[k]?=some v/\CV (λj=>ow j=k+3) h v c
 r:LsW (λj=>ow j=2) 2 h rv (m.R.map qL.enc)
 m1:ow mid=1
 c1:ow cid=1
 ne:mid≠cid
 b:∀j,ow j≠0->j<h.length
def MH(w mid:Nat)(post:List AV)(ow:Nat->Nat)(h:List qB)(m:qH):Prop:=∃cid cs rv,MO w mid post ow h m cid cs rv
structure Fo(ow:Nat->Nat)(h:List qB)(ow':Nat->Nat)(h':List qB):Prop where
 l:h.length<=h'.length
 k:∀j,j<h.length->ow j=0->ow' j=0/\h'[j]?=h[j]?
section
variable {w mid cid k:Nat} {post cs:List AV} {ow ow' ow1 ow2:Nat->Nat} {h h' h1 h2:List qB} {m:qH} {rv v v':AV} {c c':qD} {P Q:Nat->Prop}
theorem Fo.refl:Fo ow h ow h:=⟨nLr _,λ_ _ q=>⟨q,rfl⟩⟩
theorem Fo.trans(x:Fo ow h ow1 h1)(y:Fo ow1 h1 ow2 h2):Fo ow h ow2 h2:=⟨nLt x.l y.l,λj hj q=>by
 obtain⟨a,b⟩:=x.k j hj q;obtain⟨a',b'⟩:=y.k j (nLl hj x.l) a;exact⟨a',b'.trans b⟩⟩
theorem Fo.app(o:List qB):Fo ow h ow (h++o):=⟨by simp,λj hj q=>⟨q,gAl hj⟩⟩
theorem Fo.at{o:qB}(x:Fo ow h ow1 h1){j:Nat}(q:h[j]?=some o)(z:ow j=0):h1[j]?=some o/\ow1 j=0:=by
 obtain⟨a,b⟩:=x.k j (qp q) z;exact⟨b.trans q,a⟩
theorem LsW.mono{w:Nat}{el:List AV}(x:LsW P w h v el)(k:∀j,j<h.length->P j->Q j/\h1[j]?=h[j]?):LsW Q w h1 v el:=by
 rcases x with x | ⟨id,q1,q2,q3⟩
 ·exact .inl x
 ·obtain⟨a,b⟩:=k id (qp q3) q1;exact .inr ⟨id,a,q2,b.trans q3⟩
theorem CV.mono(x:CV P h v c)(k:∀j,j<h.length->P j->Q j/\h1[j]?=h[j]?):CV Q h1 v c:=by
 obtain⟨dv,wv,e,a,b⟩:=x;exact⟨dv,wv,e,a.mono k,b.mono k⟩
theorem CV.free{n:Int}:CV P h (.agg [iI 0,iI 0,iI n,.nils,.nils]) (zp n):=⟨.nils,.nils,rfl,.inl ⟨rfl,rfl⟩,.inl ⟨rfl,rfl⟩⟩
theorem CV.cells(x:CV P h v c):v.cells.length=5:=by
 obtain⟨dv,wv,rfl,_⟩:=x;rfl
theorem CV.agg(x:CV P h v c):∃cs,v=.agg cs:=by
 obtain⟨dv,wv,rfl,_⟩:=x;exact⟨_,rfl⟩
noncomputable def owC(ow:Nat->Nat)(k:Nat)(T:Nat->Prop)(j:Nat):Nat:= @ite _ (T j) (Classical.propDecidable _) (k+3) (if ow j=k+3 then 0 else ow j)
theorem qoT{T:Nat->Prop}{j:Nat}(h:T j):owC ow k T j=k+3:=iP h
theorem Je{T:Nat->Prop}{j:Nat}(h:¬T j):owC ow k T j=if ow j=k+3 then 0 else ow j:=iN h
theorem MO.cell(M:MO w mid post ow h m cid cs rv)(T:Nat->Prop)(hc:m.C[k]?=some c)(hcid:h'[cid]?=some (.row 5 (cs.set k v') true))(hlen:h.length<=h'.length)
  (ho:∀j,j<h.length->ow j≠0->j≠cid->ow j≠k+3->h'[j]?=h[j]?) (hT:∀j,T j->j<h'.length/\(h.length<=j\/ow j=0\/ow j=k+3)) (hv:CV T h' v' c'):
  MO w mid post (owC ow k T) h' {m with C:=m.C.set k c'} cid (cs.set k v') rv where
 o:=by
  rw[ho mid (qp M.o) (by rw[M.m1];decide) M.ne (by rw[M.m1];omega),M.o];simp[mE]
 c:=hcid
 l:=by simp[M.l]
 e:=λl d hd=>by
  have hk:k<m.C.length:=zH hc;by_cases e:l=k
  ·subst e;rw[gSs hk]at hd;cases hd;refine⟨v',gSs (by rw[M.l];exact hk), ?_⟩;exact hv.mono λj _ q=>⟨qoT q,rfl⟩
  ·rw[gSn (Ne.symm e)]at hd;obtain⟨u,u1,u2⟩:=M.e l d hd;refine⟨u,by rw[gSn (Ne.symm e)];exact u1,u2.mono λj hj q=>?_⟩;have nc:j≠cid:=λe=>by subst e;rw[M.c1]at q;omega
   refine⟨?_,ho j hj (by omega) nc (by omega)⟩;rw[Je λt=>by have:=(hT j t).2;omega,iN (by omega)];exact q
 r:=M.r.mono λj hj q=>by
  have nc:j≠cid:=λe=>by subst e;rw[M.c1]at q;omega
  refine⟨?_,ho j hj (by omega) nc (by omega)⟩;rw[Je λt=>by have:=(hT j t).2;omega,iN (by omega)];exact q
 m1:=by rw[Je λt=>by have:=(hT mid t).2;have:=M.m1;have:=qp M.o;omega,iN (by rw[M.m1];omega)];exact M.m1
 c1:=by rw[Je λt=>by have:=(hT cid t).2;have:=M.c1;have:=qp M.c;omega,iN (by rw[M.c1];omega)];exact M.c1
 ne:=M.ne
 b:=λj hj=>by
  by_cases t:T j
  ·exact(hT j t).1
  ·rw[Je t]at hj;refine nLl (M.b j λe=>hj ?_) hlen;rw[iN (by omega)];exact e
theorem qCC{T:Nat->Prop}(hh:∀j,j<h.length->ow j=0->¬T j->h'[j]?=h[j]?)(hl:h.length<=h'.length)(ht:∀j,T j->j<h.length->ow j=k+3):Fo ow h (owC ow k T) h':=⟨hl,λj hj q=>by
 have nt:¬T j:=λt=>by have:=ht j t hj;omega
 exact⟨by rw[Je nt,iN (by omega)];exact q,hh j hj q nt⟩⟩
theorem MO.top{m':qH}{rv':AV}{post':List AV}(M:MO w mid post ow h m cid cs rv)(hC:m'.C=m.C)(hm:h'[mid]?=some (.row w [mE m' cid rv' post'] true))(hlen:h.length<=h'.length)
  (ho:∀j,j<h.length->ow j≠0->j≠mid->ow j≠2->h'[j]?=h[j]?) (hw:∀j,ow j≠2->ow' j≠2->ow' j=ow j) (h12:∀j,ow j≠2->ow j≠0->ow' j≠2) (hb:∀j,ow' j=2->j<h'.length) (h2:∀j,ow j=2->ow' j=2\/ow' j=0)
  (hr:LsW (λj=>ow' j=2) 2 h' rv' (m'.R.map qL.enc)):MO w mid post' ow' h' m' cid cs rv' where
 o:=hm
 c:=by rw[ho cid (qp M.c) (by rw[M.c1];decide) (Ne.symm M.ne) (by rw[M.c1];decide)];exact M.c
 l:=by rw[hC];exact M.l
 e:=λk d hd=>by
  rw[hC]at hd;obtain⟨u,u1,u2⟩:=M.e k d hd;refine⟨u,u1,u2.mono λj hj q=>?_⟩;have nm:j≠mid:=λe=>by subst e;rw[M.m1]at q;omega
  exact⟨by rw[hw j (by omega) (h12 j (by omega) (by omega))];exact q,ho j hj (by omega) nm (by omega)⟩
 r:=hr
 m1:=by rw[hw mid (by rw[M.m1];decide) (h12 mid (by rw[M.m1];decide) (by rw[M.m1];decide))];exact M.m1
 c1:=by rw[hw cid (by rw[M.c1];decide) (h12 cid (by rw[M.c1];decide) (by rw[M.c1];decide))];exact M.c1
 ne:=M.ne
 b:=λj hj=>by
  by_cases e:ow' j=2
  ·exact hb j e
  ·by_cases e2:ow j=2
   ·have:=h2 j e2;omega
   ·rw[hw j e2 e]at hj;exact nLl (M.b j hj) hlen
theorem MO.heap(M:MO w mid post ow h m cid cs rv)(hlen:h.length<=h'.length)(hh:∀j,j<h.length->ow j≠0->h'[j]?=h[j]?):MO w mid post ow h' m cid cs rv where
 o:=by rw[hh mid (qp M.o) (by rw[M.m1];decide)];exact M.o
 c:=by rw[hh cid (qp M.c) (by rw[M.c1];decide)];exact M.c
 l:=M.l
 e:=λk d hd=>by
  obtain⟨u,u1,u2⟩:=M.e k d hd;exact⟨u,u1,u2.mono λj hj q=>⟨q,hh j hj (by omega)⟩⟩
 r:=M.r.mono λj hj q=>⟨q,hh j hj (by omega)⟩
 m1:=M.m1
 c1:=M.c1
 ne:=M.ne
 b:=λj hj=>nLl (M.b j hj) hlen
theorem MO.app(M:MO w mid post ow h m cid cs rv)(o:List qB):MO w mid post ow (h++o) m cid cs rv:=M.heap (by simp) λj hj _=>gAl hj
theorem MH.heap(M:MH w mid post ow h m)(hlen:h.length<=h'.length)(hh:∀j,j<h.length->ow j≠0->h'[j]?=h[j]?):MH w mid post ow h' m:=by
 obtain⟨cid,cs,rv,M⟩:=M;exact⟨cid,cs,rv,M.heap hlen hh⟩
theorem MH.app(M:MH w mid post ow h m)(o:List qB):MH w mid post ow (h++o) m:=M.heap (by simp) λj hj _=>gAl hj
theorem MH.b(M:MH w mid post ow h m):ow h.length=0:=by
 obtain⟨cid,cs,rv,M⟩:=M;refine Classical.byContradiction λq=>?_;have:=M.b _ q;omega
end
section
variable {w mid cid k:Nat} {post cs:List AV} {ow ow' ow1 ow2:Nat->Nat} {h h' h1 h2:List qB} {m:qH} {rv v v':AV} {c c':qD} {P Q:Nat->Prop}
theorem sne{o:qB}{j id:Nat}(e:j≠id):(h.set id o)[j]?=h[j]?:=gSn (Ne.symm e)
theorem MO.setC(M:MO w mid post ow h m cid cs rv)(T:Nat->Prop)(hc:m.C[k]?=some c)(hT:∀j,T j->j<h.length/\(ow j=0\/ow j=k+3))(hv:CV T h v' c'):
  MO w mid post (owC ow k T) (h.set cid (.row 5 (cs.set k v') true)) {m with C:=m.C.set k c'} cid (cs.set k v') rv:=by
 refine M.cell T hc (gSs (qp M.c)) (by simp) (λj hj h0 hcj hk=>sne hcj) (λj t=>⟨by simpa using(hT j t).1,.inr (hT j t).2⟩) (hv.mono λj hj t=>⟨t,sne λe=>?_⟩);subst e;have:=(hT j t).2;rw[M.c1]at this;omega
theorem MO.setC_fo(M:MO w mid post ow h m cid cs rv){T:Nat->Prop}(hT:∀j,T j->ow j=k+3):Fo ow h (owC ow k T) (h.set cid (.row 5 (cs.set k v') true)):=
 qCC (λj hj h0 _=>sne λe=>by subst e;rw[M.c1]at h0;omega) (by simp) (λj t _=>hT j t)
theorem MO.setF(M:MO w mid post ow h m cid cs rv)(f:Int):MO w mid post ow (h.set mid (.row w [mE {m with F:=f} cid rv post] true)) {m with F:=f} cid cs rv:=by
 have hl:∀j,ow j≠0->j<h.length:=M.b;refine M.top (m':={m with F:=f}) rfl (gSs (qp M.o)) (by simp) (λj hj h0 hm h2=>sne hm) (λj _ _=>rfl) (λj a b=>a) (λj e=>by rw[lLs];exact hl j (by omega)) (λj e=>.inl e) ?_;exact M.r.mono λj hj q=>⟨q,sne λe=>by subst e;rw[M.m1]at q;omega⟩
theorem MO.setF_fo(M:MO w mid post ow h m cid cs rv){o:qB}:Fo ow h ow (h.set mid o):=⟨by simp,λj hj q=>⟨q,sne λe=>by subst e;rw[M.m1]at q;omega⟩⟩
theorem MO.sto5{E:Ev}{l:List qA}{ks:List Fr1}{s l':qq}{Q:qf->VSt->Prop}(M:MO w mid post ow h m cid cs rv)(hc:m.C[k]?=some c)(h5:v.cells.length=5)(ha:∃cs,v=.agg cs)(hr:R E (.ops l::ks) ⟨s,l',h.set cid (.row 5 (cs.set k v) true)⟩ Q):Sto E 5 (some (.ptr cid k 0)) (some v) l ks ⟨s,l',h⟩ Q:=by
 obtain⟨v0,v1,v2⟩:=M.e k c hc;exact jF h5 M.c v1 (Zu v2.cells h5 ⟨λ_=>ha,λ_=>v2.agg⟩ (by decide)) hr
theorem MO.stoF{E:Ev}{l:List qA}{ks:List Fr1}{s l':qq}{Q:qf->VSt->Prop}(M:MO w mid post ow h m cid cs rv)(f:Int)(hr:R E (.ops l::ks) ⟨s,l',h.set mid (.row w [mE {m with F:=f} cid rv post] true)⟩ Q):Sto E 1 (some (.ptr mid 0 1)) (some (iI f)) l ks ⟨s,l',h⟩ Q:=jF rfl M.o rfl qnO hr
theorem Vp(M:MH w mid post ow h m)(hc:m.C[k]?=some c):SCall Gm 1278 [.ptr mid 0 0,iI (k:Nat)] h (λ_ h'=>∃ow',MH w mid post ow' h' (qQ m k)/\Fo ow h ow' h'/\h'.length=h.length/\∀j,j<h.length->ow j=k+3->ow' j=0/\h'[j]?=h[j]?):=by
 obtain⟨cid,cs,rv,M⟩:=M;have hk:=zH hc;refine sI Ua ?_;simp only[Ua,qN,go_sem,M.o,qY hk,nZa];refine M.sto5 hc rfl ⟨_,rfl⟩ ?_;have M1:=M.setC (k:=k) (c':=zp m.F) (λ_=>False) hc (λ_ t=>t.elim) CV.free;have f1:=M.setC_fo (k:=k) (T:=λ_=>False) (v':=.agg [iI 0,iI 0,iI m.F,.nils,.nils]) (λ_ t=>t.elim);simp only[go_sem];refine M1.stoF _ ?_;have M2:=M1.setF (k:Int);simp only[go_sem];refine⟨_,⟨cid,_,rv,by rw[qQ,iTn];exact M2⟩,f1.trans M1.setF_fo,by simp,λj hj q=>⟨by rw[Je (λt=>t),iP q], ?_⟩⟩;rw[sne λe=>by subst e;rw[M.m1]at q;omega,sne λe=>by subst e;rw[M.c1]at q;omega]
structure FoT(T:Nat->Prop)(ow:Nat->Nat)(h:List qB)(ow':Nat->Nat)(h':List qB):Prop where
 l:h.length<=h'.length
 k:∀j,j<h.length->ow j=0->¬T j->ow' j=0/\h'[j]?=h[j]?
theorem FoT.fo{T:Nat->Prop}(x:FoT T ow h ow' h')(n:∀j,j<h.length->ow j=0->¬T j):Fo ow h ow' h':=⟨x.l,λj hj q=>x.k j hj q (n j hj q)⟩
theorem Wz(M:MH w mid post ow h m)(hf:m.F=(k:Nat))(hc:m.C[k]?=some c){T:Nat->Prop}(hT:∀j,T j->j<h.length/\ow j=0)(hv:CV T h v c'):SCall Gm 1282 [.ptr mid 0 0,v] h (λr h'=>r=iI (k:Nat)/\∃ow',MH w mid post ow' h' (qR m c')/\FoT T ow h ow' h'/\h'.length=h.length):=by
 obtain⟨cid,cs,rv,M⟩:=M;have hk:=zH hc;obtain⟨dv',wv',rfl,u2,u3⟩:=id hv;refine sI Ue ?_;simp only[Ue,qN,go_sem];refine qW rfl ?_;obtain⟨v0,v1,dv,wv,rfl,v2,v3⟩:=M.e k c hc;simp only[go_sem,M.o,hf,qY hk,nZa,M.c,v1];refine M.stoF _ ?_;have M1:=M.setF c.V;have hv1:CV T (h.set mid (.row w [mE {m with F:=c.V} cid rv post] true)) (cE c' dv' wv') c':=hv.mono λj hj t=>⟨t,sne λe=>by subst e;have:=(hT j t).2;rw[M.m1]at this;cases this⟩;have hl1:∀o,(h.set mid o).length=h.length:=λo=>by simp
 have M2:=M1.setC (k:=k) (c':=c') (v':=cE c' dv' wv') T hc (λj t=>⟨by rw[hl1];exact(hT j t).1,.inl (hT j t).2⟩) hv1;simp only[go_sem,M1.o,qY hk,nZa];refine M1.sto5 hc rfl ⟨_,rfl⟩ ?_;simp only[go_sem];have et:qR m c'={m with F:=c.V,C:=m.C.set k c'}:=by rw[qR,hf,iTn,Jh hc]
 refine⟨trivial,_,⟨cid,_,rv,by rw[et];exact M2⟩,⟨by simp,λj hj q n=>⟨by rw[Je n,iN (by omega)];exact q, ?_⟩⟩,by simp⟩;rw[sne (λe=>by subst e;rw[M.c1]at q;omega),sne (λe=>by subst e;rw[M.m1]at q;omega)]
theorem qCW(M:MH w mid post ow h m)(hf:m.F=(k:Nat))(hc:m.C[k]?=some c):SCall Gm 1418 [.ptr mid 0 0] h (λr h'=>r=(vwI (k:Nat)).enc/\∃ow',MH w mid post ow' h' (qR m (qd []))/\Fo ow h ow' h'/\h'.length=h.length):=by
 refine sI KT ?_;simp only[KT,qN,go_sem];refine qk (SCall.mono (Wz M hf hc (c':=qd []) (v:=cE (qd []) .nils .nils) (T:=λ_=>False) (λ_ t=>t.elim) ⟨.nils,.nils,rfl,.inl ⟨rfl,rfl⟩,.inl ⟨rfl,rfl⟩⟩) ?_);rintro r h' ⟨rfl,ow',M',f,l⟩;simp only[go_sem];refine lsA ?_;simp only[go_sem];exact⟨rfl,ow',M',f.fo λ_ _ _ t=>t,l⟩
def owR(ow:Nat->Nat)(id:Nat)(j:Nat):Nat:=if j=id then 2 else if ow j=2 then 0 else ow j
theorem MO.redx{rx:List qL}{id:Nat}{rv':AV}(M:MO w mid post ow h m cid cs rv)(u:Up (λj=>ow j=2) h h1)(hi:h.length<=id)(hr:h1[id]?=some (.row 2 (rx.map qL.enc) true))(hv:rv'=sQ 2 id rx.length):
  MO w mid post (owR ow id) (h1.set mid (.row w [mE {m with R:=rx} cid rv' post] true)) {m with R:=rx} cid cs rv'/\Fo ow h (owR ow id) (h1.set mid (.row w [mE {m with R:=rx} cid rv' post] true)):=by
 have hm:=qp M.o;have hid:id≠mid:=by omega
 have ho:∀j,j<h.length->j≠mid->ow j≠2->(h1.set mid (.row w [mE {m with R:=rx} cid rv' post] true))[j]?=h[j]?:=λj hj a b=>by
  rw[sne a];have:=gEg hj;rw[this];exact u.at this b
 have n2:∀j,j≠id->owR ow id j=if ow j=2 then 0 else ow j:=λj e=>by rw[owR,iN e]
 have lb:∀j,ow j≠0->j≠id:=λj e=>by have:=M.b j e;omega
 refine⟨M.top (m':={m with R:=rx}) rfl (gSs (nLl hm u.1)) (by rw[lLs];exact u.1) (λj hj a b c=>ho j hj b c) (λj a b=>?_) (λj a b=>?_) (λj e=>?_) (λj e=>?_) (.inr ⟨id,iP rfl,by rw[lMp];exact hv,by rw[sne hid];exact hr⟩),by rw[lLs];exact u.1,λj hj q=>⟨?_,ho j hj (λe=>?_) (by omega)⟩⟩
 ·have:j≠id:=λe=>b (by rw[owR,iP e]);rw[n2 j this,iN a]
 ·rw[n2 j (lb j b),iN a];exact a
 ·rw[lLs];by_cases q:j=id
  ·rw[q];exact qp hr
  ·rw[n2 j q]at e;split at e
   ·cases e
   ·omega
 ·rw[n2 j (lb j (by omega)),iP e];exact .inr rfl
 ·rw[n2 j (by omega),iN (by omega)];exact q
 ·subst e;rw[M.m1]at q;cases q
theorem Vu{E:Ev}{l:List qA}{ks:List Fr1}{s l':qq}{Q:qf->VSt->Prop}{rv':AV}(hm:h[mid]?=some (.row w [mE m cid rv post] true))(rx:List qL)(hv:rv'.cells=[rv'])(hr:R E (.ops l::ks) ⟨s,l',h.set mid (.row w [mE {m with R:=rx} cid rv' post] true)⟩ Q):Sto E 1 (some (.ptr mid 0 4)) (some rv') l ks ⟨s,l',h⟩ Q:=jF (by rw[hv];rfl) hm rfl (qnP hv) hr
theorem Vq{a b:Int}(M:MH w mid post ow h m)(hl:m.R.length<=1000000):SCall Gm 1280 [.ptr mid 0 0,iI a,iI b] h (λ_ h'=>∃ow',MH w mid post ow' h' (Jo m a b)/\Fo ow h ow' h'):=by
 obtain⟨cid,cs,rv,M⟩:=M;refine sI Uc ?_;simp only[Uc,qN,go_sem,M.o];refine qI c978 ?_;simp only[go_sem];refine qI Yi ?_;simp only[go_sem];have M1:=M.app [qB.row 2 [AV.agg [iI (if a<b then a else b),iI (if b<a then a else b)]] true];refine JH M1.r ends (by rw[lMp];omega) λh3 u3 v3 l3=>?_;have hm:=u3.at M1.o (λq=>by have:=q.1;rw[M.m1]at this;omega);simp only[go_sem];have e1:(m.R.map qL.enc)++[AV.agg [iI (if a<b then a else b),iI (if b<a then a else b)]]=((m.R++[(⟨min a b,max a b⟩:qL)]).map qL.enc):=by
  rw[lMa];congr 1;have e1:(if a<b then a else b)=min a b:=by split<;>omega
  have e2:(if b<a then a else b)=max a b:=by split<;>omega
  rw[e1,e2];rfl
 rw[e1]at v3;refine Vu hm (m.R++[(⟨min a b,max a b⟩:qL)]) rfl ?_;simp only[go_sem];obtain⟨M2,f2⟩:=M1.redx (u3.w λj _ q=>q.1) (nLr _) v3 (rv':=.slice 2 (h++[qB.row 2 [AV.agg [iI (if a<b then a else b),iI (if b<a then a else b)]] true]).length 0 (m.R.length+1) false) (by simp);have f3:=(Fo.app (ow:=ow) (h:=h) _).trans f2;exact⟨_,⟨cid,cs,_,M2⟩,f3⟩
end
section
variable {w mid cid k:Nat} {post cs:List AV} {ow ow' ow1 ow2:Nat->Nat} {h h' h1 h2:List qB} {m:qH} {rv v v':AV} {c c':qD} {P:List qF} {O:Nat->Bool} {x y:qF}
theorem qdJ(h:MM m (x::P) O):(x.T=1/\∀n,flw n m x=(m,x))\/∃k:Nat,x=vW k/\((m.C[k]?=some (qd [])/\∀n,flw n m x=(m,x))\/∃y,m.C[k]?=some (qd [y])/\(∀n,flw (n+1) m x=flw n (qQ m (k:Int)) y)/\MM (qQ m (k:Int)) (y::P) O/\nV (qQ m (k:Int)).C+1=nV m.C):=by
 obtain⟨k,c,e1,e2,e3⟩:=h.pw x (.head _);by_cases ht:x.T=2
 ·have hk:c.K=13:=by
   rcases e3 with⟨q,_⟩ | ⟨_,q⟩
   ·omega
   ·exact q
  obtain⟨ho,ws,hv,hl⟩:=h.var e2 hk;have hpos:=qe6 e2 hk;have hca:zZ m x.I=c:=by rw[e1];exact Jh e2
  have hwv:x=vW k:=by
   obtain⟨t,a⟩:=x;simp only at ht e1;subst ht e1;rfl
  refine .inr ⟨k,hwv, ?_⟩;cases ws with
  | nil=>
   refine .inl ⟨by rw[e2,hv],λn=>?_⟩;cases n with
   | zero=>rfl
   | succ n=>rw[flw,iP ht,hca,hv];rfl
  | cons y r=>
   have hr:r=[]:=by cases r with | nil=>rfl | cons a r=>simp at hl
   subst hr;have h1:=MI.rel (Q:=[x]) h e2 ho (by omega) (λz hz=>by simp only[lMg]at hz;rw[hz];exact e1) (by rw[hv];simp[zR,qd]);have hrel:qQ m (k:Int)={m with C:=m.C.set k (zp m.F),F:=(k:Int)}:=by
    unfold qQ;rw[iTn]
   have hnv:=qe7 (c':=zp m.F) e2;rw[iP hk,iN (by simp[zp])]at hnv;refine .inr ⟨y,by rw[e2,hv],λn=>?_,by rw[hrel];rw[hv]at h1;exact h1,by rw[hrel];simpa using hnv⟩;rw[flw,iP ht,hca,hv,e1];rfl
 ·refine .inl ⟨?_,λn=>?_⟩
  ·rcases e3 with⟨q,_⟩ | ⟨q,_⟩
   ·exact q
   ·exact absurd q ht
  ·cases n with
   | zero=>rfl
   | succ n=>rw[flw,iN ht]
theorem MO.words(M:MO w mid post ow h m cid cs rv)(hc:m.C[k]?=some c):∃dv wv,cs[k]?=some (cE c dv wv)/\LsW (λj=>ow j=k+3) 1 h dv (c.D.map qP)/\LsW (λj=>ow j=k+3) 2 h wv (c.W.map qF.enc):=by
 obtain⟨v,v1,dv,wv,rfl,v2,v3⟩:=M.e k c hc;exact⟨dv,wv,v1,v2,v3⟩
theorem LsW.one{w:Nat}{Q:Nat->Prop}{a:AV}(x:LsW Q w h v [a]):∃id,Q id/\v=sQ w id 1/\h[id]?=some (.row w [a] true):=by
 rcases x with⟨_,q⟩ | x
 ·cases q
 ·exact x
theorem QF{w id:Nat}{cl:Bool}{k:IntKind}:idx w (some (.slice w id 0 1 cl)) (some (.int k 0))=some (.ptr id 0 0):=Xl (by omega) (by omega)
theorem qg4(M:MH w mid post ow h m)(hP:MM m (x::P) O):SCall Gm 1284 [.ptr mid 0 0,x.enc] h (λr h'=>r=(flw (nV m.C) m x).2.enc/\∃ow',MH w mid post ow' h' (flw (nV m.C) m x).1/\Fo ow h ow' h'):=by
 refine sI Ug ?_;simp only[Ug,qN,go_sem];refine qW rfl ?_;simp only[go_sem];generalize hR:flw (nV m.C) m x=R;refine Sem.loop (λa:qH×qF×(Nat->Nat)×List qB=>MH w mid post a.2.2.1 a.2.2.2 a.1/\MM a.1 (a.2.1::P) O/\flw (nV a.1.C) a.1 a.2.1=R/\Fo ow h a.2.2.1 a.2.2.2) (λa=>(⟨[(0,.ptr mid 0 0)],[(3,a.2.1.enc),(4,.agg [iI 0,iI 0])],a.2.2.2⟩:VSt)) (λa=>nV a.1.C) (m,x,ow,h) (by kernel_rfl) ⟨M,hP,hR,Fo.refl⟩ csA ?_;rintro⟨m1,x1,ow1,h1⟩ ⟨M1,P1,R1,f1⟩;simp only at M1 P1 R1 f1;simp only[go_sem];have done:R1=R1->flw (nV m1.C) m1 x1=(m1,x1)->x1.enc=R.2.enc/\∃ow',MH w mid post ow' h1 R.1/\Fo ow h ow' h1:=λ_ q=>by
  rw[R1]at q;subst q;exact⟨rfl,ow1,M1,f1⟩
 rcases qdJ P1 with⟨ht,hf⟩ | ⟨k,rfl,⟨hc,hf⟩ | ⟨y,hc,hf,hP1,hn⟩⟩
 ·have e:decide (x1.T=2)=false:=dEf (by omega);simp only[e,go_sem];refine lsA ?_;simp only[go_sem];exact done rfl (hf _)
 ·obtain⟨cid,cs,rv,M1⟩:=M1;have hk:=zH hc;obtain⟨dv,wv,v1,v2,v3⟩:=M1.words hc;have hlen:=v3.len;have e:decide ((vW k).T=2)=true:=rfl;simp only[e,go_sem,M1.o,show (vW k).I=(k:Int)from rfl,qY hk,nZa,M1.c,v1,hlen];have e2:decide ((0:Int)<((qd []).W.length:Nat))=false:=rfl;simp only[e2,go_sem];refine lsA ?_;simp only[go_sem];exact done rfl (hf _)
 ·have M1':=M1;obtain⟨cid,cs,rv,M1⟩:=M1;have hk:=zH hc;obtain⟨dv,wv,v1,v2,v3⟩:=M1.words hc;have hlen:=v3.len;obtain⟨id,i1,rfl,i3⟩:=v3.one;have e:decide ((vW k).T=2)=true:=rfl;have e2:decide ((0:Int)<((1:Nat):Int))=true:=rfl;simp only[e,go_sem,M1.o,show (vW k).I=(k:Int)from rfl,qY hk,nZa,M1.c,v1,Int.natCast_one,show decide ((0:Int)<1)=true from rfl,QF,i3];refine lsA ?_;simp only[go_sem];refine qk (SCall.mono (Vp M1' hc) ?_);rintro r h2 ⟨ow2,M2,f2,l2,-⟩;simp only[go_sem];refine qa (qQ m1 (k:Int),y,ow2,h2) ⟨M2,hP1, ?_,f1.trans f2⟩ (by simp only;omega) csA;rw[<-hn,hf]at R1;exact R1
end
end Go.Ab
