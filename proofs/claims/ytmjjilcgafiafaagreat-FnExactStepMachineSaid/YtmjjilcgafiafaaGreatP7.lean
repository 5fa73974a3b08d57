/- Texts DbgO .. Mh3: the abstract machine, its laws and contracts of functions: lemmas for the statement. No condition. -/
import Derived.Test.YtmjjilcgafiafaaGreatP6
set_option linter.unusedSimpArgs false
set_option linter.unusedVariables false
namespace Go.Ab
open Go
set_option maxRecDepth 10000
set_option maxHeartbeats 2000000
theorem qI.plx(x:qI):x.enc.pl=true:=by simp[qI.enc,AV.pl,AV.pls]
theorem qI.cnx(x:qI):x.enc.cn=true:=by simp[qI.enc,AV.cn,AV.cns]
theorem qI.layE(x:qI)(n:Nat):lay x.enc n=(.agg [iI x.N,iI x.S],[]):=by
 simp[qI.enc,lay,qO]
theorem qI.rowsE(x:qI):x.enc.rows=0:=by simp[qI.enc,AV.rows,AV.rowss]
def qI.mrk(_x:qI)(k:Int):qI:={N:=k,S:=k+1}
def qI.ct(_x:qI):Nat:=1+1
def qI.mkV(x:qI)(_k:Int):qI:={N:=x.N,S:=x.S}
def qI.ctV(_x:qI):Nat:=0
theorem qI.rowsM(x:qI)(k:Int):(x.mrk k).enc.rows=x.enc.rows:=by simp[qI.rowsE,qI.mrk]
theorem qI.rowsV(x:qI)(k:Int):(x.mkV k).enc.rows=x.enc.rows:=by simp[qI.rowsE,qI.mkV]
theorem qI.ctle(x:qI):x.ct<=16:=by simp[qI.ct]
theorem qB.plx(x:qB):x.enc.pl=true:=by simp[qB.enc,AV.pl,AV.pls,zN (enc:=qQ) (λ_=>rfl),zN qI.plx]
theorem qB.cnx(x:qB):x.enc.cn=true:=by simp[qB.enc,AV.cn,AV.cns,jg (enc:=qQ) (λ_=>rfl),jg qI.cnx]
theorem qB.layE(x:qB)(n:Nat):lay x.enc n=(.agg [iI x.K,iI x.L,iI x.V,sQ 1 (n) x.D.length,.slice 2 (n+AV.rows (lQ x.D)) 0 x.P.length false],(lay (lQ x.D) (n)).2++((lay (.lst 2 (x.P.map qI.enc) false) (n+AV.rows (lQ x.D))).2++[])):=by
 simp[qB.enc,lay,qO,zx,AV.rows,Nat.add_comm,Nat.add_left_comm]
theorem qB.rowsE(x:qB):x.enc.rows=AV.rows (lQ x.D)+AV.rows (.lst 2 (x.P.map qI.enc) false):=by simp[qB.enc,AV.rows,AV.rowss,Nat.add_assoc]
def qB.mrk(x:qB)(k:Int):qB:={K:=k,L:=k+1,V:=k+1+1,D:=mkL mkI ctI x.D (k+1+1+1),P:=mkL qI.mrk qI.ct x.P (k+1+1+1+((qJ ctI x.D:Nat):Int))}
def qB.ct(x:qB):Nat:=1+1+1+qJ ctI x.D+qJ qI.ct x.P
def qB.mkV(x:qB)(k:Int):qB:={K:=x.K,L:=x.L,V:=x.V,D:=mkL mkI ctI x.D (k),P:=mkL qI.mrk qI.ct x.P (k+((qJ ctI x.D:Nat):Int))}
def qB.ctV(x:qB):Nat:=qJ ctI x.D+qJ qI.ct x.P
theorem qB.rowsM(x:qB)(k:Int):(x.mrk k).enc.rows=x.enc.rows:=by simp[qB.rowsE,qB.mrk,AV.rows,qv qI.mrk qI.ct (enc:=qI.enc) qI.rowsM,qv mkI ctI (enc:=qQ) (λ_ _=>rfl)]
theorem qB.rowsV(x:qB)(k:Int):(x.mkV k).enc.rows=x.enc.rows:=by simp[qB.rowsE,qB.mkV,AV.rows,qv qI.mrk qI.ct (enc:=qI.enc) qI.rowsM,qv mkI ctI (enc:=qQ) (λ_ _=>rfl)]
theorem qB.ctle(x:qB):x.ct<=16+16*x.sz:=by
 have h0:=jb (c:=ctI) (λ_=>by simp[ctI]) x.D;have h1:=jb (c:=qI.ct) (λy=>by have:=qI.ctle y;simpa using this) x.P;simp only[qB.ct,qB.sz];omega
theorem qB.ctVle(x:qB):x.ctV<=16*x.sz:=by
 have h0:=jb (c:=ctI) (λ_=>by simp[ctI]) x.D;have h1:=jb (c:=qI.ct) (λy=>by have:=qI.ctle y;simpa using this) x.P;simp only[qB.ctV,qB.sz];omega
theorem qD.plx(x:qD):x.enc.pl=true:=by simp[qD.enc,AV.pl,AV.pls,zN qB.plx]
theorem qD.cnx(x:qD):x.enc.cn=true:=by simp[qD.enc,AV.cn,AV.cns,jg qB.cnx]
theorem qD.layE(x:qD)(n:Nat):lay x.enc n=(.agg [sQ 5 (n) x.G.length],(lay (.lst 5 (x.G.map qB.enc) false) (n)).2++[]):=by
 simp[qD.enc,lay,qO]
theorem qD.rowsE(x:qD):x.enc.rows=AV.rows (.lst 5 (x.G.map qB.enc) false):=by simp[qD.enc,AV.rows,AV.rowss]
def qD.mrk(x:qD)(k:Int):qD:={G:=mkL qB.mrk qB.ct x.G (k)}
def qD.ct(x:qD):Nat:=qJ qB.ct x.G
def qD.mkV(x:qD)(k:Int):qD:={G:=mkL qB.mrk qB.ct x.G (k)}
def qD.ctV(x:qD):Nat:=qJ qB.ct x.G
theorem qD.rowsM(x:qD)(k:Int):(x.mrk k).enc.rows=x.enc.rows:=by simp[qD.rowsE,qD.mrk,AV.rows,qv qB.mrk qB.ct (enc:=qB.enc) qB.rowsM]
theorem qD.rowsV(x:qD)(k:Int):(x.mkV k).enc.rows=x.enc.rows:=by simp[qD.rowsE,qD.mkV,AV.rows,qv qB.mrk qB.ct (enc:=qB.enc) qB.rowsM]
theorem qD.ctle(x:qD):x.ct<=16+16*x.sz:=by
 have h0:=j9 (c:=qB.ct) (z:=qB.sz) qB.ctle x.G;simp only[qD.ct,qD.sz];omega
theorem qD.ctVle(x:qD):x.ctV<=16*x.sz:=by
 have h0:=j9 (c:=qB.ct) (z:=qB.sz) qB.ctle x.G;simp only[qD.ctV,qD.sz];omega
theorem qU.plx(x:qU):x.enc.pl=true:=by simp[qU.enc,AV.pl,AV.pls]
theorem qU.cnx(x:qU):x.enc.cn=true:=by simp[qU.enc,AV.cn,AV.cns]
theorem qU.layE(x:qU)(n:Nat):lay x.enc n=(.agg [iI x.Step,iI x.Def,iI x.Source],[]):=by
 simp[qU.enc,lay,qO]
theorem qU.rowsE(x:qU):x.enc.rows=0:=by simp[qU.enc,AV.rows,AV.rowss]
def qU.mrk(_x:qU)(k:Int):qU:={Step:=k,Def:=k+1,Source:=k+1+1}
def qU.ct(_x:qU):Nat:=1+1+1
def qU.mkV(x:qU)(_k:Int):qU:={Step:=x.Step,Def:=x.Def,Source:=x.Source}
def qU.ctV(_x:qU):Nat:=0
theorem qU.rowsM(x:qU)(k:Int):(x.mrk k).enc.rows=x.enc.rows:=by simp[qU.rowsE,qU.mrk]
theorem qU.rowsV(x:qU)(k:Int):(x.mkV k).enc.rows=x.enc.rows:=by simp[qU.rowsE,qU.mkV]
theorem qU.ctle(x:qU):x.ct<=16:=by simp[qU.ct]
theorem qf.plx(x:qf):x.enc.pl=true:=by simp[qf.enc,AV.pl,AV.pls]
theorem qf.cnx(x:qf):x.enc.cn=true:=by simp[qf.enc,AV.cn,AV.cns]
theorem qf.layE(x:qf)(n:Nat):lay x.enc n=(.agg [iI x.K,iI x.V],[]):=by
 simp[qf.enc,lay,qO]
theorem qf.rowsE(x:qf):x.enc.rows=0:=by simp[qf.enc,AV.rows,AV.rowss]
def qf.mrk(_x:qf)(k:Int):qf:={K:=k,V:=k+1}
def qf.ct(_x:qf):Nat:=1+1
def qf.mkV(x:qf)(_k:Int):qf:={K:=x.K,V:=x.V}
def qf.ctV(_x:qf):Nat:=0
theorem qf.rowsM(x:qf)(k:Int):(x.mrk k).enc.rows=x.enc.rows:=by simp[qf.rowsE,qf.mrk]
theorem qf.rowsV(x:qf)(k:Int):(x.mkV k).enc.rows=x.enc.rows:=by simp[qf.rowsE,qf.mkV]
theorem qf.ctle(x:qf):x.ct<=16:=by simp[qf.ct]
theorem qj.plx(x:qj):x.enc.pl=true:=by simp[qj.enc,AV.pl,AV.pls,zN qB.plx,zN qU.plx]
theorem qj.cnx(x:qj):x.enc.cn=true:=by simp[qj.enc,AV.cn,AV.cns,jg qB.cnx,jg qU.cnx]
theorem qj.layE(x:qj)(n:Nat):lay x.enc n=(.agg [iI x.I,sQ 5 (n) x.Net.G.length,.slice 3 (n+AV.rows (.lst 5 (x.Net.G.map qB.enc) false)) 0 x.Origins.length false],(lay (.lst 5 (x.Net.G.map qB.enc) false) (n)).2++((lay (.lst 3 (x.Origins.map qU.enc) false) (n+AV.rows (.lst 5 (x.Net.G.map qB.enc) false))).2++[])):=by
 simp[qj.enc,lay,qO,zx,AV.rows,Nat.add_comm,Nat.add_left_comm]
theorem qj.rowsE(x:qj):x.enc.rows=AV.rows (.lst 5 (x.Net.G.map qB.enc) false)+AV.rows (.lst 3 (x.Origins.map qU.enc) false):=by simp[qj.enc,AV.rows,AV.rowss,Nat.add_assoc]
def qj.mrk(x:qj)(k:Int):qj:={I:=k,Net:={G:=mkL qB.mrk qB.ct x.Net.G (k+1)},Origins:=mkL qU.mrk qU.ct x.Origins (k+1+((qJ qB.ct x.Net.G:Nat):Int))}
def qj.ct(x:qj):Nat:=1+qJ qB.ct x.Net.G+qJ qU.ct x.Origins
def qj.mkV(x:qj)(k:Int):qj:={I:=x.I,Net:={G:=mkL qB.mrk qB.ct x.Net.G (k)},Origins:=mkL qU.mrk qU.ct x.Origins (k+((qJ qB.ct x.Net.G:Nat):Int))}
def qj.ctV(x:qj):Nat:=qJ qB.ct x.Net.G+qJ qU.ct x.Origins
theorem qj.rowsM(x:qj)(k:Int):(x.mrk k).enc.rows=x.enc.rows:=by simp[qj.rowsE,qj.mrk,AV.rows,qv qB.mrk qB.ct (enc:=qB.enc) qB.rowsM,qv qU.mrk qU.ct (enc:=qU.enc) qU.rowsM]
theorem qj.rowsV(x:qj)(k:Int):(x.mkV k).enc.rows=x.enc.rows:=by simp[qj.rowsE,qj.mkV,AV.rows,qv qB.mrk qB.ct (enc:=qB.enc) qB.rowsM,qv qU.mrk qU.ct (enc:=qU.enc) qU.rowsM]
theorem qj.ctle(x:qj):x.ct<=16+16*x.sz:=by
 have h0:=j9 (c:=qB.ct) (z:=qB.sz) qB.ctle x.Net.G;have h1:=jb (c:=qU.ct) (λy=>by have:=qU.ctle y;simpa using this) x.Origins;simp only[qj.ct,qj.sz,qD.sz];omega
theorem qj.ctVle(x:qj):x.ctV<=16*x.sz:=by
 have h0:=j9 (c:=qB.ct) (z:=qB.sz) qB.ctle x.Net.G;have h1:=jb (c:=qU.ct) (λy=>by have:=qU.ctle y;simpa using this) x.Origins;simp only[qj.ctV,qj.sz,qD.sz];omega
theorem zF.plx(x:zF):x.enc.pl=true:=by simp[zF.enc,AV.pl,AV.pls,zN (enc:=qQ) (λ_=>rfl),zN qB.plx,zN qf.plx,zN qj.plx,zN qD.plx,zN qU.plx]
theorem zF.cnx(x:zF):x.enc.cn=true:=by simp[zF.enc,AV.cn,AV.cns,jg (enc:=qQ) (λ_=>rfl),jg qB.cnx,jg qf.cnx,jg qj.cnx,jg qD.cnx,jg qU.cnx]
theorem zF.layE(x:zF)(n:Nat):lay x.enc n=(.agg [sQ 1 (n) x.Y.length,.slice 1 (n+AV.rows (.lst 1 (x.Y.map qD.enc) false)) 0 x.Q.length false,iI x.Every,iI x.I,.slice 5 (n+AV.rows (.lst 1 (x.Y.map qD.enc) false)+AV.rows (lQ x.Q)) 0 x.Net.G.length false,.slice 3 (n+AV.rows (.lst 1 (x.Y.map qD.enc) false)+AV.rows (lQ x.Q)+AV.rows (.lst 5 (x.Net.G.map qB.enc) false)) 0 x.Origins.length false,.slice 2 (n+AV.rows (.lst 1 (x.Y.map qD.enc) false)+AV.rows (lQ x.Q)+AV.rows (.lst 5 (x.Net.G.map qB.enc) false)+AV.rows (.lst 3 (x.Origins.map qU.enc) false)) 0 x.Breaks.length false,.slice 3 (n+AV.rows (.lst 1 (x.Y.map qD.enc) false)+AV.rows (lQ x.Q)+AV.rows (.lst 5 (x.Net.G.map qB.enc) false)+AV.rows (.lst 3 (x.Origins.map qU.enc) false)+AV.rows (.lst 2 (x.Breaks.map qf.enc) false)) 0 x.Points.length false],(lay (.lst 1 (x.Y.map qD.enc) false) (n)).2++((lay (lQ x.Q) (n+AV.rows (.lst 1 (x.Y.map qD.enc) false))).2++((lay (.lst 5 (x.Net.G.map qB.enc) false) (n+AV.rows (.lst 1 (x.Y.map qD.enc) false)+AV.rows (lQ x.Q))).2++((lay (.lst 3 (x.Origins.map qU.enc) false) (n+AV.rows (.lst 1 (x.Y.map qD.enc) false)+AV.rows (lQ x.Q)+AV.rows (.lst 5 (x.Net.G.map qB.enc) false))).2++((lay (.lst 2 (x.Breaks.map qf.enc) false) (n+AV.rows (.lst 1 (x.Y.map qD.enc) false)+AV.rows (lQ x.Q)+AV.rows (.lst 5 (x.Net.G.map qB.enc) false)+AV.rows (.lst 3 (x.Origins.map qU.enc) false))).2++((lay (.lst 3 (x.Points.map qj.enc) false) (n+AV.rows (.lst 1 (x.Y.map qD.enc) false)+AV.rows (lQ x.Q)+AV.rows (.lst 5 (x.Net.G.map qB.enc) false)+AV.rows (.lst 3 (x.Origins.map qU.enc) false)+AV.rows (.lst 2 (x.Breaks.map qf.enc) false))).2++[])))))):=by
 simp[zF.enc,lay,qO,zx,AV.rows,Nat.add_assoc,Nat.add_comm,Nat.add_left_comm]
theorem zF.rowsE(x:zF):x.enc.rows=AV.rows (.lst 1 (x.Y.map qD.enc) false)+AV.rows (lQ x.Q)+AV.rows (.lst 5 (x.Net.G.map qB.enc) false)+AV.rows (.lst 3 (x.Origins.map qU.enc) false)+AV.rows (.lst 2 (x.Breaks.map qf.enc) false)+AV.rows (.lst 3 (x.Points.map qj.enc) false):=by simp[zF.enc,AV.rows,AV.rowss,Nat.add_assoc]
def zF.mrk(x:zF)(k:Int):zF:={Y:=mkL qD.mrk qD.ct x.Y (k),Q:=mkL mkI ctI x.Q (k+((qJ qD.ct x.Y:Nat):Int)),Every:=k+((qJ qD.ct x.Y:Nat):Int)+((qJ ctI x.Q:Nat):Int),I:=k+((qJ qD.ct x.Y:Nat):Int)+((qJ ctI x.Q:Nat):Int)+1,Net:={G:=mkL qB.mrk qB.ct x.Net.G (k+((qJ qD.ct x.Y:Nat):Int)+((qJ ctI x.Q:Nat):Int)+1+1)},Origins:=mkL qU.mrk qU.ct x.Origins (k+((qJ qD.ct x.Y:Nat):Int)+((qJ ctI x.Q:Nat):Int)+1+1+((qJ qB.ct x.Net.G:Nat):Int)),Breaks:=mkL qf.mrk qf.ct x.Breaks (k+((qJ qD.ct x.Y:Nat):Int)+((qJ ctI x.Q:Nat):Int)+1+1+((qJ qB.ct x.Net.G:Nat):Int)+((qJ qU.ct x.Origins:Nat):Int)),Points:=mkL qj.mrk qj.ct x.Points (k+((qJ qD.ct x.Y:Nat):Int)+((qJ ctI x.Q:Nat):Int)+1+1+((qJ qB.ct x.Net.G:Nat):Int)+((qJ qU.ct x.Origins:Nat):Int)+((qJ qf.ct x.Breaks:Nat):Int))}
def zF.ct(x:zF):Nat:=qJ qD.ct x.Y+qJ ctI x.Q+1+1+qJ qB.ct x.Net.G+qJ qU.ct x.Origins+qJ qf.ct x.Breaks+qJ qj.ct x.Points
def zF.mkV(x:zF)(k:Int):zF:={Y:=mkL qD.mrk qD.ct x.Y (k),Q:=mkL mkI ctI x.Q (k+((qJ qD.ct x.Y:Nat):Int)),Every:=x.Every,I:=x.I,Net:={G:=mkL qB.mrk qB.ct x.Net.G (k+((qJ qD.ct x.Y:Nat):Int)+((qJ ctI x.Q:Nat):Int))},Origins:=mkL qU.mrk qU.ct x.Origins (k+((qJ qD.ct x.Y:Nat):Int)+((qJ ctI x.Q:Nat):Int)+((qJ qB.ct x.Net.G:Nat):Int)),Breaks:=mkL qf.mrk qf.ct x.Breaks (k+((qJ qD.ct x.Y:Nat):Int)+((qJ ctI x.Q:Nat):Int)+((qJ qB.ct x.Net.G:Nat):Int)+((qJ qU.ct x.Origins:Nat):Int)),Points:=mkL qj.mrk qj.ct x.Points (k+((qJ qD.ct x.Y:Nat):Int)+((qJ ctI x.Q:Nat):Int)+((qJ qB.ct x.Net.G:Nat):Int)+((qJ qU.ct x.Origins:Nat):Int)+((qJ qf.ct x.Breaks:Nat):Int))}
def zF.ctV(x:zF):Nat:=qJ qD.ct x.Y+qJ ctI x.Q+qJ qB.ct x.Net.G+qJ qU.ct x.Origins+qJ qf.ct x.Breaks+qJ qj.ct x.Points
theorem zF.rowsM(x:zF)(k:Int):(x.mrk k).enc.rows=x.enc.rows:=by simp[zF.rowsE,zF.mrk,AV.rows,qv qB.mrk qB.ct (enc:=qB.enc) qB.rowsM,qv qf.mrk qf.ct (enc:=qf.enc) qf.rowsM,qv qj.mrk qj.ct (enc:=qj.enc) qj.rowsM,qv qD.mrk qD.ct (enc:=qD.enc) qD.rowsM,qv qU.mrk qU.ct (enc:=qU.enc) qU.rowsM,qv mkI ctI (enc:=qQ) (λ_ _=>rfl)]
theorem zF.rowsV(x:zF)(k:Int):(x.mkV k).enc.rows=x.enc.rows:=by simp[zF.rowsE,zF.mkV,AV.rows,qv qB.mrk qB.ct (enc:=qB.enc) qB.rowsM,qv qf.mrk qf.ct (enc:=qf.enc) qf.rowsM,qv qj.mrk qj.ct (enc:=qj.enc) qj.rowsM,qv qD.mrk qD.ct (enc:=qD.enc) qD.rowsM,qv qU.mrk qU.ct (enc:=qU.enc) qU.rowsM,qv mkI ctI (enc:=qQ) (λ_ _=>rfl)]
theorem zF.ctle(x:zF):x.ct<=16+16*x.sz:=by
 have h0:=j9 (c:=qD.ct) (z:=qD.sz) qD.ctle x.Y;have h1:=jb (c:=ctI) (λ_=>by simp[ctI]) x.Q;have h2:=j9 (c:=qB.ct) (z:=qB.sz) qB.ctle x.Net.G;have h3:=jb (c:=qU.ct) (λy=>by have:=qU.ctle y;simpa using this) x.Origins;have h4:=jb (c:=qf.ct) (λy=>by have:=qf.ctle y;simpa using this) x.Breaks;have h5:=j9 (c:=qj.ct) (z:=qj.sz) qj.ctle x.Points;simp only[zF.ct,zF.sz,qD.sz];omega
theorem zF.ctVle(x:zF):x.ctV<=16*x.sz:=by
 have h0:=j9 (c:=qD.ct) (z:=qD.sz) qD.ctle x.Y;have h1:=jb (c:=ctI) (λ_=>by simp[ctI]) x.Q;have h2:=j9 (c:=qB.ct) (z:=qB.sz) qB.ctle x.Net.G;have h3:=jb (c:=qU.ct) (λy=>by have:=qU.ctle y;simpa using this) x.Origins;have h4:=jb (c:=qf.ct) (λy=>by have:=qf.ctle y;simpa using this) x.Breaks;have h5:=j9 (c:=qj.ct) (z:=qj.sz) qj.ctle x.Points;simp only[zF.ctV,zF.sz,qD.sz];omega
theorem n147(xs:List Int)(hl:xs.length<=1048576):Fresh Gm 147 [lQ xs] (lQ xs):=qsQ (gk _ Ku) xs hl
theorem qpM(x:qI):Fresh Gm 1419 [x.enc] x.enc:=by
 refine fI XB (by simp[AV.trees,qI.tr]) (qI.plx x) ?_;simp only[XB,qN,go_sem];refine qX rfl ?_;simp only[go_sem];refine lsA ?_;simp only[go_sem];exact JG (pre:=[]) (post:=[]) (qI.plx x) (by simp[zk,qI.layE]) (by simp[qI.layE])
theorem qpI(xs:List qI)(hl:xs.length<=1048576):Fresh Gm 1178 [.lst 2 (xs.map qI.enc) false] (.lst 2 (xs.map qI.enc) false):=
 W0 qI.isSh qI.plx rfl rfl (by simp) (gk _ Uq) xs (λx hm=>qpM x) (by omega)
theorem n858(x:qB)(hz:x.sz<=1048576):Fresh Gm 858 [x.enc] x.enc:=by
 refine fI XF (by simp[AV.trees,qB.tr]) (qB.plx x) ?_;simp only[XF,qN,go_sem];refine qX rfl ?_;simp only[go_sem];unfold qB.sz at hz;refine jY (n147 _ (by omega)) ?_;simp only[go_sem,jU];refine jY (qpI _ (by omega)) ?_;simp only[go_sem,jU];refine lsA ?_;simp only[go_sem];exact JG (pre:=[]) (post:=[]) (qB.plx x) (by simp[zk,qB.layE,qx]) (by simp[qB.layE,qx])
theorem n504(xs:List qB)(hl:xs.length+qJ qB.sz xs<=1048576):Fresh Gm 504 [.lst 5 (xs.map qB.enc) false] (.lst 5 (xs.map qB.enc) false):=
 W0 qB.isSh qB.plx rfl rfl (by simp) (gk _ kO) xs (λx hm=>n858 x (by have:=z5 (f:=qB.sz) hm;omega)) (by omega)
theorem n185(x:qD)(hz:x.sz<=1048576):Fresh Gm 185 [x.enc] x.enc:=by
 refine fI XC (by simp[AV.trees,qD.tr]) (qD.plx x) ?_;simp only[XC,qN,go_sem];refine qX rfl ?_;simp only[go_sem];unfold qD.sz at hz;refine jY (n504 _ (by omega)) ?_;simp only[go_sem,jU];exact JG (pre:=[]) (post:=[]) (qD.plx x) (by simp[zk,qD.layE]) (by simp[qD.layE])
theorem n184(xs:List qD)(hl:xs.length+qJ qD.sz xs<=1048576):Fresh Gm 184 [.lst 1 (xs.map qD.enc) false] (.lst 1 (xs.map qD.enc) false):=
 W0 qD.isSh qD.plx rfl rfl (by simp) (gk _ K8) xs (λx hm=>n185 x (by have:=z5 (f:=qD.sz) hm;omega)) (by omega)
theorem k90(xs:List Int)(k:Int)(h0:0<=k)(hk:k+(qJ ctI xs:Nat)<=4611686018427387904)(hz:xs.length<=1073741824):Mark Gm 90 (lQ xs) (lQ (mkL mkI ctI xs k)) k (k+(qJ ctI xs:Nat)):=qo8 (gk _ F90) rfl xs k h0 hk hz
theorem k885(xs:List qI)(k:Int)(h0:0<=k)(hk:k+(qJ qI.ct xs:Nat)<=4611686018427387904)(hz:xs.length<=1073741824):Mark Gm 885 (.lst 2 (xs.map qI.enc) false) (.lst 2 ((mkL qI.mrk qI.ct xs k).map qI.enc) false) k (k+(qJ qI.ct xs:Nat)):=by
 refine Mark.intro (gk _ F885) (by kernel_rfl) rfl (zN qI.plx xs) (zN qI.plx _) (by simp only[AV.rows,qv qI.mrk qI.ct (enc:=qI.enc) qI.rowsM]) ?_;simp only[F885,qN,jU,go_sem,nZa];refine Sem.loop (λi:Nat=>i<=xs.length) (λi=>(⟨[(0,sQ 2 0 xs.length),(1,iI (k+((qJ qI.ct (xs.take i):Nat):Int))),(5,iI (i:Nat))],[],(lay (.lst 2 ((mkL qI.mrk qI.ct (xs.take i) k++xs.drop i).map qI.enc) false) 0).2⟩:VSt)) (λi=>xs.length-i) 0 (by kernel_rfl) (nZl _) (by simp only[List.take_zero,mkL,lNa,List.drop_zero,qJ,Int.ofNat_zero,Int.add_zero];exact csA) ?_;intro i hi;simp only[go_sem];apply qT<;>intro hc<;>simp only[hc,go_sem]
 ·have hlt:i<xs.length:=by have:=odT hc;omega
  have hct:=Qm qI.ct hlt;have hcl:=Ql qI.ct xs (i+1);have hrow:=qI.rowsM;rw[lDc hlt,Jh];obtain⟨K,hK⟩:∃K:Int,K=k+((qJ qI.ct (xs.take i):Nat):Int):=⟨_,rfl⟩;have hend:k+((qJ qI.ct (xs.take (i+1)):Nat):Int)=K+((qI.ct xs[i]:Nat):Int):=by rw[hct,hK];omega
  have hKb:0<=K/\K+((qI.ct xs[i]:Nat):Int)<=4611686018427387904:=by rw[<-hend];omega
  have hmk:(mkL qI.mrk qI.ct (xs.take (i+1)) k++xs.drop (i+1))=mkL qI.mrk qI.ct (xs.take i) k++qI.mrk xs[i] K::xs.drop (i+1):=by rw[Zm qI.mrk qI.ct hlt,<-hK,lAa];rfl
  have hrx:=hrow xs[i] K;rw[<-hK];obtain⟨y,hy⟩:∃y,y=xs[i]:=⟨_,rfl⟩;rw[<-hy]at hmk hend hKb hrx|-;have hcy:qI.ct y=1+1:=rfl;rw[hcy]at hend hKb;have hA:(qO ((mkL qI.mrk qI.ct (xs.take i) k).map qI.enc) 1).1.length=i:=by rw[jk,lMp,jy];simp;omega
  have hoA:=zx ((mkL qI.mrk qI.ct (xs.take i) k).map qI.enc) 1;have e2:=Jh (enc:=qI.enc) (w:=2) (c:=false) (A:=mkL qI.mrk qI.ct (xs.take i) k) (B:=xs.drop (i+1)) (z:=qI.mrk y K);rw[hrx]at e2;rw[qI.layE]at e2|-;obtain⟨p,hp⟩:∃p,p=1+AV.rowss ((mkL qI.mrk qI.ct (xs.take i) k).map qI.enc):=⟨_,rfl⟩;rw[<-hp]at e2|-;generalize (qO ((xs.drop (i+1)).map qI.enc) (p+y.enc.rows)).1=vB at e2|-;generalize (qO ((xs.drop (i+1)).map qI.enc) (p+y.enc.rows)).2=oB at e2|-;generalize (qO ((mkL qI.mrk qI.ct (xs.take i) k).map qI.enc) 1).1=vA at e2 hA|-;generalize (qO ((mkL qI.mrk qI.ct (xs.take i) k).map qI.enc) 1).2=oA at e2 hoA|-;simp only[qS hlt,go_sem,nZa];refine zX (e':=.agg [iI (K),iI y.S]) (by rfl) (by rfl) (zi hA) (by rfl) ?_;simp only[jJ hA,qS hlt,lSz,go_sem,nZa];rw[wsA (n:=K+1)]
  try simp only[zi hA,jJ hA,qS hlt,lSz,go_sem,nZa]
  refine zX (e':=.agg [iI (K),iI (K+1)]) (by rfl) (by rfl) (zi hA) (by rfl) ?_;simp only[jJ hA,lSz,go_sem];rw[wsA (n:=K+1+1)];simp only[wuA (n:=i)];refine qa (i+1) (by omega) (by omega) ?_;have e3:K+1+1=k+((qJ qI.ct (xs.take (i+1)):Nat):Int):=by first | (rw[hend];done) | (rw[hend];omega)
  rw[e3];rw[hmk,e2];simp only[qI.mrk,AV.rows,lNa];exact csA
 ·have hge:i=xs.length:=by have:=odF hc;omega
  subst hge;refine Q3 (by rw[lTl]) ?_;rw[lTl,List.drop_length,lAn]
theorem k524(xs:List qB)(k:Int)(h0:0<=k)(hk:k+(qJ qB.ct xs:Nat)<=4611686018427387904)(hz:xs.length+qJ qB.sz xs<=1073741824):Mark Gm 524 (.lst 5 (xs.map qB.enc) false) (.lst 5 ((mkL qB.mrk qB.ct xs k).map qB.enc) false) k (k+(qJ qB.ct xs:Nat)):=by
 refine Mark.intro (gk _ kQ) (by kernel_rfl) rfl (zN qB.plx xs) (zN qB.plx _) (by simp only[AV.rows,qv qB.mrk qB.ct (enc:=qB.enc) qB.rowsM]) ?_;simp only[kQ,qN,jU,go_sem,nZa];refine Sem.loop (λi:Nat=>i<=xs.length) (λi=>(⟨[(0,sQ 5 0 xs.length),(1,iI (k+((qJ qB.ct (xs.take i):Nat):Int))),(5,iI (i:Nat))],[],(lay (.lst 5 ((mkL qB.mrk qB.ct (xs.take i) k++xs.drop i).map qB.enc) false) 0).2⟩:VSt)) (λi=>xs.length-i) 0 (by kernel_rfl) (nZl _) (by simp only[List.take_zero,mkL,lNa,List.drop_zero,qJ,Int.ofNat_zero,Int.add_zero];exact csA) ?_;intro i hi;simp only[go_sem];apply qT<;>intro hc<;>simp only[hc,go_sem]
 ·have hlt:i<xs.length:=by have:=odT hc;omega
  have hct:=Qm qB.ct hlt;have hcl:=Ql qB.ct xs (i+1);have hrow:=qB.rowsM;rw[lDc hlt,Jh];have hsz:qB.sz xs[i]<=qJ qB.sz xs:=z5 (f:=qB.sz) (gMm hlt);obtain⟨K,hK⟩:∃K:Int,K=k+((qJ qB.ct (xs.take i):Nat):Int):=⟨_,rfl⟩;have hend:k+((qJ qB.ct (xs.take (i+1)):Nat):Int)=K+((qB.ct xs[i]:Nat):Int):=by rw[hct,hK];omega
  have hKb:0<=K/\K+((qB.ct xs[i]:Nat):Int)<=4611686018427387904:=by rw[<-hend];omega
  have hmk:(mkL qB.mrk qB.ct (xs.take (i+1)) k++xs.drop (i+1))=mkL qB.mrk qB.ct (xs.take i) k++qB.mrk xs[i] K::xs.drop (i+1):=by rw[Zm qB.mrk qB.ct hlt,<-hK,lAa];rfl
  have hrx:=hrow xs[i] K;rw[<-hK];obtain⟨y,hy⟩:∃y,y=xs[i]:=⟨_,rfl⟩;rw[<-hy]at hmk hend hKb hrx hsz|-;have hcy:qB.ct y=1+1+1+qJ ctI y.D+qJ qI.ct y.P:=rfl;rw[hcy]at hend hKb;simp only[qB.sz]at hsz;have hA:(qO ((mkL qB.mrk qB.ct (xs.take i) k).map qB.enc) 1).1.length=i:=by rw[jk,lMp,jy];simp;omega
  have hoA:=zx ((mkL qB.mrk qB.ct (xs.take i) k).map qB.enc) 1;have e2:=Jh (enc:=qB.enc) (w:=5) (c:=false) (A:=mkL qB.mrk qB.ct (xs.take i) k) (B:=xs.drop (i+1)) (z:=qB.mrk y K);rw[hrx]at e2;rw[qB.layE]at e2|-;obtain⟨p,hp⟩:∃p,p=1+AV.rowss ((mkL qB.mrk qB.ct (xs.take i) k).map qB.enc):=⟨_,rfl⟩;rw[<-hp]at e2|-;generalize (qO ((xs.drop (i+1)).map qB.enc) (p+y.enc.rows)).1=vB at e2|-;generalize (qO ((xs.drop (i+1)).map qB.enc) (p+y.enc.rows)).2=oB at e2|-;generalize (qO ((mkL qB.mrk qB.ct (xs.take i) k).map qB.enc) 1).1=vA at e2 hA|-;generalize (qO ((mkL qB.mrk qB.ct (xs.take i) k).map qB.enc) 1).2=oA at e2 hoA|-;simp only[qS hlt,go_sem,nZa];refine zX (e':=.agg [iI (K),iI y.L,iI y.V,sQ 1 (p) y.D.length,.slice 2 (p+AV.rows (lQ y.D)) 0 y.P.length false]) (by rfl) (by rfl) (zi hA) (by rfl) ?_;simp only[jJ hA,qS hlt,lSz,go_sem,nZa];rw[wsA (n:=K+1)]
  try simp only[zi hA,jJ hA,qS hlt,lSz,go_sem,nZa]
  refine zX (e':=.agg [iI (K),iI (K+1),iI y.V,sQ 1 (p) y.D.length,.slice 2 (p+AV.rows (lQ y.D)) 0 y.P.length false]) (by rfl) (by rfl) (zi hA) (by rfl) ?_;simp only[jJ hA,qS hlt,lSz,go_sem,nZa];rw[wsA (n:=K+1+1)]
  try simp only[zi hA,jJ hA,qS hlt,lSz,go_sem,nZa]
  refine zX (e':=.agg [iI (K),iI (K+1),iI (K+1+1),sQ 1 (p) y.D.length,.slice 2 (p+AV.rows (lQ y.D)) 0 y.P.length false]) (by rfl) (by rfl) (zi hA) (by rfl) ?_;simp only[zi hA,jJ hA,qS hlt,lSz,go_sem,nZa];rw[wsA (n:=K+1+1+1)]
  try simp only[zi hA,jJ hA,qS hlt,lSz,go_sem,nZa]
  refine J6 (n:=p) (pre:=.row 5 (vA++.agg [iI (K),iI (K+1),iI (K+1+1),sQ 1 (p) y.D.length,.slice 2 (p+AV.rows (lQ y.D)) 0 y.P.length false]::vB) true::(oA++[])) (post:=((lay (.lst 2 (y.P.map qI.enc) false) (p+AV.rows (lQ y.D))).2++[])++oB) (t:=(lQ y.D)) (t':=(lQ (mkL mkI ctI y.D (K+1+1+1)))) (k90 y.D (K+1+1+1) (by omega) (by omega) (by omega)) ?_ ?_ (by rw[jU,lMp]) ?_
  ·first | rfl | (simp only[lCo,lAp,lNi,hoA,AV.rows];done) | (simp only[lCo,lAp,lNi,hoA,AV.rows];omega)
  ·first | rfl | (simp only[lAa,lAn,lCa];done)
  simp only[zi hA,qS hlt,lCa,go_sem,nZa];refine J6 (n:=p+AV.rows (lQ y.D)) (pre:=.row 5 (vA++.agg [iI (K),iI (K+1),iI (K+1+1),sQ 1 (p) y.D.length,.slice 2 (p+AV.rows (lQ y.D)) 0 y.P.length false]::vB) true::(oA++((lay (lQ (mkL mkI ctI y.D (K+1+1+1))) (p)).2))) (post:=([])++oB) (t:=(.lst 2 (y.P.map qI.enc) false)) (t':=(.lst 2 ((mkL qI.mrk qI.ct y.P (K+1+1+1+((qJ ctI y.D:Nat):Int))).map qI.enc) false)) (k885 y.P (K+1+1+1+((qJ ctI y.D:Nat):Int)) (by omega) (by omega) (by omega)) ?_ ?_ (by rw[jU,lMp]) ?_
  ·first | rfl | (simp only[lCo,lAp,hoA,qx,AV.rows,qv mkI ctI (enc:=qQ) (λ_ _=>rfl)];done) | (simp only[lCo,lAp,hoA,qx,AV.rows,qv mkI ctI (enc:=qQ) (λ_ _=>rfl)];omega)
  ·first | rfl | (simp only[lAa,lNa,lAn,lCa];done)
  simp only[lCa,go_sem];simp only[wuA (n:=i)];refine qa (i+1) (by omega) (by omega) ?_;have e3:K+1+1+1+((qJ ctI y.D:Nat):Int)+((qJ qI.ct y.P:Nat):Int)=k+((qJ qB.ct (xs.take (i+1)):Nat):Int):=by first | (rw[hend];done) | (rw[hend];omega)
  rw[e3];rw[hmk,e2];simp only[qB.mrk,jy,AV.rows,lAa,lNa,lAn,qv mkI ctI (enc:=qQ) (λ_ _=>rfl)];exact csA
 ·have hge:i=xs.length:=by have:=odF hc;omega
  subst hge;refine Q3 (by rw[lTl]) ?_;rw[lTl,List.drop_length,lAn]
theorem k225(xs:List qD)(k:Int)(h0:0<=k)(hk:k+(qJ qD.ct xs:Nat)<=4611686018427387904)(hz:xs.length+qJ qD.sz xs<=1073741824):Mark Gm 225 (.lst 1 (xs.map qD.enc) false) (.lst 1 ((mkL qD.mrk qD.ct xs k).map qD.enc) false) k (k+(qJ qD.ct xs:Nat)):=by
 refine Mark.intro (gk _ kD) (by kernel_rfl) rfl (zN qD.plx xs) (zN qD.plx _) (by simp only[AV.rows,qv qD.mrk qD.ct (enc:=qD.enc) qD.rowsM]) ?_;simp only[kD,qN,jU,go_sem,nZa];refine Sem.loop (λi:Nat=>i<=xs.length) (λi=>(⟨[(0,sQ 1 0 xs.length),(1,iI (k+((qJ qD.ct (xs.take i):Nat):Int))),(5,iI (i:Nat))],[],(lay (.lst 1 ((mkL qD.mrk qD.ct (xs.take i) k++xs.drop i).map qD.enc) false) 0).2⟩:VSt)) (λi=>xs.length-i) 0 (by kernel_rfl) (nZl _) (by simp only[List.take_zero,mkL,lNa,List.drop_zero,qJ,Int.ofNat_zero,Int.add_zero];exact csA) ?_;intro i hi;simp only[go_sem];apply qT<;>intro hc<;>simp only[hc,go_sem]
 ·have hlt:i<xs.length:=by have:=odT hc;omega
  have hct:=Qm qD.ct hlt;have hcl:=Ql qD.ct xs (i+1);have hrow:=qD.rowsM;rw[lDc hlt,Jh];have hsz:qD.sz xs[i]<=qJ qD.sz xs:=z5 (f:=qD.sz) (gMm hlt);obtain⟨K,hK⟩:∃K:Int,K=k+((qJ qD.ct (xs.take i):Nat):Int):=⟨_,rfl⟩;have hend:k+((qJ qD.ct (xs.take (i+1)):Nat):Int)=K+((qD.ct xs[i]:Nat):Int):=by rw[hct,hK];omega
  have hKb:0<=K/\K+((qD.ct xs[i]:Nat):Int)<=4611686018427387904:=by rw[<-hend];omega
  have hmk:(mkL qD.mrk qD.ct (xs.take (i+1)) k++xs.drop (i+1))=mkL qD.mrk qD.ct (xs.take i) k++qD.mrk xs[i] K::xs.drop (i+1):=by rw[Zm qD.mrk qD.ct hlt,<-hK,lAa];rfl
  have hrx:=hrow xs[i] K;rw[<-hK];obtain⟨y,hy⟩:∃y,y=xs[i]:=⟨_,rfl⟩;rw[<-hy]at hmk hend hKb hrx hsz|-;have hcy:qD.ct y=qJ qB.ct y.G:=rfl;rw[hcy]at hend hKb;simp only[qD.sz]at hsz;have hA:(qO ((mkL qD.mrk qD.ct (xs.take i) k).map qD.enc) 1).1.length=i:=by rw[jk,lMp,jy];simp;omega
  have hoA:=zx ((mkL qD.mrk qD.ct (xs.take i) k).map qD.enc) 1;have e2:=Jh (enc:=qD.enc) (w:=1) (c:=false) (A:=mkL qD.mrk qD.ct (xs.take i) k) (B:=xs.drop (i+1)) (z:=qD.mrk y K);rw[hrx]at e2;rw[qD.layE]at e2|-;obtain⟨p,hp⟩:∃p,p=1+AV.rowss ((mkL qD.mrk qD.ct (xs.take i) k).map qD.enc):=⟨_,rfl⟩;rw[<-hp]at e2|-;generalize (qO ((xs.drop (i+1)).map qD.enc) (p+y.enc.rows)).1=vB at e2|-;generalize (qO ((xs.drop (i+1)).map qD.enc) (p+y.enc.rows)).2=oB at e2|-;generalize (qO ((mkL qD.mrk qD.ct (xs.take i) k).map qD.enc) 1).1=vA at e2 hA|-;generalize (qO ((mkL qD.mrk qD.ct (xs.take i) k).map qD.enc) 1).2=oA at e2 hoA|-;simp only[zi hA,qS hlt,go_sem,nZa];refine J6 (n:=p) (pre:=.row 1 (vA++.agg [sQ 5 (p) y.G.length]::vB) true::(oA++[])) (post:=([])++oB) (t:=(.lst 5 (y.G.map qB.enc) false)) (t':=(.lst 5 ((mkL qB.mrk qB.ct y.G (K)).map qB.enc) false)) (k524 y.G (K) (by omega) (by omega) (by omega)) ?_ ?_ (by rw[jU,lMp]) ?_
  ·first | rfl | (simp only[lCo,lAp,lNi,hoA];done) | (simp only[lCo,lAp,lNi,hoA];omega)
  ·first | rfl | (simp only[lNa,lAn,lCa];done)
  simp only[lCa,go_sem];simp only[wuA (n:=i)];refine qa (i+1) (by omega) (by omega) ?_;have e3:K+((qJ qB.ct y.G:Nat):Int)=k+((qJ qD.ct (xs.take (i+1)):Nat):Int):=by first | (rw[hend];done) | (rw[hend];omega)
  rw[e3];rw[hmk,e2];simp only[qD.mrk,jy,AV.rows,lNa,lAn];exact csA
 ·have hge:i=xs.length:=by have:=odF hc;omega
  subst hge;refine Q3 (by rw[lTl]) ?_;rw[lTl,List.drop_length,lAn]
theorem q92(xs:List Int)(k:Int)(h0:0<=k)(hk:k+(qJ ctI xs:Nat)<=4611686018427387904)(hz:xs.length<=1073741824):Pure Gm 92 [lQ (mkL mkI ctI xs k),iI k] (iI (k+(qJ ctI xs:Nat))):=qnV (gk _ F92) rfl xs k h0 hk hz
theorem qHO{E:Ev}{d w:Nat}{z:AV}{k k':IntKind}{n m:Nat}{l:List qG}{ks:List Fr1}{s lo:qt}{h:List qA}{Q:qn->VSt->Prop}(hnm:n<=m)(hm:m<=4294967296)
  (hr:JN E (some d) (.row w (List.replicate n z) true) (sQ w h.length n) l ks ⟨s,lo,h⟩ Q):Mks E (some d) w z (some (.int k (n:Nat))) (some (.int k' (m:Nat))) l ks ⟨s,lo,h⟩ Q:=by
 unfold Mks;refine⟨by omega,by omega,by simp only[LIM];omega, ?_⟩;simpa only [iTn]using hr
theorem flat{α:Type}{enc:α->AV}(h:∀x n,lay (enc x) n=(enc x,[])):∀(xs:List α)(n:Nat),qO (xs.map enc) n=(xs.map enc,[])
 |[],_=>rfl
 | x::xs,n=>by simp only[lMc,qO,h,lNi,nAz,flat h xs,lNa]
theorem qI.flat(xs:List qI)(n:Nat):qO (xs.map qI.enc) n=(xs.map qI.enc,[]):=Go.Ab.flat (λx n=>qI.layE x n) xs n
theorem qU.flat(xs:List qU)(n:Nat):qO (xs.map qU.enc) n=(xs.map qU.enc,[]):=Go.Ab.flat (λx n=>qU.layE x n) xs n
theorem qf.flat(xs:List qf)(n:Nat):qO (xs.map qf.enc) n=(xs.map qf.enc,[]):=Go.Ab.flat (λx n=>qf.layE x n) xs n
theorem Vb(xs:List Int)(hz:xs.length<=4194304):Fresh Gm 401 [lQ xs] (lQ xs):=
 Ys (w:=1) (gk _ F401) (lI xs) (zN (λ_=>rfl) xs) (qb shI.tree xs) (by simpa using hz)
theorem qpL(xs:List qI)(hz:xs.length<=4194304):Fresh Gm 1373 [.lst 2 (xs.map qI.enc) false] (.lst 2 (xs.map qI.enc) false):=
 Ys (w:=2) (gk _ qD2) (qI.flat xs) (zN qI.plx xs) (qb qI.isSh.tree xs) (by simpa using hz)
theorem qpH(x:qB)(hz:x.sz<=1048576):Fresh Gm 1085 [x.enc] x.enc:=by
 unfold qB.sz at hz;refine fI Ud (by simp[AV.trees,go_sem]) (qB.plx x) ?_;simp only[Ud,qN,go_sem];refine qX rfl ?_;simp only[qB.enc];simp only[go_sem];refine jY (Vb x.D (by omega)) ?_;simp only[go_sem,jU];refine jY (qpL x.P (by omega)) ?_;simp only[go_sem,jU];refine lsA ?_;simp only[go_sem];exact JG (pre:=[]) (post:=[]) (t:=x.enc) (qB.plx x) (by simp[zk,qB.layE,qx]) (by simp[qB.layE,qx])
theorem n798(n:qD)(hz:n.sz<=1048576):Fresh Gm 798 [n.enc] n.enc:=by
 unfold qD.sz at hz;refine fI F798 (by simp[AV.trees,go_sem]) (qD.plx n) ?_;simp only[F798,qN,go_sem];refine qX rfl ?_;simp only[go_sem];refine qHO (n:=0) (by omega) (by omega) ?_;simp only[go_sem];refine Sem.loop (λi:Nat=>i<=n.G.length) (λi=>(⟨[(14,iI (i:Nat)),(13,iI (n.G.length:Nat)),(12,.lst 5 (n.G.map qB.enc) false)],[(3,.agg [sQ 5 0 i]),(2,.agg [.nils])],.row 5 (qO ((n.G.take i).map qB.enc) 1).1 true::(qO ((n.G.take i).map qB.enc) 1).2⟩:VSt)) (λi=>n.G.length-i) 0 (by kernel_rfl) (nZl _) csA ?_;rintro i hi;simp only[go_sem];apply qT<;>intro hc<;>simp only[hc,go_sem]
 ·have hlt:i<n.G.length:=by have:=odT hc;omega
  have hsz:qB.sz n.G[i]<=qJ qB.sz n.G:=z5 (f:=qB.sz) (gMm hlt);simp only[gMp,gEg hlt,oMs,go_sem];refine lsA ?_;simp only[go_sem];refine jY (qpH n.G[i] (by omega)) ?_;simp only[go_sem];refine qkB (by rw[VH (qB.plx _)];rfl) ?_;simp only[go_sem];have hA:(qO ((n.G.take i).map qB.enc) 1).1.length=i:=by rw[jk];simp;omega
  refine ZY (len:=i) (el:=(qO ((n.G.take i).map qB.enc) 1).1) qoD rfl hA (by omega) ?_;simp only[go_sem];simp only[wuA (n:=i)];refine qa (i+1) (by omega) (by omega) ?_;have e:(n.G.take (i+1)).map qB.enc=(n.G.take i).map qB.enc++[qB.enc n.G[i]]:=by
   rw[lTs hlt,lMa];rfl
  refine Can.push (w:=5) (ps:=[]) (A:=(n.G.take i).map qB.enc) (t:=n.G[i].enc) (b:=0) rfl (zN qB.plx _) (qB.plx _) rfl rfl ?_ ?_
   ⟨⟨_,rfl,.tree rfl⟩,⟨_,rfl,.tree rfl⟩,⟨_,rfl,.tree (by simp[AV.tree,qb qB.isSh.tree])⟩,trivial⟩ ⟨⟨_,rfl,.agg rfl (VR2s.cons (.slice (qrF.trans ?_)) VR2s.nil).2⟩,⟨_,rfl,.tree rfl⟩,trivial⟩
  ·simp only[qO,zx,lCa,lNa,lSz,lAa,nZa,Nat.add_comm 1]
  ·rw[e];simp only[qO,lNa,nZa]
  ·simp only[lAp,lCo,lNi,zx,qx];congr 2;omega
 ·obtain rfl:i=n.G.length:=by have:=odF hc;omega
  simp only[lTl];exact JG (t:=n.enc) (pre:=[]) (post:=[]) (qD.plx n) (by simp[zk,qD.layE]) (by simp[qD.layE,lay])
theorem Xz(xs:List Int)(hz:xs.length<=4194304):Fresh Gm 402 [lQ xs] (lQ xs):=by
 refine fI kM (by simp[AV.trees,AV.tree,qb shI.tree]) (zN (λ_=>rfl) xs) ?_;simp only[kM,qN,go_sem];refine Qu Els.lst (by simp;omega) ?_;simp only[go_sem];exact JG (t:=lQ xs) (pre:=[]) (post:=[]) (zN (λ_=>rfl) xs) (by simp[zk,lay]) (by simp[lay,lI])
theorem qz{α:Type}{xs:List α}{i:Nat}{x:α}(h:xs[i]?=some x):i<xs.length:=(gSi.1 h).1
def pv(x:qB)(p:Nat):AV:=if x.P.length=0 then .lst 2 [] false else sQ 2 p x.P.length
section
variable {x:qB} {p:Nat}
end
section
variable {w:Nat} {post:List AV} {base:Nat->Prop} {nid aid:Nat} {ps:List Nat} {h h':List qA} {N:Ags}
end
section
variable {w:Nat} {post:List AV} {base:Nat->Prop} {nid:Nat} {h:List qA} {N:Ags} {K:AV->List qA->Prop} {a s c k:Nat}
theorem qn1{len id a:Nat}(h:a<len):idx 5 (some (sQ 5 id len)) (some (iI (a:Int)))=some (.ptr id a 0):=by rw[qS h,nZa]
end
section
variable {w:Nat} {post:List AV} {base:Nat->Prop} {nid:Nat} {h:List qA} {N:Ags} {K:AV->List qA->Prop} {a s c k:Nat}
end
section
variable {w:Nat} {post:List AV} {base:Nat->Prop} {nid aid:Nat} {ps:List Nat} {h:List qA} {N:Ags} {K:AV->List qA->Prop} {a s c k:Nat}
end
def hiI(xs:Ags):Int:=xs.foldl (λm x=>if x.L<m then m else x.L) 0
theorem qnZ{xs:Ags}{i:Nat}(h:i<xs.length):hiI (xs.take (i+1))=if xs[i].L<hiI (xs.take i)then hiI (xs.take i)else xs[i].L:=by
 unfold hiI;rw[lTs h,List.foldl_append];rfl
def qGR(c p:Int):Int×Int:=
 if c=1\/c=2 then(if inI p 0 0 then(-2,0)else(0,2))else if c=3 then(if inI p 0 3 then(p,0)else(0,2))else if c=4 then(if inI p 0 3 then(p-2,0)else(0,2))
 else if c=5 then(if inI p 0 0 then(-1,0)else(0,2))else if c=6 then(if inI p 0 3 then(p-1,0)else(0,2))else if c=7 then(if inI p 2 600 then(p-2,0)else(0,2))else(0,2)
def qw(bk:List qD)(v:Int):qD:=(bk[v.toNat]?).getD ⟨[]⟩
def qGS(bk:List qD)(x y:qB)(c:Int):Int:=if c=3\/c=4 then(y.P.length:Int)-1 else if c=6 then fieldsOf x else if c=7 then((qw bk x.V).G.length:Int)else 0
def Jg(bk:List qD)(x y:qB):Int×Int:=
 if zb x y=8 then(0,11)else if zb x y=7/\(bk.length:Int)<=x.V then(0,3)else if zb x y=7/\8<IntKind.i64.wrap (hiI (qw bk x.V).G+x.L)then(0,9)
 else((qGR (zb x y) (qGS bk x y (zb x y))).1,0)
theorem c856{a b:Int}:Pure Gm 856 [iI a,iI b] (iI (if b<a then a else b)):=by
 refine pJ F856 ?_;simp only[F856,qN,go_sem]
 repeat' (first | (refine qX rfl ?_;simp only[go_sem]) | (first | (apply zH<;>intro hc<;>simp only[hc,go_sem]) | (apply qT<;>intro hc<;>simp only[hc,go_sem])) | refine qM rfl ?_ | refine zj (by rfl) ?_)
 all_goals (simp_all<;>omega)
theorem qkN{n:qD}(hz:n.sz<=1048576):Pure Gm 1177 [.ept n.enc 0] (iI (hiI n.G)):=by
 refine pJ Uo ?_;simp only[Uo,qN,go_sem];unfold qD.sz at hz;refine Sem.loop (λi:Nat=>i<=n.G.length/\True) (λi=>(⟨[(0,.ept n.enc 0),(3,iI (hiI (n.G.take i))),(4,iI (i:Nat))],[],[]⟩:VSt)) (λi=>n.G.length-i) 0 (by kernel_rfl) ⟨nZl _,by trivial⟩ (Can.sub (by simp[go_sem,hiI]) (by simp[go_sem])) ?_;rintro i ⟨hi,hI⟩;simp only[go_sem];apply qT<;>intro hc<;>simp only[hc,go_sem]
 ·have hlt:i<n.G.length:=by have:=odT hc;omega
  simp only[gMp,gEg hlt,oMs,go_sem];refine qL c856 ?_;simp only[go_sem];rw[<-qnZ hlt];simp only[wuA (n:=i)];refine qa (i+1) ⟨by omega, ?_⟩ (by omega) csA;trivial
 ·obtain rfl:i=n.G.length:=by have:=odF hc;omega
  exact qM rfl (by rw[lTl])
def QK(lev base:Int)(x:qB):qB:={x with L:=if jQ x.K then x.L+lev else x.L,P:=x.P.map λp=>⟨p.N+base,p.S⟩}
section
variable {N:Ags} {a b c d:Nat} {x y:qB} {lab lev:Int} {X:Nat->Nat->Prop}
end
section
variable {N:Ags} {a b c d f s n:Nat} {x y:qB} {lab lev:Int} {X:Nat->Nat->Prop}
structure Pr(N:Ags)(a b:Nat)(x y:qB)(X:Nat->Nat->Prop):Prop where
 w:W N X
 x:N[a]?=some x
 y:N[b]?=some y
 ne:a≠b
 l:∀p q,X p q->(p=a\/p=b)->q=0
theorem Has.in(h:Has N a s)(hx:N[a]?=some x):s<x.P.length:=by
 obtain⟨z,hz,hs⟩:=wD.1 h;rw[hx]at hz;cases hz;exact hs
structure Act(R:Nat->Bool)(N:Ags)(a b:Nat)(x y:qB):Prop where
 w:W N λu _=>R u=true
 x:N[a]?=some x
 y:N[b]?=some y
 ne:a≠b
 pa:atP N a 0=some (pt b 0)
 pb:atP N b 0=some (pt a 0)
 ra:R a=false
 rb:R b=false
 rl:∀u,R u=true->u<N.length
variable {R:Nat->Bool}
end
section
variable {N:Ags} {a b c d f s n:Nat} {x y:qB} {lab lev v:Int} {X:Nat->Nat->Prop} {R:Nat->Bool}
end
theorem qD8:∀{l:List qB}{i:Nat},jX l i=true->∀(k:Nat)(hk:k<l.length),(l[k].K=1↔i+k=0)
 |[],_,_,k,hk=>by simp at hk
 | y::l,i,h,k,hk=>by
  simp only[jX,bAt]at h;cases k with
  | zero=>have:=h.1.2;simp at this|-;simp[this]
  | succ k=>
   have:=qD8 h.2 k (by simpa using hk);simp only[List.getElem_cons_succ,this];omega
theorem qjW{x:qB}(h:qk x=true):x.K≠0:=by
 intro e;simp only[qk,bAt]at h;have h1:=h.1.1.1;rw[e]at h1;simp[jr]at h1
theorem Qg{n:qD}(h:zM n=true):jX n.G 0=true:=by
 simp only[zM,wL,bAt]at h;exact h.1.2
theorem Jy{x:qB}(h:qk x=true):zu x.K x.L=true:=by
 simp only[qk,bAt]at h;exact h.1.2
theorem qJM{a b c d:Int}(h:zS a b c d=6):(a=6/\c=11)\/(a=9/\c=10):=by
 simp only[zS]at h;repeat' (split at h<;>try omega)
theorem qIJ{a b c d:Int}:wG a b c d=wG c d a b:=by
 simp only[wG];cases zu a b<;>cases zu c d<;>cases decide (a=1)<;>cases decide (c=1)<;>rfl
theorem qJL{a b c d:Int}:zS a b c d≠8:=by
 simp only[zS];repeat' (split<;>try omega)
theorem qFL{x y:qB}(_hx:qk x=true)(_hy:qk y=true)(h:zt x.K x.L y.K y.L=2):
  zb y x=if x.K=10/\y.K=9/\(x.D.length:Int)<=y.V then 8 else jH x.K x.L y.K y.L:=by
 have hp:wG x.K x.L y.K y.L=true:=by
  simp only[zt]at h;split at h
  ·assumption
  ·omega
 simp only[zt,hp,if_true]at h;have h1:zS x.K x.L y.K y.L=0:=by
  rcases Decidable.em (zS x.K x.L y.K y.L=0)with q | q
  ·exact q
  ·rw[iP q]at h;omega
 have h2:zS y.K y.L x.K x.L≠0:=by
  intro q;simp only[h1,q]at h;simp at h
 have e:jH y.K y.L x.K x.L=jH x.K x.L y.K y.L:=by
  simp only[jH,qIJ (a:=y.K),hp,h1,if_true,iP h2];simp[]
 simp only[zb,e];have n1:¬(y.K=10/\x.K=9):=by
  rintro⟨a,b⟩;have:zS x.K x.L y.K y.L=6:=by simp[zS,a,b]
  omega
 by_cases q:y.K=9/\x.K=10/\(x.D.length:Int)<=y.V
 ·rw[iP q,iP ⟨q.2.1,q.1,q.2.2⟩]
 ·rw[iN q,iN (by rintro⟨a,b,c⟩;exact n1 ⟨a,b⟩),iN (by rintro⟨a,b,c⟩;exact q ⟨b,a,c⟩)]
theorem qFK{x y:qB}(hx:qk x=true)(hy:qk y=true)(h:zt x.K x.L y.K y.L≠2):
  zb x y=if x.K=9/\y.K=10/\(y.D.length:Int)<=x.V then 8 else jH x.K x.L y.K y.L:=by
 simp only[zb];have n1:¬(x.K=10/\y.K=9):=by
  rintro⟨a,b⟩;apply h;have hp:wG x.K x.L y.K y.L=true:=by
   have q1:=Jy hx;have q2:=Jy hy;rw[a]at q1;rw[b]at q2;simp only[wG,a,b,q1,q2];decide
  have r1:zS x.K x.L y.K y.L=0:=by simp[zS,a]
  have r2:zS y.K y.L x.K x.L=6:=by simp[zS,a,b]
  simp[zt,hp,r1,r2]
 by_cases q:x.K=9/\y.K=10/\(y.D.length:Int)<=x.V
 ·rw[iP q,iP q]
 ·rw[iN q,iN q,iN (by rintro⟨a,b,c⟩;exact n1 ⟨a,b⟩)]
theorem qFJ{x y:qB}(h:jH x.K x.L y.K y.L=6):zt x.K x.L y.K y.L=1/\zS x.K x.L y.K y.L=6\/zt x.K x.L y.K y.L=2/\zS y.K y.L x.K x.L=6:=by
 simp only[jH,zt]at h|-
 repeat' (split at h)
 all_goals simp_all
theorem qH1{x y:qB}(hx:qk x=true)(hy:qk y=true)(a:x.K=9)(b:y.K=10):jH x.K x.L y.K y.L=6/\zt x.K x.L y.K y.L=1:=by
 have hp:wG x.K x.L y.K y.L=true:=by
  have q1:=Jy hx;have q2:=Jy hy;rw[a]at q1;rw[b]at q2;simp only[wG,a,b,q1,q2];decide
 have r1:zS x.K x.L y.K y.L=6:=by simp[zS,a,b]
 simp[jH,zt,hp,r1]
theorem qsP{x y:qB}(hx:qk x=true)(hy:qk y=true)(a:x.K=10)(b:y.K=9):jH x.K x.L y.K y.L=6/\zt x.K x.L y.K y.L=2:=by
 have hp:wG x.K x.L y.K y.L=true:=by
  have q1:=Jy hx;have q2:=Jy hy;rw[a]at q1;rw[b]at q2;simp only[wG,a,b,q1,q2];decide
 have r1:zS x.K x.L y.K y.L=0:=by simp[zS,a]
 have r2:zS y.K y.L x.K x.L=6:=by simp[zS,a,b]
 simp[jH,zt,hp,r1,r2]
def wi(x y:qB):Int:=if jR x y then zb y x else zb x y
theorem qqA{x y:qB}(hx:qk x=true)(hy:qk y=true):
  wi x y=if jH x.K x.L y.K y.L=6/\(if jR x y then x.K=10/\(x.D.length:Int)<=y.V else y.K=10/\(y.D.length:Int)<=x.V)then 8 else jH x.K x.L y.K y.L:=by
 by_cases h:zt x.K x.L y.K y.L=2
 ·have hs:jR x y=true:=by simp[jR,h]
  simp only[wi,hs,if_true,qFL hx hy h];by_cases q:x.K=10/\y.K=9/\(x.D.length:Int)<=y.V
  ·rw[iP q,iP ⟨(qsP hx hy q.1 q.2.1).1,q.1,q.2.2⟩]
  ·rw[iN q];by_cases q2:jH x.K x.L y.K y.L=6/\x.K=10/\(x.D.length:Int)<=y.V
   ·exfalso;rcases qFJ q2.1 with⟨a,_⟩ | ⟨_,a⟩
    ·omega
    ·rcases qJM a with⟨_,a⟩ | ⟨a,_⟩
     ·omega
     ·exact q ⟨q2.2.1,a,q2.2.2⟩
   ·rw[iN q2]
 ·have hs:jR x y=false:=by simp[jR,h]
  simp only[wi,hs,bFt,if_false,qFK hx hy h];by_cases q:x.K=9/\y.K=10/\(y.D.length:Int)<=x.V
  ·rw[iP q,iP ⟨(qH1 hx hy q.1 q.2.1).1,q.2.1,q.2.2⟩]
  ·rw[iN q];by_cases q2:jH x.K x.L y.K y.L=6/\y.K=10/\(y.D.length:Int)<=x.V
   ·exfalso;rcases qFJ q2.1 with⟨_,a⟩ | ⟨a,_⟩
    ·rcases qJM a with⟨_,a⟩ | ⟨a,_⟩
     ·omega
     ·exact q ⟨a,q2.2.1,q2.2.2⟩
    ·omega
   ·rw[iN q2]
theorem qlQ{k:Int}:Pure Gm 1502 [iI k] (.bool (WY k)):=by
 refine pJ K4 ?_;simp only[K4,qN,go_sem]
 repeat' (first | (refine qX rfl ?_;simp only[go_sem]) | (first | (apply zH<;>intro hc<;>simp only[hc,go_sem]) | (apply qT<;>intro hc<;>simp only[hc,go_sem])) | refine qM rfl ?_)
 all_goals (simp_all[WY])
theorem qlP{l k m:Int}:Pure Gm 1501 [iI l,iI k,iI m] (.bool (Xc l k m)):=by
 refine pJ K3 ?_;simp only[K3,qN,go_sem]
 repeat' (first | (refine qX rfl ?_;simp only[go_sem]) | (first | (apply zH<;>intro hc<;>simp only[hc,go_sem]) | (apply qT<;>intro hc<;>simp only[hc,go_sem])) | (refine qL (qE1) ?_;simp only[go_sem]) | (refine qL (qAP) ?_;simp only[go_sem]) | (refine qL (qAN) ?_;simp only[go_sem]) | refine qM rfl ?_)
 all_goals (simp_all[Xc])
theorem qlJ{ka la kb lb:Int}:Pure Gm 1398 [iI ka,iI la,iI kb,iI lb] (iI (zS ka la kb lb)):=by
 refine pJ Kj ?_;simp only[Kj,qN,go_sem]
 repeat' (first | (refine qX rfl ?_;simp only[go_sem]) | (first | (apply zH<;>intro hc<;>simp only[hc,go_sem]) | (apply qT<;>intro hc<;>simp only[hc,go_sem])) | (refine qL (qlP) ?_;simp only[go_sem]) | (refine qL (qlQ) ?_;simp only[go_sem]) | refine qM rfl ?_)
 all_goals (simp_all[zS])
theorem qkJ{ka la kb lb:Int}:Pure Gm 1115 [iI ka,iI la,iI kb,iI lb] (.tup [iI (jH ka la kb lb),iI (zt ka la kb lb)]):=by
 refine pJ Ui ?_;simp only[Ui,qN,go_sem]
 repeat' (first | (first | (apply zH<;>intro hc<;>simp only[hc,go_sem]) | (apply qT<;>intro hc<;>simp only[hc,go_sem])) | (refine qL qAP ?_;simp only[go_sem]) | (refine qL qlJ ?_;simp only[go_sem]) | refine zj rfl ?_)
 all_goals (try simp only[bNt,Bool.not_eq_false',dTe,decide_eq_false_iff_not,Bool.not_false]at*)
 all_goals (simp[jH,zt,wG, *])
theorem qB9{n:qD}(h:zM n=true)(k:Nat)(hk:k<n.G.length):(n.G[k].K=1↔k=0):=by
 have:=qD8 (Qg h) k hk;rw[this];omega
theorem qHX{n:qD}(h:zM n=true)(k:Nat)(hk:k<n.G.length):n.G[k].K≠0:=
 qjW (J4 (Qg h) _ (gMm hk))
theorem ZH{n:qD}(h:zM n=true):0<n.G.length:=by
 simp only[zM,wL,bAt]at h;have:=Js.1 h.1.1;omega
theorem c376{n:qD}(hz:n.sz<=1048576)(ok:zM n=true):Pure Gm 376 [.ept n.enc 0] (.lst 2 ((Vc n).map qF.enc) false):=by
 refine pI kL (by simp[AV.trees,AV.tree,go_sem]) (by simp[AV.tree,qb qF.isSh.tree]) ?_;simp only[kL,qN,go_sem];unfold qD.sz at hz;have hnp:=ZH ok;refine Sem.loop (λi:Nat=>i<=n.G.length) (λi=>(⟨[(10,.lst 5 (n.G.map qB.enc) false),(11,iI (n.G.length:Int)),(12,iI (i:Nat)),(3,.slice 2 0 0 (zI n.G (i-1)).length false)],[],[.row 2 ((zI n.G (i-1)).map qF.enc) true]⟩:VSt)) (λi=>n.G.length-i) 0 (by kernel_rfl) (nZl _) (Can.renum [none] rfl ⟨.ph,trivial⟩ ⟨⟨_,rfl,.tree (by simp[AV.tree,qb qB.isSh.tree])⟩,⟨_,rfl,.tree rfl⟩,⟨_,rfl,.tree rfl⟩,⟨_,rfl,.ph rfl⟩,trivial⟩ trivial) ?_;rintro i hi;simp only[go_sem];refine qT ?_ ?_<;>intro hc<;>simp only[hc,go_sem]
 ·have hlt:i<n.G.length:=by have:=odT hc;omega
  simp only[gMp,gEg hlt,oMs,go_sem];have hp0:=qpP ok _ (gMm hlt);have hk1:=qB9 ok i hlt;have hk0:=qHX ok i hlt;refine lsA ?_;simp only[go_sem];simp only[gMp,gEg hp0,oMs,go_sem];refine lsA ?_;simp only[go_sem];have same (hn:¬(n.G[i].P[0].S=0/\(i:Int)<n.G[i].P[0].N/\n.G[i].K≠1)):zI n.G (i+1-1)=zI n.G (i-1):=by
   cases i with
   | zero=>rfl
   | succ i=>
    have h1:n.G[i+1].K≠1:=by intro q;have:=hk1.1 q;omega
    have:¬(n.G[i+1].P[0].S=0/\((i+1:Nat):Int)<n.G[i+1].P[0].N):=by rintro⟨q1,q2⟩;exact hn ⟨q1,q2,h1⟩
    simp only[Nat.add_sub_cancel,zI,Jb,gEg hlt,gEg hp0,iN hk0,iN this,lAn]
  have more (hn:n.G[i].P[0].S=0/\(i:Int)<n.G[i].P[0].N/\n.G[i].K≠1):zI n.G (i+1-1)=zI n.G (i-1)++[⟨(i:Int),n.G[i].P[0].N⟩]:=by
   cases i with
   | zero=>exact absurd (hk1.2 rfl) hn.2.2
   | succ i=>
    simp only[Nat.add_sub_cancel,zI,Jb,gEg hlt,gEg hp0,iN hk0];rw[iP ⟨hn.1,hn.2.1⟩]
  clear hk1 hk0
  repeat' (first | (first | (refine zH ?_ ?_<;>intro hc<;>simp only[hc,go_sem]) | (refine qT ?_ ?_<;>intro hc<;>simp only[hc,go_sem])))
  case refine_1.refine_1.refine_1=>
   have e:=more ⟨by simp_all,by simp_all,by simp_all⟩;refine ZY (el:=(zI n.G (i-1)).map qF.enc) rfl rfl (by simp) (by have:=Wr n.G (i-1);omega) ?_;simp only[go_sem];simp only[wuA (n:=i)];refine qa (i+1) (by omega) (by omega) ?_;simp only[e,lAp,lCo,lNi,nZa];refine Can.renum [some 2] rfl ⟨.row rfl ?_,trivial⟩ ⟨⟨_,rfl,.tree (by simp[AV.tree,qb qB.isSh.tree])⟩,⟨_,rfl,.tree rfl⟩,⟨_,rfl,.tree rfl⟩,⟨_,rfl,.slice rfl⟩,trivial⟩ trivial;rw[lMa];have t:=qb qF.isSh.tree (zI n.G (i-1)++[⟨(i:Int),n.G[i].P[0].N⟩]);rw[lMa]at t;exact VR2s.trees t
  all_goals
   simp only[wuA (n:=i)];refine qa (i+1) (by omega) (by omega) ?_;rw[same (by simp_all<;>omega)];exact csA
 ·obtain rfl:i=n.G.length:=by have:=odF hc;omega
  refine J8 (Cv.row rfl (by simp[Vc]) (qb qF.isSh.tree _) (by omega))
theorem Zo{n:qD}(h:zM n=true):W n.G λ_ _=>False:=by
 intro a s q hq _;obtain⟨x,hx,hs⟩:=Qv.1 hq;have hl:=(gSi.1 hx).1;have hl2:=(gSi.1 hs).1;have e1:n.G[a]=x:=(gSi.1 hx).2;have e2:x.P[s]=q:=(gSi.1 hs).2;unfold zM at h;simp only[bAt]at h;have h1:=Vd h.2 a hl;rw[e1]at h1;have h2:=UR h1 s hl2;rw[e2]at h2;simp only[nZa]at h2;unfold wX at h2;simp only[bAt,bNt,decide_eq_false_iff_not,dTe]at h2;obtain⟨⟨h3,h4⟩,h5⟩:=h2;obtain⟨b,t,rfl,hb,ht⟩:=qIW h4;exact⟨b,t,rfl,by rw[<-qqM];exact h5,λq=>q,λe=>h3 (by rw[e.1,e.2])⟩
theorem Zp{n:qD}(h:zM n=true){k:Nat}{x:qB}(hx:n.G[k]?=some x):qk x=true:=J4 (Qg h) x (lMo hx)
theorem qjV{x y:qB}(h:Qy y=Qy x):qk y=qk x:=by
 simp only[Qy,Prod.mk.injEq]at h;obtain⟨h1,h2,h3,h4,h5⟩:=h;unfold qk fieldsOf z6;rw[h1,h2,h3,h4,h5]
def w32(x:Int):Int:=IntKind.i64.wrap (IntKind.i32.wrap (IntKind.u32.wrap (IntKind.u64.wrap x)))
def opI(k a b:Int):Int:=
 if k=1 then w32 (IntKind.i64.wrap (w32 a+w32 b))else if k=2 then w32 (IntKind.i64.wrap (w32 a-w32 b))else if k=3 then w32 (IntKind.i64.wrap (w32 a*w32 b))
 else if k=4 then(if w32 b=0 then 0 else w32 (IntKind.i64.wrap ((w32 a).tdiv (w32 b))))else if k=5 then(if w32 a<w32 b then 1 else 0)else if k=6 then(if w32 a=w32 b then 1 else 0)else 0
theorem qKU(x:Int):w32 x=IntKind.i64.wrap (IntKind.i32.wrap x):=by
 unfold w32;congr 1;simp only[IntKind.wrap,IntKind.bits,IntKind.signed];simp
theorem WI{x:Int}:Pure Gm 1125 [iI x] (iI (w32 x)):=by
 refine pJ Uk ?_;simp only[Uk,qN,go_sem];exact qM rfl rfl
theorem qEU{b:Bool}:Pure Gm 1126 [.bool b] (iI (if b then 1 else 0)):=by
 refine pJ Ul ?_;simp only[Ul,qN,go_sem];apply qT<;>intro hc<;>simp only[hc,go_sem]
 ·exact qM rfl rfl
 ·exact qM rfl rfl
theorem c762{k a b:Int}:Pure Gm 762 [iI k,iI a,iI b] (iI (opI k a b)):=by
 refine pJ F762 ?_;simp only[F762,qN,go_sem];refine qL WI ?_;simp only[go_sem];refine qL WI ?_;simp only[go_sem];unfold opI;apply qT<;>intro hc<;>simp only[hc,go_sem]
 ·rw[iP (odT hc)];refine qL WI ?_;simp only[go_sem];exact qM rfl rfl
 rw[iN (odF hc)];apply qT<;>intro hc<;>simp only[hc,go_sem]
 ·rw[iP (odT hc)];refine qL WI ?_;simp only[go_sem];exact qM rfl rfl
 rw[iN (odF hc)];apply qT<;>intro hc<;>simp only[hc,go_sem]
 ·rw[iP (odT hc)];refine qL WI ?_;simp only[go_sem];exact qM rfl rfl
 rw[iN (odF hc)];apply qT<;>intro hc<;>simp only[hc,go_sem]
 ·rw[iP (odT hc)];apply qT<;>intro hc<;>simp only[hc,go_sem]
  ·rw[iP (odT hc)];exact qM rfl rfl
  rw[iN (odF hc)];have hq:=odF hc;simp only[iN hq,go_sem];refine qL WI ?_;simp only[go_sem];exact qM rfl rfl
 rw[iN (odF hc)];apply qT<;>intro hc<;>simp only[hc,go_sem]
 ·rw[iP (odT hc)];refine qL qEU ?_;simp only[go_sem];exact qM rfl (by simp)
 rw[iN (odF hc)];apply qT<;>intro hc<;>simp only[hc,go_sem]
 ·rw[iP (odT hc)];refine qL qEU ?_;simp only[go_sem];exact qM rfl (by simp)
 rw[iN (odF hc)];exact qM rfl rfl
theorem Za{b:Bool}:Pure Gm 566 [.bool b] (iI (if b then 1 else 0)):=by
 refine pJ kY ?_;simp only[kY,qN,go_sem];apply qT<;>intro hc<;>simp only[hc,go_sem]
 ·exact qM rfl rfl
 ·exact qM rfl rfl
theorem WJ{x:Int}:Pure Gm 1400 [iI x] (iI (w32 x)):=by
 refine pJ Kk ?_;simp only[Kk,qN,go_sem];exact qM rfl (by rw[qKU])
theorem qkK{k a b:Int}:Pure Gm 1118 [iI k,iI a,iI b] (iI (opI k a b)):=by
 refine pJ Uj ?_;simp only[Uj,qN,go_sem];refine qL WJ ?_;simp only[go_sem];refine qL WJ ?_;simp only[go_sem];unfold opI;apply qT<;>intro hc<;>simp only[hc,go_sem]
 ·rw[iP (odT hc)];refine qL WJ ?_;simp only[go_sem];exact qM rfl rfl
 rw[iN (odF hc)];apply qT<;>intro hc<;>simp only[hc,go_sem]
 ·rw[iP (odT hc)];refine qL WJ ?_;simp only[go_sem];exact qM rfl rfl
 rw[iN (odF hc)];apply qT<;>intro hc<;>simp only[hc,go_sem]
 ·rw[iP (odT hc)];refine qL WJ ?_;simp only[go_sem];exact qM rfl rfl
 rw[iN (odF hc)];apply qT<;>intro hc<;>simp only[hc,go_sem]
 ·rw[iP (odT hc)];apply qT<;>intro hc<;>simp only[hc,go_sem]
  ·rw[iP (odT hc)];exact qM rfl rfl
  rw[iN (odF hc)];have hq:=odF hc;simp only[iN hq,go_sem];refine qL WJ ?_;simp only[go_sem];exact qM rfl rfl
 rw[iN (odF hc)];apply qT<;>intro hc<;>simp only[hc,go_sem]
 ·rw[iP (odT hc)];refine qL Za ?_;simp only[go_sem];exact qM rfl (by simp)
 rw[iN (odF hc)];apply qT<;>intro hc<;>simp only[hc,go_sem]
 ·rw[iP (odT hc)];refine qL Za ?_;simp only[go_sem];exact qM rfl (by simp)
 rw[iN (odF hc)];exact qM rfl rfl
theorem qp7{k a b:Int}: -2147483648<=opI k a b/\opI k a b<=2147483647:=by
 have hw:∀n:Int,-2147483648<=w32 n/\w32 n<=2147483647:=λn=>by
  have h3: -2147483648<=IntKind.i32.wrap n/\IntKind.i32.wrap n<=2147483647:=by
   simp only[IntKind.wrap,IntKind.bits,IntKind.signed,Bool.true_and,dTe,Nat.reduceSub,Int.reducePow,ge_iff_le];split<;>constructor<;>omega
  rw[qKU,wsA];exact h3
 unfold opI
 repeat' split
 all_goals first
  | exact hw _
  | omega
theorem Zy{ka la kb lb:Int}:(zS ka la kb lb=1->ka=2/\kb=3)/\(zS ka la kb lb=2->ka=4/\kb=4)/\(zS ka la kb lb=3->ka=4)/\(zS ka la kb lb=4->ka=5)/\(zS ka la kb lb=5->ka=6/\(kb=7\/kb=8))/\
  (zS ka la kb lb=6->(ka=6/\kb=11)\/(ka=9/\kb=10))/\(zS ka la kb lb=7->ka=12/\WY kb=true)/\0<=zS ka la kb lb/\zS ka la kb lb<=7:=by
 unfold zS
 repeat' split
 all_goals (simp_all<;>omega)
theorem QG{x:qB}(h:qk x=true):(x.P.length:Int)=jr x.K (fieldsOf x)/\0<x.P.length:=by
 unfold qk at h;simp only[bAt,dTe]at h;omega
theorem qCC{x:qB}(h:qk x=true)(hk:x.K=5\/x.K=6\/x.K=12):x.P.length=1:=by
 have:=(QG h).1;unfold fieldsOf jr at this;rcases hk with e | e | e<;>rw[e]at this<;>simp at this<;>omega
theorem qH4{x:qB}(h:qk x=true)(hk:x.K=8\/x.K=10\/x.K=11):x.P.length=2:=by
 have:=(QG h).1;unfold fieldsOf jr at this;rcases hk with e | e | e<;>rw[e]at this<;>simp at this<;>omega
theorem Vo{x:qB}(h:qk x=true)(hk:x.K=2\/x.K=3\/x.K=4\/x.K=7):x.P.length=3:=by
 have:=(QG h).1;unfold fieldsOf jr at this;rcases hk with e | e | e | e<;>rw[e]at this<;>simp at this<;>omega
theorem JZ{x:qB}(h:qk x=true):x.P.length<=4:=by
 have h1:=(QG h).1;have:jr x.K (fieldsOf x)<=4:=by
  unfold jr;split
  ·split
   ·rename_i q;rw[Js]at q;omega
   ·omega
  ·split
   ·omega
   ·repeat' split
    all_goals omega
 omega
theorem ql5{x y:qB}(hx:qk x=true)(hy:qk y=true)(k1:x.K≠1)(k2:y.K≠1)(hf:zt x.K x.L y.K y.L≠2)(h8:zb x y≠8):
  zS x.K x.L y.K y.L=zb x y/\zb x y≠0/\¬(x.K=9/\y.K=10/\(y.D.length:Int)<=x.V):=by
 have e:=qFK hx hy hf;have n1:¬(x.K=9/\y.K=10/\(y.D.length:Int)<=x.V):=λq=>h8 (by rw[e,iP q]);rw[iN n1]at e;have hp:wG x.K x.L y.K y.L=true:=by unfold wG;simp[Jy hx,Jy hy,k1,k2]
 unfold jH at e;rw[iP hp]at e;unfold zt at hf;rw[iP hp]at hf;by_cases q:zS x.K x.L y.K y.L≠0
 ·rw[iP q]at e;exact⟨e.symm,by rw[e];exact q,n1⟩
 ·rw[iN q]at hf e;by_cases q2:zS y.K y.L x.K x.L≠0
  ·rw[iP q2]at hf;exact absurd rfl hf
  ·rw[iN q2]at e;exact absurd e h8
theorem qpZ{k l v:Int}(hk:k=5\/k=6\/k=12)(hl:zu k l=true)(hc:z6 (X0 k l v [] 1)=true):qk (X0 k l v [] 1)=true:=by
 unfold qk;rw[hc];simp only[X0,hl,Bool.and_true,fieldsOf,jr,lLr];rcases hk with e | e | e<;>subst e<;>simp
theorem Zq{x:qB}(h:qk x=true):z6 x=true:=by unfold qk at h;simp only[bAt]at h;exact h.2
theorem qD9{p:Int->Bool}{xs:List Int}(h:xs.all p=true){i:Nat}(hi:i<xs.length):p (xs.getD i 0)=true:=by
 rw[lGd,gEg hi];exact lAt.1 h _ (gMm hi)
theorem qp2{l v:Int}(hl:inI l 0 8=true)(hv:jv v=true):qk (X0 12 l v [] 1)=true:=
 qpZ (.inr (.inr rfl)) (by unfold zu;rw[iP (by decide)];exact hl) (by unfold z6 X0;simp[hv])
theorem Vn{x:qB}(h:qk x=true)(hk:jQ x.K=true):inI x.L 0 8=true:=by have:=Jy h;unfold zu at this;rwa[iP hk]at this
theorem qH5{z:qB}{lev base:Int}(h:qk z=true)(h1:jQ z.K=true->inI (z.L+lev) 0 8=true):qk (QK lev base z)=true:=by
 unfold qk at*;have e1:fieldsOf (QK lev base z)=fieldsOf z:=by unfold fieldsOf QK;simp
 have e2:z6 (QK lev base z)=z6 z:=by unfold z6 QK;rfl
 rw[e1,e2];simp only[QK,lMp];simp only[bAt]at h|-;refine⟨⟨h.1.1, ?_⟩,h.2⟩;unfold zu at*;by_cases q:jQ z.K=true
 ·rw[iP q,iP q];exact h1 q
 ·rw[iN q,iN q];have:=h.1.2;rwa[iN q]at this
theorem qp4{y:qB}(h:qk y=true)(hk:y.K=11):y.D.length=2/\y.D.all jv=true:=by
 have:=Zq h;unfold z6 at this;rw[hk]at this;simp at this;exact⟨by omega,by simpa using this.2⟩
theorem qpY{y:qB}(h:qk y=true)(hk:y.K=10):y.D.all jv=true:=by
 have:=Zq h;unfold z6 at this;rw[hk]at this;simp at this;simpa using this.2
theorem qp0{x:qB}(h:qk x=true)(hk:x.K=6):inI x.V (-2147483648) 2147483647=true:=by
 have:=Zq h;unfold z6 at this;rw[hk]at this;simp at this;exact this.2
theorem qpX{x:qB}(h:qk x=true)(hk:x.K=9):inI x.V 0 3=true:=by
 have:=Zq h;unfold z6 at this;rw[hk]at this;simp at this;exact this.2
theorem qp3{x:qB}(h:qk x=true)(hk:x.K=12):jv x.V=true:=by
 have:=Zq h;unfold z6 at this;rw[hk]at this;simp at this;exact this.2
def w0:qE:=⟨0,0⟩
def opC(x y:qC):qC:=if y.K=7 then⟨8,y.L,y.V,[x.V],[y.W.getD 1 w0]⟩else⟨6,0,opI y.V (y.D.getD 0 0) x.V,[],[]⟩
def j5(m:qH)(x y:qC):qH×List qp:=(qW m (opC x y),[⟨y.W.getD 0 w0,awI m.F⟩])
def chD(x y:qC):Int:=if y.K=10 then y.D.getD x.V.toNat 0 else if x.V=0 then y.D.getD 1 0 else y.D.getD 0 0
def JJ(x y:qC):qC:=⟨12,y.L,chD x y,[],[]⟩
def wM(y:qC):qC:=⟨3,y.L,0,[],[]⟩
def chA(m:qH)(x y:qC):Nat->qH×List Int
 | 0=>(qW m (JJ x y),[])
 | i+1=>(qW (chA m x y i).1 (wM y),(chA m x y i).2++[(chA m x y i).1.F])
def nxW(y:qC)(apps:List Int)(i:Nat):qE:=match apps[i+1]? with
 | some a=>awI a
 | none=>y.W.getD 0 w0
def chB(x y:qC)(apps:List Int)(m:qH):Nat->qH
 | 0=>m
 | i+1=>qr (chB x y apps m i) (apps.getD i 0) [x.W.getD i w0,nxW y apps i]
def chM(m:qH)(x y:qC):qH×List qp:=
 if x.W=[]then(qW m (JJ x y),[⟨y.W.getD 0 w0,awI m.F⟩])
 else(Jj (chB x y (chA m x y x.W.length).2 (chA m x y x.W.length).1 x.W.length) m.F ((chA m x y x.W.length).2.getD 0 0),[])
section
variable {P Q:List qE} {O:Nat->Bool} {k j:Nat} {c c' x y:qC} {m m':qH}
theorem Z6{ws:List qE}(h:ws.length=1):ws=[ws.getD 0 w0]:=by
 match ws,h with
 |[a],_=>rfl
theorem Qq{ws:List qE}(h:ws.length=2):ws=[ws.getD 0 w0,ws.getD 1 w0]:=by
 match ws,h with
 |[a,b],_=>rfl
theorem qp8(h:MM m (y.W++P) O)(hf:0<nF m.C)(hyF:zw y)(hy:y.K=7/\y.W.length=2\/y.K=8/\y.W.length=1)(hx:inI x.V (-2147483648) 2147483647=true):MM (j5 m x y).1 (lws (j5 m x y).2++P) O/\(j5 m x y).1.C.length=m.C.length:=by
 have hya:qy y.K=true:=by rcases hy with⟨q,_⟩ | ⟨q,_⟩<;>rw[q]<;>rfl
 have fy:=agf hya hyF;rcases hy with⟨hk,hl⟩ | ⟨hk,hl⟩
 ·have eo:opC x y=⟨8,y.L,y.V,[x.V],[y.W.getD 1 w0]⟩:=by unfold opC;rw[iP hk]
  have hF:zw (opC x y):=by
   rw[eo];refine .inl ⟨rfl, ?_⟩;simp[qZ,qk,hk,hl,jr,fieldsOf,zu,jQ,z6]at fy|-;exact⟨fy.1,fy.2.2,hx⟩
  have h2:MM m ((opC x y).W++(y.W.getD 0 w0::P)) O:=by
   rw[eo];rw[Qq hl]at h;exact MI.perm h (List.Perm.swap _ _ _)
  obtain⟨k,k1,k2,k3⟩:=YO h2 hf (by rw[eo];rfl) hF;refine⟨?_,k2.len⟩;unfold j5;simp only[k2.fr,lws];exact MI.perm k3 (List.Perm.swap _ _ _)
 ·have eo:opC x y=⟨6,0,opI y.V (y.D.getD 0 0) x.V,[],[]⟩:=by unfold opC;rw[iN (by omega)]
  have hF:zw (opC x y):=by
   rw[eo];refine .inl ⟨rfl, ?_⟩;have:=qp7 (k:=y.V) (a:=y.D.getD 0 0) (b:=x.V);simp[qZ,qk,jr,fieldsOf,zu,jQ,z6,JU,inI]at this|-;exact this
  have h2:MM m ((opC x y).W++(y.W.getD 0 w0::P)) O:=by
   rw[eo];rw[Z6 hl]at h;exact h
  obtain⟨k,k1,k2,k3⟩:=YO h2 hf (by rw[eo];rfl) hF;refine⟨?_,k2.len⟩;unfold j5;simp only[k2.fr,lws];exact MI.perm k3 (List.Perm.swap _ _ _)
def inO(O:Nat->Bool)(ks:List Nat):Nat->Bool:=λi=>decide (i∈ks) || O i
theorem VF:inO O []=O:=by funext i;simp[inO]
theorem qG3{ks:List Nat}:opO (inO O ks) k=inO O (ks++[k]):=by
 funext i;unfold opO inO;by_cases q:i=k<;>simp[q]
theorem qG2{ks:List Nat}(hn:k∉ks)(ho:O k=false):clO (inO O (k::ks)) k=inO O ks:=by
 funext i;unfold clO inO;by_cases q:i=k
 ·subst q;simp[hn,ho]
 ·simp[q]
structure ChI(m0:qH)(x y:qC)(P:List qE)(O:Nat->Bool)(r:Nat)(ks:List Nat)(s:qH×List Int)(i:Nat):Prop where
 mm:MM s.1 (aW r::ks.map aW++P) (inO O ks)
 ap:s.2=ks.map λk:Nat=>(k:Int)
 len:ks.length=i
 nd:ks.Nodup
 no:∀k∈ks,O k=false
 at':∀k∈ks,s.1.C[k]?=some (wM y)
 nf:nF m0.C=nF s.1.C+1+i
 cl:s.1.C.length=m0.C.length
theorem qAY(h:MM m P O)(hr:zw (JJ x y)):∀i,1+i<=nF m.C->∃r ks,m.F=(r:Nat)/\ChI m x y P O r ks (chA m x y i) i:=by
 intro i
 induction i with
 | zero=>
  intro hf;obtain⟨r,r1,r2,r3⟩:=YO (c:=JJ x y) (P:=P) h (by omega) rfl hr;have n1:=r2.nf (by simp[JJ]);exact⟨r,[],r2.fr,by rw[VF];exact r3,rfl,rfl,List.nodup_nil,λk hk=>(by cases hk),λk hk=>(by cases hk),by simp only[chA];omega,r2.len⟩
 | succ i ih=>
  intro hf;obtain⟨r,ks,e0,I⟩:=ih (by omega);have:=I.nf;obtain⟨k,k1,k2,k3⟩:=Qn (c:=wM y) I.mm (by omega) rfl;have n1:=k2.nf (by simp[wM]);have hk:k∉ks/\O k=false:=by
   unfold inO at k1;simpa using k1
  refine⟨r,ks++[k],e0, ?_, ?_,by simp[I.len], ?_, ?_, ?_, ?_, ?_⟩
  ·rw[<-qG3];refine MI.perm k3 ?_;rw[List.perm_iff_count];intro a;simp only[lMa,lMc,List.map_nil,List.count_append,List.count_cons,List.count_nil,lCa];omega
  ·simp only[chA];rw[I.ap,k2.fr];simp
  ·rw[List.nodup_append];refine⟨I.nd,by simp, ?_⟩;intro a ha b hb;simp only[lMg]at hb;subst hb;rintro rfl;exact hk.1 ha
  ·intro a ha;rcases z9.1 ha with ha | ha
   ·exact I.no a ha
   ·simp only[lMg]at ha;subst ha;exact hk.2
  ·intro a ha;simp only[chA];rcases z9.1 ha with ha | ha
   ·exact(k2.keep (I.at' a ha) (by simp[wM])).1
   ·simp only[lMg]at ha;subst ha;exact k2.new
  ·simp only[chA];omega
  ·simp only[chA];rw[k2.len,I.cl]
theorem appF(hl:zu 3 y.L=true){a b:qE}:zw {wM y with W:=[a,b]}:=by
 refine .inl ⟨rfl, ?_⟩;simp[qZ,wM,qk,jr,fieldsOf,z6];exact hl
theorem qFA{r:Nat}{ks:List Nat}{m0:qH}{s:qH×List Int}{n:Nat}(hn:x.W.length=n)(h0:0<n)(hl:zu 3 y.L=true)(I:ChI m0 x y (x.W++y.W.getD 0 w0::P) O r ks s n):∀i,i<=n->∃a,ks[0]?=some a/\MM (chB x y s.2 s.1 i) (aW r::aW a::((ks.drop (i+1)).map aW++(x.W.drop i++((if i<n then [y.W.getD 0 w0]else [])++P)))) (inO O (ks.drop i))/\(∀k∈ks.drop i,(chB x y s.2 s.1 i).C[k]?=some (wM y))/\(chB x y s.2 s.1 i).C.length=m0.C.length:=by
 obtain⟨mm,ap,len,nd,no,at',nf,cl⟩:=I;obtain⟨a,kr,rfl⟩:∃a kr,ks=a::kr:=by cases ks with | nil=>simp at len;omega | cons a kr=>exact⟨a,kr,rfl⟩
 intro i
 induction i with
 | zero=>
  intro _;refine⟨a,rfl, ?_,λk hk=>at' k (by simpa using hk),cl⟩;rw[iP h0];refine MI.perm mm ?_;rw[List.perm_iff_count];intro b;simp only[chB,lMc,List.count_append,List.count_cons,List.count_nil,lCa,List.drop_succ_cons,List.drop_zero];omega
 | succ i ih=>
  intro hi;obtain⟨a',e1,g1,g2,g3⟩:=ih (by omega);have hik:i<(a::kr).length:=by omega
  have hix:i<x.W.length:=by omega
  have hda:(a::kr).drop i=(a::kr)[i]::(a::kr).drop (i+1):=lDc hik;have hdx:x.W.drop i=x.W[i]::x.W.drop (i+1):=lDc hix;generalize hki:(a::kr)[i]=ki at hda;have hki':(a::kr)[i]?=some ki:=by rw[gEg hik,hki]
  have hc:=g2 ki (by rw[hda];exact .head _);have hgd:s.2.getD i 0=(ki:Int):=by
   rw[ap];simp only[List.getD,gMp,hki',oMs,Option.getD_some]
  have hxd:x.W.getD i w0=x.W[i]:=by simp[List.getD,gEg hix]
  have hdn:((a::kr).drop i).Nodup:=nd.sublist (List.drop_sublist ..);rw[hda,List.nodup_cons]at hdn;have hki_no:O ki=false:=no ki (lMo hki');refine⟨a',e1, ?_⟩;rw[chB,hgd,hxd];have hop:inO O ((a::kr).drop i) ki=true:=by rw[hda];simp[inO]
  --the words that it takes
  have key:∃P',(aW r::aW a'::(((a::kr).drop (i+1)).map aW++(x.W.drop i++((if i<n then [y.W.getD 0 w0]else [])++P)))).Perm ([x.W[i],nxW y s.2 i]++P')/\P'=aW r::aW a'::(((a::kr).drop (i+1+1)).map aW++(x.W.drop (i+1)++((if i+1<n then [y.W.getD 0 w0]else [])++P))):=by
   refine⟨_, ?_,rfl⟩;rw[hdx,iP (by omega)];by_cases q:i+1<n
   ·have hq:i+1<(a::kr).length:=by omega
    have hd2:(a::kr).drop (i+1)=(a::kr)[i+1]::(a::kr).drop (i+1+1):=lDc hq;have hnx:nxW y s.2 i=aW (a::kr)[i+1]:=by
     unfold nxW;rw[ap,gMp,gEg hq];rfl
    rw[iP q,hnx,hd2,List.perm_iff_count];intro b;simp only[lMc,List.count_append,List.count_cons,List.count_nil,lCa];omega
   ·have hd2:(a::kr).drop (i+1)=[]:=List.drop_eq_nil_of_le (by omega);have hd3:(a::kr).drop (i+1+1)=[]:=List.drop_eq_nil_of_le (by omega);have hnx:nxW y s.2 i=y.W.getD 0 w0:=by
     unfold nxW;rw[ap,gMp,gEn (by omega)];rfl
    rw[iN q,hnx,hd2,hd3,List.perm_iff_count];intro b;simp only[List.map_nil,List.count_append,List.count_cons,List.count_nil,lCa];omega
  obtain⟨P',p1,p2⟩:=key;obtain⟨q1,q2,q3⟩:=X6 (k:=ki) (c:=wM y) (MI.perm g1 p1) hc hop (appF hl);refine⟨?_,λk hk=>?_,by rw[q3,g3]⟩
  ·rw[hda,qG2 hdn.1 hki_no,p2]at q1;exact q1
  ·have hkk:k≠ki:=by rintro rfl;exact hdn.1 hk
   rw[j7 hc];simp only;rw[zd hkk];exact g2 k (by rw[hda];exact .tail _ hk)
theorem ql1(h:MM m (x.W++y.W++P) O)(hf:1+x.W.length<=nF m.C)(hyw:y.W.length=1)(hr:zw (JJ x y))(hl:zu 3 y.L=true):MM (chM m x y).1 (lws (chM m x y).2++P) O/\(chM m x y).1.C.length=m.C.length:=by
 rw[Z6 hyw]at h;unfold chM;by_cases hx:x.W=[]
 ·rw[iP hx];rw[hx]at h;obtain⟨r,r1,r2,r3⟩:=YO (c:=JJ x y) (P:=y.W.getD 0 w0::P) h (by omega) rfl hr;refine⟨?_,r2.len⟩;simp only[r2.fr,lws];exact MI.perm r3 (List.Perm.swap _ _ _)
 ·rw[iN hx];have hpos:0<x.W.length:=List.length_pos_iff.2 hx;have h':MM m (x.W++y.W.getD 0 w0::P) O:=by
   refine MI.perm h ?_;simp
  obtain⟨r,ks,e0,I⟩:=qAY (x:=x) (y:=y) h' hr x.W.length (by omega);obtain⟨a,e1,g1,g2,g3⟩:=qFA (x:=x) (P:=P) rfl hpos hl I x.W.length (nLr _);have hgd:(chA m x y x.W.length).2.getD 0 0=(a:Int):=by
   rw[I.ap];simp only[List.getD,gMp,e1,oMs,Option.getD_some]
  rw[hgd,e0];rw[List.drop_eq_nil_of_le (show ks.length<=x.W.length+1 by have:=I.len;omega),List.drop_eq_nil_of_le (show ks.length<=x.W.length by have:=I.len;omega),iN (by omega),List.drop_length,VF]at g1;have:=(MI.redex (a:=r) (b:=a) g1).2;exact⟨this,g3⟩
end
section
variable {m:qH} {a b:Int} {c d:qC} {ws u v:List qE} {i j k:Nat}
theorem qAT(h:a.toNat≠b.toNat):za (qr m a ws) b=za m b:=by
 unfold za qr;simp only;rw[gSn h]
theorem qlY(h:m.F.toNat≠b.toNat):za (qW m c) b=za m b:=by
 unfold za qW;simp only;rw[gSn h]
theorem YQ(h:m.F.toNat≠a.toNat):qW (qr m a ws) c=qr (qW m c) a ws:=by
 have e1:za (qr m a ws) m.F=za m m.F:=qAT (Ne.symm h);have e2:za (qW m c) a=za m a:=qlY h;have e3:(qr m a ws).F=m.F:=rfl
 conv=>lhs;rw[qW,e3,e1]
 conv=>rhs;rw[qr,e2]
 simp only[qr,qW];rw[List.set_comm _ _ (Ne.symm h)]
theorem qCO(h:a.toNat≠b.toNat):qr (qr m a u) b v=qr (qr m b v) a u:=by
 have e1:za (qr m a u) b=za m b:=qAT h;have e2:za (qr m b v) a=za m a:=qAT (Ne.symm h)
 conv=>lhs;rw[qr,e1]
 conv=>rhs;rw[qr,e2]
 simp only[qr];rw[List.set_comm _ _ h]
theorem qCP:qr (qr m a u) a v=qr m a v:=by
 by_cases h:a.toNat<m.C.length
 ·have e:za (qr m a u) a={za m a with W:=u}:=by
   unfold za qr;simp only;rw[gSs h];rfl
  conv=>lhs;rw[qr,e]
  simp only[qr,List.set_set]
 ·have e:∀(x:qC),m.C.set a.toNat x=m.C:=λx=>List.set_eq_of_length_le (by omega);simp only[qr,e]
theorem X4:(qr m a ws).F=m.F:=rfl
theorem qqR:(qr m a ws).C.length=m.C.length:=by simp[qr]
theorem qCQ(h:m.C[k]?=some c):(qr m (k:Int) ws).C[k]?=some {c with W:=ws}:=by
 rw[j7 h];exact jT h
theorem Zu(h:j≠k):(qr m (k:Int) ws).C[j]?=m.C[j]?:=by
 unfold qr;simp only[iTn];exact zd h
def two(m:qH)(ck dk:Nat)(us vs:List qE):qH:=qr (qr m (ck:Int) us) (dk:Int) vs
theorem W2{ck dk f:Nat}{us vs:List qE}(hf:m.F=(f:Int))(h1:f≠ck)(h2:f≠dk):qW (two m ck dk us vs) c=two (qW m c) ck dk us vs:=by
 unfold two;rw[YQ (by rw[X4,hf];simpa using h2),YQ (by rw[hf];simpa using h1)]
theorem qKR{ck dk f:Nat}{us vs:List qE}(h1:f≠ck)(h2:f≠dk):qr (two m ck dk us vs) (f:Int) ws=two (qr m (f:Int) ws) ck dk us vs:=by
 unfold two;rw[qCO (a:=(dk:Int)) (b:=(f:Int)) (by simpa using Ne.symm h2),qCO (a:=(ck:Int)) (b:=(f:Int)) (by simpa using Ne.symm h1)]
theorem qKN{ck dk:Nat}{us vs:List qE}(h:ck≠dk):qr (two m ck dk us vs) (ck:Int) ws=two m ck dk ws vs:=by
 unfold two;rw[qCO (a:=(dk:Int)) (b:=(ck:Int)) (by simpa using Ne.symm h),qCP]
theorem qKP{ck dk:Nat}{us vs:List qE}:qr (two m ck dk us vs) (dk:Int) ws=two m ck dk us ws:=by
 unfold two;rw[qCP]
theorem ZR{ck dk f:Nat}{us vs:List qE}(h1:f≠ck)(h2:f≠dk):(two m ck dk us vs).C[f]?=m.C[f]?:=by
 unfold two;rw[Zu h2,Zu h1]
theorem qKO{ck dk:Nat}{us vs:List qE}(h:ck≠dk)(hc:m.C[ck]?=some c):(two m ck dk us vs).C[ck]?=some {c with W:=us}:=by
 unfold two;rw[Zu h,qCQ hc]
theorem qKQ{ck dk:Nat}{us vs:List qE}(h:ck≠dk)(hd:m.C[dk]?=some d):(two m ck dk us vs).C[dk]?=some {d with W:=vs}:=by
 unfold two;exact qCQ (by rw[Zu (Ne.symm h)];exact hd)
end
def ovC(g:Nat->Option (List qE))(k:Nat)(c:qC):qC:=match g k with
 | some ws=>{c with W:=ws}
 | none=>c
def ovM(m:qH)(g:Nat->Option (List qE)):qH:={m with C:=m.C.mapIdx (ovC g)}
def ZS(g:Nat->Option (List qE))(k:Nat)(ws:List qE)(j:Nat):Option (List qE):=if j=k then some ws else g j
section
variable {m:qH} {g g':Nat->Option (List qE)} {c d:qC} {k f:Nat} {ws u:List qE}
theorem Jz:(ovM m g).C[k]?=(m.C[k]?).map (ovC g k):=by simp[ovM,List.getElem?_mapIdx]
theorem qqC:(ovC g k c).V=c.V:=by unfold ovC;split<;>rfl
theorem qCD(h:g k=none):ovC g k c=c:=by unfold ovC;rw[h]
theorem qCE(h:g k=some ws):ovC g k c={c with W:=ws}:=by unfold ovC;rw[h]
theorem qCG:(ovM m g).C.length=m.C.length:=by simp[ovM]
theorem qCH:ovM m (λ_=>none)=m:=by
 have:m.C.mapIdx (ovC λ_=>none)=m.C:=List.ext_getElem? λj=>by
  rw[List.getElem?_mapIdx];cases m.C[j]?<;>rfl
 unfold ovM;rw[this]
theorem Yp{a b:qH}(h:∀j:Nat,a.C[j]?=b.C[j]?)(h1:a.F=b.F)(h2:a.O=b.O)(h3:a.R=b.R):a=b:=by
 obtain⟨a1,a2,a3,a4⟩:=a;obtain⟨b1,b2,b3,b4⟩:=b;have:a1=b1:=List.ext_getElem? h;simp only at h1 h2 h3;rw[this,h1,h2,h3]
theorem qII(hf:m.F=(f:Int))(hg:g f=none):qW (ovM m g) c=ovM (qW m c) g:=by
 refine Yp (λj=>?_) ?_ rfl rfl
 ·have e:(qW m c).C=m.C.set f c:=by unfold qW;rw[hf];rfl
  have e2:(qW (ovM m g) c).C=(ovM m g).C.set f c:=by unfold qW;rw[show (ovM m g).F=(f:Int)from hf];rfl
  rw[Jz,e,e2];by_cases q:j=f
  ·subst q;by_cases l:j<m.C.length
   ·rw[gSs (by rw[qCG];exact l),gSs l,oMs,qCD hg]
   ·rw[gEn (by rw[lLs,qCG];omega),gEn (by rw[lLs];omega)];rfl
  ·rw[gSn (Ne.symm q),gSn (Ne.symm q),Jz]
 ·show (za (ovM m g) m.F).V=(za m m.F).V;unfold za;rw[Jz];cases m.C[m.F.toNat]? with
  | none=>rfl
  | some d=>exact qqC
theorem Wq(hc:m.C[k]?=some c):qr (ovM m g) (k:Int) ws=ovM m (ZS g k ws):=by
 have h1:(ovM m g).C[k]?=some (ovC g k c):=by rw[Jz,hc];rfl
 rw[j7 h1];refine Yp (λj=>?_) rfl rfl rfl;rw[Jz];by_cases q:j=k
 ·subst q;have e:({ovC g j c with W:=ws}:qC)={c with W:=ws}:=by unfold ovC;split<;>rfl
  simp only;rw[jT h1,hc,oMs,qCE (g:=ZS g j ws) (ws:=ws) (iP rfl),e]
 ·simp only;rw[zd q,Jz];have:ovC (ZS g k ws) j=ovC g j:=by funext c;unfold ovC;rw[show ZS g k ws j=g j from iN q]
  rw[this]
end
section
variable {R:Nat->Bool} {bk:List qD} {N:Ags} {a b:Nat} {x y:qB}
theorem YR(hb:jG bk=true){v:Int}(h0:0<=v)(h:v<bk.length):zM (qw bk v)=true:=by
 unfold jG at hb;simp only[bAt]at hb;have hv:v.toNat<bk.length:=by omega
 unfold qw;rw[gEg hv];exact lAt.1 hb.2 _ (gMm hv)
theorem qnX:∀{xs:Ags}{x:qB},x∈xs->x.L<=hiI xs:=by
 have key:∀(xs:Ags)(m:Int),m<=xs.foldl (λm x=>if x.L<m then m else x.L) m/\∀x∈xs,x.L<=xs.foldl (λm x=>if x.L<m then m else x.L) m:=by
  intro xs
  induction xs with
  | nil=>intro m;exact⟨Int.le_refl _,by simp⟩
  | cons y ys ih=>
   intro m;simp only[List.foldl_cons];have hm:m<=(if y.L<m then m else y.L)/\y.L<=(if y.L<m then m else y.L):=by split<;>omega
   obtain⟨h1,h2⟩:=ih (if y.L<m then m else y.L);refine⟨Int.le_trans hm.1 h1,λx hx=>?_⟩;rcases mCo.1 hx with rfl | q
   ·exact Int.le_trans hm.2 h1
   ·exact h2 x q
 intro xs x hx;exact(key xs 0).2 x hx
theorem qnW{xs:Ags}(h:∀x∈xs,0<=x.L/\x.L<=8):0<=hiI xs/\hiI xs<=8:=by
 have key:∀(xs:Ags)(m:Int),0<=m->m<=8->(∀x∈xs,0<=x.L/\x.L<=8)->0<=xs.foldl (λm x=>if x.L<m then m else x.L) m/\xs.foldl (λm x=>if x.L<m then m else x.L) m<=8:=by
  intro xs
  induction xs with
  | nil=>intro m h1 h2 _;exact⟨h1,h2⟩
  | cons y ys ih=>
   intro m h1 h2 h3;have:=h3 y (by simp);have hm:0<=(if y.L<m then m else y.L)/\(if y.L<m then m else y.L)<=8:=by split<;>omega
   exact ih _ hm.1 hm.2 λx hx=>h3 x (by simp[hx])
 exact key xs 0 (by omega) (by omega) h
theorem QF{x:qB}(h:qk x=true):0<=x.L/\x.L<=8:=by
 have:=Jy h;unfold zu at this;split at this
 ·rwa[Js]at this
 ·simp at this;omega
end
section
variable {R:Nat->Bool} {bk:List qD} {N:Ags} {a b:Nat} {x y:qB} {t:qD} {lev:Int}
theorem Zx(ht:zM t=true){z:qB}(hz:t.G[0]?=some z):z.P.length=1:=by
 obtain⟨q1,q2⟩:=gSi.1 hz;have k:=(qB9 ht 0 q1).2 rfl;rw[q2]at k;have:=(QG (Zp ht hz)).1;unfold fieldsOf jr at this;rw[k]at this;simp at this;omega
theorem YB(ht:zM t=true):∃c r,qR t.G (pt 0 0)=pt (c+1) r/\atP t.G 0 0=some (pt (c+1) r)/\atP t.G (c+1) r=some (pt 0 0)/\c+1<t.G.length:=by
 have h0:=ZH ht;have hz:t.G[0]?=some t.G[0]:=gEg h0;have hp:=Zx ht hz;obtain⟨c,r,e1,e2,e3,_,e5,e6⟩:=(Zo ht).live (a:=0) (s:=0) (wD.2 ⟨_,hz,by omega⟩) id;cases c with
 | zero=>
  have:=e3.in hz;obtain rfl:r=0:=by omega
  exact absurd ⟨rfl,rfl⟩ e6
 | succ c=>exact⟨c,r,e1,e2,e5,qj5 e5⟩
end
structure zV where
 A:qI
 B:qI
def zV.enc(x:zV):AV:=.agg [iI x.A.N,iI x.A.S,iI x.B.N,iI x.B.S]
theorem zV.isSh:Sh zV.enc 4 (some 4):=⟨λx=>by simp[zV.enc,AV.tree,AV.trees],λ_=>rfl,λ_=>rfl,by decide,λx=>by simp[zV.enc]⟩
section
variable {x:zV}
@[go_sem] theorem zV.tr:x.enc.tree=true:=zV.isSh.tree x
@[go_sem] theorem zV.ln:x.enc.cells.length=4:=nr rfl
@[go_sem] theorem zV.all:x.enc.part 0 (some 4)=some x.enc:=nr rfl
@[go_sem] theorem zV.q0:x.enc.part 0 (some 2)=some (qI.enc x.A):=nr rfl
@[go_sem] theorem zV.q2:x.enc.part 2 (some 2)=some (qI.enc x.B):=nr rfl
end
def bef(p q:qI):Bool:=decide (p.N<q.N) || (decide (p.N=q.N)&&decide (p.S<q.S))
def wrs(xs:List qB)(ps:List qI):List zV:=(ps.filter λp=>bef p (qR xs p)).map λp=>⟨p,qR xs p⟩
def zJ(xs:List qB):List zV:=wrs xs (zB xs xs.length)
theorem qK4{xs:List qB}{a b:List qI}:wrs xs (a++b)=wrs xs a++wrs xs b:=by simp[wrs]
theorem qDJ{xs:List qB}{a:List qI}:(wrs xs a).length<=a.length:=by rw[wrs,lMp];exact List.length_filter_le ..
theorem qK5{xs:List qB}{p:qI}:wrs xs [p]=if bef p (qR xs p)=true then [⟨p,qR xs p⟩]else []:=by
 unfold wrs;cases h:bef p (qR xs p)<;>simp[h]
theorem qB3{xs:List qB}{a s:Nat}(h:Has xs a s):∀{i:Nat},a<i->i<=xs.length->pt a s∈zB xs i
 | 0,h0,_=>by omega
 | i+1,h1,h2=>by
  rw[zB];by_cases e:a=i
  ·subst e;obtain⟨x,hx,hs⟩:=wD.1 h;refine List.mem_append_right _ ?_;have:jA xs (a:Int)=x.P.length:=by simp[jA,hx]
   rw[this];exact List.mem_map.2 ⟨s,lMr.2 hs,rfl⟩
  ·exact List.mem_append_left _ (qB3 h (by omega) (by omega))
theorem qsZ{n:qD}(ok:zM n=true):zJ n.G≠[]:=by
 obtain⟨c,r,e1,e2,e3,e4⟩:=YB ok;have hm:=qB3 (xs:=n.G) (a:=0) (s:=0) ⟨_,e2⟩ (i:=n.G.length) (by omega) (nLr _);have hb:bef (pt 0 0) (qR n.G (pt 0 0))=true:=by
  rw[e1];simp only[bef,pt,Bool.or_eq_true,dTe];exact .inl (by omega)
 have:(⟨pt 0 0,qR n.G (pt 0 0)⟩:zV)∈zJ n.G:=List.mem_map.2 ⟨pt 0 0,mFi.2 ⟨hm,hb⟩,rfl⟩;intro h;rw[h]at this;cases this
def agC(lev:Int)(x:qB):qC:=⟨x.K,if jQ x.K=true then x.L+lev else x.L,x.V,x.D,List.replicate (x.P.length-1) w0⟩
def tkA(lev:Int)(N:List qB)(m:qH):Nat->qH×List Int
 | 0=>(m,[])
 | i+1=>match N[i+1]? with
  | some x=>(qW (tkA lev N m i).1 (agC lev x),(tkA lev N m i).2++[(tkA lev N m i).1.F])
  | none=>tkA lev N m i
def tkV(m:qH):Nat->qH×List Int
 | 0=>(m,[])
 | i+1=>(qW (tkV m i).1 (qg []),(tkV m i).2++[(tkV m i).1.F])
def nI2(ks:List Nat):List Int:=ks.map λk:Nat=>(k:Int)
theorem Jt{k:Int}(h:qy k=true):k≠0:=by
 rintro rfl;cases h
section
variable {P:List qE} {O:Nat->Bool} {m m0:qH} {lev:Int} {N:List qB}
structure TkI(m0:qH)(N:List qB)(lev:Int)(P:List qE)(O:Nat->Bool)(ks:List Nat)(s:qH×List Int)(i:Nat):Prop where
 at':s.2=nI2 ks
 len:ks.length=i
 nd:ks.Nodup
 new:∀k∈ks,O k=false
 mm:MM s.1 (ks.map aW++P) (inO O ks)
 cell:∀(j k:Nat)(x:qB),ks[j]?=some k->N[j+1]?=some x->s.1.C[k]?=some (agC lev x)
 nf:nF m0.C=nF s.1.C+i
 cl:s.1.C.length=m0.C.length
 root:s.1.O=m0.O
 rx:s.1.R=m0.R
 keep:∀(k:Nat)(c:qC),m0.C[k]?=some c->c.K≠0->s.1.C[k]?=some c/\k∉ks
theorem UJ(h:MM m P O)(hk:∀(i:Nat)(x:qB),N[i+1]?=some x->qy x.K=true):∀i,i<=nF m.C->i+1<=N.length->∃ks,TkI m N lev P O ks (tkA lev N m i) i
 | 0,_,_=>⟨[],rfl,rfl,List.nodup_nil,λk q=>(by cases q),by rw[VF];exact h,λj k x q=>(by cases q),rfl,rfl,rfl,rfl,λk c q _=>⟨q,by simp⟩⟩
 | i+1,hf,hi=>by
  obtain⟨ks,a1,a2,a3,a4,a5,a6,a7,a8,a9,a10,a11⟩:=UJ h hk i (by omega) (by omega);have hx:=gEg (show i+1<N.length by omega);generalize N[i+1]=x at hx;have ag:=hk i x hx;have k0:(agC lev x).K≠0:=Jt ag;obtain⟨k,t1,t2,t3⟩:=Qn (c:=agC lev x) a5 (by omega) ag;have e:tkA lev N m (i+1)=(qW (tkA lev N m i).1 (agC lev x),(tkA lev N m i).2++[(tkA lev N m i).1.F]):=by
   rw[tkA,hx]
  have hkn:k∉ks:=λq=>by simp[inO,q]at t1
  have hko:O k=false:=Bool.eq_false_iff.2 λq=>by simp[inO,q]at t1
  rw[e];refine⟨ks++[k],by simp only[a1,t2.fr,nI2,lMa];rfl,by simp[a2], ?_,λj q=>?_, ?_,λj l y q1 q2=>?_, ?_, ?_, ?_, ?_,λl c q1 q2=>?_⟩
  ·rw[List.nodup_append];exact⟨a3,by simp,λa ha b hb=>by simp only[lMg]at hb;rintro rfl;rw[hb]at ha;exact hkn ha⟩
  ·rcases z9.1 q with q | q
   ·exact a4 j q
   ·rw[lMg.1 q];exact hko
  ·rw[<-qG3];refine MI.perm t3 ?_;rw[lMa,lMc,List.map_nil,lAa];exact(List.perm_middle (a:=aW k) (l₁:=ks.map aW) (l₂:=P)).symm
  ·by_cases q:j<ks.length
   ·rw[gAl q]at q1;exact(t2.keep (a6 j l y q1 q2) (Jt (hk j y q2))).1
   ·have:j=i:=by
     have:=qz q1;rw[lAp,List.length_singleton]at this;omega
    subst this;rw[gAr (by omega),a2,nSs]at q1;simp only[List.getElem?_cons_zero,oSi]at q1;subst q1;rw[hx]at q2;cases q2;exact t2.new
  ·have:=t2.nf k0;simp only;omega
  ·simp only;rw[t2.len,a8]
  ·simp only;rw[t2.root,a9]
  ·simp only;rw[t2.rx,a10]
  ·obtain⟨b1,b2⟩:=a11 l c q1 q2;obtain⟨b3,b4⟩:=t2.keep b1 q2;exact⟨b3,λq=>(z9.1 q).elim b2 λq=>b4 (lMg.1 q)⟩
structure TkV(m0:qH)(P:List qE)(O:Nat->Bool)(vs:List Nat)(s:qH×List Int)(i:Nat):Prop where
 at':s.2=nI2 vs
 len:vs.length=i
 nd:vs.Nodup
 mm:MM s.1 ((vs.flatMap λv=>[vW v,vW v])++P) O
 cell:∀v∈vs,s.1.C[v]?=some (qg [])
 nf:nF m0.C=nF s.1.C+i
 cl:s.1.C.length=m0.C.length
 root:s.1.O=m0.O
 rx:s.1.R=m0.R
 keep:∀(k:Nat)(c:qC),m0.C[k]?=some c->c.K≠0->s.1.C[k]?=some c/\k∉vs
theorem UL(h:MM m P O):∀i,i<=nF m.C->∃vs,TkV m P O vs (tkV m i) i
 | 0,_=>⟨[],rfl,rfl,List.nodup_nil,h,λv q=>(by cases q),rfl,rfl,rfl,rfl,λk c q _=>⟨q,by simp⟩⟩
 | i+1,hf=>by
  obtain⟨vs,a1,a2,a3,a5,a6,a7,a8,a9,a10,a11⟩:=UL h i (by omega);obtain⟨k,t1,t2,t3⟩:=YP a5 (by omega);have hkn:k∉vs:=λq=>(t2.keep (a6 k q) (by decide)).2 rfl;refine⟨vs++[k],by simp only[tkV,a1,t2.fr,nI2,lMa];rfl,by simp[a2], ?_, ?_,λv q=>?_, ?_, ?_, ?_, ?_,λl c q1 q2=>?_⟩
  ·rw[List.nodup_append];exact⟨a3,by simp,λa ha b hb=>by simp only[lMg]at hb;rintro rfl;rw[hb]at ha;exact hkn ha⟩
  ·refine MI.perm t3 ?_;rw[List.flatMap_append,List.perm_iff_count];intro a;simp only[List.flatMap_cons,List.flatMap_nil,lAn,List.count_append,List.count_cons,List.count_nil];omega
  ·rcases z9.1 q with q | q
   ·exact(t2.keep (a6 v q) (by decide)).1
   ·rw[lMg.1 q];exact t2.new
  ·have:=t2.nf (show (qg []).K≠0 by decide);simp only[tkV];omega
  ·simp only[tkV];rw[t2.len,a8]
  ·simp only[tkV];rw[t2.root,a9]
  ·simp only[tkV];rw[t2.rx,a10]
  ·obtain⟨b1,b2⟩:=a11 l c q1 q2;obtain⟨b3,b4⟩:=t2.keep b1 q2;exact⟨b3,λq=>(z9.1 q).elim b2 λq=>b4 (lMg.1 q)⟩
end
section
variable {N:Ags} {p q:qI} {a s i:Nat}
def qo(N:Ags):List qI:=zB N N.length
theorem qCM:∀{i:Nat},p∈zB N i->∃a s,p=pt a s/\a<i/\(i<=N.length->Has N a s)
 | 0,h=>by cases h
 | i+1,h=>by
  rw[zB]at h;rcases z9.1 h with h | h
  ·obtain⟨a,s,e1,e2,e3⟩:=qCM h;exact⟨a,s,e1,by omega,λhi=>e3 (by omega)⟩
  ·obtain⟨s,hs,rfl⟩:=List.mem_map.1 h;refine⟨i,s,rfl,by omega,λhi=>?_⟩;have hx:=gEg (show i<N.length by omega);generalize N[i]=x at hx;have:jA N (i:Int)=x.P.length:=by simp[jA,hx]
   rw[this]at hs;exact wD.2 ⟨x,hx,lMr.1 hs⟩
theorem JO:p∈qo N↔∃a s,p=pt a s/\Has N a s:=by
 constructor
 ·intro h;obtain⟨a,s,e1,e2,e3⟩:=qCM h;exact⟨a,s,e1,e3 (nLr _)⟩
 ·rintro⟨a,s,rfl,h⟩;obtain⟨x,hx,hs⟩:=wD.1 h;exact qB3 h (qz hx) (nLr _)
theorem Vw:∀{i:Nat},(zB N i).Nodup
 | 0=>List.nodup_nil
 | i+1=>by
  rw[zB,List.nodup_append];refine⟨Vw, ?_,λa ha b hb=>?_⟩
  ·unfold zf;rw[List.nodup_iff_pairwise_ne,List.pairwise_map];refine List.Pairwise.imp ?_ List.nodup_range;intro a b h e;simp only[qI.mk.injEq]at e;exact h (by omega)
  ·obtain⟨a',s',e1,e2,_⟩:=qCM ha;obtain⟨s,hs,rfl⟩:=List.mem_map.1 hb;rintro rfl;have:(⟨(i:Int),(s:Int)⟩:qI)=pt i s:=rfl;rw[this]at e1;have:=(ZK.1 e1).1;omega
structure Peer(N:Ags)(p:qI):Prop where
 m:qR N p∈qo N
 pp:qR N (qR N p)=p
 ne:qR N p≠p
theorem jq(hW:W N λ_ _=>False)(h:p∈qo N):Peer N p:=by
 obtain⟨a,s,rfl,hs⟩:=JO.1 h;obtain⟨c,k,e1,e2,e3,_,e5,e6⟩:=hW.live hs id;refine⟨JO.2 ⟨c,k,e1,e3⟩,by rw[e1];exact Ws e5, ?_⟩;rw[e1];exact λe=>e6 (ZK.1 e)
theorem qqN(hW:W N λ_ _=>False):((qo N).map (qR N)).Perm (qo N):=by
 refine(List.perm_ext_iff_of_nodup ?_ Vw).2 λq=>⟨λh=>?_,λh=>?_⟩
 ·rw[List.nodup_iff_pairwise_ne,List.pairwise_map];refine List.Pairwise.imp_of_mem ?_ (Vw (N:=N) (i:=N.length));intro a b ha hb hne e;have:=congrArg (qR N) e;rw[(jq hW ha).pp,(jq hW hb).pp]at this;exact hne this
 ·obtain⟨p,hp,rfl⟩:=List.mem_map.1 h;exact(jq hW hp).m
 ·exact List.mem_map.2 ⟨qR N q,(jq hW h).m,(jq hW h).pp⟩
theorem qIT{α:Type}(hW:W N λ_ _=>False)(g:qI->List α):((qo N).flatMap λp=>g (qR N p)).Perm ((qo N).flatMap g):=by
 have h:=(qqN hW).flatMap_right g;rw[List.flatMap_map]at h;exact h
theorem XO{p q:qI}(h:p≠q):bef q p= !bef p q:=by
 obtain⟨a,s⟩:=p;obtain⟨b,t⟩:=q;have h2:¬(a=b/\s=t):=λe=>h (by rw[e.1,e.2]);unfold bef;by_cases h1:a<b
 ·simp only[h1,decide_true,Bool.true_or,Bool.not_true,Bool.or_eq_false_iff,decide_eq_false_iff_not,Bool.and_eq_false_iff];exact⟨by omega,.inl (by omega)⟩
 ·by_cases h3:a=b
  ·subst h3;by_cases h4:s<t
   ·have:¬t<s:=by omega
    simp[h4,this]
   ·have:t<s:=by omega
    simp[h4,this]
  ·have:b<a:=by omega
   have h5:¬b=a:=λe=>h3 e.symm;simp[h1,this,h3]
theorem Xi{α β:Type}{f g:α->List β}:∀(l:List α),(l.flatMap f++l.flatMap g).Perm (l.flatMap λx=>f x++g x)
 |[]=>.refl _
 | x::l=>by
  simp only[List.flatMap_cons];refine List.Perm.trans ?_ (List.Perm.append_left (f x++g x) (Xi l));rw[lAa,lAa];refine List.Perm.append_left _ ?_;rw[<-lAa,<-lAa];exact List.Perm.append_right _ List.perm_append_comm
theorem qGV{α:Type}(hW:W N λ_ _=>False)(c:qI->Bool)(hc:∀p∈qo N,c (qR N p)=c p)(g:qI->List α):
  ((qo N).flatMap λp=>if c p=true then g p else []).Perm ((qo N).flatMap λp=>if c p=true/\bef p (qR N p)=true then g p++g (qR N p)else []):=by
 have h1:((qo N).flatMap λp=>if c p=true then g p else []).Perm (((qo N).flatMap λp=>if c p=true/\bef p (qR N p)=true then g p else [])++((qo N).flatMap λp=>if c p=true/\bef (qR N p) p=true then g p else [])):=by
  have e:∀p∈qo N,(if c p=true then g p else [])=(if c p=true/\bef p (qR N p)=true then g p else [])++(if c p=true/\bef (qR N p) p=true then g p else []):=λp hp=>by
   rw[XO (p:=p) (q:=qR N p) (jq hW hp).ne.symm];by_cases hc:c p=true
   ·cases hb:bef p (qR N p)<;>simp[hc]
   ·simp[hc]
  have e2:((qo N).flatMap λp=>if c p=true then g p else [])=(qo N).flatMap λp=>(if c p=true/\bef p (qR N p)=true then g p else [])++(if c p=true/\bef (qR N p) p=true then g p else []):=by
   rw[List.flatMap_def,List.flatMap_def,List.map_congr_left e]
  rw[e2];exact(Xi _).symm
 have h2:((qo N).flatMap λp=>if c p=true/\bef (qR N p) p=true then g p else []).Perm ((qo N).flatMap λp=>if c p=true/\bef p (qR N p)=true then g (qR N p)else []):=by
  have:=(qIT hW λp=>if c p=true/\bef (qR N p) p=true then g p else []).symm;refine this.trans ?_;have e:((qo N).flatMap λp=>if c (qR N p)=true/\bef (qR N (qR N p)) (qR N p)=true then g (qR N p)else [])=(qo N).flatMap λp=>if c p=true/\bef p (qR N p)=true then g (qR N p)else []:=by
   rw[List.flatMap_def,List.flatMap_def];congr 1;refine List.map_congr_left λp hp=>?_;rw[hc p hp,(jq hW hp).pp]
  rw[e]
 refine h1.trans ((List.Perm.append_left _ h2).trans ?_);have e:((qo N).flatMap λp=>if c p=true/\bef p (qR N p)=true then g p++g (qR N p)else [])=(qo N).flatMap λp=>(if c p=true/\bef p (qR N p)=true then g p else [])++(if c p=true/\bef p (qR N p)=true then g (qR N p)else []):=by
  rw[List.flatMap_def,List.flatMap_def];congr 1;refine List.map_congr_left λp hp=>?_;split<;>rfl
 rw[e];exact Xi _
end
def z8(w:zV):Bool:=decide (0<w.A.S)&&decide (0<w.B.S)
def qq(N:List qB):List zV:=(zJ N).filter z8
def atF(b:Nat)(ks:List Nat)(a:Nat):Nat:=(b::ks).getD a 0
structure TOk(N:List qB)(b:Nat)(ks vs:List Nat)(T:qI->qE):Prop where
 t1:∀p∈qo N,0<p.S->(qR N p).S=0->T p=aW (atF b ks (qR N p).N.toNat)
 t2:∀(i:Nat)(w:zV)(v:Nat),(qq N)[i]?=some w->vs[i]?=some v->T w.A=vW v/\T w.B=vW v
 vl:vs.length=(qq N).length
section
variable {N:List qB} {b:Nat} {ks vs:List Nat} {T:qI->qE}
theorem qIY(hp:∀(a:Nat)(x:qB),N[a]?=some x->0<x.P.length)(hl:ks.length+1=N.length):∀i,i<=N.length->((zB N i).flatMap λq=>if q.S=0 then [aW (atF b ks q.N.toNat)]else [])=((b::ks).take i).map aW
 | 0,_=>rfl
 | i+1,hi=>by
  have ih:=qIY hp hl i (by omega);have hx:=gEg (show i<N.length by omega);generalize N[i]=x at hx;have hx0:=hp i x hx;have hc:jA N (i:Int)=x.P.length:=by simp[jA,hx]
  rw[zB,List.flatMap_append,ih,hc];have hk:i<(b::ks).length:=by simp;omega
  rw[tA1,gEg hk,Option.toList_some,lMa];congr 1;have hs:∀n:Nat,((zf i (n+1)).flatMap λq=>if q.S=0 then [aW (atF b ks q.N.toNat)]else [])=[aW (b::ks)[i]]:=by
   intro n
   induction n with
   | zero=>
    have:atF b ks i=(b::ks)[i]:=by unfold atF;rw[lGd,gEg hk];rfl
    simp[zf,this]
   | succ n ih=>
    rw[YL,List.flatMap_append,ih];have:¬((n:Int)+1=0):=by omega
    simp[this]
  obtain⟨n,hn⟩:∃n,x.P.length=n+1:=⟨x.P.length-1,by omega⟩;rw[hn,hs];rfl
def W6(N:List qB)(b:Nat)(ks:List Nat)(T:qI->qE):List qE:=(qo N).flatMap λp=>if 0<p.S then [T p]else if (qR N p).S=0 then [aW (atF b ks (qR N p).N.toNat)]else []
theorem Wx{p:qI}(h:p∈qo N):0<=p.S:=by
 obtain⟨a,s,rfl,_⟩:=JO.1 h;simp only[pt];omega
theorem qn4{α:Type}(f:qI->qI->List α):((qo N).flatMap λp=>if (decide (0<p.S)&&decide (0<(qR N p).S))=true/\bef p (qR N p)=true then f p (qR N p)else [])=(qq N).flatMap λw=>f w.A w.B:=by
 unfold qq zJ wrs qo;generalize zB N N.length=l
 induction l with
 | nil=>rfl
 | cons p l ih=>
  rw[List.flatMap_cons,ih];by_cases hb:bef p (qR N p)=true
  ·by_cases hi:z8 ⟨p,qR N p⟩=true
   ·have hi':(decide (0<p.S)&&decide (0<(qR N p).S))=true:=hi;rw[iP ⟨hi',hb⟩,List.filter_cons_of_pos (p:=λp=>bef p (qR N p)) hb,lMc,List.filter_cons_of_pos hi,List.flatMap_cons]
   ·have hi':¬(decide (0<p.S)&&decide (0<(qR N p).S))=true:=hi;rw[iN (λq=>hi' q.1),List.filter_cons_of_pos (p:=λp=>bef p (qR N p)) hb,lMc,List.filter_cons_of_neg hi];rfl
  ·rw[iN (λq=>hb q.2),List.filter_cons_of_neg (p:=λp=>bef p (qR N p)) hb];rfl
theorem qGE{α β:Type}{f:α->List β}{g:Nat->List β}:∀{l:List α}{vs:List Nat},vs.length=l.length->(∀(i:Nat)(a:α)(v:Nat),l[i]?=some a->vs[i]?=some v->f a=g v)->l.flatMap f=vs.flatMap g
 |[],[],_,_=>rfl
 |[],v::vs,h,_=>by simp at h
 | a::l,[],h,_=>by simp at h
 | a::l,v::vs,h,hf=>by
  rw[List.flatMap_cons,List.flatMap_cons,hf 0 a v rfl rfl,qGE (by simpa using h) λi a v h1 h2=>hf (i+1) a v (by simpa using h1) (by simpa using h2)]
theorem qsU(hW:W N λ_ _=>False)(hp:∀(a:Nat)(x:qB),N[a]?=some x->0<x.P.length)(hl:ks.length+1=N.length)(t:TOk N b ks vs T):(W6 N b ks T).Perm ((b::ks).map aW++vs.flatMap λv=>[vW v,vW v]):=by
 let g:qI->List qE:=λq=>if q.S=0 then [aW (atF b ks q.N.toNat)]else if (qR N q).S=0 then []else [T (qR N q)];have h1:W6 N b ks T=(qo N).flatMap λp=>g (qR N p):=by
  unfold W6;rw[List.flatMap_def,List.flatMap_def];congr 1;refine List.map_congr_left λp hp=>?_;have P:=jq hW hp;have s0:=Wx hp;have s1:=Wx P.m;simp only[g,P.pp];by_cases a:0<p.S
  ·rw[iP a];by_cases c:(qR N p).S=0
   ·rw[iP c,t.t1 p hp a c]
   ·rw[iN c,iN (by omega)]
  ·rw[iN a];by_cases c:(qR N p).S=0
   ·rw[iP c,iP c]
   ·rw[iN c,iN c,iP (by omega)]
 rw[h1];refine(qIT hW g).trans ?_;let c:qI->Bool:=λp=>decide (0<p.S)&&decide (0<(qR N p).S);have h2:(qo N).flatMap g=(qo N).flatMap λq=>(if q.S=0 then [aW (atF b ks q.N.toNat)]else [])++(if c q=true then [T (qR N q)]else []):=by
  rw[List.flatMap_def,List.flatMap_def];congr 1;refine List.map_congr_left λp hp=>?_;have P:=jq hW hp;have s0:=Wx hp;have s1:=Wx P.m;simp only[g,c];by_cases a:p.S=0
  ·rw[iP a,iP a,iN (by simp[a])];rfl
  ·rw[iN a,iN a];by_cases d:(qR N p).S=0
   ·rw[iP d,iN (by simp[d])];rfl
   ·rw[iN d,iP (by simp;omega)];rfl
 rw[h2];refine(Xi _).symm.trans ?_;have h3:((qo N).flatMap λq=>if q.S=0 then [aW (atF b ks q.N.toNat)]else [])=(b::ks).map aW:=by
  have:=qIY (b:=b) hp hl N.length (nLr _);rw[tOl (by simp;omega)]at this;exact this
 rw[h3];refine List.Perm.append_left _ ?_;refine(qGV hW c (λp hp=>?_) λq=>[T (qR N q)]).trans ?_
 ·have P:=jq hW hp;simp only[c,P.pp];exact Bool.and_comm _ _
 ·have h4:((qo N).flatMap λp=>if c p=true/\bef p (qR N p)=true then [T (qR N p)]++[T (qR N (qR N p))]else [])=(qo N).flatMap λp=>if (decide (0<p.S)&&decide (0<(qR N p).S))=true/\bef p (qR N p)=true then(λp q=>[T q,T p]) p (qR N p)else []:=by
   rw[List.flatMap_def,List.flatMap_def];congr 1;refine List.map_congr_left λp hp=>?_;simp only[c,(jq hW hp).pp];rfl
  refine List.Perm.of_eq (h4.trans ((qn4 (N:=N) λp q=>[T q,T p]).trans ?_));exact qGE (g:=λv=>[vW v,vW v]) t.vl λi w v h1 h2=>by rw[(t.t2 i w v h1 h2).1,(t.t2 i w v h1 h2).2]
end
def gkw(ks:List Nat)(f:Nat->List qE)(k:Nat):Option (List qE):=if k∈ks then some (f (ks.idxOf k))else none
section
variable {m:qH} {ks:List Nat} {f f':Nat->List qE} {i k j n:Nat} {ws:List qE} {P:List qE} {O:Nat->Bool} {c:qC}
theorem qn2(nd:ks.Nodup)(h:ks[i]?=some k):ks.idxOf k=i:=by
 have hi:=qz h;rw[gEg hi]at h;cases h;have h1:=List.idxOf_lt_length_of_mem (gMm hi);have h2:ks[ks.idxOf ks[i]]=ks[i]:=List.getElem_idxOf h1;exact(List.getElem_inj nd).1 h2
theorem VC(nd:ks.Nodup)(h:ks[i]?=some k):gkw ks f k=some (f i):=by
 rw[gkw,iP (lMo h),qn2 nd h]
theorem Zf(h:k∉ks):gkw ks f k=none:=iN h
theorem qGP(nd:ks.Nodup)(h:ks[i]?=some k):ZS (gkw ks f) k ws=gkw ks (λj=>if j=i then ws else f j):=by
 funext q;unfold ZS;by_cases e:q=k
 ·subst e;rw[iP rfl,VC nd h,iP rfl]
 ·rw[iN e];unfold gkw;by_cases hm:q∈ks
  ·rw[iP hm,iP hm];refine congrArg some (iN λhi=>?_).symm;apply e;have h1:=List.idxOf_lt_length_of_mem hm;have h2:ks[ks.idxOf q]=q:=List.getElem_idxOf h1;rw[gSi]at h;obtain⟨h3,h4⟩:=h;rw[<-h2,<-h4];congr 1
  ·rw[iN hm,iN hm]
theorem qBN(hf:∀i,i<ks.length->f i=f' i):gkw ks f=gkw ks f':=by
 funext q;unfold gkw;by_cases hm:q∈ks
 ·rw[iP hm,iP hm,hf _ (List.idxOf_lt_length_of_mem hm)]
 ·rw[iN hm,iN hm]
theorem VD(nd:ks.Nodup)(h:ks[j]?=some k):gkw (ks.take (j+1)) f=ZS (gkw (ks.take j) f) k (f j):=by
 have hj:=qz h;have e:ks.take (j+1)=ks.take j++[k]:=by rw[tA1,h];rfl
 have nd1:(ks.take (j+1)).Nodup:=nd.sublist (List.take_sublist _ _);have hk:k∉ks.take j:=by
  rw[e,List.nodup_append]at nd1;exact λq=>nd1.2.2 k q k (by simp) rfl
 funext q;unfold ZS;by_cases e2:q=k
 ·subst e2;rw[iP rfl];exact VC nd1 (by rw[gTk,iP (by omega)];exact h)
 ·rw[iN e2];unfold gkw;by_cases hm:q∈ks.take j
  ·rw[iP (by rw[e];exact List.mem_append_left _ hm),iP hm,e,List.idxOf_append,iP hm]
  ·rw[iN (by rw[e];simp[hm,e2]),iN hm]
theorem qFO(nd:ks.Nodup)(no:∀k∈ks,O k=false)(hc:∀(i k:Nat),ks[i]?=some k->∃c,m.C[k]?=some c/\zw {c with W:=f i})(h:MM m ((List.range ks.length).flatMap f++P) (inO O ks)):
  ∀j,j<=ks.length->MM (ovM m (gkw (ks.take j) f)) ((List.range' j (ks.length-j)).flatMap f++P) (inO O (ks.drop j))/\nF (ovM m (gkw (ks.take j) f)).C=nF m.C
 | 0,_=>by
  have e:gkw (ks.take 0) f=λ_=>none:=by funext q;exact Zf (by simp)
  rw[e,qCH,List.drop_zero,Nat.sub_zero,<-List.range_eq_range'];exact⟨h,rfl⟩
 | j+1,hj=>by
  obtain⟨h1,h2⟩:=qFO nd no hc h j (by omega);have hk:=gEg (show j<ks.length by omega);generalize hkk:ks[j]=k at hk;obtain⟨c,c1,c2⟩:=hc j k hk;have hkn:k∉ks.take j:=by
   have nd1:(ks.take (j+1)).Nodup:=nd.sublist (List.take_sublist _ _);rw[tA1,hk,Option.toList_some,List.nodup_append]at nd1;exact λq=>nd1.2.2 k q k (by simp) rfl
  have hat:(ovM m (gkw (ks.take j) f)).C[k]?=some c:=by rw[Jz,c1,oMs,qCD (Zf hkn)]
  have ed:ks.drop j=k::ks.drop (j+1):=by rw[lDc (show j<ks.length by omega),hkk]
  rw[ed,show ks.length-j=(ks.length-(j+1))+1 by omega,List.range'_succ,List.flatMap_cons,lAa]at h1;obtain⟨p1,p2,p3⟩:=X6 (k:=k) (c:=c) h1 hat (by simp[inO]) c2;have nd2:(k::ks.drop (j+1)).Nodup:=by rw[<-ed];exact nd.sublist (List.drop_sublist _ _)
  rw[qG2 (List.nodup_cons.1 nd2).1 (no k (lMo hk)),Wq c1,<-VD nd hk]at p1;rw[Wq c1,<-VD nd hk]at p2;exact⟨p1,by rw[p2,h2]⟩
def wV(m:qH)(ps:List (Nat×Nat)):qH:=ps.foldl (λm p=>Jj m p.1 p.2) m
theorem qJB:∀(ps:List (Nat×Nat)){m:qH},MM m ((ps.flatMap λp=>[aW p.1,aW p.2])++P) O->MM (wV m ps) P O
 |[],m,h=>h
 | (a,b)::ps,m,h=>by
  rw[List.flatMap_cons]at h;exact qJB ps (m:=Jj m a b) (MI.redex h).2
end
def tW(N:List qB)(b:Nat)(ks vs:List Nat)(p:qI):qE:=
 if (qR N p).S=0 then aW (atF b ks (qR N p).N.toNat)
 else match ((qq N).zip vs).find? (λq=>decide (q.1.A=p) || decide (q.1.B=p))with
  | some q=>vW q.2
  | none=>w0
section
variable {N:List qB} {b:Nat} {ks vs:List Nat} {w:zV} {i j:Nat} {p:qI}
theorem WX:w∈qq N↔w.A∈qo N/\w.B=qR N w.A/\bef w.A w.B=true/\0<w.A.S/\0<w.B.S:=by
 unfold qq zJ wrs;simp only[mFi,List.mem_map,z8,bAt,dTe];constructor
 ·rintro⟨⟨p,⟨h1,h2⟩,rfl⟩,h3⟩;exact⟨h1,rfl,h2,h3⟩
 ·rintro⟨h1,h2,h3,h4⟩;obtain⟨A,B⟩:=w;simp only at h1 h2 h3 h4|-;subst h2;exact⟨⟨A,⟨h1,h3⟩,rfl⟩,h4⟩
theorem qn5:(qq N).Nodup:=by
 unfold qq zJ wrs;refine List.Nodup.sublist List.filter_sublist ?_;rw[List.nodup_iff_pairwise_ne,List.pairwise_map];refine List.Pairwise.imp ?_ (List.Nodup.sublist List.filter_sublist (Vw (N:=N) (i:=N.length)));intro a c h e;exact h (congrArg zV.A e)
theorem qn6(hW:W N λ_ _=>False){w w':zV}(h:w∈qq N)(h':w'∈qq N)(hp:p=w.A\/p=w.B)(hq:w'.A=p\/w'.B=p):w'=w:=by
 obtain⟨a1,a2,a3,a4,a5⟩:=WX.1 h;obtain⟨b1,b2,b3,b4,b5⟩:=WX.1 h';obtain⟨A,B⟩:=w;obtain⟨A',B'⟩:=w';simp only at*;have P:=jq hW a1;have P':=jq hW b1;subst a2 b2;have key:A'=A:=by
  rcases hp with rfl | rfl
  ·rcases hq with e | e
   ·exact e
   ·have e2:A'=qR N p:=by rw[<-e,P'.pp]
    rw[e2,P.pp,XO P.ne.symm,a3]at b3;cases b3
  ·rcases hq with e | e
   ·rw[e,P.pp,XO P.ne.symm,a3]at b3;cases b3
   ·have:=congrArg (qR N) e;rw[P'.pp,P.pp]at this;exact this
 rw[key]
theorem qDC(hW:W N λ_ _=>False)(hv:vs.length=(qq N).length):TOk N b ks vs (tW N b ks vs) where
 t1:=λp hp h1 h2=>by rw[tW,iP h2]
 t2:=λi w v h1 h2=>by
  have hm:=lMo h1;obtain⟨a1,a2,a3,a4,a5⟩:=WX.1 hm;have P:=jq hW a1;have key:∀p,(p=w.A\/p=w.B)->((qq N).zip vs).find? (λq=>decide (q.1.A=p) || decide (q.1.B=p))=some (w,v):=λp hp=>by
   have hz:((qq N).zip vs)[i]?=some (w,v):=List.getElem?_zip_eq_some.2 ⟨h1,h2⟩;have hmz:=lMo hz;cases hf:((qq N).zip vs).find? (λq=>decide (q.1.A=p) || decide (q.1.B=p))with
   | none=>
    have:=List.find?_eq_none.1 hf (w,v) hmz;rcases hp with rfl | rfl<;>simp at this
   | some q=>
    have h3:=List.find?_some hf;have h4:=List.mem_of_find?_eq_some hf;obtain⟨k,hk⟩:=List.getElem?_of_mem h4;obtain⟨k1,k2⟩:=List.getElem?_zip_eq_some.1 hk;simp only[Bool.or_eq_true,dTe]at h3;have e:=qn6 hW hm (lMo k1) hp h3;have hki:k=i:=by
     have l1:=qz k1;have l2:=qz h1;rw[gEg l1]at k1;rw[gEg l2]at h1;have:(qq N)[k]=(qq N)[i]:=by
      rw[Option.some.inj k1,Option.some.inj h1];exact e
     exact(List.getElem_inj qn5).1 this
    subst hki;rw[hz]at hk;rw[Option.some.inj hk]
  refine⟨?_, ?_⟩
  ·rw[tW,<-a2,iN (by omega),key _ (.inl rfl)]
  ·rw[tW,a2,P.pp,iN (by omega),<-a2,key _ (.inr rfl)]
 vl:=hv
def fW(N:List qB)(T:qI->qE)(i:Nat):List qE:=match N[i+1]? with
 | some x=>(List.range (x.P.length-1)).map λs=>T (pt (i+1) (s+1))
 | none=>[]
theorem qEF{T:qI->qE}(h0:∀x,N[0]?=some x->x.P.length=1):∀i,i<N.length->((zB N (i+1)).flatMap λp=>if 0<p.S then [T p]else [])=(List.range i).flatMap (fW N T)
 | 0,hi=>by
  have hx:=gEg hi;have h1:=h0 _ hx;have hc:jA N ((0:Nat):Int)=1:=by simp only[jA,iTn,hx];exact h1
  rw[zB,zB,hc];simp[zf]
 | i+1,hi=>by
  have ih:=qEF (T:=T) h0 i (by omega);have hx:=gEg hi;generalize N[i+1]=x at hx;have hc:jA N ((i+1:Nat):Int)=x.P.length:=by simp only[jA,iTn,hx]
  rw[zB,List.flatMap_append,ih,hc,List.range_succ,List.flatMap_append];congr 1;simp only[List.flatMap_cons,List.flatMap_nil,lAn,fW,hx];have:∀n:Nat,((zf (i+1) n).flatMap λp=>if 0<p.S then [T p]else [])=(List.range (n-1)).map λs=>T (pt (i+1) (s+1)):=by
   intro n
   induction n with
   | zero=>rfl
   | succ n ih=>
    rw[YL,List.flatMap_append,ih];cases n with
    | zero=>simp
    | succ n=>
     have:(0:Int)<(n:Int)+1:=by omega
     simp[this,List.range_succ,pt]
  exact this _
end
def ppC(N:List qB)(p:qI):Bool:=decide (p.S=0)&&decide ((qR N p).S=0)
def jV(N:List qB)(b:Nat)(ks:List Nat):List (Nat×Nat):=(zI N (N.length-1)).map λp=>(atF b ks p.A.toNat,atF b ks p.B.toNat)
def j6(N:List qB)(b:Nat)(ks:List Nat):List (Nat×Nat):=if (qR N (pt 0 0)).S=0 then [(b,atF b ks (qR N (pt 0 0)).N.toNat)]else []
section
variable {N:List qB} {b:Nat} {ks vs:List Nat} {T:qI->qE} {P:List qE} {O:Nat->Bool} {m:qH} {lev:Int}
theorem qCN{a:Nat}:∀n:Nat,(zf a (n+1)).filter (λp=>ppC N p&&bef p (qR N p))=if (ppC N (pt a 0)&&bef (pt a 0) (qR N (pt a 0)))=true then [pt a 0]else []
 | 0=>by
  have:zf a (0+1)=[pt a 0]:=rfl;rw[this,List.filter_cons];rfl
 | n+1=>by
  rw[YL,List.filter_append,qCN n];have:ppC N ⟨(a:Int),((n+1:Nat):Int)⟩=false:=by
   unfold ppC;simp only[Bool.and_eq_false_iff,decide_eq_false_iff_not];left;omega
  rw[List.filter_cons_of_neg (by rw[this];simp)];simp
theorem qIX(hr:∀(a:Nat)(x:qB),N[a]?=some x->0<x.P.length/\x.K≠0)(h00:0<(qR N (pt 0 0)).N):∀i,i<N.length->
  ((zB N (i+1)).filter λp=>ppC N p&&bef p (qR N p)).map (λp=>(atF b ks p.N.toNat,atF b ks (qR N p).N.toNat))=j6 N b ks++(zI N i).map λp=>(atF b ks p.A.toNat,atF b ks p.B.toNat)
 | 0,hi=>by
  have hx:=gEg hi;generalize N[0]=x at hx;obtain⟨n,hn⟩:∃n,x.P.length=n+1:=⟨x.P.length-1,by have:=(hr 0 x hx).1;omega⟩;have hc:jA N ((0:Nat):Int)=n+1:=by simp only[jA,iTn,hx];exact hn
  rw[zB,zB,hc,lNa,qCN,zI];unfold j6;have hb:bef (pt 0 0) (qR N (pt 0 0))=true:=by
   unfold bef;rw[Bool.or_eq_true];exact .inl (dEt h00)
  rw[hb,Bool.and_true];by_cases h:(qR N (pt 0 0)).S=0
  ·rw[iP h,iP (by simp only[ppC,h,decide_true,Bool.and_true];rfl)];simp[pt,atF]
  ·rw[iN h,iN (by simp[ppC,h])];rfl
 | i+1,hi=>by
  have ih:=qIX hr h00 i (by omega);have hx:=gEg hi;generalize N[i+1]=x at hx;obtain⟨h1,h2⟩:=hr (i+1) x hx;obtain⟨n,hn⟩:∃n,x.P.length=n+1:=⟨x.P.length-1,by omega⟩;have hc:jA N ((i+1:Nat):Int)=n+1:=by simp only[jA,iTn,hx];exact hn
  rw[zB,List.filter_append,lMa,ih,hc,qCN,zI,lMa,lAa];congr 1;congr 1;have hq:=gEg (show 0<x.P.length by omega);generalize x.P[0]=q at hq;have hpe:qR N (pt (i+1) 0)=q:=Ws (Qv.2 ⟨x,hx,hq⟩);simp only[Jb,hx,h2,if_false,hq,hpe,ppC,bef];by_cases hs:q.S=0
  ·by_cases hl:((i+1:Nat):Int)<q.N
   ·rw[iP,iP ⟨hs,hl⟩]
    ·rw[lMc,List.map_nil,hpe];rfl
    ·simp[hs,pt];omega
   ·rw[iN,iN (λa=>hl a.2)]
    ·rfl
    ·simp[hs,pt];omega
  ·rw[iN (by simp[hs]),iN (λa=>hs a.1)];rfl
theorem qsV(hW:W N λ_ _=>False)(hr:∀(a:Nat)(x:qB),N[a]?=some x->0<x.P.length/\x.K≠0)(h00:0<(qR N (pt 0 0)).N)(h1:∀x,N[0]?=some x->x.P.length=1)(hn:0<N.length):
  (W6 N b ks T).Perm ((List.range (N.length-1)).flatMap (fW N T)++((jV N b ks++j6 N b ks).flatMap λp=>[aW p.1,aW p.2])):=by
 have e1:W6 N b ks T=(qo N).flatMap λp=>(if 0<p.S then [T p]else [])++(if ppC N p=true then [aW (atF b ks (qR N p).N.toNat)]else []):=by
  unfold W6;rw[List.flatMap_def,List.flatMap_def];congr 1;refine List.map_congr_left λp hp=>?_;have s0:=Wx hp;by_cases a:0<p.S
  ·rw[iP a,iP a,iN]
   ·rfl
   ·unfold ppC;simp;omega
  ·rw[iN a,iN a,lNa];have:p.S=0:=by omega
   by_cases c:(qR N p).S=0
   ·rw[iP c,iP (by simp[ppC,this,c])]
   ·rw[iN c,iN (by simp[ppC,c])]
 rw[e1];refine(Xi _).symm.trans ?_;obtain⟨n,e⟩:∃n,N.length=n+1:=⟨N.length-1,by omega⟩;have e2:((qo N).flatMap λp=>if 0<p.S then [T p]else [])=(List.range (N.length-1)).flatMap (fW N T):=by
  unfold qo;rw[e];exact qEF h1 n (by omega)
 rw[e2];refine List.Perm.append_left _ ?_;refine(qGV hW (ppC N) (λp hp=>?_) _).trans ?_
 ·unfold ppC;rw[(jq hW hp).pp,Bool.and_comm]
 ·have e3:((qo N).flatMap λp=>if ppC N p=true/\bef p (qR N p)=true then [aW (atF b ks (qR N p).N.toNat)]++[aW (atF b ks (qR N (qR N p)).N.toNat)]else [])=(((qo N).filter λp=>ppC N p&&bef p (qR N p)).map λp=>(atF b ks p.N.toNat,atF b ks (qR N p).N.toNat)).flatMap λp=>[aW p.2,aW p.1]:=by
   have:∀l:List qI,(∀p∈l,p∈qo N)->(l.flatMap λp=>if ppC N p=true/\bef p (qR N p)=true then [aW (atF b ks (qR N p).N.toNat)]++[aW (atF b ks (qR N (qR N p)).N.toNat)]else [])=((l.filter λp=>ppC N p&&bef p (qR N p)).map λp=>(atF b ks p.N.toNat,atF b ks (qR N p).N.toNat)).flatMap λp=>[aW p.2,aW p.1]:=by
    intro l hl
    induction l with
    | nil=>rfl
    | cons p l ih=>
     rw[List.flatMap_cons,ih λq hq=>hl q (.tail _ hq),(jq hW (hl p (.head _))).pp];by_cases q:ppC N p=true/\bef p (qR N p)=true
     ·rw[iP q,List.filter_cons_of_pos (by simp[q.1,q.2]),lMc,List.flatMap_cons];rfl
     ·rw[iN q,List.filter_cons_of_neg (by simpa using q)];rfl
   exact this _ λp hp=>hp
  rw[e3];have e4:=qIX (b:=b) (ks:=ks) hr h00 n (by omega);unfold qo;rw[e,e4,show n=N.length-1 by omega];change ((j6 N b ks++jV N b ks).flatMap _).Perm _;refine((List.perm_append_comm (l₁:=j6 N b ks) (l₂:=jV N b ks)).flatMap_right _).trans ?_;generalize jV N b ks++j6 N b ks=l
  induction l with
  | nil=>exact .refl _
  | cons p l ih=>
   rw[List.flatMap_cons,List.flatMap_cons];exact List.Perm.append (List.Perm.swap _ _ _) ih
end
section
variable {b:Nat} {P:List qE} {O:Nat->Bool} {m:qH} {lev:Int} {t:qD}
structure WB(t:qD)(lev:Int)(m:qH)(b:Nat)(P:List qE)(O:Nat->Bool)(ks vs:List Nat):Prop where
 i:TkI m t.G lev (aW b::P) O ks (tkA lev t.G m (t.G.length-1)) (t.G.length-1)
 j:TkV (tkA lev t.G m (t.G.length-1)).1 (ks.map aW++aW b::P) (inO O ks) vs (tkV (tkA lev t.G m (t.G.length-1)).1 (qq t.G).length) (qq t.G).length
 mm:MM (wV (ovM (tkV (tkA lev t.G m (t.G.length-1)).1 (qq t.G).length).1 (gkw ks (fW t.G (tW t.G b ks vs)))) (jV t.G b ks++j6 t.G b ks)) P O
theorem qJA:∀(ps:List (Nat×Nat)){m:qH},(wV m ps).C=m.C/\(wV m ps).O=m.O
 |[],m=>⟨rfl,rfl⟩
 | p::ps,m=>qJA ps (m:=Jj m p.1 p.2)
theorem qnE(ok:zM t=true)(h:MM m (aW b::P) O)(hf:t.G.length-1+(qq t.G).length<=nF m.C)
  (hC:∀(i:Nat)(x:qB),t.G[i+1]?=some x->qy x.K=true/\∀ws:List qE,ws.length=x.P.length-1->zw {agC lev x with W:=ws}):∃ks vs,WB t lev m b P O ks vs:=by
 have hn:=ZH ok;have hW:=Zo ok;obtain⟨ks,I⟩:=UJ (lev:=lev) h (λi x hx=>(hC i x hx).1) (t.G.length-1) (by omega) (by omega);obtain⟨vs,J⟩:=UL I.mm (qq t.G).length (by have:=I.nf;omega);refine⟨ks,vs,I,J, ?_⟩;have hkl:=I.len;have hp:∀(a:Nat)(x:qB),t.G[a]?=some x->0<x.P.length/\x.K≠0:=λa x hx=>by
  have oa:=Zp ok hx;refine⟨(QG oa).2,λe=>?_⟩;have hl:=qz hx;rw[gEg hl]at hx;exact qHX ok a hl (by rw[Option.some.inj hx];exact e)
 have h1:∀x,t.G[0]?=some x->x.P.length=1:=λx hx=>Zx ok hx;have h00:0<(qR t.G (pt 0 0)).N:=by
  obtain⟨c,r,e1,_⟩:=YB ok;rw[e1];simp only[pt];omega
 have T:=qDC (b:=b) (ks:=ks) hW J.len;have u1:=qsU hW (λa x hx=>(hp a x hx).1) (by omega) T;have u2:=qsV (b:=b) (ks:=ks) (T:=tW t.G b ks vs) hW hp h00 h1 hn;have u3:=u2.symm.trans u1;have hmm:MM (tkV (tkA lev t.G m (t.G.length-1)).1 (qq t.G).length).1 ((List.range ks.length).flatMap (fW t.G (tW t.G b ks vs))++(((jV t.G b ks++j6 t.G b ks).flatMap λp=>[aW p.1,aW p.2])++P)) (inO O ks):=by
  refine MI.perm J.mm ?_;rw[hkl];refine List.Perm.trans ?_ (List.Perm.of_eq (lAa _ _ _));refine List.Perm.trans ?_ (List.Perm.append_right P u3.symm);rw[List.perm_iff_count];intro a;simp only[lMc,List.count_append,List.count_cons];omega
 have hcc:∀(i k:Nat),ks[i]?=some k->∃c,(tkV (tkA lev t.G m (t.G.length-1)).1 (qq t.G).length).1.C[k]?=some c/\zw {c with W:=fW t.G (tW t.G b ks vs) i}:=λi k hk=>by
  have hi:=qz hk;have hx:=gEg (show i+1<t.G.length by omega);generalize t.G[i+1]=x at hx;obtain⟨q1,q2⟩:=hC i x hx;have e:=I.cell i k x hk hx;refine⟨agC lev x,(J.keep k _ e (Jt q1)).1,q2 _ ?_⟩;unfold fW;rw[hx];simp
 obtain⟨c1,c2⟩:=qFO I.nd I.new hcc hmm ks.length (nLr _);rw[nSs,lTl,List.drop_length,VF]at c1;exact qJB _ c1
end
section
variable {w:Nat} {post:List AV} {base:Nat->Prop} {nid:Nat} {h:List qA} {N:Ags} {K:AV->List qA->Prop} {a b s c k:Nat} {x y:qB} {X:Nat->Nat->Prop}
end
section
variable {w:Nat} {post:List AV} {base:Nat->Prop} {nid:Nat} {h:List qA} {N:Ags} {K:AV->List qA->Prop} {a b s c k:Nat} {x y:qB} {X:Nat->Nat->Prop}
end
section
variable {w:Nat} {post:List AV} {base:Nat->Prop} {nid:Nat} {h:List qA} {N:Ags} {K:AV->List qA->Prop} {a b s c k:Nat} {x y:qB} {X:Nat->Nat->Prop} {t:qD}
theorem layP{ps:List qI}{c:Bool}{n:Nat}:(lay (.lst 2 (ps.map qI.enc) c) n).2=[.row 2 (ps.map qI.enc) true]:=by simp[lay,qI.flat]
theorem layD{ps:List Int}{c:Bool}{n:Nat}:(lay (.lst 1 (ps.map qQ) c) n).2=[.row 1 (ps.map qQ) true]:=by simp[lay,lI]
end
theorem WP{x:qB}(h:qk x=true):x.D.length<=4:=by
 have:=Zq h;unfold z6 at this;simp only[bAt,dTe,inI]at this
 repeat' split at this
 all_goals (simp only[bAt,dTe]at this;omega)
theorem qH6{x:qB}(h:qk x=true):x.sz<=8:=by
 have:=WP h;have:=JZ h;unfold qB.sz;omega
theorem V9{α:Type}{f:α->Nat}{k:Nat}:∀{xs:List α},(∀x∈xs,f x<=k)->qJ f xs<=k*xs.length
 |[],_=>nZl _
 | x::xs,h=>by
  have h1:=h x (by simp);have h2:=V9 (xs:=xs) λy hy=>h y (by simp[hy]);simp only[qJ,lCo,Nat.mul_add];omega
theorem ZI{n:qD}(h:zM n=true):n.sz<=5400/\n.G.length<=600:=by
 have h1:n.G.length<=600:=by
  have:=h;unfold zM wL at this;simp only[bAt,Js]at this;omega
 have h2:=V9 (f:=qB.sz) (k:=8) λx hx=>qH6 (J4 (Qg h) x hx);unfold qD.sz;omega
section
variable {w:Nat} {post:List AV} {base:Nat->Prop} {nid:Nat} {h:List qA} {N:Ags} {K:AV->List qA->Prop} {a b s c k:Nat} {x y:qB} {X:Nat->Nat->Prop} {bk:List qD} {R:Nat->Bool}
end
section
variable {w:Nat} {post:List AV} {base:Nat->Prop} {nid aid:Nat} {h:List qA} {N M:Ags} {K:AV->List qA->Prop} {a b s c k:Nat} {x y:qB} {R:Nat->Bool}
end
section
variable {w:Nat} {post:List AV} {base:Nat->Prop} {nid:Nat} {h:List qA} {N:Ags} {K:AV->List qA->Prop} {a s c k:Nat}
end
def lvA(by':Int)(x:qB):qB:=if jQ x.K then{x with L:=x.L+by'}else x
def wR(by':Int)(x:qB):Bool:= !jQ x.K || decide (x.L+by'<=8)
def JK(n:qD)(by':Int):qD×Bool:=if n.G.all (wR by')then(⟨n.G.map (lvA by')⟩,true)else(⟨[]⟩,false)
def QH(r:qD×Bool):AV:=.tup [r.1.enc,.bool r.2]
def JY(by':Int)(xs:Ags)(i:Nat):Ags:=(xs.take i).map (lvA by')++xs.drop i
theorem We:∀{N:Ags}{m k:Nat}{x:qB},N[k]?=some x->(qO (N.map qB.enc) m).1[k]?=some (.agg [.int .i64 x.K,.int .i64 x.L,.int .i64 x.V,sQ 1 (m+2*k) x.D.length,sQ 2 (m+2*k+1) x.P.length])
 | y::ys,m,0,x,h=>by
  cases h;simp only[lMc,qO,qB.layE,AV.rows,qrJ,nZa,List.getElem?_cons_zero,Nat.mul_zero,nAz]
 | y::ys,m,k+1,x,h=>by
  have:=We (N:=ys) (m:=m+2) (k:=k) (x:=x) h;simp only[lMc,qO,qB.layE,layP,layD,lCa,lNa,lCo,lNi,List.getElem?_cons_succ];rw[show m+2*(k+1)=m+2+2*k by omega];exact this
theorem qHC:∀{A B:Ags}{m:Nat},A.map (λx=>(x.D,x.P))=B.map (λx=>(x.D,x.P))->(qO (A.map qB.enc) m).2=(qO (B.map qB.enc) m).2
 |[],[],_,_=>rfl
 |[],_::_,_,h=>by simp at h
 | _::_,[],_,h=>by simp at h
 | x::A,y::B,m,h=>by
  simp only[lMc,List.cons.injEq,Prod.mk.injEq]at h;simp only[lMc,qO,qB.layE,layP,layD,h.1.1,h.1.2,lCa,lNa,lCo,lNi,qHC (A:=A) (B:=B) h.2]
theorem qoV{by':Int}{x:qB}:((lvA by' x).D,(lvA by' x).P)=(x.D,x.P):=by unfold lvA;split<;>rfl
theorem qpA{by':Int}{xs:Ags}{i:Nat}(h:i<xs.length):(JY by' xs i)[i]?=some xs[i]:=by
 unfold JY;rw[gAr (by simp;omega)];simp only[lMp,lLt,Nat.min_eq_left (Nat.le_of_lt h),nSs,gDr,nAz];exact gEg h
theorem qpB{by':Int}{xs:Ags}{i:Nat}(h:i<xs.length):(JY by' xs i).set i (lvA by' xs[i])=JY by' xs (i+1):=by
 unfold JY;rw[lSr _ _ (by simp;omega)];simp only[lMp,lLt,Nat.min_eq_left (Nat.le_of_lt h),nSs];rw[lDc h,lSz,lTs h,lMa];simp only[lMc,List.map_nil,lAa,lCa,lNa]
theorem qoO{N:Ags}{m k:Nat}{x y:qB}(hx:N[k]?=some x)(e1:y.D=x.D)(e2:y.P=x.P):
  (qO (N.map qB.enc) m).1.set k (.agg [.int .i64 y.K,.int .i64 y.L,.int .i64 y.V,sQ 1 (m+2*k) x.D.length,sQ 2 (m+2*k+1) x.P.length])=(qO ((N.set k y).map qB.enc) m).1:=by
 have hk:=qz hx;refine List.ext_getElem? λi=>?_;rcases Nat.lt_or_ge i N.length with q | q
 ·by_cases e:i=k
  ·subst e;rw[gSs (by rw[jk];simpa using hk),We (x:=y) (gSs hk),e1,e2]
  ·rw[gSn (Ne.symm e),We (gEg q),We (x:=N[i]) (by rw[gSn (Ne.symm e)];exact gEg q)]
 ·rw[gEn (by rw[lLs,jk];simpa using q),gEn (by rw[jk];simpa using q)]
theorem qIG(r:qD×Bool):(QH r).pl=true:=by unfold QH;simp[AV.pl,AV.pls,qD.plx]
theorem qr9{h:List qA}:ZW (some [.agg [.nils],.bool false]) h (QH (⟨[]⟩,false)):=by
 refine⟨[none],rfl,⟨.ph,trivial⟩, ?_⟩;have a:VR2 [none] (.agg [.nils]) (.agg [sQ 5 0 0]):=.agg rfl (VR2s.cons (.ph rfl) VR2s.nil).2;exact .tup rfl (VR2s.cons a (VR2s.cons (.tree rfl) VR2s.nil)).2
theorem qHT(n:qD)(b:Int)(hz:n.sz<=1048576)(hb:0<=b/\b<=8)(hl:∀x∈n.G,0<=x.L/\x.L<=8):Fresh Gm 1456 [n.enc,.int .i64 b] (QH (JK n b)):=by
 refine fI Kq (by simp[AV.trees,AV.tree,qD.tr]) (qIG _) ?_;simp only[Kq,qN,go_sem];refine qX rfl ?_;simp only[go_sem];refine jY (n798 n hz) ?_;simp only[lNa,lNi];have eL:(lay n.enc 0)=(.agg [sQ 5 0 n.G.length],.row 5 (qO (n.G.map qB.enc) 1).1 true::(qO (n.G.map qB.enc) 1).2):=by rw[qD.layE,lAn];rfl
 rw[eL];simp only[go_sem];unfold qD.sz at hz;refine Sem.loop (λi:Nat=>i<=n.G.length/\(n.G.take i).all (wR b)=true) (λi=>(⟨[(1,.int .i64 b),(13,.int .i64 (n.G.length:Nat)),(14,.int .i64 (i:Nat))],[(6,.agg [sQ 5 0 n.G.length]),(4,.agg [.nils])],.row 5 (qO ((JY b n.G i).map qB.enc) 1).1 true::(qO (n.G.map qB.enc) 1).2⟩:VSt)) (λi=>n.G.length-i) 0 (by kernel_rfl) ⟨nZl _,by simp⟩ (by rw[show JY b n.G 0=n.G by simp[JY]];exact csA) ?_;rintro i ⟨hi,hI⟩;simp only[go_sem];apply qT<;>intro hc<;>simp only[hc,go_sem]
 ·have hlt:i<n.G.length:=by have:=odT hc;omega
  clear hc;have hx:=qpA (by':=b) hlt;have hg:=We (m:=1) hx;have hlx:=hl _ (gMm hlt);have ms:=qpB (by':=b) hlt;have al:(n.G.take (i+1)).all (wR b)=((n.G.take i).all (wR b)&&wR b n.G[i]):=by rw[lTs hlt,List.all_append];simp only[lAc,List.all_nil,Bool.and_true]
  rw[hI,Bool.true_and]at al;have alf:wR b n.G[i]=false->n.G.all (wR b)=false:=λe=>by
   rw[<-Bool.not_eq_true,lAt];intro q;have:=q _ (gMm hlt);rw[e]at this;cases this
  generalize n.G[i]=x at hx hg hlx ms al alf;simp only[qn1 hlt,hg,go_sem];refine qL qAN ?_;simp only[go_sem];apply qT<;>intro hc<;>simp only[hc,go_sem]
  ·have hv:jQ x.K=false:=by simpa using hc
   have e1:lvA b x=x:=by unfold lvA;simp[hv]
   rw[e1]at ms;have e2:(JY b n.G i).set i x=JY b n.G i:=by
    refine List.ext_getElem? λj=>?_;by_cases e:j=i
    ·subst e;rw[gSs (qz hx),hx]
    ·rw[gSn (Ne.symm e)]
   rw[e2]at ms;rw[ms];simp only[wuA (n:=i)];refine qa (i+1) ⟨by omega, ?_⟩ (by omega) csA;rw[al];unfold wR;simp[hv]
  ·have hv:jQ x.K=true:=by simpa using hc
   clear hc;have e1:lvA b x={x with L:=x.L+b}:=by unfold lvA;simp[hv]
   have ew:IntKind.i64.wrap (x.L+b)=x.L+b:=wsA;simp only[hg,ew,go_sem];refine zX (e':=.agg [.int .i64 x.K,.int .i64 (x.L+b),.int .i64 x.V,sQ 1 (1+2*i) x.D.length,sQ 2 (1+2*i+1) x.P.length]) rfl (by rfl) hg rfl ?_;simp only[lSz];have es:=qoO (m:=1) (y:={x with L:=x.L+b}) hx rfl rfl;simp only at es;rw[es,<-e1,ms];have hx2:(JY b n.G (i+1))[i]?=some (lvA b x):=by rw[<-ms,gSs (qz hx)]
   have hg2:=We (m:=1) hx2;rw[e1]at hg2;simp only at hg2;simp only[hg2,go_sem];apply qT<;>intro hc<;>simp only[hc,go_sem]
   ·have eo:wR b x=false:=by unfold wR;have:=odT hc;simp[hv];omega
    have er:JK n b=(⟨[]⟩,false):=by unfold JK;rw[alf eo];rfl
    rw[er];exact qr9
   ·have eo:wR b x=true:=by unfold wR;have:=odF hc;simp[hv];omega
    simp only[wuA (n:=i)];refine qa (i+1) ⟨by omega, ?_⟩ (by omega) csA;rw[al,eo]
 ·have hlt:i=n.G.length:=by have:=odF hc;omega
  subst hlt;rw[lTl]at hI;have er:JK n b=(⟨n.G.map (lvA b)⟩,true):=by unfold JK;rw[hI];rfl
  have em:JY b n.G n.G.length=n.G.map (lvA b):=by simp[JY]
  rw[er,em];have e2:(qO (n.G.map qB.enc) 1).2=(qO ((n.G.map (lvA b)).map qB.enc) 1).2:=(qHC (by rw[List.map_map];exact List.map_congr_left λx _=>qoV)).symm;rw[e2];refine JG (pre:=[]) (post:=[]) (qIG _) ?_ ?_
  ·simp[zk,QH,lay,qO,qD.layE]
  ·simp[QH,lay,qO,qD.layE]
theorem qnY{m:Int}(h0:0<=m){xs:Ags}(h:∀x∈xs,x.L<=m):hiI xs<=m:=by
 have key:∀(xs:Ags)(k:Int),k<=m->(∀x∈xs,x.L<=m)->xs.foldl (λm x=>if x.L<m then m else x.L) k<=m:=by
  intro xs
  induction xs with
  | nil=>intro k h1 _;exact h1
  | cons y ys ih=>
   intro k h1 h2;have:=h2 y (by simp);exact ih _ (by simp only;split<;>omega) λx hx=>h2 x (by simp[hx])
 exact key xs 0 h0 h
theorem V7{t:qD}{lev:Int}(ht:zM t=true)(hl:0<=lev/\lev<=8):t.G.all (wR lev)=true↔¬8<IntKind.i64.wrap (hiI t.G+lev):=by
 have hb:=qnW (xs:=t.G) λx hx=>QF (J4 (Qg ht) x hx);rw[wsA,lAt];constructor
 ·intro h;have:=qnY (m:=8-lev) (by omega) (xs:=t.G) λx hx=>by
   have h1:=h x hx;unfold wR at h1;have h2:=Jy (J4 (Qg ht) x hx);unfold zu at h2;by_cases q:jQ x.K=true
   ·simp[q]at h1;omega
   ·rw[iN q]at h2;simp at h2;omega
  omega
 ·intro h x hx;have:=qnX hx;unfold wR;simp;right;omega
section
variable {w:Nat} {post:List AV} {bk:List qD} {bid:Nat} {es:List (AV×AV)} {base:Nat->Prop} {mid nid:Nat} {h:List qA} {N:Ags} {K:AV->List qA->Prop} {a b s c k:Nat} {x y:qB}
theorem Xk{v:Int}(h0:0<=v)(h1:v<bk.length):idx 1 (some (.lst 1 (bk.map qD.enc) false)) (some (.int .i64 v))=some (.ept (qw bk v).enc 0):=by
 have lv:v.toNat<bk.length:=by omega
 have e:v=((v.toNat:Nat):Int):=by omega
 unfold qw;generalize v.toNat=n at e lv;subst e;rw[qG1,gMp,gEg lv];rfl
def wT(bk:List qD)(x y:qB)(a b:Nat):AV:=if (Jg bk x y).2=0 then .tup [.int .i64 (zb x y),.int .i64 (a:Nat),.int .i64 (b:Nat),.int .i64 0]else .tup [.int .i64 0,.int .i64 0,.int .i64 0,.int .i64 (Jg bk x y).2]
theorem qnP(h:zb x y=8):(Jg bk x y).2=11:=by unfold Jg;rw[iP h]
theorem qnO(h:zb x y=7)(q:(bk.length:Int)<=x.V):(Jg bk x y).2=3:=by unfold Jg;rw[iN (by omega),iP ⟨h,q⟩]
theorem qnQ(h:zb x y=7)(q:¬(bk.length:Int)<=x.V)(r:8<IntKind.i64.wrap (hiI (qw bk x.V).G+x.L)):(Jg bk x y).2=9:=by unfold Jg;rw[iN (by omega),iN (by omega),iP ⟨h,r⟩]
theorem qGT(h8:zb x y≠8)(q:zb x y=7->¬(bk.length:Int)<=x.V/\¬8<IntKind.i64.wrap (hiI (qw bk x.V).G+x.L)):(Jg bk x y).2=0:=by
 unfold Jg;rw[iN h8,iN (λe=>(q e.1).1 e.2),iN (λe=>(q e.1).2 e.2)]
end
section
variable {m:qH} {lev b:Int} {t:qD} {x:qB}
theorem qp1{k l v:Int}{d:List Int}{p q:List qI}(h:p.length=q.length):qk ⟨k,l,v,d,p⟩=qk ⟨k,l,v,d,q⟩:=by
 simp only[qk,fieldsOf,z6,h]
theorem qjT(oa:qk x=true)(k1:x.K≠1)(hl:jQ x.K=true->inI (x.L+lev) 0 8=true):qy x.K=true/\∀ws:List qE,ws.length=x.P.length-1->zw {agC lev x with W:=ws}:=by
 have hk:qy x.K=true:=by
  have h1:zu x.K x.L=true:=by
   unfold qk at oa;simp only[bAt]at oa;exact oa.1.2
  have h2:JU x.K=true:=by
   unfold zu at h1;split at h1
   ·next q=>unfold jQ at q;unfold JU inI;simp at q|-;omega
   ·simp only[bAt]at h1;exact h1.1
  unfold JU inI at h2;simp only[qy,bAt,dTe]at h2|-;omega
 refine⟨hk,λws hw=>.inl ⟨hk, ?_⟩⟩;have s:=qH5 (base:=0) oa hl;have hp:=(QG oa).2;have e:qk (qZ {agC lev x with W:=ws})=qk (QK lev 0 x):=by
  unfold qZ agC QK;exact qp1 (by simp;omega)
 rw[e];exact s
theorem qDD(ok:zM t=true)(hl:0<=lev/\lev<=8)(h8:¬8<IntKind.i64.wrap (hiI t.G+lev))(i:Nat)(x:qB)(hx:t.G[i+1]?=some x):qy x.K=true/\∀ws:List qE,ws.length=x.P.length-1->zw {agC lev x with W:=ws}:=by
 have oa:=Zp ok hx;have hi:=qz hx;refine qjT oa (λe=>?_) λq=>?_
 ·have:=(qB9 ok (i+1) hi).1 (by
   rw[gEg hi]at hx;rw[Option.some.inj hx];exact e)
  omega
 ·have h1:=(V7 ok hl).2 h8;have h2:=lAt.1 h1 x (lMo hx);have h3:=Vn oa q;unfold wR at h2;simp only[inI,bAt,dTe]at h3|-;simp[q]at h2;omega
end
def dW(N:List qB)(T:qI->qE)(D:qI->Bool)(i:Nat):List qE:=match N[i+1]? with
 | some x=>(List.range (x.P.length-1)).map λs=>if D (pt (i+1) (s+1))=true then T (pt (i+1) (s+1))else w0
 | none=>[]
def jW(D:qI->Bool)(p:qI):qI->Bool:=λq=>decide (q=p) || D q
section
variable {N:List qB} {T:qI->qE} {D D':qI->Bool} {i j k s n:Nat} {x:qB} {m m0:qH} {ks vs:List Nat} {c:qC} {lev:Int} {P:List qE} {O:Nat->Bool} {f:Nat->List qE}
theorem Yx(hx:N[i+1]?=some x):dW N T D i=(List.range (x.P.length-1)).map λs=>if D (pt (i+1) (s+1))=true then T (pt (i+1) (s+1))else w0:=by unfold dW;rw[hx]
theorem qFV(hx:N[i+1]?=some x):(dW N T D i).length=x.P.length-1:=by rw[Yx hx];simp
theorem qmP(hx:N[i+1]?=some x)(hs:s+1<x.P.length):(dW N T D i).set s (T (pt (i+1) (s+1)))=dW N T (jW D (pt (i+1) (s+1))) i:=by
 rw[Yx hx,Yx hx];refine List.ext_getElem (by simp) λq h1 h2=>?_;rw[List.getElem_set];simp only[List.getElem_map,List.getElem_range,jW,Bool.or_eq_true,dTe];by_cases e:s=q
 ·subst e;simp
 ·have:pt (i+1) (q+1)≠pt (i+1) (s+1):=λz=>e (by have:=(ZK.1 z).2;omega);simp[e,this]
theorem qmO(h:j≠i):dW N T (jW D (pt (i+1) (s+1))) j=dW N T D j:=by
 unfold dW;cases N[j+1]? with
 | none=>rfl
 | some y=>
  refine List.map_congr_left λq _=>?_;have:pt (j+1) (q+1)≠pt (i+1) (s+1):=λz=>h (by have:=(ZK.1 z).1;omega);simp[jW,this]
theorem qA7(h:∀a s,Has N a s->0<a->0<s->D (pt a s)=D' (pt a s)):dW N T D=dW N T D':=by
 funext i;unfold dW;cases hx:N[i+1]? with
 | none=>rfl
 | some y=>
  refine List.map_congr_left λq hq=>?_;rw[lMr]at hq;rw[h (i+1) (q+1) (wD.2 ⟨y,hx,by omega⟩) (by omega) (by omega)]
theorem XZ{a:Nat}(h:a=0\/s=0):dW N T (jW D (pt a s))=dW N T D:=qA7 λa' s' _ h1 h2=>by
 have:pt a' s'≠pt a s:=λz=>by have:=ZK.1 z;omega
 simp[jW,this]
theorem qFW{a:Nat}{p:qI}(h:a=0\/s=0):dW N T (jW (jW D (pt a s)) p)=dW N T (jW D p):=qA7 λa' s' _ h1 h2=>by
 have:pt a' s'≠pt a s:=λz=>by have:=ZK.1 z;omega
 simp[jW,this]
theorem J5{b:Nat}{a ka:Nat}(h:ks[a]?=some ka):atF b ks (a+1)=ka:=by simp[atF,lGd,h]
theorem qI0(nd:ks.Nodup)(hk:ks[i]?=some k)(hc:m.C[k]?=some c)(hx:N[i+1]?=some x)(hs:s+1<x.P.length):
  qr (ovM m (gkw ks (dW N T D))) (k:Int) ((dW N T D i).set s (T (pt (i+1) (s+1))))=ovM m (gkw ks (dW N T (jW D (pt (i+1) (s+1))))):=by
 rw[Wq hc,qGP nd hk,qmP hx hs];congr 1;refine qBN λj _=>?_;split
 ·next e=>rw[e]
 ·next e=>rw[qmO e]
theorem qFU(h:∀a s,Has N a s->0<a->0<s->D (pt a s)=true):dW N T D=fW N T:=by
 rw[qA7 (D':=λ_=>true) h];funext i;unfold dW fW;cases N[i+1]? with
 | none=>rfl
 | some y=>simp
theorem qCF(nd:ks.Nodup)(hk:ks[i]?=some k)(hc:m.C[k]?=some c):(ovM m (gkw ks f)).C[k]?=some {c with W:=f i}:=by
 rw[Jz,hc,oMs,qCE (VC nd hk)]
theorem qIH(nd:ks.Nodup)(hl:ks.length+1<=N.length)(hc:∀(j k:Nat)(x:qB),ks[j]?=some k->N[j+1]?=some x->m.C[k]?=some (agC lev x)):ovM m (gkw ks (dW N T λ_=>false))=m:=by
 refine Yp (λq=>?_) rfl rfl rfl;rw[Jz];by_cases hm:q∈ks
 ·obtain⟨j,hj⟩:=List.getElem?_of_mem hm;have hx:=gEg (show j+1<N.length by have:=qz hj;omega);have e:=hc j q _ hj hx;rw[e,oMs,qCE (VC nd hj),Yx hx];simp[agC,List.map_const']
 ·cases m.C[q]? with
  | none=>rfl
  | some d=>rw[oMs,qCD (Zf hm)]
theorem UK:∀n,(tkV m n).2.length=n
 | 0=>rfl
 | n+1=>by rw[tkV,lAp,UK n];rfl
theorem qKH:∀n,i<n->((tkV m n).2)[i]?=some (tkV m i).1.F
 | n+1,h=>by
  rw[tkV];by_cases e:i=n
  ·subst e;rw[gAr (by rw[UK];omega),UK,nSs];rfl
  ·rw[gAl (by rw[UK];omega)];exact qKH n (by omega)
theorem qKJ(h:MM m P (inO O ks))(J:TkV m P (inO O ks) vs (tkV m n) n)(hn:n<=nF m.C)(hi:i<n):∃v,vs[i]?=some v/\(tkV m i).1.F=(v:Int)/\(∃d,(ovM (tkV m i).1 (gkw ks f)).C[v]?=some d)/\qW (ovM (tkV m i).1 (gkw ks f)) (qg [])=ovM (tkV m (i+1)).1 (gkw ks f):=by
 obtain⟨us,K⟩:=UL h i (by omega);obtain⟨v,d,a1,a2,a3,a4,a5⟩:=wW K.mm (by have:=K.nf;omega);have hv:=qKH (m:=m) n hi;rw[J.at',nI2,gMp,oMi]at hv;obtain⟨v',b1,b2⟩:=hv;rw[a1]at b2;have:v'=v:=by omega
 subst this;have hn:v'∉ks:=λq=>by simp[inO,q]at a4
 exact⟨v',b1,a1,⟨_,by rw[Jz,a2];rfl⟩,qII a1 (Zf hn)⟩
theorem qKI(h:MM m P (inO O ks))(hi:i<=nF m.C)(hc:m.C[k]?=some c)(h0:c.K≠0):(tkV m i).1.C[k]?=some c:=by
 obtain⟨us,K⟩:=UL h i hi;exact(K.keep k c hc h0).1
def onW(ws:List zV):qI->Bool:=λq=>ws.any λw=>decide (q=w.A) || decide (q=w.B)
theorem qH8:onW []=λ_=>false:=rfl
theorem qH9{ws:List zV}{w:zV}:onW (ws++[w])=jW (jW (onW ws) w.A) w.B:=by
 funext q;simp only[onW,jW,List.any_append,List.any_cons,List.any_nil,Bool.or_false];cases decide (q=w.A)<;>cases decide (q=w.B)<;>simp
theorem qDG{w:zV}:w∈zJ N↔w.A∈qo N/\w.B=qR N w.A/\bef w.A w.B=true:=by
 unfold zJ wrs;rw[List.mem_map];constructor
 ·rintro⟨p,h,rfl⟩;rw[mFi]at h;exact⟨h.1,rfl,h.2⟩
 ·rintro⟨h1,h2,h3⟩;refine⟨w.A,mFi.2 ⟨h1,by rw[<-h2];exact h3⟩, ?_⟩;rw[<-h2]
theorem qGF{α:Type}{p:α->Bool}:∀{l:List α}{j:Nat}{x:α},l[j]?=some x->p x=true->(l.filter p)[(l.take j).countP p]?=some x
 |[],j,x,h,_=>by simp at h
 | a::l,0,x,h,hp=>by
  simp only[List.getElem?_cons_zero,oSi]at h;subst h;rw[List.filter_cons_of_pos hp];rfl
 | a::l,j+1,x,h,hp=>by
  have ih:=qGF (l:=l) (j:=j) (by simpa using h) hp;rw[List.take_succ_cons,List.countP_cons];cases ha:p a
  ·rw[List.filter_cons_of_neg (by rw[ha];decide)];simpa using ih
  ·rw[List.filter_cons_of_pos ha];simpa using ih
theorem qIM{p:qF}:∀{i:Nat},p∈zI N i->1<=p.A/\p.A<p.B
 | 0,h=>by cases h
 | i+1,h=>by
  rcases z9.1 h with h | h
  ·exact qIM h
  ·unfold Jb at h;split at h
   ·split at h
    ·cases h
    ·split at h
     ·split at h
      ·next q=>simp only[lMg]at h;subst h;simp only;omega
      ·cases h
     ·cases h
   ·cases h
theorem qIK{n:qD}{p:qF}{i:Nat}(ok:zM n=true)(h:p∈zI n.G i):∃a c:Nat,p=⟨(a+1:Nat),(c+1:Nat)⟩/\a+1<n.G.length/\c+1<n.G.length:=by
 obtain⟨a,c,rfl,h1,h2⟩:=qIN ok h;have:=qIM h;simp only at this;exact⟨a-1,c-1,by rw[show a-1+1=a by omega,show c-1+1=c by omega],by omega,by omega⟩
theorem Vy{ps:List (Nat×Nat)}{a b:Nat}:wV m (ps++[(a,b)])=Jj (wV m ps) a b:=by simp[wV]
theorem X8:∀{ps:List (Nat×Nat)}{m:qH},(wV m ps).R.length=m.R.length+ps.length
 |[],m=>rfl
 | p::ps,m=>by
  show (wV (Jj m p.1 p.2) ps).R.length=_;rw[X8];simp[Jj];omega
theorem qH7(hW:W N λ_ _=>False){p:qI}(h:p∈qo N):onW (zJ N) p=true:=by
 have Q:=jq hW h;unfold onW;rw[List.any_eq_true];cases hb:bef p (qR N p)
 ·refine⟨⟨qR N p,p⟩,qDG.2 ⟨Q.m,Q.pp.symm, ?_⟩,by simp⟩;have:=XO Q.ne.symm;rw[hb]at this;simpa using this
 ·exact⟨⟨p,qR N p⟩,qDG.2 ⟨h,rfl,hb⟩,by simp⟩
end
section
variable {w:Nat} {post:List AV} {base:Nat->Prop} {nid:Nat} {h:List qA} {N:Ags} {K:AV->List qA->Prop} {a b s c k:Nat} {x y:qB} {X:Nat->Nat->Prop}
end
section
variable {N M A:Ags} {a b c d s k t u:Nat} {x y:qB} {lev v:Int} {X:Nat->Nat->Prop}
end
section
variable {w:Nat} {post:List AV} {base:Nat->Prop} {nid:Nat} {h:List qA} {N:Ags} {K:AV->List qA->Prop} {a b s c k:Nat} {x y:qB} {X:Nat->Nat->Prop}
end
section
variable {w:Nat} {post:List AV} {base:Nat->Prop} {nid:Nat} {h:List qA} {N:Ags} {K:AV->List qA->Prop} {a b s c k:Nat} {x y:qB} {X:Nat->Nat->Prop}
end
section
variable {w:Nat} {post:List AV} {base:Nat->Prop} {nid aid:Nat} {h:List qA} {N:Ags}
end
section
variable {w:Nat} {post:List AV} {base:Nat->Prop} {nid:Nat} {h:List qA} {N:Ags} {K:AV->List qA->Prop} {a b s c k:Nat} {x y:qB} {X:Nat->Nat->Prop} {t:qD}
theorem qr8{lev d:Int}{z:qB}:Qy (QK lev d z)=Qy (lvA lev z):=by unfold QK lvA;split<;>simp[Qy]
end
section
variable {w:Nat} {post:List AV} {bk:List qD} {bid:Nat} {es:List (AV×AV)} {base:Nat->Prop} {mid nid lid:Nat} {h:List qA} {N:Ags} {K:AV->List qA->Prop} {a b s c k:Nat} {x y:qB} {ks rem:List Nat}
end
section
variable {e:Env} {w i:Nat} {el:List AV} {v:AV} {x:Ao} {r:List (Nat×Ao)}
@[go_sem] theorem qt4{a b:AV}(h:v.cells.length=w):fil e w [a,b] 0 (some v) r=jD e w [v,b] r:=by
 show (if v.cells.length=w/\0<2 then _ else _)=_;rw[iP ⟨h,by omega⟩];rfl
@[go_sem] theorem qt5{a b:AV}(h:v.cells.length=w):fil e w [a,b] 1 (some v) r=jD e w [a,v] r:=by
 show (if v.cells.length=w/\1<2 then _ else _)=_;rw[iP ⟨h,by omega⟩];rfl
@[go_sem] theorem rep2{v:AV}:List.replicate 2 v=[v,v]:=nr rfl
end
section
variable {w:Nat} {post:List AV} {bk:List qD} {bid:Nat} {es:List (AV×AV)} {base:Nat->Prop} {mid nid lid A B:Nat} {h:List qA} {N:Ags} {K:AV->List qA->Prop} {a b s c k:Nat} {x y u v:qB} {ks rem:List Nat} {R:Nat->Bool}
end
section
variable {w:Nat} {post:List AV} {base:Nat->Prop} {nid lid:Nat} {h:List qA} {N:Ags} {K:AV->List qA->Prop} {R:Nat->Bool}
end
@[go_sem] theorem qtK{w:Nat}:(AV.map w).cells=[.map w]:=rfl
section
variable {w:Nat} {post:List AV} {bk:List qD} {bid:Nat} {base:Nat->Prop} {nid mid:Nat} {h:List qA} {N:Ags} {K:AV->List qA->Prop} {R:Nat->Bool} {ks:List Nat}
end
section
variable {r:Nat->Nat} {R:Nat->Bool} {N M:Ags} {a b c d s t k f n:Nat} {x y:qB} {lab lev v:Int} {X:Nat->Nat->Prop}
end
section
variable {r:Nat->Nat} {R:Nat->Bool} {N M:Ags} {a b c d s t k f n:Nat} {x y:qB} {lab lev v:Int} {X:Nat->Nat->Prop}
end
section
variable {r:Nat->Nat} {R:Nat->Bool} {bk:List qD} {N M:Ags} {a b c d s k f n:Nat} {x y:qB} {t:qD} {lev v:Int} {X:Nat->Nat->Prop}
end
section
variable {R D D':Nat->Bool} {bk:List qD} {N M:Ags} {a b c d s k f n:Nat} {x y:qB}
end
section
variable {R:Nat->Bool} {bk:List qD} {N A:Ags} {a b c d s k u:Nat} {x y:qB}
end
section
variable {R:Nat->Bool} {N:Ags} {bk:List qD} {sch:List Int} {k:Nat}
end
section
variable {R:Nat->Bool} {N:Ags} {bk:List qD} {sch:List Int} {k a b:Nat} {x y:qB}
end
section
variable {R:Nat->Bool} {bk:List qD} {N:Ags} {a b:Nat} {x y:qB}
end
section
variable {w:Nat} {post:List AV} {bk:List qD} {bid:Nat} {base:Nat->Prop} {nid mid bx rid oid n:Nat} {h:List qA} {N:Ags} {K:AV->List qA->Prop} {R:Nat->Bool} {ks:List Nat} {rest:List AV}
end
section
variable {α:Type} {p:α->Bool}
end
section
variable {oid n f:Nat} {h:List qA} {K:AV->List qA->Prop} {caps:List AV} {p:qF->Bool} {xs:List qF}
end
section
variable {Γ:Nat->Option AFn} {g:Nat} {vs:List AV} {h:List qA} {K:AV->List qA->Prop}
end
abbrev ZL:=List (Nat×List Int)
abbrev ids(rid:Nat)(Z:ZL):List Nat:=rid::Z.map (·.1)
section
variable {bk:List qD} {bid b rid nid mid:Nat} {ks:List Nat} {R:Nat->Bool} {N:Ags} {Z:ZL} {h h' h0:List qA} {K:AV->List qA->Prop}
end
section
variable {bk:List qD} {bid b rid nid mid:Nat} {ks:List Nat} {R:Nat->Bool} {N:Ags} {Z:ZL} {h h' h0:List qA} {K:AV->List qA->Prop}
def incF(c:List Int)(x:Int):List Int:=c.set (x-1).toNat (c.getD (x-1).toNat 0+1)
def cntF(T:List Int):List Int:=T.foldl incF (List.replicate 7 0)
end
section
variable {bk:List qD} {bid b rid nid mid:Nat} {ks:List Nat} {R:Nat->Bool} {N:Ags} {Z:ZL} {h h':List qA} {K:AV->List qA->Prop} {i id:Nat} {xs ys:List Int} {v:Int}
end
section
variable {bk:List qD} {bid b rid nid mid cid tid uid eid A B a c:Nat} {ks:List Nat} {R:Nat->Bool} {N:Ags} {Z:ZL} {h h':List qA} {K:AV->List qA->Prop} {T U E:List Int} {x y u v:qB}
end
structure qe where
 Id:Int
 Weight:Int
 State:Int
 Code:Int
 Left:Int
 Slices:Int
 U:List Int
 Q:List Int
 Y:List qD
 Net:qD
def qe.enc(x:qe):AV:=.agg [iI x.Id,iI x.Weight,iI x.State,iI x.Code,iI x.Left,iI x.Slices,lQ x.U,lQ x.Q,.lst 1 (x.Y.map qD.enc) false,.lst 5 (x.Net.G.map qB.enc) false]
theorem qe.isSh:Sh qe.enc 10 (some 10):=⟨λx=>by simp[qe.enc,AV.tree,AV.trees,qb qB.isSh.tree,qb qD.isSh.tree,qb shI.tree],λ_=>rfl,λ_=>rfl,by decide,λx=>by simp[qe.enc]⟩
section
variable {x:qe}
@[go_sem] theorem qe.tr:x.enc.tree=true:=qe.isSh.tree x
@[go_sem] theorem qe.ln:x.enc.cells.length=10:=nr rfl
@[go_sem] theorem qe.all:x.enc.part 0 (some 10)=some x.enc:=nr rfl
@[go_sem] theorem qe.cs:x.enc.cells=[iI x.Id,iI x.Weight,iI x.State,iI x.Code,iI x.Left,iI x.Slices,lQ x.U,lQ x.Q,.lst 1 (x.Y.map qD.enc) false,.lst 5 (x.Net.G.map qB.enc) false]:=nr rfl
@[go_sem] theorem qe.p0:x.enc.part 0 none=some (iI x.Id):=nr rfl
@[go_sem] theorem qe.p1:x.enc.part 1 none=some (iI x.Weight):=nr rfl
@[go_sem] theorem qe.p2:x.enc.part 2 none=some (iI x.State):=nr rfl
@[go_sem] theorem qe.p3:x.enc.part 3 none=some (iI x.Code):=nr rfl
@[go_sem] theorem qe.p4:x.enc.part 4 none=some (iI x.Left):=nr rfl
end
def qe.sz(x:qe):Nat:=x.U.length+x.Q.length+(x.Y.length+qJ qD.sz x.Y)+qD.sz x.Net
def qe.bd(x:qe):Prop:=x.U.length<=140737488355328/\x.Q.length<=140737488355328/\x.Y.length<=140737488355328/\(∀y∈x.Y,qD.bd y)/\qD.bd x.Net
structure zD where
 Quantum:Int
 NextId:Int
 Turn:Int
 Jobs:List qe
def zD.enc(x:zD):AV:=.agg [iI x.Quantum,iI x.NextId,iI x.Turn,.lst 10 (x.Jobs.map qe.enc) false]
theorem zD.isSh:Sh zD.enc 4 (some 4):=⟨λx=>by simp[zD.enc,AV.tree,AV.trees,qb qe.isSh.tree],λ_=>rfl,λ_=>rfl,by decide,λx=>by simp[zD.enc]⟩
section
variable {x:zD}
@[go_sem] theorem zD.tr:x.enc.tree=true:=zD.isSh.tree x
@[go_sem] theorem zD.ln:x.enc.cells.length=4:=nr rfl
@[go_sem] theorem zD.all:x.enc.part 0 (some 4)=some x.enc:=nr rfl
@[go_sem] theorem zD.cs:x.enc.cells=[iI x.Quantum,iI x.NextId,iI x.Turn,.lst 10 (x.Jobs.map qe.enc) false]:=nr rfl
@[go_sem] theorem zD.p0:x.enc.part 0 none=some (iI x.Quantum):=nr rfl
@[go_sem] theorem zD.p1:x.enc.part 1 none=some (iI x.NextId):=nr rfl
@[go_sem] theorem zD.p2:x.enc.part 2 none=some (iI x.Turn):=nr rfl
@[go_sem] theorem zD.p3:x.enc.part 3 none=some (.lst 10 (x.Jobs.map qe.enc) false):=nr rfl
end
def zD.sz(x:zD):Nat:=(x.Jobs.length+qJ qe.sz x.Jobs)
def zD.bd(x:zD):Prop:=x.Jobs.length<=140737488355328/\(∀y∈x.Jobs,qe.bd y)
theorem qe.plx(x:qe):x.enc.pl=true:=by simp[qe.enc,AV.pl,AV.pls,zN (enc:=qQ) (λ_=>rfl),zN qB.plx,zN qD.plx]
theorem qe.cnx(x:qe):x.enc.cn=true:=by simp[qe.enc,AV.cn,AV.cns,jg (enc:=qQ) (λ_=>rfl),jg qB.cnx,jg qD.cnx]
theorem qe.layE(x:qe)(n:Nat):lay x.enc n=(.agg [iI x.Id,iI x.Weight,iI x.State,iI x.Code,iI x.Left,iI x.Slices,sQ 1 (n) x.U.length,.slice 1 (n+AV.rows (lQ x.U)) 0 x.Q.length false,.slice 1 (n+AV.rows (lQ x.U)+AV.rows (lQ x.Q)) 0 x.Y.length false,.slice 5 (n+AV.rows (lQ x.U)+AV.rows (lQ x.Q)+AV.rows (.lst 1 (x.Y.map qD.enc) false)) 0 x.Net.G.length false],(lay (lQ x.U) (n)).2++((lay (lQ x.Q) (n+AV.rows (lQ x.U))).2++((lay (.lst 1 (x.Y.map qD.enc) false) (n+AV.rows (lQ x.U)+AV.rows (lQ x.Q))).2++((lay (.lst 5 (x.Net.G.map qB.enc) false) (n+AV.rows (lQ x.U)+AV.rows (lQ x.Q)+AV.rows (.lst 1 (x.Y.map qD.enc) false))).2++[])))):=by
 simp[qe.enc,lay,qO,zx,AV.rows,Nat.add_assoc,Nat.add_comm,Nat.add_left_comm]
theorem qe.rowsE(x:qe):x.enc.rows=AV.rows (lQ x.U)+AV.rows (lQ x.Q)+AV.rows (.lst 1 (x.Y.map qD.enc) false)+AV.rows (.lst 5 (x.Net.G.map qB.enc) false):=by simp[qe.enc,AV.rows,AV.rowss,Nat.add_assoc]
def qe.mrk(x:qe)(k:Int):qe:={Id:=k,Weight:=k+1,State:=k+1+1,Code:=k+1+1+1,Left:=k+1+1+1+1,Slices:=k+1+1+1+1+1,U:=mkL mkI ctI x.U (k+1+1+1+1+1+1),Q:=mkL mkI ctI x.Q (k+1+1+1+1+1+1+((qJ ctI x.U:Nat):Int)),Y:=mkL qD.mrk qD.ct x.Y (k+1+1+1+1+1+1+((qJ ctI x.U:Nat):Int)+((qJ ctI x.Q:Nat):Int)),Net:={G:=mkL qB.mrk qB.ct x.Net.G (k+1+1+1+1+1+1+((qJ ctI x.U:Nat):Int)+((qJ ctI x.Q:Nat):Int)+((qJ qD.ct x.Y:Nat):Int))}}
def qe.ct(x:qe):Nat:=1+1+1+1+1+1+qJ ctI x.U+qJ ctI x.Q+qJ qD.ct x.Y+qJ qB.ct x.Net.G
def qe.mkV(x:qe)(k:Int):qe:={Id:=x.Id,Weight:=x.Weight,State:=x.State,Code:=x.Code,Left:=x.Left,Slices:=x.Slices,U:=mkL mkI ctI x.U (k),Q:=mkL mkI ctI x.Q (k+((qJ ctI x.U:Nat):Int)),Y:=mkL qD.mrk qD.ct x.Y (k+((qJ ctI x.U:Nat):Int)+((qJ ctI x.Q:Nat):Int)),Net:={G:=mkL qB.mrk qB.ct x.Net.G (k+((qJ ctI x.U:Nat):Int)+((qJ ctI x.Q:Nat):Int)+((qJ qD.ct x.Y:Nat):Int))}}
def qe.ctV(x:qe):Nat:=qJ ctI x.U+qJ ctI x.Q+qJ qD.ct x.Y+qJ qB.ct x.Net.G
theorem qe.rowsM(x:qe)(k:Int):(x.mrk k).enc.rows=x.enc.rows:=by simp[qe.rowsE,qe.mrk,AV.rows,qv qB.mrk qB.ct (enc:=qB.enc) qB.rowsM,qv qD.mrk qD.ct (enc:=qD.enc) qD.rowsM,qv mkI ctI (enc:=qQ) (λ_ _=>rfl)]
theorem qe.rowsV(x:qe)(k:Int):(x.mkV k).enc.rows=x.enc.rows:=by simp[qe.rowsE,qe.mkV,AV.rows,qv qB.mrk qB.ct (enc:=qB.enc) qB.rowsM,qv qD.mrk qD.ct (enc:=qD.enc) qD.rowsM,qv mkI ctI (enc:=qQ) (λ_ _=>rfl)]
theorem qe.ctle(x:qe):x.ct<=16+16*x.sz:=by
 have h0:=jb (c:=ctI) (λ_=>by simp[ctI]) x.U;have h1:=jb (c:=ctI) (λ_=>by simp[ctI]) x.Q;have h2:=j9 (c:=qD.ct) (z:=qD.sz) qD.ctle x.Y;have h3:=j9 (c:=qB.ct) (z:=qB.sz) qB.ctle x.Net.G;simp only[qe.ct,qe.sz,qD.sz];omega
theorem qe.ctVle(x:qe):x.ctV<=16*x.sz:=by
 have h0:=jb (c:=ctI) (λ_=>by simp[ctI]) x.U;have h1:=jb (c:=ctI) (λ_=>by simp[ctI]) x.Q;have h2:=j9 (c:=qD.ct) (z:=qD.sz) qD.ctle x.Y;have h3:=j9 (c:=qB.ct) (z:=qB.sz) qB.ctle x.Net.G;simp only[qe.ctV,qe.sz,qD.sz];omega
theorem zD.plx(x:zD):x.enc.pl=true:=by simp[zD.enc,AV.pl,AV.pls,zN qe.plx]
theorem zD.cnx(x:zD):x.enc.cn=true:=by simp[zD.enc,AV.cn,AV.cns,jg qe.cnx]
theorem zD.layE(x:zD)(n:Nat):lay x.enc n=(.agg [iI x.Quantum,iI x.NextId,iI x.Turn,sQ 10 (n) x.Jobs.length],(lay (.lst 10 (x.Jobs.map qe.enc) false) (n)).2++[]):=by
 simp[zD.enc,lay,qO,zx,AV.rows,Nat.add_assoc,Nat.add_comm,Nat.add_left_comm]
theorem zD.rowsE(x:zD):x.enc.rows=AV.rows (.lst 10 (x.Jobs.map qe.enc) false):=by simp[zD.enc,AV.rows,AV.rowss,Nat.add_assoc]
def zD.mrk(x:zD)(k:Int):zD:={Quantum:=k,NextId:=k+1,Turn:=k+1+1,Jobs:=mkL qe.mrk qe.ct x.Jobs (k+1+1+1)}
def zD.ct(x:zD):Nat:=1+1+1+qJ qe.ct x.Jobs
def zD.mkV(x:zD)(k:Int):zD:={Quantum:=x.Quantum,NextId:=x.NextId,Turn:=x.Turn,Jobs:=mkL qe.mrk qe.ct x.Jobs (k)}
def zD.ctV(x:zD):Nat:=qJ qe.ct x.Jobs
theorem zD.rowsM(x:zD)(k:Int):(x.mrk k).enc.rows=x.enc.rows:=by simp[zD.rowsE,zD.mrk,AV.rows,qv qe.mrk qe.ct (enc:=qe.enc) qe.rowsM]
theorem zD.rowsV(x:zD)(k:Int):(x.mkV k).enc.rows=x.enc.rows:=by simp[zD.rowsE,zD.mkV,AV.rows,qv qe.mrk qe.ct (enc:=qe.enc) qe.rowsM]
theorem zD.ctle(x:zD):x.ct<=16+16*x.sz:=by
 have h0:=j9 (c:=qe.ct) (z:=qe.sz) qe.ctle x.Jobs;simp only[zD.ct,zD.sz];omega
theorem zD.ctVle(x:zD):x.ctV<=16*x.sz:=by
 have h0:=j9 (c:=qe.ct) (z:=qe.sz) qe.ctle x.Jobs;simp only[zD.ctV,zD.sz];omega
section
variable {S Sb Sn Sc Ss:List (Option Nat)} {h h':List qA} {v vc vs vb vn:AV} {j:qe} {cj sj bj aj:Nat}
end
section
variable {h:List qA} {K:AV->List qA->Prop} {jid k:Nat} {vs:List AV} {i0 i1 i2 i3 i4 i5 st cd:Int} {vc vq vb vn u:AV}
end
section
variable {h:List qA} {K:AV->List qA->Prop} {jid k most:Nat} {vs:List AV} {v:AV} {j:qe} {S:List (Option Nat)}
end
section
variable {S:List (Option Nat)} {h h':List qA} {v t:AV} {vs ts:List AV}
end
section
variable {Z:List (Option Nat)->Prop} {qid jid:Nat} {vs:List AV} {SS:List (List (Option Nat))} {q:zD} {h:List qA} {K:AV->List qA->Prop}
end
section
variable {Z:List (Option Nat)->Prop} {qid jid:Nat} {vs:List AV} {SS:List (List (Option Nat))} {q:zD} {h:List qA} {K:AV->List qA->Prop}
end
section
variable {Z:List (Option Nat)->Prop} {qid jid:Nat} {vs:List AV} {SS:List (List (Option Nat))} {q:zD} {h:List qA}
end
section
variable {h:List qA} {K:AV->List qA->Prop} {jid k:Nat} {vs:List AV} {i0 i1 i2 i3 i4 i5 st cd:Int} {vc vq vb vn u:AV}
theorem c978{a b:Int}:Pure Gm 978 [iI a,iI b] (iI (if a<b then a else b)):=by
 refine pJ F978 ?_;simp only[F978,qN,go_sem]
 repeat' (first | (refine qX rfl ?_;simp only[go_sem]) | (first | (apply zH<;>intro hc<;>simp only[hc,go_sem]) | (apply qT<;>intro hc<;>simp only[hc,go_sem])) | refine qM rfl ?_ | refine zj (by rfl) ?_)
 all_goals (simp_all<;>omega)
end
section
variable {h:List qA} {K:AV->List qA->Prop} {jid k:Nat} {vs:List AV} {i0 i1 i2 i3 i4 i5:Int} {vc vq vb:AV} {J:qe}
end
theorem ql2{u v:qB}(hu:qk u=true)(hv:qk v=true)(h:zt u.K u.L v.K v.L=2):zb u v=zb v u:=by
 rw[qFL hu hv h];unfold zb;rw[iN (by rintro⟨a,b,_⟩;have:=(qH1 hu hv a b).2;omega)]
section
variable {w:Nat} {post post':List AV} {P P':Nat->Prop} {nid aid rid:Nat} {ps:List Nat} {h h':List qA} {N:Ags} {T:List Int} {R:Nat->Bool} {bk:List qD} {a b A B:Nat} {x y u v:qB} {K:AV->List qA->Prop}
end
section
variable {P:Nat->Prop} {rid sid most:Nat} {h:List qA} {N:Ags} {T sch:List Int} {R:Nat->Bool} {bk:List qD} {K:AV->List qA->Prop} {RES:Ags×List Int×Bool×Int}
end
section
variable {S:List Nat} {h h':List qA} {v:AV} {j:qe}
theorem Cv.ints{x:Int}:Cv h (iI x) (iI x):=.refl rfl
end
section
variable {qid jid:Nat} {vs:List AV} {SS:List (List Nat)} {q:zD} {h:List qA}
end
set_option maxHeartbeats 4000000
section
variable {S T:Nat->Prop} {h h' h1 h2 h3:List qA} {i j id:Nat} {o:qA}
theorem ends{h:List qA}{o:qA}:(h++[o])[h.length]?=some o:=by simp
def Up(S:Nat->Prop)(h h':List qA):Prop:=h.length<=h'.length/\∀(j:Nat)(o:qA),h[j]?=some o->¬S j->h'[j]?=some o
theorem jN{o:List qA}{o':qA}(q:h[j]?=some o'):(h++o)[j]?=some o':=by rw[gAl (qz q)];exact q
theorem Up.refl:Up S h h:=⟨nLr _,λ_ _ q _=>q⟩
theorem Up.trans(x:Up S h h1)(y:Up T h1 h2)(hs:∀j,j<h.length->T j->S j):Up S h h2:=⟨nLt x.1 y.1,λj o q n=>y.2 j o (x.2 j o q n) λt=>n (hs j (qz q) t)⟩
theorem Up.app(o:List qA):Up S h (h++o):=⟨by simp,λj o' q _=>jN q⟩
theorem Up.set:Up (λj=>j=id) h (h.set id o):=⟨by simp,λj o' q n=>by rw[gSn (Ne.symm n)];exact q⟩
theorem Up.at(x:Up S h h1)(q:h[j]?=some o)(n:¬S j):h1[j]?=some o:=x.2 j o q n
theorem Up.w(x:Up S h h1)(q:∀j,j<h.length->S j->T j):Up T h h1:=⟨x.1,λj o e n=>x.2 j o e λs=>n (q j (qz e) s)⟩
theorem qHW{a b:qA}(x:h[id]?=some a)(y:h[j]?=some b)(n:a≠b):id≠j:=λe=>by subst e;rw[x]at y;cases y;exact n rfl
end
def LsW(P:Nat->Prop)(w:Nat)(h:List qA)(v:AV)(el:List AV):Prop:=(v=.nils/\el=[])\/∃id,P id/\v=sQ w id el.length/\h[id]?=some (.row w el true)
section
variable {P Q':Nat->Prop} {w:Nat} {h h1:List qA} {v:AV} {el:List AV}
theorem LsW.len(x:LsW P w h v el):Qd (some v)=some (iI (el.length:Nat)):=by
 rcases x with⟨rfl,rfl⟩ | ⟨id,_,rfl,_⟩<;>rfl
theorem LsW.keep(x:LsW P w h v el)(k:∀j,P j->h[j]?=some (.row w el true)->h1[j]?=some (.row w el true)):LsW P w h1 v el:=by
 rcases x with x | ⟨id,q1,q2,q3⟩
 ·exact .inl x
 ·exact .inr ⟨id,q1,q2,k _ q1 q3⟩
theorem LsW.app(x:LsW P w h v el)(o:List qA):LsW P w (h++o) v el:=x.keep λj _ q=>jN q
theorem LsW.cv(x:LsW P w h v el)(ht:AV.trees el=true)(hw:0<w):Cv h v (.lst w el false):=by
 rcases x with⟨rfl,rfl⟩ | ⟨id,q1,rfl,q3⟩
 ·exact .nils
 ·exact Cv.row (c:=false) q3 rfl ht hw
theorem Jd{E:Ev}{l:List qG}{ks:List Fr1}{s m:qt}{Q:qn->VSt->Prop}{k id2:Nat}{c2:Bool}{x:AV}(ho:LsW P w h v el)(h2:h[id2]?=some (.row w [x] true))(hl:el.length<4000000000)
  (hr:∀h3,Up (λj=>P j/\v=sQ w j el.length) h h3->h3[h.length]?=some (.row w (el++[x]) true)->h3.length=h.length+1->R E (.ops l::ks) ⟨(k,sQ w h.length (el.length+1))::s,m,h3⟩ Q):JM E w (some k) (some v) (some (.slice w id2 0 1 c2)) l ks ⟨s,m,h⟩ Q:=by
 rcases ho with⟨rfl,rfl⟩ | ⟨id,q1,rfl,q3⟩
 ·exact qED (ys:=[x]) (Els.row h2 rfl) (by simp) (hr _ (Up.app _) (by simp) (by simp))
 ·exact ZY h2 q3 rfl (by omega) (hr _ ((Up.set (id:=id)).trans (Up.app _ (S:=λj=>j=id)) (λ_ _ q=>q) |>.w λj _ e=>⟨by rw[e];exact q1,by rw[e]⟩) (by rw[gAr (by simp)];simp) (by simp))
end
theorem qkR(xs:List qE)(hx:xs.length<=140737488355328)(left:Nat)(hl:left<=1048576):Pure Gm 1242 [.lst 2 (xs.map qE.enc) false,iI left] (iI (jp xs.length left)):=
 UG (gk _ qDX) qE.isSh.tree xs left hl hx
theorem c922(x:qC)(hb:x.bd)(left:Nat)(hl:left<=1048576):Pure Gm 922 [x.enc,iI left] (iI (jp x.sz left)):=by
 refine pI F922 (by simp[AV.trees,AV.tree,qC.tr]) rfl ?_;simp only[F922,qN,go_sem];refine qX rfl ?_;simp only[go_sem];unfold qC.bd at hb;refine qL (c338 _ hb.1 _ (by omega)) ?_;simp only[go_sem];apply qT<;>intro hc<;>simp only[hc,go_sem]
 ·have hq:=odT hc;rw[wE]at hq;exact qM rfl (by rw[JV (by unfold qC.sz;omega)])
 have hq:=odF hc;rw[wE]at hq;rw[wF (by omega)];clear hc;refine qL (qkR _ hb.2 _ (by omega)) ?_;simp only[go_sem];apply qT<;>intro hc<;>simp only[hc,go_sem]
 ·have hq:=odT hc;rw[wE]at hq;exact qM rfl (by rw[JV (by unfold qC.sz;omega)])
 have hq:=odF hc;rw[wE]at hq;rw[wF (by omega)];clear hc;exact qM rfl (by rw[wF (by unfold qC.sz;omega)];unfold qC.sz;first | rfl | (congr 2;omega))
theorem c542(xs:List qC)(hx:xs.length<=140737488355328/\(∀y∈xs,qC.bd y))(left:Nat)(hl:left<=1048576):Pure Gm 542 [.lst 5 (xs.map qC.enc) false,iI left] (iI (jp (xs.length+qJ qC.sz xs) left)):=
 qDB qC.isSh (gk _ F542) qC.sz xs (λx hm lf hlf=>c922 x (hx.2 x hm) lf hlf) left hl hx.1
theorem c543(xs:List qF)(hx:xs.length<=140737488355328)(left:Nat)(hl:left<=1048576):Pure Gm 543 [.lst 2 (xs.map qF.enc) false,iI left] (iI (jp xs.length left)):=
 UG (gk _ F543) qF.isSh.tree xs left hl hx
theorem c209(x:qH)(hb:x.bd)(left:Nat)(hl:left<=1048576):Pure Gm 209 [x.enc,iI left] (iI (jp x.sz left)):=by
 refine pI kA (by simp[AV.trees,AV.tree,qH.tr]) rfl ?_;simp only[kA,qN,go_sem];refine qX rfl ?_;simp only[go_sem];unfold qH.bd at hb;refine qL (c542 _ ⟨hb.1,hb.2.1⟩ _ (by omega)) ?_;simp only[go_sem];apply qT<;>intro hc<;>simp only[hc,go_sem]
 ·have hq:=odT hc;rw[wE]at hq;exact qM rfl (by rw[JV (by unfold qH.sz;omega)])
 have hq:=odF hc;rw[wE]at hq;rw[wF (by omega)];clear hc;refine qL (c543 _ hb.2.2 _ (by omega)) ?_;simp only[go_sem];apply qT<;>intro hc<;>simp only[hc,go_sem]
 ·have hq:=odT hc;rw[wE]at hq;exact qM rfl (by rw[JV (by unfold qH.sz;omega)])
 have hq:=odF hc;rw[wE]at hq;rw[wF (by omega)];clear hc;exact qM rfl (by rw[wF (by unfold qH.sz;omega)];unfold qH.sz;first | rfl | (congr 2;omega))
theorem c547(x:qE):Pure Gm 547 [x.enc] x.enc:=by
 refine pI XE (by simp[AV.trees,AV.tree,qE.tr]) qE.tr ?_;simp only[XE,qN,go_sem];refine qX rfl ?_;simp only[go_sem];refine lsA ?_;simp only[go_sem];exact qM qE.tr rfl
theorem qkS(xs:List qE)(hl:xs.length<=1048576):Pure Gm 1243 [.lst 2 (xs.map qE.enc) false] (.lst 2 (xs.map qE.enc) false):=
 W1 qE.isSh rfl rfl (by simp) (gk _ Us) xs (λx hm=>c547 x) (by omega)
theorem c925(x:qC)(hz:x.sz<=1048576):Pure Gm 925 [x.enc] x.enc:=by
 refine pI XH (by simp[AV.trees,AV.tree,qC.tr]) qC.tr ?_;simp only[XH,qN,go_sem];refine qX rfl ?_;simp only[go_sem];unfold qC.sz at hz;refine qL (c147 _ (by omega)) ?_;simp only[go_sem];refine qL (qkS _ (by omega)) ?_;simp only[go_sem];refine lsA ?_;simp only[go_sem];exact qM qC.tr rfl
theorem c546(xs:List qC)(hl:xs.length+qJ qC.sz xs<=1048576):Pure Gm 546 [.lst 5 (xs.map qC.enc) false] (.lst 5 (xs.map qC.enc) false):=
 W1 qC.isSh rfl rfl (by simp) (gk _ kS) xs (λx hm=>c925 x (by have:=z5 (f:=qC.sz) hm;omega)) (by omega)
theorem c926(x:qF):Pure Gm 926 [x.enc] x.enc:=by
 refine pI XI (by simp[AV.trees,AV.tree,qF.tr]) qF.tr ?_;simp only[XI,qN,go_sem];refine qX rfl ?_;simp only[go_sem];refine lsA ?_;simp only[go_sem];exact qM qF.tr rfl
theorem c548(xs:List qF)(hl:xs.length<=1048576):Pure Gm 548 [.lst 2 (xs.map qF.enc) false] (.lst 2 (xs.map qF.enc) false):=
 W1 qF.isSh rfl rfl (by simp) (gk _ kT) xs (λx hm=>c926 x) (by omega)
theorem c211(x:qH)(hz:x.sz<=1048576):Pure Gm 211 [x.enc] x.enc:=by
 refine pI XD (by simp[AV.trees,AV.tree,qH.tr]) qH.tr ?_;simp only[XD,qN,go_sem];refine qX rfl ?_;simp only[go_sem];unfold qH.sz at hz;refine qL (c546 x.C (by omega)) ?_;simp only[go_sem];refine qL (c547 x.O) ?_;simp only[go_sem];refine Wg (c':=.agg [.lst 5 (x.C.map qC.enc) false,iI x.F,iI x.O.T,iI x.O.I,.nils]) rfl rfl ?_;simp only[go_sem];refine qL (c548 x.R (by omega)) ?_;simp only[go_sem];refine lsA ?_;simp only[go_sem];exact qM qH.tr rfl
theorem c550(x:qE):Pure Gm 550 [x.enc,x.enc] (.bool true):=by
 refine pI kU (by simp[AV.trees,AV.tree,qE.tr]) rfl ?_;simp only[kU,qN,go_sem];refine qX rfl ?_;simp only[go_sem];refine qX rfl ?_;simp only[go_sem];exact qM rfl rfl
theorem qkT(xs:List qE)(hl:xs.length<=2097152):Pure Gm 1244 [.lst 2 (xs.map qE.enc) false,.lst 2 (xs.map qE.enc) false] (.bool true):=
 WS qE.isSh (gk _ qDY) xs (λx hm=>c550 x) (by omega)
theorem c927(x:qC)(hz:x.sz<=2097152):Pure Gm 927 [x.enc,x.enc] (.bool true):=by
 refine pI F927 (by simp[AV.trees,AV.tree,qC.tr]) rfl ?_;simp only[F927,qN,go_sem];refine qX rfl ?_;simp only[go_sem];refine qX rfl ?_;simp only[go_sem];unfold qC.sz at hz;refine qL (c86 _ (by omega)) ?_;simp only[go_sem];refine qL (qkT _ (by omega)) ?_;simp only[go_sem];exact qM rfl rfl
theorem c549(xs:List qC)(hl:xs.length+qJ qC.sz xs<=2097152):Pure Gm 549 [.lst 5 (xs.map qC.enc) false,.lst 5 (xs.map qC.enc) false] (.bool true):=
 WS qC.isSh (gk _ F549) xs (λx hm=>c927 x (by have:=z5 (f:=qC.sz) hm;omega)) (by omega)
theorem c928(x:qF):Pure Gm 928 [x.enc,x.enc] (.bool true):=by
 refine pI F928 (by simp[AV.trees,AV.tree,qF.tr]) rfl ?_;simp only[F928,qN,go_sem];refine qX rfl ?_;simp only[go_sem];refine qX rfl ?_;simp only[go_sem];exact qM rfl rfl
theorem c551(xs:List qF)(hl:xs.length<=2097152):Pure Gm 551 [.lst 2 (xs.map qF.enc) false,.lst 2 (xs.map qF.enc) false] (.bool true):=
 WS qF.isSh (gk _ F551) xs (λx hm=>c928 x) (by omega)
theorem Ym(x:qH)(hz:x.sz<=2097152):Pure Gm 213 [x.enc,x.enc] (.bool true):=by
 refine pI kC (by simp[AV.trees,AV.tree,qH.tr]) rfl ?_;simp only[kC,qN,go_sem];refine qX rfl ?_;simp only[go_sem];refine qX rfl ?_;simp only[go_sem];unfold qH.sz at hz;refine qL (c549 _ (by omega)) ?_;simp only[go_sem];refine qL (c550 _) ?_;simp only[go_sem];refine qL (c551 _ (by omega)) ?_;simp only[go_sem];exact qM rfl rfl
theorem XS{c:qC}:Pure Gm 950 [.ept c.enc 0] (.bool (qy c.K)):=by
 refine pJ F950 ?_;simp only[F950,qN,go_sem];refine qL wO ?_;simp only[go_sem];exact qM rfl rfl
theorem qrC{α:Type}{a:α}{n:Nat}:List.replicate n a++[a]=List.replicate (n+1) a:=by
 rw[List.replicate_succ',]
theorem qAL{c:qC}(hl:c.W.length<=1048576):Pure Gm 1277 [.ept c.enc 0] (qZ c).enc:=by
 refine pI Uw (by simp[AV.trees,AV.tree,go_sem]) qB.tr ?_;simp only[Uw,qN,go_sem];refine lsA ?_;simp only[go_sem];refine Sem.loop (λa:Nat×AV×List qA=>a.1<=c.W.length/\LsW (λ_=>True) 2 a.2.2 a.2.1 ((List.replicate (a.1+1) (⟨0,0⟩:qI)).map qI.enc))
  (λa=>(⟨[(0,.ept c.enc 0),(4,iI (a.1:Nat))],[(3,.agg [iI c.K,iI c.L,iI c.V,lQ c.D,a.2.1]),(2,.agg [iI 0,iI 0,iI 0,.nils,.nils])],a.2.2⟩:VSt)) (λa=>c.W.length-a.1)
  (0,sQ 2 0 1,_) (by kernel_rfl) ⟨nZl _,.inr ⟨0,trivial,rfl,rfl⟩⟩ csA ?_
 rintro⟨i,v,hh⟩ ⟨hi,I⟩;simp only at hi I;simp only[go_sem];by_cases hlt:i<c.W.length
 ·have e:decide ((i:Int)<(c.W.length:Nat))=true:=dEt (by omega);simp only[e,go_sem];refine Jd (I.app _) ends (by simp;omega) λh3 u3 v3 l3=>?_;simp only[go_sem,wuA (n:=i)];have ex:(List.replicate (i+1) (⟨0,0⟩:qI)).map qI.enc++[AV.agg [iI 0,iI 0]]=(List.replicate (i+1+1) (⟨0,0⟩:qI)).map qI.enc:=by
   rw[<-qrC (n:=i+1),lMa];rfl
  refine qa (i+1,.slice 2 (hh++[qA.row 2 [AV.agg [AV.int IntKind.i64 0,AV.int IntKind.i64 0]] true]).length 0 ((List.replicate (i+1) (⟨0,0⟩:qI)).map qI.enc).length.succ false,h3) ⟨hlt,.inr ⟨(hh++[qA.row 2 [AV.agg [AV.int IntKind.i64 0,AV.int IntKind.i64 0]] true]).length,trivial,by simp,by rw[<-ex];exact v3⟩⟩ (by simp only;omega) csA
 ·have e:decide ((i:Int)<(c.W.length:Nat))=false:=dEf (by omega);simp only[e,go_sem];refine lsA ?_;simp only[go_sem];obtain rfl:i=c.W.length:=by omega
  have hc:=I.cv (qb qI.isSh.tree _) (by decide);have:=Cvs.cons (Cv.ints (h:=hh) (x:=c.K)) (Cvs.cons (Cv.ints (x:=c.L)) (Cvs.cons (Cv.ints (x:=c.V)) (Cvs.cons (.refl (v:=lQ c.D) (qb shI.tree _)) (Cvs.cons hc Cvs.nil))));exact J8 (.agg this.1 this.2)
def kB(w:qE)(c:qC):Bool:=(decide (w.T=1)&&qy c.K) || (decide (w.T=2)&&decide (c.K=13))
def wm(C:List qC)(w:qE):Bool:=inI w.I 0 ((C.length:Int)-1)&&((C[w.I.toNat]?).map (kB w)).getD false
theorem UT{C:List qC}{w:qE}:wm C w=true↔wOk C w:=by
 unfold wm wOk;constructor
 ·intro h;simp only[bAt,inI,dTe]at h;obtain⟨⟨h1,h2⟩,h3⟩:=h;obtain⟨k,hk⟩:=eOz h1;rw[hk,iTn]at h3;cases hc:C[k]? with
  | none=>rw[hc]at h3;cases h3
  | some c=>
   rw[hc]at h3;refine⟨k,c,hk,hc, ?_⟩;simpa[kB]using h3
 ·rintro⟨k,c,h1,h2,h3⟩;have:=(gSi.1 h2).1;rw[h1,iTn,h2];simp only[oMs,Option.getD_some,bAt,inI,dTe];refine⟨by omega, ?_⟩;simpa[kB]using h3
theorem qK2{C:List qC}{w:qE}(h:inI w.I 0 ((C.length:Int)-1)=false):wm C w=false:=by rw[wm,h];rfl
theorem qK1{C:List qC}{t:Int}{k:Nat}{c:qC}(hc:C[k]?=some c):wm C ⟨t,k⟩=kB ⟨t,k⟩ c:=by
 have:=zO hc;have e:inI (k:Int) 0 ((C.length:Int)-1)=true:=by simp only[inI,bAt,dTe];omega
 rw[wm];simp only[e,Bool.true_and,iTn,hc,oMs,Option.getD_some]
theorem qkZ{m:qH}{w:qE}(hs:m.C.length<=140737488355328):Pure Gm 1353 [.ept m.enc 0,w.enc] (.bool (wm m.C w)):=by
 refine pJ KL ?_;simp only[KL,qN,go_sem];refine qX rfl ?_;simp only[go_sem];refine qL wO ?_;simp only[go_sem,jc (show-9223372036854775808<=((m.C.length:Int)-1) by omega) (by omega)];cases hi:inI w.I 0 ((m.C.length:Int)-1)
 ·simp only[go_sem];exact qM rfl (by rw[qK2 hi])
 ·simp only[go_sem];obtain⟨t,a⟩:=w;have hj:=hi;simp only[inI,bAt,dTe]at hj;obtain⟨k,rfl⟩:=eOz hj.1;have hk:k<m.C.length:=by omega
  have hc:=gEg hk;generalize m.C[k]=c at hc;rw[qK1 hc];simp only[gMp,hc,oMs,go_sem]
  repeat' (first | (first | (apply zH<;>intro h1<;>simp only[h1,go_sem]) | (apply qT<;>intro h1<;>simp only[h1,go_sem])) | (refine qL XS ?_;simp only[go_sem]) | refine qM rfl ?_)
  all_goals (simp_all[kB])
def JD(c:qC)(size:Int):Bool:=
 if c.K=0 then decide (c.L=0)&&decide ((c.D.length:Int)=0)&&decide ((c.W.length:Int)=0)&&inI c.V (-1) (size-1)
 else if c.K=13 then decide (c.L=0)&&decide (c.V=0)&&decide ((c.D.length:Int)=0)&&decide ((c.W.length:Int)<2)
 else if qy c.K=true then qk (qZ c)else false
theorem qkY{c:qC}{size:Int}(hz:c.sz<=1048575)(h0:0<=size)(h1:size<=140737488355328):Pure Gm 1351 [.ept c.enc 0,iI size] (.bool (JD c size)):=by
 refine pJ KI ?_;simp only[KI,qN,go_sem];unfold qC.sz at hz
 repeat' (first | (first | (refine zH ?_ ?_<;>intro hc<;>simp only[hc,go_sem]) | (refine qT ?_ ?_<;>intro hc<;>simp only[hc,go_sem])) | (refine qL XS ?_;simp only[go_sem]) | (refine qL wO ?_;simp only[go_sem]) | (refine qL (qAL (by omega)) ?_;simp only[go_sem]) | refine qM rfl ?_)
 case refine_2.refine_2.refine_1=>
  refine zX (e':=(qZ c).enc) rfl rfl rfl rfl ?_;simp only[go_sem];refine wC (Cvs.cons (.ptr rfl (by decide) rfl (.refl qB.tr)) .nil) (qES (x:=qZ c) (by simp[qB.sz,qZ];omega)) rfl ?_;simp only[go_sem];exact qM rfl (by simp_all[JD])
 all_goals (try rw[wsA])
 all_goals (simp_all[JD])
def UQ(C:List qC)(w:qE):List qE:=((C[w.I.toNat]?).map (·.W)).getD []
def res(C:List qC):Nat->qE->qE×Bool
 | 0,w=>(w,false)
 | n+1,w=>if w.T≠2 then(w,true)else match UQ C w with
  |[]=>(w,true)
  | x::_=>res C n x
def allW(C:List qC):Prop:=∀(k:Nat)(c:qC),C[k]?=some c->∀w∈c.W,wOk C w
theorem YX{C:List qC}{t:Int}{k:Nat}{c:qC}(hc:C[k]?=some c):UQ C ⟨t,k⟩=c.W:=by
 simp[UQ,hc]
theorem c951{m:qH}{w:qE}(hs:m.C.length<=140737488355328)(hw:wOk m.C w)(ha:allW m.C):Pure Gm 951 [.ept m.enc 0,w.enc] (.tup [(res m.C (m.C.length+1) w).1.enc,.bool (res m.C (m.C.length+1) w).2]):=by
 refine pI F951 (by simp[AV.trees,AV.tree,go_sem]) (by simp[AV.trees,AV.tree,go_sem]) ?_;simp only[F951,qN,go_sem];refine qX rfl ?_;simp only[go_sem];generalize hR:res m.C (m.C.length+1) w=R;refine Sem.loop (λa:Nat×qE=>a.1<=m.C.length+1/\wOk m.C a.2/\res m.C a.1 a.2=R) (λa=>(⟨[(6,iI ((a.1:Int)-1)),(5,.bool false),(0,.ept m.enc 0)],[(4,.agg [iI 0,iI 0]),(3,a.2.enc)],[]⟩:VSt)) (λa=>a.1) (m.C.length+1,w) (by kernel_rfl) ⟨nLr _,hw,hR⟩ csA ?_;rintro⟨n,t,a⟩ ⟨hi,hk,he⟩;simp only at hi hk he;simp only[go_sem];obtain⟨k,c,rfl,hc,hkc⟩:=hk;cases n with
 | zero=>
  simp only[show decide ((0:Int)<=((0:Nat):Int)-1)=false from rfl,go_sem];refine lsA ?_;simp only[go_sem];exact zj (by rfl) (by rw[<-he];rfl)
 | succ n=>
  have e:decide ((0:Int)<=((n+1:Nat):Int)-1)=true:=dEt (by omega);simp only[e,go_sem];by_cases ht:t=2
  ·simp only[ht,gMp,hc,oMs,go_sem];cases hw:c.W with
   | nil=>
    simp only[hw,List.map_nil,Int.natCast_zero,go_sem];refine lsA ?_;simp only[go_sem];refine zj (by rfl) ?_;rw[<-he,ht,res,YX hc,hw];rfl
   | cons x ws=>
    have e2:decide (((ws.length+1:Nat):Int)=0)=false:=dEf (by omega);simp only[hw,lMc,e2,go_sem];simp only[gMp,hc,oMs,go_sem,hw,lMc];refine lsA ?_;simp only[go_sem];rw[wsA];rw[show ((n+1:Nat):Int)-1-1=(n:Int)-1 by omega];refine qa (n,x) ⟨by simp only;omega,ha k c hc x (by rw[hw];exact .head _), ?_⟩ (by simp only;omega) csA;rw[<-he,res,iN (by simp[ht]),YX hc,hw]
  ·simp only[ht,decide_false,go_sem];refine lsA ?_;simp only[go_sem];refine zj (by rfl) ?_;rw[<-he,res,iP ht]
theorem qEC{P:Nat->Prop}{w:Nat}{h:List qA}{v:AV}{el ys:List AV}{b:AV}{E:Ev}{l:List qG}{ks:List Fr1}{s m:qt}{Q:qn->VSt->Prop}{k:Nat}(ho:LsW P w h v el)(hy:Els h w b ys)(hl:el.length+ys.length<=4294967296)
  (hr:∀h3,Up (λj=>P j/\v=sQ w j el.length) h h3->h3[h.length]?=some (.row w (el++ys) true)->h3.length=h.length+1->R E (.ops l::ks) ⟨(k,sQ w h.length (el.length+ys.length))::s,m,h3⟩ Q):JM E w (some k) (some v) (some b) l ks ⟨s,m,h⟩ Q:=by
 rcases ho with⟨rfl,rfl⟩ | ⟨id,q1,rfl,q3⟩
 ·refine qED hy (by simpa using hl) ?_;have:=hr (h++[.row w ys true]) (Up.app _) (by simp) (by simp);simpa using this
 ·exact WG hy q3 rfl (by omega) (hr _ ((Up.set (id:=id)).trans (Up.app _ (S:=λj=>j=id)) (λ_ _ q=>q) |>.w λj _ e=>⟨by rw[e];exact q1,by rw[e]⟩) (by rw[gAr (by simp)];simp) (by simp))
theorem qGH{C:List qC}{i:Nat}:((C.take i).flatMap (·.W)).length<=(C.flatMap (·.W)).length:=by
 have h:(C.flatMap (·.W))=((C.take i).flatMap (·.W))++((C.drop i).flatMap (·.W)):=by
  rw[<-List.flatMap_append,List.take_append_drop]
 rw[h,lAp];omega
theorem qGI{C:List qC}{i:Nat}{c:qC}(hc:C[i]?=some c):(C.take (i+1)).flatMap (·.W)=(C.take i).flatMap (·.W)++c.W:=by
 rw[tA1,hc,Option.toList_some,List.flatMap_append];simp
theorem qr0{m:qH}{h0:List qA}(hs:m.C.length<=1048576)(hw:(m.C.flatMap (·.W)).length<=2000000):SCall Gm 1352 [.ept m.enc 0] h0 (λv h'=>Up (λ_=>False) h0 h'/\∃id,h0.length<=id/\v=.slice 2 id 0 (m.O::m.C.flatMap (·.W)).length false/\h'[id]?=some (.row 2 ((m.O::m.C.flatMap (·.W)).map qE.enc) true)):=by
 refine sI KJ ?_;simp only[KJ,qN,go_sem];refine Sem.loop (λa:Nat×AV×List qA=>a.1<=m.C.length/\Up (λ_=>False) h0 a.2.2/\LsW (λj=>h0.length<=j) 2 a.2.2 a.2.1 ((m.O::(m.C.take a.1).flatMap (·.W)).map qE.enc))
  (λa=>(⟨[(0,.ept m.enc 0),(3,a.2.1),(4,iI (a.1:Nat))],[],a.2.2⟩:VSt)) (λa=>m.C.length-a.1)
  (0,sQ 2 h0.length 1,_) (by kernel_rfl) ⟨nZl _,Up.app _,.inr ⟨h0.length,nLr _,rfl,by simp⟩⟩ csA ?_
 rintro⟨i,v,h⟩ ⟨hi,u0,I⟩;simp only at hi u0 I;simp only[go_sem];by_cases hlt:i<m.C.length
 ·have e:decide ((i:Int)<(m.C.length:Nat))=true:=dEt (by omega);have hc:=gEg hlt;generalize m.C[i]=c at hc;simp only[e,gMp,hc,oMs,go_sem];have ex:=qGI hc;have hl:=qGH (C:=m.C) (i:=i+1);rw[ex,lAp]at hl;refine qEC I Els.lst (by simp only[lMp,lCo];omega) λh3 u3 v3 l3=>?_;simp only[go_sem,wuA (n:=i)];refine qa (i+1,.slice 2 h.length 0 (((m.O::(m.C.take i).flatMap (·.W)).map qE.enc).length+(c.W.map qE.enc).length) false,h3) ⟨by simp only;omega,u0.trans u3 (λj hj q=>by have:=q.1;omega),.inr ⟨h.length,u0.1, ?_, ?_⟩⟩ (by simp only;omega) csA
  ·simp only[ex,lMp,lCo,lAp];rw[show ∀a b:Nat,a+b+1=a+1+b from λa b=>by omega]
  ·simp only[ex];rw[v3];simp
 ·have e:decide ((i:Int)<(m.C.length:Nat))=false:=dEf (by omega);simp only[e,go_sem];rw[tOl (by omega)]at I;rcases I with⟨_,h2⟩ | ⟨id,q1,q2,q3⟩
  ·cases h2
  ·exact⟨u0,id,q1,by rw[q2,lMp,lCo],q3⟩
def jP(C:List qC):Nat:=C.countP λc=>decide (c.K=0)
def wP(C:List qC):Nat->Int->Bool
 | 0,a=>decide (a= -1)
 | n+1,a=>inI a 0 ((C.length:Int)-1)&&(((C[a.toNat]?).map λc=>decide (c.K=0)&&wP C n c.V).getD false)
theorem qA0{C:List qC}{n:Nat}{a:Int}(h:inI a 0 ((C.length:Int)-1)=false):wP C (n+1) a=false:=by rw[wP,h];rfl
theorem qAZ{C:List qC}{n k:Nat}{c:qC}(hc:C[k]?=some c):wP C (n+1) k=(decide (c.K=0)&&wP C n c.V):=by
 have:=zO hc;have e:inI (k:Int) 0 ((C.length:Int)-1)=true:=by simp only[inI,bAt,dTe];omega
 rw[wP];simp only[e,Bool.true_and,iTn,hc,oMs,Option.getD_some]
theorem qGL{C:List qC}{i:Nat}{c:qC}(hc:C[i]?=some c):jP (C.take (i+1))=jP (C.take i)+(if c.K=0 then 1 else 0):=by
 rw[jP,tA1,hc,Option.toList_some,List.countP_append,List.countP_cons];simp[jP]
theorem VA{C:List qC}:jP C<=C.length:=List.countP_le_length ..
theorem qk0{m:qH}(hs:m.C.length<=140737488355328):Pure Gm 1354 [.ept m.enc 0] (.bool (wP m.C (jP m.C) m.F)):=by
 refine pJ KM ?_;simp only[KM,qN,go_sem];refine Sem.loop (λi:Nat=>i<=m.C.length)
  (λi=>(⟨[(0,.ept m.enc 0),(2,.bool false),(3,iI (jP (m.C.take i):Nat)),(4,iI (i:Nat))],[],[]⟩:VSt)) (λi=>m.C.length-i)
  0 (by kernel_rfl) (nZl _) (Can.sub (by simp[go_sem,jP]) (by simp[go_sem])) ?_
 rintro i hi;simp only[go_sem];by_cases hlt:i<m.C.length
 ·have e:decide ((i:Int)<(m.C.length:Nat))=true:=dEt (by omega);have hc:=gEg hlt;generalize m.C[i]=c at hc;simp only[e,gMp,hc,oMs,go_sem];have ex:=qGL hc;have hn:jP (m.C.take i)<=i:=nLt VA (by simp;omega);by_cases hk:c.K=0
  ·simp only[hk,go_sem,wuA (n:=i),jO (show jP (m.C.take i)<4611686018427387904 by omega)];refine qa (i+1) (by omega) (by omega) (Can.sub (by simp[go_sem,ex,hk]) (by simp[go_sem]))
  ·simp only[hk,decide_false,go_sem,wuA (n:=i)];refine qa (i+1) (by omega) (by omega) (Can.sub (by simp[go_sem,ex,hk]) (by simp[go_sem]))
 ·have e:decide ((i:Int)<(m.C.length:Nat))=false:=dEf (by omega);simp only[e,go_sem];rw[tOl (by omega)];have hn:=VA (C:=m.C);generalize hR:wP m.C (jP m.C) m.F=R;refine Sem.loop (λa:Nat×Int=>a.1<=m.C.length/\wP m.C a.1 a.2=R)
   (λa=>(⟨[(0,.ept m.enc 0),(2,.bool false),(3,iI (a.1:Nat)),(5,iI a.2)],[],[]⟩:VSt)) (λa=>a.1)
   (jP m.C,m.F) (by kernel_rfl) ⟨hn,hR⟩ csA ?_
  rintro⟨n,a⟩ ⟨h1,h2⟩;simp only at h1 h2;simp only[go_sem];cases n with
  | zero=>
   simp only[show decide ((0:Int)<((0:Nat):Int))=false from rfl,go_sem];exact qM rfl (by rw[<-h2];rfl)
  | succ n=>
   have e:decide ((0:Int)<((n+1:Nat):Int))=true:=dEt (by omega);simp only[e,go_sem];refine qL wO ?_;simp only[go_sem,jc (show-9223372036854775808<=((m.C.length:Int)-1) by omega) (by omega)];cases hi:inI a 0 ((m.C.length:Int)-1)
   ·simp only[go_sem];exact qM rfl (by rw[<-h2,qA0 hi])
   ·simp only[go_sem];have hj:=hi;simp only[inI,bAt,dTe]at hj;obtain⟨k,rfl⟩:=eOz hj.1;have hk:k<m.C.length:=by omega
    have hc:=gEg hk;generalize m.C[k]=c at hc;rw[qAZ hc]at h2;simp only[gMp,hc,oMs,go_sem];by_cases h0:c.K=0
    ·simp only[h0,go_sem,gMp,hc,oMs];simp only[jc (show-9223372036854775808<=(((n+1:Nat):Int)-1) by omega) (by omega)];refine qa (n,c.V) ⟨by simp only;omega, ?_⟩ (by simp only;omega) csA;rw[<-h2];simp[h0]
    ·simp only[h0,decide_false,go_sem];exact qM rfl (by rw[<-h2];simp[h0])
section
variable {C:List qC} {a fr:Int} {n k:Nat} {L M:List Nat}
theorem qFF:∀{L M:List Nat}{a:Int},chn C a L->chn C a M->L=M
 |[],[],a,_,_=>rfl
 |[],k::M,a,h1,h2=>by have:=h1;have:=h2.1;simp only[chn]at h1;omega
 | k::L,[],a,h1,h2=>by have:=h1.1;simp only[chn]at h2;omega
 | k::L,j::M,a,⟨h1,c,h2,h3,h4⟩,⟨g1,d,g2,g3,g4⟩=>by
  obtain rfl:k=j:=by omega
  rw[h2]at g2;cases g2;rw[qFF h4 g4]
theorem qFH:∀{L:List Nat}{a:Int},chn C a L->k∈L->∃D,chn C k (k::D)/\D.length<L.length
 |[],a,_,h=>by cases h
 | j::L,a,⟨h1,c,h2,h3,h4⟩,h=>by
  rcases mCo.1 h with rfl | h
  ·exact⟨L,⟨rfl,c,h2,h3,h4⟩,by simp⟩
  ·obtain⟨D,d1,d2⟩:=qFH h4 h;exact⟨D,d1,by simp only[lCo];omega⟩
theorem qFG:∀{L:List Nat}{a:Int},chn C a L->L.Nodup
 |[],a,_=>List.nodup_nil
 | j::L,a,⟨h1,c,h2,h3,h4⟩=>by
  refine List.nodup_cons.2 ⟨λh=>?_,qFG h4⟩;obtain⟨D,d1,d2⟩:=qFH h4 h;have:=qFF d1 (M:=j::L) ⟨rfl,c,h2,h3,h4⟩;cases this;omega
theorem qFE:∀{n:Nat}{a:Int},wP C n a=true->∃L:List Nat,L.length=n/\chn C a L
 | 0,a,h=>⟨[],rfl,show a= -1 from odT h⟩
 | n+1,a,h=>by
  have hj:inI a 0 ((C.length:Int)-1)=true:=by
   cases q:inI a 0 ((C.length:Int)-1)
   ·rw[qA0 q]at h;cases h
   ·rfl
  simp only[inI,bAt,dTe]at hj;obtain⟨k,rfl⟩:=eOz hj.1;have hk:k<C.length:=by omega
  have hc:=gEg hk;generalize C[k]=c at hc;rw[qAZ hc]at h;simp only[bAt,dTe]at h;obtain⟨L,l1,l2⟩:=qFE h.2;exact⟨k::L,by simp[l1],rfl,c,hc,h.1,l2⟩
def Xj(C:List qC):List Nat:=(List.range C.length).filter λk=>decide ((C[k]?.map (·.K))=some 0)
theorem qnJ:∀{C:List qC},(Xj C).length=jP C:=by
 intro C;unfold Xj jP;rw[<-List.countP_eq_length_filter]
 induction C with
 | nil=>rfl
 | cons c r ih=>
  rw[lCo,List.range_succ_eq_map,List.countP_cons,List.countP_cons,List.countP_map];have:(List.countP ((λk=>decide (((c::r)[k]?.map (·.K))=some 0))∘Nat.succ) (List.range r.length))=List.countP (λk=>decide ((r[k]?.map (·.K))=some 0)) (List.range r.length):=rfl;rw[this,ih];simp
theorem qGK:k∈Xj C↔∃c,C[k]?=some c/\c.K=0:=by
 simp only[Xj,mFi,lMr,dTe,oMi];exact⟨λh=>h.2,λh=>⟨by obtain⟨c,h1,_⟩:=h;exact zO h1,h⟩⟩
theorem FrC.of(h:wP C (jP C) fr=true):∃L,FrC C fr L:=by
 obtain⟨L,l1,l2⟩:=qFE h;have nd:=qFG l2;refine⟨L,nd,l2,λk c hc hk=>?_⟩;refine Classical.byContradiction λhn=>?_;have h1:(k::L).Nodup:=List.nodup_cons.2 ⟨hn,nd⟩;have h2:=h1.length_le_of_subset (l₂:=Xj C) λj hj=>by
  rcases mCo.1 hj with rfl | hj
  ·exact qGK.2 ⟨c,hc,hk⟩
  ·exact qGK.2 (WL (L:=L) l2 j hj)
 rw[qnJ,lCo]at h2;omega
theorem FrC.val(h:FrC C fr L){c:qC}(hc:C[k]?=some c)(h0:c.K=0):inI c.V (-1) ((C.length:Int)-1)=true:=by
 have hk:=h.all k c hc h0;have key:∀{L:List Nat}{a:Int},chn C a L->k∈L->-1<=c.V/\c.V<=(C.length:Int)-1:=by
  intro L
  induction L with
  | nil=>intro a _ q;cases q
  | cons j L ih=>
   rintro a ⟨h1,d,h2,h3,h4⟩ q;rcases mCo.1 q with rfl | q
   ·rw[hc]at h2;cases h2;cases L with
    | nil=>simp only[chn]at h4;omega
    | cons i L=>
     obtain⟨g1,e,g2,_⟩:=h4;have:=zO g2;omega
   ·exact ih h4 q
 have:=key h.ch hk;simp only[inI,bAt,dTe];omega
end
def qd(m:qH):List qE:=m.O::m.C.flatMap (·.W)
def zy(m:qH)(k:Nat):Nat:=cw k (qd m)+cr k m.R
def WF(C:List qC)(a:Int):Bool:=((C[a.toNat]?).map λc=>qy c.K).getD false
def jn(C:List qC)(p:qF):Bool:=inI p.B 1 ((C.length:Int)-1)&&inI p.A 0 (p.B-1)&&WF C p.A&&WF C p.B
structure VM(m:qH):Prop where
 sz:inI m.C.length 1 1500=true
 rs:m.R.length<=m.C.length
 cell:∀c∈m.C,JD c m.C.length=true
 wrd:∀w∈qd m,wm m.C w=true
 rdx:∀p∈m.R,jn m.C p=true
 cnt:∀(k:Nat)(c:qC),m.C[k]?=some c->(qy c.K=true->zy m k=1)/\(c.K=13->zy m k+c.W.length=2)
 ends:∀(k:Nat)(c:qC),m.C[k]?=some c->c.K=13->(res m.C (m.C.length+1) ⟨2,k⟩).2=true
 chn:wP m.C (jP m.C) m.F=true
noncomputable def JX(m:qH):Bool:= @decide (VM m) (Classical.propDecidable _)
theorem Xy{m:qH}:JX m=true↔VM m:=by unfold JX;exact @decide_eq_true_iff _ (Classical.propDecidable _)
theorem QD{m:qH}(h:¬VM m):JX m=false:=by
 cases q:JX m
 ·rfl
 ·exact absurd (Xy.1 q) h
theorem Xn{k:Int}(h:qy k=true):k≠0/\k≠13:=by
 simp only[qy,bAt,dTe]at h;omega
theorem qAU{c:qC}{s:Int}(h:JD c s=true):zw c:=by
 unfold JD at h;split at h
 ·rename_i h0;simp only[bAt,dTe]at h;obtain⟨⟨⟨h1,h2⟩,h3⟩,h4⟩:=h;exact .inr (.inr ⟨h0,h1,lEz (by omega),lEz (by omega)⟩)
 ·split at h
  ·rename_i h0;simp only[bAt,dTe]at h;obtain⟨⟨⟨h1,h2⟩,h3⟩,h4⟩:=h;exact .inr (.inl ⟨h0,h1,h2,lEz (by omega),by omega⟩)
  ·split at h
   ·next h0=>exact .inl ⟨h0,h⟩
   ·cases h
theorem qA5{k:Nat}:∀{C:List qC}(i:Nat),wS (λ_=>false) k i C=cw k (C.flatMap (·.W))
 |[],i=>rfl
 | c::r,i=>by rw[wS,List.flatMap_cons,Zb,<-qA5 (i+1)];rfl
theorem qD7{C:List qC}{a:Int}(h0:0<=a)(h:WF C a=true):wOk C ⟨1,a⟩:=by
 obtain⟨k,rfl⟩:=eOz h0;unfold WF at h;rw[iTn]at h;cases hc:C[k]? with
 | none=>rw[hc]at h;cases h
 | some c=>rw[hc]at h;exact⟨k,c,rfl,hc,.inl ⟨rfl,h⟩⟩
theorem qDE{C:List qC}{w:qE}{k:Nat}{c:qC}(h:wOk C w)(e:w.I=(k:Int))(hc:C[k]?=some c):c.K≠0:=by
 obtain⟨j,d,h1,h2,h3⟩:=h;obtain rfl:j=k:=by omega
 rw[hc]at h2;cases h2;rcases h3 with⟨_,h3⟩ | ⟨_,h3⟩
 ·exact(Xn h3).1
 ·omega
theorem qmJ{k:Nat}{ws:List qE}(h:∀w∈ws,w.I≠(k:Int)):cw k ws=0:=List.countP_eq_zero.2 λw hw=>by simpa using h w hw
theorem VM.words{m:qH}(h:VM m):∀w∈qd m,wOk m.C w:=λw hw=>UT.1 (h.wrd w hw)
theorem VM.allW{m:qH}(h:VM m):allW m.C:=λk c hc w hw=>h.words w (.tail _ (List.mem_flatMap.2 ⟨c,lMo hc,hw⟩))
theorem VM.pr{m:qH}(h:VM m):∀p∈m.R,p.A<p.B/\wOk m.C ⟨1,p.A⟩/\wOk m.C ⟨1,p.B⟩:=λp hp=>by
 have:=h.rdx p hp;simp only[jn,bAt,inI,dTe]at this;obtain⟨⟨⟨h1,h2⟩,h3⟩,h4⟩:=this;exact⟨by omega,qD7 h2.1 h3,qD7 (by omega) h4⟩
theorem VM.mi{m:qH}(h:VM m):MI m.C m.F m.O m.R [] (λ_=>false) where
 form:=λk c hc _=>qAU (h.cell c (lMo hc))
 opn:=λk c _ q=>by cases q
 wrd:=λk c hc _=>h.allW k c hc
 rt:=h.words _ (.head _)
 pw:=λw hw=>by cases hw
 pr:=h.pr
 occ:=λk c hc=>by
  have e:cw k (m.O::[])+wS (λ_=>false) k 0 m.C+cr k m.R=zy m k:=by
   rw[qA5,zy,qd,zQ,zQ,Zd];omega
  rw[e];obtain⟨c1,c2⟩:=h.cnt k c hc;rcases qAU (h.cell c (lMo hc))with⟨f1,f2⟩ | ⟨f1,f2,f3,f4,f5⟩ | ⟨f1,f2,f3,f4⟩
  ·have:=Xn f1;rw[c1 f1,zU,iN this.1,iN (by simp[this.2])]
  ·have:=c2 f1;rw[zU,iN (by omega)];by_cases q:c.W=[]
   ·rw[iP ⟨f1,q⟩];rw[q]at this;simpa using this
   ·rw[iN (by simp[q])];have:c.W.length≠0:=λe=>q (lEz e);omega
  ·rw[zU,iP f1,zy];have h1:cw k (qd m)=0:=qmJ λw hw e=>qDE (h.words w hw) e hc f1;have h2:cr k m.R=0:=by
    unfold cr;rw[List.countP_eq_zero.2,List.countP_eq_zero.2]
    ·intro p hp q;exact qDE (w:=⟨1,p.B⟩) (h.pr p hp).2.2 (by simpa using q) hc f1
    ·intro p hp q;exact qDE (w:=⟨1,p.A⟩) (h.pr p hp).2.1 (by simpa using q) hc f1
   omega
 fre:=FrC.of h.chn
def jI(n:Nat)(f:Nat->Nat):List AV:=(List.range n).map λk=>iI (f k:Nat)
theorem ql6{n:Nat}{f:Nat->Nat}:(jI n f).length=n:=by simp[jI]
theorem jh{n k:Nat}{f:Nat->Nat}(h:k<n):(jI n f)[k]?=some (iI (f k:Nat)):=by simp[jI,h]
theorem WM{n k:Nat}{f g:Nat->Nat}{v:Int}(h1:v=(g k:Nat))(h2:∀j,j≠k->g j=f j):(jI n f).set k (iI v)=jI n g:=by
 refine List.ext_getElem? λj=>?_;by_cases e:j=k
 ·subst e;by_cases hj:j<n
  ·rw[gSs (by rw[ql6];exact hj),jh hj,h1]
  ·rw[gEn (by simp[jI];omega),gEn (by simp[jI];omega)]
 ·rw[gSn (Ne.symm e)];by_cases hj:j<n
  ·rw[jh hj,jh hj,h2 j e]
  ·rw[gEn (by simp[jI];omega),gEn (by simp[jI];omega)]
theorem qFP{n:Nat}:jI n (λ_=>0)=List.replicate n (iI 0):=by
 refine List.ext_getElem? λj=>?_;by_cases hj:j<n
 ·rw[jh hj,List.getElem?_replicate,iP hj];rfl
 ·rw[gEn (by simp[jI];omega),gEn (by simp;omega)]
theorem Yw{ws:List qE}{i k:Nat}{w:qE}(h:ws[i]?=some w):cw k (ws.take (i+1))=cw k (ws.take i)+(if w.I=(k:Int)then 1 else 0):=by
 rw[tA1,h,Option.toList_some,Zb,zQ,Zd];omega
theorem Zc{ws:List qE}{k:Nat}:cw k ws<=ws.length:=List.countP_le_length ..
theorem qBJ:∀{C:List qC},(C.flatMap (·.W)).length<=qJ qC.sz C
 |[]=>by simp
 | c::r=>by
  have:=qBJ (C:=r);rw[List.flatMap_cons,lAp];simp only[qJ,qC.sz];omega
theorem Yv{rx:List qF}{i k:Nat}{p:qF}(h:rx[i]?=some p):cr k (rx.take (i+1))=cr k (rx.take i)+(if p.A=(k:Int)then 1 else 0)+(if p.B=(k:Int)then 1 else 0):=by
 rw[tA1,h,Option.toList_some];unfold cr;rw[List.countP_append,List.countP_append,List.countP_cons,List.countP_cons];simp only[List.countP_nil,dTe];omega
theorem XX{rx:List qF}{k:Nat}:cr k rx<=2*rx.length:=by
 have h1:rx.countP (λp=>decide (p.A=(k:Int)))<=rx.length:=List.countP_le_length ..;have h2:rx.countP (λp=>decide (p.B=(k:Int)))<=rx.length:=List.countP_le_length ..;unfold cr;omega
theorem Qt{C:List qC}{k:Nat}{c:qC}(hc:C[k]?=some c):WF C k=qy c.K:=by
 rw[WF,iTn,hc];rfl
theorem qkF{m:qH}(hz:m.sz<=1048576):Pure Gm 1058 [.ept m.enc 0,.nils,.lst 2 (m.R.map qF.enc) false] (.bool (JX m)):=by
 have hsz:m.C.length+qJ qC.sz m.C<=1048576:=by unfold qH.sz at hz;omega
 refine pI Ub (by simp[AV.trees,AV.tree,go_sem,qb qF.isSh.tree]) rfl ?_;simp only[Ub,qN,go_sem];refine qL wO ?_;simp only[go_sem];cases h0:inI m.C.length 1 1500
 ·simp only[go_sem];exact qM rfl (by rw[QD λv=>by rw[v.sz]at h0;cases h0])
 simp only[go_sem];by_cases h1:m.R.length<=m.C.length
 case neg=>
  have e:decide ((m.C.length:Int)<(m.R.length:Nat))=true:=dEt (by omega);simp only[e,go_sem];exact qM rfl (by rw[QD λv=>h1 v.rs])
 have e:decide ((m.C.length:Int)<(m.R.length:Nat))=false:=dEf (by omega);simp only[e,go_sem];clear e;have hN:m.C.length<=1500/\1<=m.C.length:=by
  simp only[inI,bAt,dTe]at h0;omega
 refine Sem.loop (λa:Nat×AV×List qA=>a.1<=m.C.length/\(∀c∈m.C.take a.1,JD c m.C.length=true)/\((a.1=0/\a.2.1=.lst 1 [] true)\/∃u,a.2.1=sQ 1 u a.1/\a.2.2[u]?=some (.row 1 (List.replicate a.1 (iI 0)) true)))
  (λa=>(⟨[(0,.ept m.enc 0),(1,.nils),(2,.lst 2 (m.R.map qF.enc) false),(6,.bool false),(7,iI (m.C.length:Nat)),(8,a.2.1),(9,iI (a.1:Nat))],[],a.2.2⟩:VSt)) (λa=>m.C.length-a.1)
  (0,.lst 1 [] true,[]) (by kernel_rfl) ⟨nZl _,by simp,.inl ⟨rfl,rfl⟩⟩ csA ?_
 rintro⟨i,v,h⟩ ⟨hi,hA,I⟩;simp only at hi hA I;simp only[go_sem];by_cases hlt:i<m.C.length
 ·have e:decide ((i:Int)<(m.C.length:Nat))=true:=dEt (by omega);have hc:=gEg hlt;generalize m.C[i]=c at hc;have hm:=lMo hc;have hcz:c.sz<=1048575:=by have:=z5 (f:=qC.sz) hm;have:=List.length_pos_of_mem hm;omega
  simp only[e,gMp,hc,oMs,go_sem];refine qL (qkY hcz (by omega) (by omega)) ?_;simp only[go_sem];cases hcb:JD c m.C.length
  ·simp only[go_sem];exact qM rfl (by rw[QD λv=>by have:=v.cell c hm;rw[hcb]at this;cases this])
  ·simp only[go_sem];have hA2:∀d∈m.C.take (i+1),JD d m.C.length=true:=λd hd=>by
    rw[tA1,hc,Option.toList_some]at hd;rcases z9.1 hd with hd | hd
    ·exact hA d hd
    ·rw[lMg.1 hd];exact hcb
   rcases I with⟨rfl,rfl⟩ | ⟨u,rfl,hu⟩
   ·refine Qu (Els.row (ends (o:=qA.row 1 [AV.int IntKind.i64 0] true)) rfl) (by decide) ?_;simp only[go_sem];refine qa (1,sQ 1 (h.length+1) 1,(h++[qA.row 1 [AV.int IntKind.i64 0] true])++[qA.row 1 [AV.int IntKind.i64 0] true]) ⟨by simp only;omega,hA2,.inr ⟨h.length+1,rfl, ?_⟩⟩ (by simp only;omega) (Can.sub (by simp[go_sem,IntKind.wrap]) (by simp[go_sem]));simp
   ·refine ZY ends (jN hu) (by simp) (by omega) ?_;simp only[go_sem,wuA (n:=i)];refine qa (i+1,sQ 1 (h.length+1) (i+1),((h++[qA.row 1 [AV.int IntKind.i64 0] true]).set u .dead)++[qA.row 1 (List.replicate i (AV.int IntKind.i64 0)++[AV.int IntKind.i64 0]) true]) ⟨by simp only;omega,hA2,.inr ⟨h.length+1,rfl, ?_⟩⟩ (by simp only;omega) csA;rw[gAr (by simp)];simp[List.replicate_succ']
 have e:decide ((i:Int)<(m.C.length:Nat))=false:=dEf (by omega);simp only[e,go_sem];have hfm:=qBJ (C:=m.C);have hcell:∀c∈m.C,JD c m.C.length=true:=by rw[tOl (by omega)]at hA;exact hA
 have hLl:(qd m).length<=1048577:=by rw[qd,lCo];omega
 obtain⟨u,rfl,hu⟩:∃u,v=sQ 1 u m.C.length/\h[u]?=some (.row 1 (jI m.C.length λ_=>0) true):=by
  obtain rfl:i=m.C.length:=by omega
  rcases I with⟨h3,_⟩ | ⟨u,h3,h4⟩
  ·omega
  ·exact⟨u,h3,by rw[qFP];exact h4⟩
 refine qu (SCall.mono (qr0 (by omega) (by omega)) ?_);rintro v1 h1 ⟨up1,wd,hwd,rfl,hw1⟩;simp only[go_sem];have hul:=qz hu;refine WG (ys:=[]) ⟨trivial,rfl⟩ hw1 (by rw[lMp];rfl) (by simp only[lNi,lCo];omega) ?_;simp only[go_sem,nAz,lAn];have g1:(h1.set wd .dead++[qA.row 2 ((qd m).map qE.enc) true])[u]?=some (.row 1 (jI m.C.length λk=>cw k ((qd m).take 0)) true):=by
  rw[gAl (by rw[lLs];have:=up1.1;omega),gSn (by omega)];exact up1.at hu id
 have g2:(h1.set wd .dead++[qA.row 2 ((qd m).map qE.enc) true])[h1.length]?=some (.row 2 ((qd m).map qE.enc) true):=by
  rw[gAr (by rw[lLs];omega),lLs,nSs];rfl
 change Sem _ _ ⟨_,_,h1.set wd .dead++[qA.row 2 ((qd m).map qE.enc) true]⟩ _;generalize h1.set wd .dead++[qA.row 2 ((qd m).map qE.enc) true]=h2 at g1 g2;generalize h1.length=wp at g2;change Sem _ _ ⟨(11,iI 0)::(10,.slice 2 wp 0 (qd m).length false)::_,_,_⟩ _;clear hw1 up1 hwd I hu;refine Sem.loop (λa:Nat×List qA=>a.1<=(qd m).length/\(∀w∈(qd m).take a.1,wm m.C w=true)/\a.2[u]?=some (.row 1 (jI m.C.length λk=>cw k ((qd m).take a.1)) true)/\a.2[wp]?=some (.row 2 ((qd m).map qE.enc) true))
  (λa=>(⟨[(0,.ept m.enc 0),(2,.lst 2 (m.R.map qF.enc) false),(6,.bool false),(7,iI (m.C.length:Nat)),(8,sQ 1 u m.C.length),(10,.slice 2 wp 0 (qd m).length false),(11,iI (a.1:Nat))],[],a.2⟩:VSt)) (λa=>(qd m).length-a.1)
  (0,h2) (by kernel_rfl) ⟨nZl _,by simp,g1,g2⟩ csA ?_
 clear g1 g2;rintro⟨i,h⟩ ⟨hi,hA,g1,g2⟩;simp only at hi hA g1 g2;simp only[go_sem];by_cases hlt:i<(qd m).length
 ·have e:decide ((i:Int)<((qd m).length:Nat))=true:=dEt (by omega);have hc:=gEg hlt;generalize (qd m)[i]=w at hc;have hm:=lMo hc;simp only[e,qS hlt,nZa,g2,gMp,hc,oMs,go_sem];refine qL (qkZ (by omega)) ?_;simp only[go_sem];cases hwb:wm m.C w
  ·simp only[go_sem];exact qM rfl (by rw[QD λv=>by have:=v.wrd w hm;rw[hwb]at this;cases this])
  obtain⟨k,d,hw1,hw2,hw3⟩:=UT.1 hwb;have hk:=zO hw2;simp only[qS hlt,nZa,g2,gMp,hc,oMs,hw1,qS hk,g1,jh hk,go_sem];have hcl:=Zc (ws:=(qd m).take i) (k:=k);rw[lLt]at hcl;simp only[jO (show cw k ((qd m).take i)<4611686018427387904 by omega)];refine zX rfl g1 (jh hk) rfl ?_;simp only[go_sem,wuA (n:=i)];have hne:=qHW g1 g2 (by simp);refine qa (i+1,h.set u (.row 1 ((jI m.C.length λk=>cw k ((qd m).take i)).set k (iI ((cw k ((qd m).take i)+1:Nat):Int))) true)) ⟨by simp only;omega,λx hx=>?_, ?_, ?_⟩ (by simp only;omega) csA
  ·rw[tA1,hc,Option.toList_some]at hx;rcases z9.1 hx with hx | hx
   ·exact hA x hx
   ·rw[lMg.1 hx];exact hwb
  ·rw[gSs (qz g1),WM (g:=λk=>cw k ((qd m).take (i+1)))]
   ·simp only[Yw hc,hw1,if_true]
   ·intro j hj;simp only[Yw hc,hw1];rw[iN (by omega),nAz]
  ·rw[gSn hne];exact g2
 have e:decide ((i:Int)<((qd m).length:Nat))=false:=dEf (by omega);simp only[e,go_sem];rw[tOl (by omega)]at hA g1;clear g2;refine Sem.loop (λa:Nat×List qA=>a.1<=m.R.length/\(∀p∈m.R.take a.1,jn m.C p=true)/\a.2[u]?=some (.row 1 (jI m.C.length λk=>cw k (qd m)+cr k (m.R.take a.1)) true))
  (λa=>(⟨[(0,.ept m.enc 0),(2,.lst 2 (m.R.map qF.enc) false),(6,.bool false),(7,iI (m.C.length:Nat)),(8,sQ 1 u m.C.length),(12,iI (a.1:Nat))],[],a.2⟩:VSt)) (λa=>m.R.length-a.1)
  (0,h) (by kernel_rfl) ⟨nZl _,by simp,g1⟩ csA ?_
 clear g1 hlt e hi;rintro⟨i,h⟩ ⟨hi,hP,g1⟩;simp only at hi hP g1;simp only[go_sem];by_cases hlt:i<m.R.length
 ·have e:decide ((i:Int)<(m.R.length:Nat))=true:=dEt (by omega);have hc:=gEg hlt;generalize m.R[i]=p at hc;have hm:=lMo hc;simp only[e,gMp,hc,oMs,go_sem];refine lsA ?_;simp only[go_sem];refine qL wO ?_;simp only[go_sem,jc (show-9223372036854775808<=((m.C.length:Int)-1) by omega) (by omega)];have no:jn m.C p=false->JX m=false:=λq=>QD λv=>by have:=v.rdx p hm;rw[q]at this;cases this
  obtain⟨A,B⟩:=p;simp only at no|-;cases q1:inI B 1 ((m.C.length:Int)-1)
  ·simp only[go_sem];exact qM rfl (by rw[no (by simp only[jn,q1,Bool.false_and])])
  simp only[go_sem];have hB:=q1;simp only[inI,bAt,dTe]at hB;simp only[jc (show-9223372036854775808<=B-1 by omega) (by omega)];refine qL wO ?_;simp only[go_sem];cases q2:inI A 0 (B-1)
  ·simp only[go_sem];exact qM rfl (by rw[no (by simp only[jn,q1,q2,Bool.false_and,Bool.and_false])])
  simp only[go_sem];have hA2:=q2;simp only[inI,bAt,dTe]at hA2;obtain⟨ka,rfl⟩:=eOz hA2.1;obtain⟨kb,rfl⟩:=eOz (show 0<=B by omega);have hka:ka<m.C.length:=by omega
  have hkb:kb<m.C.length:=by omega
  have ha:=gEg hka;have hb:=gEg hkb;generalize m.C[ka]=ca at ha;generalize m.C[kb]=cb at hb;simp only[gMp,ha,oMs,go_sem];refine qL XS ?_;simp only[go_sem];cases q3:qy ca.K
  ·simp only[go_sem];exact qM rfl (by rw[no (by simp only[jn,q1,q2,Qt ha,q3,Bool.false_and,Bool.and_false])])
  simp only[gMp,hb,oMs,go_sem];refine qL XS ?_;simp only[go_sem];cases q4:qy cb.K
  ·simp only[go_sem];exact qM rfl (by rw[no (by simp only[jn,q1,q2,Qt ha,Qt hb,q3,q4,Bool.false_and,Bool.and_false])])
  simp only[qS hka,nZa,g1,jh hka,go_sem];have hcl:=Zc (ws:=qd m) (k:=ka);have hcl2:=Zc (ws:=qd m) (k:=kb);have hcr:=XX (rx:=m.R.take i) (k:=ka);have hcr2:=XX (rx:=m.R.take i) (k:=kb);rw[lLt]at hcr hcr2;simp only[jO (show cw ka (qd m)+cr ka (m.R.take i)<4611686018427387904 by omega)];refine zX rfl g1 (jh hka) rfl ?_;have g3:(h.set u (.row 1 ((jI m.C.length λk=>cw k (qd m)+cr k (m.R.take i)).set ka (iI ((cw ka (qd m)+cr ka (m.R.take i)+1:Nat):Int))) true))[u]?=some (.row 1 (jI m.C.length λk=>cw k (qd m)+cr k (m.R.take i)+if ka=k then 1 else 0) true):=by
   rw[gSs (qz g1),WM (g:=λk=>cw k (qd m)+cr k (m.R.take i)+if ka=k then 1 else 0)]
   ·simp only[if_true]
   ·intro j hj;rw[iN (Ne.symm hj)];rfl
  generalize h.set u _=h3 at g3;have hab:ka≠kb:=by omega
  simp only[qS hkb,nZa,g3,jh hkb,iN hab,nAz,go_sem];simp only[jO (show cw kb (qd m)+cr kb (m.R.take i)<4611686018427387904 by omega)];refine zX rfl g3 (jh hkb) rfl ?_;simp only[go_sem,wuA (n:=i)];refine qa (i+1,h3.set u (.row 1 ((jI m.C.length λk=>cw k (qd m)+cr k (m.R.take i)+if ka=k then 1 else 0).set kb (iI ((cw kb (qd m)+cr kb (m.R.take i)+1:Nat):Int))) true)) ⟨by simp only;omega,λx hx=>?_, ?_⟩ (by simp only;omega) csA
  ·rw[tA1,hc,Option.toList_some]at hx;rcases z9.1 hx with hx | hx
   ·exact hP x hx
   ·rw[lMg.1 hx];simp only[jn,q1,q2,Qt ha,Qt hb,q3,q4,Bool.and_self]
  ·rw[gSs (qz g3),WM (g:=λk=>cw k (qd m)+cr k (m.R.take (i+1)))]
   ·simp only[Yv hc,if_true];rw[iN (by omega)];omega
   ·intro j hj;simp only[Yv hc];rw[iN (show ¬(kb:Int)=j by omega)];by_cases q:ka=j
    ·rw[iP q,iP (by omega)];omega
    ·rw[iN q,iN (by omega)];omega
 have e:decide ((i:Int)<(m.R.length:Nat))=false:=dEf (by omega);simp only[e,go_sem];rw[tOl (by omega)]at hP g1;have hW:∀w∈qd m,wOk m.C w:=λw hw=>UT.1 (hA w hw);have hAW:allW m.C:=λk c hc w hw=>hW w (.tail _ (List.mem_flatMap.2 ⟨c,lMo hc,hw⟩));have hcl:∀k,cw k (qd m)+cr k m.R<=4000000:=λk=>by
  have h1:=Zc (ws:=qd m) (k:=k);have h2:=XX (rx:=m.R) (k:=k);omega
 refine Sem.loop (λi:Nat=>i<=m.C.length/\∀(k:Nat)(c:qC),k<i->m.C[k]?=some c->(qy c.K=true->zy m k=1)/\(c.K=13->zy m k+c.W.length=2)/\(c.K=13->(res m.C (m.C.length+1) ⟨2,k⟩).2=true))
  (λi=>(⟨[(0,.ept m.enc 0),(6,.bool false),(8,sQ 1 u m.C.length),(14,iI (i:Nat))],[],h⟩:VSt)) (λi=>m.C.length-i)
  0 (by kernel_rfl) ⟨nZl _,λk c hk=>by omega⟩ csA ?_
 clear hlt e hi;rintro i ⟨hi,hI⟩;simp only[go_sem];by_cases hlt:i<m.C.length
 ·have e:decide ((i:Int)<(m.C.length:Nat))=true:=dEt (by omega);have hc:=gEg hlt;generalize m.C[i]=c at hc;have hm:=lMo hc;have hcz:c.sz<=1048575:=by have:=z5 (f:=qC.sz) hm;have:=List.length_pos_of_mem hm;omega
  have hnext:((qy c.K=true->zy m i=1)/\(c.K=13->zy m i+c.W.length=2)/\(c.K=13->(res m.C (m.C.length+1) ⟨2,i⟩).2=true))->∀(k:Nat)(c:qC),k<i+1->m.C[k]?=some c->(qy c.K=true->zy m k=1)/\(c.K=13->zy m k+c.W.length=2)/\(c.K=13->(res m.C (m.C.length+1) ⟨2,k⟩).2=true):=λq k d hk hd=>by
   by_cases e:k=i
   ·subst e;rw[hc]at hd;cases hd;exact q
   ·exact hI k d (by omega) hd
  have hcw:c.W.length<=1048576:=by unfold qC.sz at hcz;omega
  simp only[e,gMp,hc,oMs,go_sem];refine qL XS ?_;simp only[go_sem];cases hag:qy c.K
  ·simp only[go_sem];by_cases hk:c.K=13
   ·simp only[hk,qS hlt,nZa,g1,jh hlt,go_sem];simp only[jc (show-9223372036854775808<=(2:Int)-(c.W.length:Nat) by omega) (by omega)];by_cases hq:((cw i (qd m)+cr i m.R:Nat):Int)=2-(c.W.length:Nat)
    ·simp only[hq,go_sem];simp only[hk,go_sem];refine qL (c951 (w:=⟨2,(i:Int)⟩) (by omega) ⟨i,c,rfl,hc,.inr ⟨rfl,hk⟩⟩ hAW) ?_;simp only[go_sem];refine lsA ?_;simp only[go_sem];cases hr:(res m.C (m.C.length+1) ⟨2,(i:Int)⟩).2
     ·simp only[go_sem];exact qM rfl (by rw[QD λv=>by have:=v.ends i c hc hk;rw[hr]at this;cases this])
     ·simp only[go_sem,wuA (n:=i)];refine qa (i+1) ⟨by omega,hnext ⟨?_, ?_, ?_⟩⟩ (by omega) csA
      ·intro h;cases h.symm.trans hag
      ·intro _;unfold zy;omega
      ·intro _;exact hr
    ·simp only[hq,decide_false,go_sem];exact qM rfl (by rw[QD λv=>hq (by have:=(v.cnt i c hc).2 hk;unfold zy at this;omega)])
   ·simp only[hk,decide_false,go_sem];simp only[wuA (n:=i)];refine qa (i+1) ⟨by omega,hnext ⟨?_, ?_, ?_⟩⟩ (by omega) csA
    ·intro h;cases h.symm.trans hag
    ·intro h;exact absurd h hk
    ·intro h;exact absurd h hk
  ·have hk:¬c.K=13:=(Xn hag).2;simp only[qS hlt,nZa,g1,jh hlt,go_sem];by_cases hq:((cw i (qd m)+cr i m.R:Nat):Int)=1
   ·simp only[hq,hk,decide_false,go_sem,wuA (n:=i)];refine qa (i+1) ⟨by omega,hnext ⟨?_, ?_, ?_⟩⟩ (by omega) csA
    ·intro _;unfold zy;omega
    ·intro h;exact absurd h hk
    ·intro h;exact absurd h hk
   ·simp only[hq,decide_false,go_sem];exact qM rfl (by rw[QD λv=>hq (by have:=(v.cnt i c hc).1 hag;unfold zy at this;omega)])
 have e:decide ((i:Int)<(m.C.length:Nat))=false:=dEf (by omega);simp only[e,go_sem];refine qL (qk0 (by omega)) ?_;simp only[go_sem];refine qM rfl ?_;cases hch:wP m.C (jP m.C) m.F
 ·rw[QD λv=>by have:=v.chn;rw[hch]at this;cases this]
 ·rw[Xy.2 ⟨h0,by assumption,hcell,hA,hP,λk c hc=>?_,λk c hc=>?_,hch⟩]
  ·have:=hI k c (by have:=zO hc;omega) hc;exact⟨this.1,this.2.1⟩
  ·exact(hI k c (by have:=zO hc;omega) hc).2.2
theorem c923{m:qH}(hz:m.sz<=1048576):Pure Gm 923 [.ept m.enc 0] (.bool (JX m)):=by
 refine pJ F923 ?_;simp only[F923,qN,go_sem];refine qL (qkF hz) ?_;simp only[go_sem];exact qM rfl rfl
theorem XP{c:qC}:Pure Gm 1254 [c.enc] (.bool (qy c.K)):=by
 refine pJ Ut ?_;simp only[Ut,qN,go_sem];refine qX rfl ?_;simp only[go_sem];apply zH<;>intro hc<;>simp only[hc,go_sem]
 ·exact qM rfl (by rw[qy,hc,Bool.true_and])
 ·exact qM rfl (by rw[qy,hc];rfl)
theorem XQ{c:qC}:Pure Gm 1368 [c.enc] (.bool (decide (c.K=13))):=by
 refine pJ KW ?_;simp only[KW,qN,go_sem];refine qX rfl ?_;simp only[go_sem];exact qM rfl rfl
theorem XR{c:qC}:Pure Gm 1455 [c.enc] (.bool (decide (c.K=0))):=by
 refine pJ Kp ?_;simp only[Kp,qN,go_sem];refine qX rfl ?_;simp only[go_sem];exact qM rfl rfl
def JT(C:List qC)(k:Int):Bool:=decide (0<=k)&&decide (k<(C.length:Nat))
theorem qGW{C:List qC}{k:Int}:JT C k=inI k 0 ((C.length:Int)-1):=by
 unfold JT inI;congr 1;exact decide_eq_decide.2 (by omega)
theorem qGX{C:List qC}{k:Int}(h:¬(0<=k/\k<(C.length:Nat))):JT C k=false:=Bool.eq_false_iff.2 λq=>h (by simpa[JT]using q)
theorem Yl{m:qH}{k:Int}:Pure Gm 1484 [.ept m.enc 0,iI k] (.bool (JT m.C k)):=by
 refine pJ Kv ?_;simp only[Kv,qN,go_sem];apply zH<;>intro hc<;>simp only[hc,go_sem]
 ·exact qM rfl (by rw[JT,hc,Bool.true_and])
 ·exact qM rfl (by rw[JT,hc];rfl)
def JP(c:qC):Bool:=
 if qy c.K=true then qk (qZ c)
 else if c.K=13 then decide (c.L=0)&&decide (c.V=0)&&decide ((c.D.length:Int)=0)&&decide ((c.W.length:Int)<=1)
 else decide (c.K=0)&&decide (c.L=0)&&decide ((c.D.length:Int)=0)&&decide ((c.W.length:Int)=0)
theorem qk3{c:qC}(hz:c.sz<=1048575):Pure Gm 1358 [c.enc] (.bool (JP c)):=by
 refine pJ KO ?_;simp only[KO,qN,go_sem];unfold qC.sz at hz;refine qX rfl ?_;simp only[go_sem];refine qL XP ?_;simp only[go_sem];cases hag:qy c.K
 ·simp only[go_sem];refine qL XQ ?_;simp only[go_sem]
  repeat' (first | (apply zH<;>intro h1<;>simp only[h1,go_sem]) | (apply qT<;>intro h1<;>simp only[h1,go_sem]) | (refine qL XR ?_;simp only[go_sem]) | refine qM rfl ?_)
  all_goals (simp_all[JP])
 ·simp only[go_sem];simp only[jO (show c.W.length<4611686018427387904 by omega)];refine Jx (by unfold LIM;omega) ?_;simp only[go_sem];refine wC (vs':=[(qZ c).enc]) (Cvs.cons (.agg rfl ?_) .nil) (qET (by simp[qZ];omega) (by simp[qZ];omega)) rfl ?_
  ·intro p hp;have e:List.map qI.enc (qZ c).P=List.replicate (c.W.length+1) (AV.agg [AV.int .i64 0,AV.int .i64 0]):=by simp[qZ];rfl
   rw[e]at hp;simp only[List.zip_cons_cons,List.zip_nil_left,mCo,List.not_mem_nil,or_false]at hp;rcases hp with rfl | rfl | rfl | rfl | rfl
   ·exact .refl rfl
   ·exact .refl rfl
   ·exact .refl rfl
   ·exact .refl (qb shI.tree _)
   ·exact Cv.row (c:=false) rfl (by simp) (by rw[<-e];exact qb qI.isSh.tree _) (by decide)
  simp only[go_sem];exact qM rfl (by rw[JP,iP hag])
theorem qk6{m:qH}{w:qE}:Pure Gm 1362 [.ept m.enc 0,w.enc] (.bool (wm m.C w)):=by
 refine pJ KR ?_;simp only[KR,qN,go_sem];refine qX rfl ?_;simp only[go_sem];refine qL Yl ?_;rw[qGW];simp only[go_sem];cases hi:inI w.I 0 ((m.C.length:Int)-1)
 ·simp only[go_sem];exact qM rfl (by rw[qK2 hi])
 ·simp only[go_sem];obtain⟨t,a⟩:=w;have hj:=hi;simp only[inI,bAt,dTe]at hj;obtain⟨k,rfl⟩:=eOz hj.1;have hk:k<m.C.length:=by omega
  have hc:=gEg hk;generalize m.C[k]=c at hc;rw[qK1 hc];simp only[gMp,hc,oMs,go_sem];refine Jv (k:=5) rfl (by simp[go_sem]) ⟨_,rfl⟩ (by decide) ?_;simp only[go_sem]
  repeat' (first | (apply zH<;>intro h1<;>simp only[h1,go_sem]) | (apply qT<;>intro h1<;>simp only[h1,go_sem]) | (refine qL XP ?_;simp only[go_sem]) | (refine qL XQ ?_;simp only[go_sem]) | refine qM rfl ?_)
  all_goals (simp_all[kB])
theorem qk9{m:qH}{p:qF}:Pure Gm 1365 [.ept m.enc 0,p.enc] (.bool (jn m.C p)):=by
 obtain⟨A,B⟩:=p;refine pJ KT ?_;simp only[KT,qN,go_sem];refine qX rfl ?_;simp only[go_sem];have no:(¬(A<B/\0<=A/\A<(m.C.length:Nat)/\0<=B/\B<(m.C.length:Nat)))->jn m.C ⟨A,B⟩=false:=λq=>by
  cases e:jn m.C ⟨A,B⟩
  ·rfl
  ·refine absurd ?_ q;simp only[jn,bAt,inI,dTe]at e;omega
 by_cases h1:A<B
 case neg=>
  simp only[h1,decide_false,go_sem];exact qM rfl (by rw[no (λq=>h1 q.1)])
 simp only[h1,go_sem];refine qL Yl ?_;simp only[go_sem];by_cases h2:0<=A/\A<(m.C.length:Nat)
 case neg=>
  have e:JT m.C A=false:=qGX h2;simp only[e,go_sem];exact qM rfl (by rw[no (λq=>h2 ⟨q.2.1,q.2.2.1⟩)])
 have e:JT m.C A=true:=by simpa[JT]using h2
 simp only[e,go_sem];refine qL Yl ?_;simp only[go_sem];by_cases h3:0<=B/\B<(m.C.length:Nat)
 case neg=>
  have e:JT m.C B=false:=qGX h3;simp only[e,go_sem];exact qM rfl (by rw[no (λq=>h3 ⟨q.2.2.2.1,q.2.2.2.2⟩)])
 have e:JT m.C B=true:=by simpa[JT]using h3
 simp only[e,go_sem];have q1:inI B 1 ((m.C.length:Int)-1)=true:=by simp only[inI,bAt,dTe];omega
 have q2:inI A 0 (B-1)=true:=by simp only[inI,bAt,dTe];omega
 obtain⟨ka,rfl⟩:=eOz h2.1;obtain⟨kb,rfl⟩:=eOz h3.1;have ha:=gEg (show ka<m.C.length by omega);have hb:=gEg (show kb<m.C.length by omega);generalize m.C[ka]=ca at ha;generalize m.C[kb]=cb at hb;simp only[gMp,ha,oMs,go_sem];refine qL XP ?_;simp only[go_sem];cases q3:qy ca.K
 ·simp only[go_sem];exact qM rfl (by simp only[jn,q1,q2,Qt ha,q3,Bool.false_and,Bool.and_false])
 simp only[gMp,hb,oMs,go_sem];refine qL XP ?_;simp only[go_sem];exact qM rfl (by simp only[jn,q1,q2,Qt ha,Qt hb,q3,Bool.true_and])
def J1(C:List qC):Nat->qE->qE×Bool
 | 0,w=>(⟨0,0⟩,false)
 | n+1,w=>if w.T=1 then(w,true)else match UQ C w with
  |[]=>(w,true)
  | x::_=>J1 C n x
theorem qkU{m:qH}{w:qE}(hs:m.C.length<=140737488355328)(hw:wOk m.C w)(ha:allW m.C):Pure Gm 1256 [.ept m.enc 0,w.enc] (.tup [(J1 m.C (m.C.length+1) w).1.enc,.bool (J1 m.C (m.C.length+1) w).2]):=by
 refine pI Uu (by simp[AV.trees,AV.tree,go_sem]) (by simp[AV.trees,AV.tree,go_sem]) ?_;simp only[Uu,qN,go_sem];refine qX rfl ?_;simp only[go_sem];simp only[jO (show m.C.length<4611686018427387904 by omega)];generalize hR:J1 m.C (m.C.length+1) w=R;refine Sem.loop (λa:Nat×qE=>a.1<=m.C.length+1/\wOk m.C a.2/\J1 m.C (m.C.length+1-a.1) a.2=R) (λa=>(⟨[(12,iI (a.1:Nat)),(11,iI ((m.C.length+1:Nat):Int)),(5,.bool false),(0,.ept m.enc 0)],[(4,.agg [iI 0,iI 0]),(3,a.2.enc)],[]⟩:VSt)) (λa=>m.C.length+1-a.1) (0,w) (by kernel_rfl) ⟨nZl _,hw,hR⟩ csA ?_;rintro⟨n,t,a⟩ ⟨hi,hk,he⟩;simp only at hi hk he;simp only[go_sem];obtain⟨k,c,rfl,hc,hkc⟩:=hk;by_cases hlt:n<m.C.length+1
 case neg=>
  obtain rfl:n=m.C.length+1:=by omega
  have e:decide (((m.C.length+1:Nat):Int)<((m.C.length+1:Nat):Int))=false:=dEf (by omega);simp only[e,go_sem];refine lsA ?_;simp only[go_sem];rw[nSs]at he;exact zj (by rfl) (by rw[<-he];rfl)
 have e:decide ((n:Int)<((m.C.length+1:Nat):Int))=true:=dEt (by omega);simp only[e,go_sem];obtain⟨r,hr⟩:∃r,m.C.length+1-n=r+1:=⟨m.C.length-n,by omega⟩;rw[hr]at he;by_cases ht:t=1
 ·simp only[ht,go_sem];refine lsA ?_;simp only[go_sem];refine zj (by rfl) ?_;rw[<-he,J1,iP ht,ht]
 ·simp only[ht,decide_false,gMp,hc,oMs,go_sem];cases hw:c.W with
  | nil=>
   simp only[hw,List.map_nil,Int.natCast_zero,go_sem];refine lsA ?_;simp only[go_sem];refine zj (by rfl) ?_;rw[<-he,J1,iN ht,YX hc,hw]
  | cons x ws=>
   have e2:decide (((ws.length+1:Nat):Int)=0)=false:=dEf (by omega);simp only[hw,lMc,e2,go_sem];simp only[gMp,hc,oMs,go_sem,hw,lMc];refine lsA ?_;simp only[go_sem,wuA (n:=n)];refine qa (n+1,x) ⟨by simp only;omega,ha k c hc x (by rw[hw];exact .head _), ?_⟩ (by simp only;omega) csA;rw[<-he,J1,iN (by simp[ht]),YX hc,hw];simp only;rw[show m.C.length+1-(n+1)=r by omega]
theorem qlB{m:qH}(hs:m.C.length<=140737488355328):Pure Gm 1367 [.ept m.enc 0] (.bool (wP m.C (jP m.C) m.F)):=by
 refine pJ KV ?_;simp only[KV,qN,go_sem];refine Sem.loop (λi:Nat=>i<=m.C.length)
  (λi=>(⟨[(0,.ept m.enc 0),(2,.bool false),(10,.lst 5 (m.C.map qC.enc) false),(11,iI (m.C.length:Nat)),(3,iI (jP (m.C.take i):Nat)),(12,iI (i:Nat))],[],[]⟩:VSt)) (λi=>m.C.length-i)
  0 (by kernel_rfl) (nZl _) (Can.sub (by simp[go_sem,jP]) (by simp[go_sem])) ?_
 rintro i hi;simp only[go_sem];by_cases hlt:i<m.C.length
 ·have e:decide ((i:Int)<(m.C.length:Nat))=true:=dEt (by omega);have hc:=gEg hlt;generalize m.C[i]=c at hc;simp only[e,gMp,hc,oMs,go_sem];refine Jv (k:=5) rfl (by simp[go_sem]) ⟨_,rfl⟩ (by decide) ?_;simp only[go_sem];refine qL XR ?_;simp only[go_sem];have ex:=qGL hc;have hn:jP (m.C.take i)<=i:=nLt VA (by simp;omega);refine qL Za ?_;have ew:∀j:Nat,jP (m.C.take (i+1))=j->IntKind.i64.wrap (((jP (m.C.take i):Nat):Int)+(if decide (c.K=0)=true then 1 else 0))=(j:Nat):=λj hj=>by
   by_cases hk:c.K=0
   ·simp only[hk,decide_true,if_true];rw[iP hk]at ex;rw[wsA];omega
   ·simp only[hk,decide_false,bFt,if_false];rw[iN hk]at ex;rw[wsA];omega
  simp only[go_sem,ew _ rfl,wuA (n:=i)];refine lqA (i+1)
 ·have e:decide ((i:Int)<(m.C.length:Nat))=false:=dEf (by omega);simp only[e,go_sem];rw[tOl (by omega)];have hn:=VA (C:=m.C);generalize hF:jP m.C=F at hn;generalize hR:wP m.C F m.F=R;refine Sem.loop (λa:Nat×Int=>a.1<=F/\wP m.C (F-a.1) a.2=R)
   (λa=>(⟨[(0,.ept m.enc 0),(2,.bool false),(26,iI (F:Nat)),(27,iI (a.1:Nat)),(6,iI a.2)],[],[]⟩:VSt)) (λa=>F-a.1)
   (0,m.F) (by kernel_rfl) ⟨nZl _,hR⟩ csA ?_
  rintro⟨n,a⟩ ⟨h1,h2⟩;simp only at h1 h2;simp only[go_sem];by_cases hlt:n<F
  case neg=>
   have e:decide ((n:Int)<(F:Nat))=false:=dEf (by omega);simp only[e,go_sem];rw[show F-n=0 by omega]at h2;exact qM rfl (by rw[<-h2];rfl)
  have e:decide ((n:Int)<(F:Nat))=true:=dEt (by omega);obtain⟨r,hr⟩:∃r,F-n=r+1:=⟨F-n-1,by omega⟩;rw[hr]at h2;simp only[e,go_sem];refine qL Yl ?_;rw[qGW];simp only[go_sem];cases hi:inI a 0 ((m.C.length:Int)-1)
  ·simp only[go_sem];exact qM rfl (by rw[<-h2,qA0 hi])
  simp only[go_sem];have hj:=hi;simp only[inI,bAt,dTe]at hj;obtain⟨k,rfl⟩:=eOz hj.1;have hk:k<m.C.length:=by omega
  have hc:=gEg hk;generalize m.C[k]=c at hc;rw[qAZ hc]at h2;simp only[gMp,hc,oMs,go_sem];refine qL XR ?_;simp only[go_sem];by_cases h0:c.K=0
  ·simp only[h0,go_sem,gMp,hc,oMs];simp only[wuA (n:=n)];refine qa (n+1,c.V) ⟨by simp only;omega, ?_⟩ (by simp only;omega) csA;rw[<-h2];simp only[h0,decide_true,Bool.true_and];rw[show F-(n+1)=r by omega]
  ·simp only[h0,decide_false,go_sem];exact qM rfl (by rw[<-h2];simp[h0])
theorem qk2{c:qC}(hz:c.sz<=1048575):Pure Gm 1357 [c.enc] (.bool (!JP c)):=by
 refine pJ KN ?_;simp only[KN,qN,go_sem];refine qX rfl ?_;simp only[go_sem];refine qL (qk3 hz) ?_;simp only[go_sem];exact qM rfl rfl
theorem qk5{m:qH}{w:qE}:Pure Gm 1361 [w.enc,.ept (.ept m.enc 0) 0] (.bool (!wm m.C w)):=by
 refine pJ KQ ?_;simp only[KQ,qN,go_sem];refine qX rfl ?_;simp only[go_sem];refine qL qk6 ?_;simp only[go_sem];exact qM rfl rfl
theorem qk8{m:qH}{p:qF}:Pure Gm 1364 [p.enc,.ept (.ept m.enc 0) 0] (.bool (!jn m.C p)):=by
 refine pJ KS ?_;simp only[KS,qN,go_sem];refine qX rfl ?_;simp only[go_sem];refine qL qk9 ?_;simp only[go_sem];exact qM rfl rfl
theorem qk1{xs:List qC}(hx:∀c∈xs,c.sz<=1048575)(hl:xs.length<=1048576):Pure Gm 1356 [.lst 5 (xs.map qC.enc) false,.fn 1357 []] (.bool (xs.any λc=> !JP c)):=
 WO qC.isSh (gc:=1482) (gk _ qDZ) (gk _ qD3) _ (λc=> !JP c) rfl xs (λc hc=>⟨1357,[],rfl,qk2 (hx c hc)⟩) hl
theorem qk4{m:qH}{xs:List qE}(hl:xs.length<=1048576):Pure Gm 1359 [.lst 2 (xs.map qE.enc) false,.fn 1361 [.ept (.ept m.enc 0) 0]] (.bool (xs.any λc=> !wm m.C c)):=
 WO qE.isSh (gc:=1483) (gk _ qD0) (gk _ qD4) _ (λc=> !wm m.C c) (by simp[AV.trees,AV.tree,go_sem]) xs (λc hc=>⟨1361,[.ept (.ept m.enc 0) 0],rfl,qk5⟩) hl
theorem qk7{m:qH}{xs:List qF}(hl:xs.length<=1048576):Pure Gm 1363 [.lst 2 (xs.map qF.enc) false,.fn 1364 [.ept (.ept m.enc 0) 0]] (.bool (xs.any λc=> !jn m.C c)):=
 WO qF.isSh (gc:=1485) (gk _ qD1) (gk _ qD5) _ (λc=> !jn m.C c) (by simp[AV.trees,AV.tree,go_sem]) xs (λc hc=>⟨1364,[.ept (.ept m.enc 0) 0],rfl,qk8⟩) hl
theorem qJW{m:qH}{h0:List qA}(hs:m.C.length<=1048576)(hw:(m.C.flatMap (·.W)).length<=2000000):SCall Gm 1360 [.ept m.enc 0] h0 (λv h'=>Up (λ_=>False) h0 h'/\∃id,h0.length<=id/\v=.slice 2 id 0 (qd m).length false/\h'[id]?=some (.row 2 ((qd m).map qE.enc) true)):=by
 refine sI KP ?_;simp only[KP,qN,go_sem];refine Sem.loop (λa:Nat×AV×List qA=>a.1<=m.C.length/\Up (λ_=>False) h0 a.2.2/\LsW (λj=>h0.length<=j) 2 a.2.2 a.2.1 ((m.O::(m.C.take a.1).flatMap (·.W)).map qE.enc))
  (λa=>(⟨[(14,.lst 5 (m.C.map qC.enc) false),(15,iI (m.C.length:Nat)),(3,a.2.1),(16,iI (a.1:Nat))],[],a.2.2⟩:VSt)) (λa=>m.C.length-a.1)
  (0,sQ 2 h0.length 1,_) (by kernel_rfl) ⟨nZl _,Up.app _,.inr ⟨h0.length,nLr _,rfl,by simp⟩⟩ csA ?_
 rintro⟨i,v,h⟩ ⟨hi,u0,I⟩;simp only at hi u0 I;simp only[go_sem];by_cases hlt:i<m.C.length
 ·have e:decide ((i:Int)<(m.C.length:Nat))=true:=dEt (by omega);have hc:=gEg hlt;generalize m.C[i]=c at hc;simp only[e,gMp,hc,oMs,go_sem];refine Jv (k:=5) rfl (by simp[go_sem]) ⟨_,rfl⟩ (by decide) ?_;simp only[go_sem];have ex:=qGI hc;have hl:=qGH (C:=m.C) (i:=i+1);rw[ex,lAp]at hl;refine qEC I Els.lst (by simp only[lMp,lCo];omega) λh3 u3 v3 l3=>?_;simp only[go_sem,wuA (n:=i)];refine qa (i+1,.slice 2 h.length 0 (((m.O::(m.C.take i).flatMap (·.W)).map qE.enc).length+(c.W.map qE.enc).length) false,h3) ⟨by simp only;omega,u0.trans u3 (λj hj q=>by have:=q.1;omega),.inr ⟨h.length,u0.1, ?_, ?_⟩⟩ (by simp only;omega) csA
  ·simp only[ex,lMp,lCo,lAp];rw[show ∀a b:Nat,a+b+1=a+1+b from λa b=>by omega]
  ·simp only[ex];rw[v3];simp
 ·have e:decide ((i:Int)<(m.C.length:Nat))=false:=dEf (by omega);simp only[e,go_sem];rw[tOl (by omega)]at I;rcases I with⟨_,h2⟩ | ⟨id,q1,q2,q3⟩
  ·cases h2
  ·exact⟨u0,id,q1,by rw[q2,lMp,qd],q3⟩
noncomputable def Wo(m:qH):Bool:= @decide (∀(k:Nat)(c:qC),m.C[k]?=some c->zy m k=zU c) (Classical.propDecidable _)
theorem Vk{m:qH}:Wo m=true↔∀(k:Nat)(c:qC),m.C[k]?=some c->zy m k=zU c:=by unfold Wo;exact @decide_eq_true_iff _ (Classical.propDecidable _)
theorem Vl{m:qH}{k:Nat}{c:qC}(hc:m.C[k]?=some c)(h:zy m k≠zU c):Wo m=false:=Bool.eq_false_iff.2 λq=>h (Vk.1 q k c hc)
theorem qlA{m:qH}(hs:m.C.length<=1048576)(hfm:(m.C.flatMap (·.W)).length<=1048576)(hrl:m.R.length<=1048576)(hW:∀w∈qd m,wOk m.C w)(hR:∀p∈m.R,jn m.C p=true):Pure Gm 1366 [.ept m.enc 0,.nils] (.bool (Wo m)):=by
 refine pJ KU ?_;simp only[KU,qN,go_sem];refine Jx (by unfold LIM;omega) ?_;simp only[go_sem];refine qu (SCall.mono (qJW (by omega) (by omega)) ?_);rintro v1 h1 ⟨up1,wd,hwd,rfl,hw1⟩;have hLl:(qd m).length<=1048577:=by rw[qd,lCo];omega
 simp only[go_sem];refine WG (ys:=[]) ⟨trivial,rfl⟩ hw1 (by rw[lMp]) (by simp only[lNi];omega) ?_;simp only[go_sem,nAz,lAn];have g1:(h1.set wd .dead++[qA.row 2 ((qd m).map qE.enc) true])[0]?=some (.row 1 (jI m.C.length λk=>cw k ((qd m).take 0)) true):=by
  have:=up1.1;simp only[lAp,lCo,lNi]at this hwd;rw[gAl (by rw[lLs];omega),gSn (by omega)];refine up1.at ?_ id;show some (qA.row 1 (List.replicate m.C.length (AV.int .i64 0)) true)=_;rw[<-qFP];rfl
 have g2:(h1.set wd .dead++[qA.row 2 ((qd m).map qE.enc) true])[h1.length]?=some (.row 2 ((qd m).map qE.enc) true):=by
  rw[gAr (by rw[lLs];omega),lLs,nSs];rfl
 generalize h1.set wd .dead++[qA.row 2 ((qd m).map qE.enc) true]=h2 at g1 g2;generalize h1.length=wp at g2;clear hw1 up1 hwd;refine Sem.loop (λa:Nat×List qA=>a.1<=(qd m).length/\a.2[0]?=some (.row 1 (jI m.C.length λk=>cw k ((qd m).take a.1)) true)/\a.2[wp]?=some (.row 2 ((qd m).map qE.enc) true))
  (λa=>(⟨[(0,.ept m.enc 0),(4,.bool false),(5,sQ 1 0 m.C.length),(22,.slice 2 wp 0 (qd m).length false),(23,iI ((qd m).length:Nat)),(24,iI (a.1:Nat))],[],a.2⟩:VSt)) (λa=>(qd m).length-a.1)
  (0,h2) (by kernel_rfl) ⟨nZl _,g1,g2⟩ csA ?_
 clear g1 g2;rintro⟨i,h⟩ ⟨hi,g1,g2⟩;simp only at hi g1 g2;simp only[go_sem];by_cases hlt:i<(qd m).length
 ·have e:decide ((i:Int)<((qd m).length:Nat))=true:=dEt (by omega);have hc:=gEg hlt;generalize (qd m)[i]=w at hc;have hm:=lMo hc;obtain⟨k,d,hw1,hw2,hw3⟩:=hW w hm;have hk:=zO hw2;simp only[e,qS hlt,nZa,g2,gMp,hc,oMs,go_sem];refine lsA ?_;simp only[hw1,qS hk,nZa,g1,jh hk,go_sem];have hcl:=Zc (ws:=(qd m).take i) (k:=k);rw[lLt]at hcl;simp only[jO (show cw k ((qd m).take i)<4611686018427387904 by omega)];refine zX rfl g1 (jh hk) rfl ?_;simp only[go_sem,wuA (n:=i)];have hne:=qHW g1 g2 (by simp);refine qa (i+1,h.set 0 (.row 1 ((jI m.C.length λk=>cw k ((qd m).take i)).set k (iI ((cw k ((qd m).take i)+1:Nat):Int))) true)) ⟨by simp only;omega, ?_, ?_⟩ (by simp only;omega) csA
  ·rw[gSs (qz g1),WM (g:=λk=>cw k ((qd m).take (i+1)))]
   ·simp only[Yw hc,hw1,if_true]
   ·intro j hj;simp only[Yw hc,hw1];rw[iN (by omega),nAz]
  ·rw[gSn hne];exact g2
 have e:decide ((i:Int)<((qd m).length:Nat))=false:=dEf (by omega);simp only[e,go_sem];rw[tOl (by omega)]at g1;clear g2;refine Sem.loop (λa:Nat×List qA=>a.1<=m.R.length/\a.2[0]?=some (.row 1 (jI m.C.length λk=>cw k (qd m)+cr k (m.R.take a.1)) true))
  (λa=>(⟨[(0,.ept m.enc 0),(4,.bool false),(5,sQ 1 0 m.C.length),(39,.lst 2 (m.R.map qF.enc) false),(40,iI (m.R.length:Nat)),(41,iI (a.1:Nat))],[],a.2⟩:VSt)) (λa=>m.R.length-a.1)
  (0,h) (by kernel_rfl) ⟨nZl _,g1⟩ csA ?_
 clear g1 hlt e hi;rintro⟨i,h⟩ ⟨hi,g1⟩;simp only at hi g1;simp only[go_sem];by_cases hlt:i<m.R.length
 ·have e:decide ((i:Int)<(m.R.length:Nat))=true:=dEt (by omega);have hc:=gEg hlt;generalize m.R[i]=p at hc;have hm:=lMo hc;have hp:=hR p hm;simp only[e,gMp,hc,oMs,go_sem];refine lsA ?_;obtain⟨A,B⟩:=p;simp only[jn,bAt,inI,dTe]at hp;obtain⟨ka,rfl⟩:=eOz hp.1.1.2.1;obtain⟨kb,rfl⟩:=eOz (show 0<=B by omega);have hka:ka<m.C.length:=by omega
  have hkb:kb<m.C.length:=by omega
  simp only[qS hka,nZa,g1,jh hka,go_sem];have hcl:=Zc (ws:=qd m) (k:=ka);have hcl2:=Zc (ws:=qd m) (k:=kb);have hcr:=XX (rx:=m.R.take i) (k:=ka);have hcr2:=XX (rx:=m.R.take i) (k:=kb);rw[lLt]at hcr hcr2;simp only[jO (show cw ka (qd m)+cr ka (m.R.take i)<4611686018427387904 by omega)];refine zX rfl g1 (jh hka) rfl ?_;have g3:(h.set 0 (.row 1 ((jI m.C.length λk=>cw k (qd m)+cr k (m.R.take i)).set ka (iI ((cw ka (qd m)+cr ka (m.R.take i)+1:Nat):Int))) true))[0]?=some (.row 1 (jI m.C.length λk=>cw k (qd m)+cr k (m.R.take i)+if ka=k then 1 else 0) true):=by
   rw[gSs (qz g1),WM (g:=λk=>cw k (qd m)+cr k (m.R.take i)+if ka=k then 1 else 0)]
   ·simp only[if_true]
   ·intro j hj;rw[iN (Ne.symm hj)];rfl
  generalize h.set 0 _=h3 at g3;have hab:ka≠kb:=by omega
  simp only[qS hkb,nZa,g3,jh hkb,iN hab,nAz,go_sem];simp only[jO (show cw kb (qd m)+cr kb (m.R.take i)<4611686018427387904 by omega)];refine zX rfl g3 (jh hkb) rfl ?_;simp only[go_sem,wuA (n:=i)];refine qa (i+1,h3.set 0 (.row 1 ((jI m.C.length λk=>cw k (qd m)+cr k (m.R.take i)+if ka=k then 1 else 0).set kb (iI ((cw kb (qd m)+cr kb (m.R.take i)+1:Nat):Int))) true)) ⟨by simp only;omega, ?_⟩ (by simp only;omega) csA;rw[gSs (qz g3),WM (g:=λk=>cw k (qd m)+cr k (m.R.take (i+1)))]
  ·simp only[Yv hc,if_true];rw[iN (by omega)];omega
  ·intro j hj;simp only[Yv hc];rw[iN (show ¬(kb:Int)=j by omega)];by_cases q:ka=j
   ·rw[iP q,iP (by omega)];omega
   ·rw[iN q,iN (by omega)];omega
 have e:decide ((i:Int)<(m.R.length:Nat))=false:=dEf (by omega);simp only[e,go_sem];rw[tOl (by omega)]at g1;refine Sem.loop (λi:Nat=>i<=m.C.length/\∀(k:Nat)(c:qC),k<i->m.C[k]?=some c->zy m k=zU c)
  (λi=>(⟨[(4,.bool false),(5,sQ 1 0 m.C.length),(63,.lst 5 (m.C.map qC.enc) false),(64,iI (m.C.length:Nat)),(65,iI (i:Nat))],[],h⟩:VSt)) (λi=>m.C.length-i)
  0 (by kernel_rfl) ⟨nZl _,λk c hk=>by omega⟩ csA ?_
 clear hlt e hi;rintro i ⟨hi,hI⟩;simp only[go_sem];by_cases hlt:i<m.C.length
 ·have e:decide ((i:Int)<(m.C.length:Nat))=true:=dEt (by omega);have hc:=gEg hlt;generalize m.C[i]=c at hc;simp only[e,gMp,hc,oMs,go_sem];refine Jv (k:=5) rfl (by simp[go_sem]) ⟨_,rfl⟩ (by decide) ?_;simp only[go_sem];refine qL XR ?_;have hnext:zy m i=zU c->∀(k:Nat)(c:qC),k<i+1->m.C[k]?=some c->zy m k=zU c:=λq k d hk hd=>by
   by_cases e:k=i
   ·subst e;rw[hc]at hd;cases hd;exact q
   ·exact hI k d (by omega) hd
  simp only[go_sem];by_cases h0:c.K=0
  ·have ew:zU c=0:=by rw[zU,iP h0]
   simp only[h0,go_sem];simp only[qS hlt,nZa,g1,jh hlt,go_sem];by_cases hq:((cw i (qd m)+cr i m.R:Nat):Int)=0
   ·simp only[hq,go_sem,wuA (n:=i)];refine qa (i+1) ⟨by omega,hnext (by rw[ew];unfold zy;omega)⟩ (by omega) csA
   ·simp only[hq,decide_false,go_sem];exact qM rfl (by rw[Vl hc (by rw[ew];unfold zy;omega)])
  ·simp only[h0,decide_false,go_sem];refine qL XQ ?_;simp only[go_sem];by_cases h13:c.K=13
   ·simp only[h13,go_sem];by_cases hn:c.W=[]
    ·have ew:zU c=2:=by rw[zU,iN h0,iP ⟨h13,hn⟩]
     simp only[hn,List.map_nil,Int.natCast_zero,go_sem];simp only[qS hlt,nZa,g1,jh hlt,go_sem];by_cases hq:((cw i (qd m)+cr i m.R:Nat):Int)=2
     ·simp only[hq,go_sem,wuA (n:=i)];refine qa (i+1) ⟨by omega,hnext (by rw[ew];unfold zy;omega)⟩ (by omega) csA
     ·simp only[hq,decide_false,go_sem];exact qM rfl (by rw[Vl hc (by rw[ew];unfold zy;omega)])
    ·have ew:zU c=1:=by rw[zU,iN h0,iN (by simp[hn])]
     have en:decide ((c.W.length:Int)=0)=false:=dEf λq=>hn (lEz (by omega));simp only[en,go_sem];simp only[qS hlt,nZa,g1,jh hlt,go_sem];by_cases hq:((cw i (qd m)+cr i m.R:Nat):Int)=1
     ·simp only[hq,go_sem,wuA (n:=i)];refine qa (i+1) ⟨by omega,hnext (by rw[ew];unfold zy;omega)⟩ (by omega) csA
     ·simp only[hq,decide_false,go_sem];exact qM rfl (by rw[Vl hc (by rw[ew];unfold zy;omega)])
   ·have ew:zU c=1:=by rw[zU,iN h0,iN (by simp[h13])]
    simp only[h13,decide_false,go_sem];simp only[qS hlt,nZa,g1,jh hlt,go_sem];by_cases hq:((cw i (qd m)+cr i m.R:Nat):Int)=1
    ·simp only[hq,go_sem,wuA (n:=i)];refine qa (i+1) ⟨by omega,hnext (by rw[ew];unfold zy;omega)⟩ (by omega) csA
    ·simp only[hq,decide_false,go_sem];exact qM rfl (by rw[Vl hc (by rw[ew];unfold zy;omega)])
 have e:decide ((i:Int)<(m.C.length:Nat))=false:=dEf (by omega);simp only[e,go_sem];exact qM rfl (by rw[Vk.2 λk c hc=>hI k c (by have:=zO hc;omega) hc])
theorem qlZ{c:qC}{s:Int}(h:JD c s=true):JP c=true:=by
 unfold JD at h;unfold JP;by_cases h0:c.K=0
 ·rw[iP h0]at h;rw[iN (by rw[h0];decide),iN (by omega)];simp only[bAt,dTe]at h|-;exact⟨⟨⟨h0,h.1.1.1⟩,h.1.1.2⟩,h.1.2⟩
 ·rw[iN h0]at h;by_cases h1:c.K=13
  ·rw[iP h1]at h;rw[iN (by rw[h1];decide),iP h1];simp only[bAt,dTe]at h|-;exact⟨h.1,by omega⟩
  ·rw[iN h1]at h;by_cases h2:qy c.K=true
   ·rw[iP h2]at h|-;exact h
   ·rw[iN h2]at h;cases h
theorem ql0{c:qC}{s:Int}(h:JP c=true)(hv:c.K=0->inI c.V (-1) (s-1)=true):JD c s=true:=by
 unfold JP at h;unfold JD;by_cases h2:qy c.K=true
 ·have:=Xn h2;rw[iP h2]at h;rw[iN this.1,iN this.2,iP h2];exact h
 ·rw[iN h2]at h;by_cases h1:c.K=13
  ·rw[iP h1]at h;rw[iN (by omega),iP h1];simp only[bAt,dTe]at h|-;exact⟨h.1,by omega⟩
  ·rw[iN h1]at h;simp only[bAt,dTe]at h;rw[iP h.1.1.1];simp only[bAt,dTe];exact⟨⟨⟨h.1.1.2,h.1.2⟩,h.2⟩,hv h.1.1.1⟩
theorem qJH{C:List qC}(ha:allW C):∀{n:Nat}{w:qE},wOk C w->(J1 C n w).2=(res C n w).2/\((res C n w).2=true->J1 C n w=res C n w)
 | 0,w,_=>⟨rfl,λh=>by cases h⟩
 | n+1,⟨t,a⟩,⟨k,c,e,hc,hk⟩=>by
  simp only at e hk;subst e;rcases hk with⟨rfl,hk⟩ | ⟨rfl,hk⟩
  ·exact⟨rfl,λ_=>rfl⟩
  ·rw[J1,res,iN (show ¬(2:Int)=1 by decide),iN (by simp),YX hc];cases hw:c.W with
   | nil=>exact⟨rfl,λ_=>rfl⟩
   | cons x ws=>exact qJH ha (ha k c hc x (by rw[hw];exact .head _))
theorem VM.occ{m:qH}(h:VM m):Wo m=true:=Vk.2 λk c hc=>by
 rw[<-h.mi.occ k c hc,qA5,zy,qd,zQ,zQ,Zd];omega
theorem qkG{m:qH}(hz:m.sz<=1048576):Pure Gm 1068 [.ept m.enc 0,.nils] (.bool (JX m)):=by
 have hsz:m.C.length+qJ qC.sz m.C+m.R.length<=1048576:=by unfold qH.sz at hz;exact hz
 refine pJ Uc ?_;simp only[Uc,qN,go_sem];refine Qb rfl ?_;simp only[go_sem];have g0:([]++[qA.row 1 [m.enc.ept 0] true]:List qA)[0]?=some (.row 1 [.ept m.enc 0] true):=rfl;generalize ([]++[qA.row 1 [m.enc.ept 0] true]:List qA)=h0 at g0|-;simp only[g0,go_sem];have bad:∀{P:Prop},(VM m->P)->¬P->JX m=false:=λh n=>QD λv=>n (h v);by_cases n1:m.C.length<1
 ·have e:decide ((m.C.length:Int)<1)=true:=dEt (by omega);simp only[e,go_sem];refine qM rfl (by rw[bad (λv=>v.sz) (by simp only[inI,bAt,dTe];omega)])
 have e:decide ((m.C.length:Int)<1)=false:=dEf (by omega);simp only[e,g0,go_sem];by_cases n2:1500<m.C.length
 ·have e:decide ((1500:Int)<(m.C.length:Nat))=true:=dEt (by omega);simp only[e,go_sem];refine qM rfl (by rw[bad (λv=>v.sz) (by simp only[inI,bAt,dTe];omega)])
 have e:decide ((1500:Int)<(m.C.length:Nat))=false:=dEf (by omega);simp only[e,g0,go_sem];by_cases n3:m.C.length<m.R.length
 ·have e:decide ((m.C.length:Int)<(m.R.length:Nat))=true:=dEt (by omega);simp only[e,go_sem];refine qM rfl (by rw[bad (λv=>v.rs) (by omega)])
 have e:decide ((m.C.length:Int)<(m.R.length:Nat))=false:=dEf (by omega);simp only[e,g0,go_sem];have hfm:=qBJ (C:=m.C);refine qL (qk1 (λc hc=>by have:=z5 (f:=qC.sz) hc;have:=List.length_pos_of_mem hc;omega) (by omega)) ?_;simp only[go_sem];cases e1:m.C.any λc=> !JP c
 case true=>
  simp only[go_sem];obtain⟨c,hc,hn⟩:=List.any_eq_true.1 e1;exact qM rfl (by rw[bad (λv=>qlZ (v.cell c hc)) (by simpa using hn)])
 have hcell:∀c∈m.C,JP c=true:=λc hc=>by
  have:=List.any_eq_false.1 e1 c hc;simpa using this
 simp only[g0,go_sem];refine qu (SCall.mono (qJW (m:=m) (by omega) (by omega)) ?_);rintro v1 h1 ⟨up1,wd,hwd,rfl,hw1⟩;have hLl:(qd m).length<=1048576:=by rw[qd,lCo];omega
 simp only[go_sem];refine WG (ys:=[]) ⟨trivial,rfl⟩ hw1 (by rw[lMp]) (by simp only[lNi];omega) ?_;simp only[go_sem,nAz,lAn];have g1:(h1.set wd .dead++[qA.row 2 ((qd m).map qE.enc) true])[0]?=some (.row 1 [.ept m.enc 0] true):=by
  have:=up1.1;have:=qz g0;rw[gAl (by rw[lLs];omega),gSn (by omega)];exact up1.at g0 id
 have g2:(h1.set wd .dead++[qA.row 2 ((qd m).map qE.enc) true])[h1.length]?=some (.row 2 ((qd m).map qE.enc) true):=by
  rw[gAr (by rw[lLs];omega),lLs,nSs];rfl
 generalize h1.set wd .dead++[qA.row 2 ((qd m).map qE.enc) true]=h2 at g1 g2;generalize h1.length=wp at g2;clear hw1 up1 hwd;have cf:∀(g:Nat),∀p∈[AV.ptr 0 0 0].zip [AV.ept (.ept m.enc 0) 0],Cv h2 p.1 p.2:=λg p hp=>by
  simp only[List.zip_cons_cons,List.zip_nil_left,mCo,List.not_mem_nil,or_false]at hp;rw[hp];exact .ptr g1 (by decide) rfl (.refl (by simp[AV.tree,go_sem]))
 refine wC (vs':=[.lst 2 ((qd m).map qE.enc) false,.fn 1361 [.ept (.ept m.enc 0) 0]]) (Cvs.cons (Cv.row (c:=false) g2 (by simp) (qb qE.isSh.tree _) (by decide)) (Cvs.cons (.fn rfl (cf 0)) .nil)) (qk4 (by omega)) rfl ?_;simp only[go_sem];cases e2:(qd m).any λw=> !wm m.C w
 case true=>
  simp only[go_sem];obtain⟨c,hc,hn⟩:=List.any_eq_true.1 e2;exact qM rfl (by rw[bad (λv=>v.wrd c hc) (by simpa using hn)])
 have hwrd:∀w∈qd m,wm m.C w=true:=λc hc=>by
  have:=List.any_eq_false.1 e2 c hc;simpa using this
 simp only[g1,go_sem];refine wC (vs':=[.lst 2 (m.R.map qF.enc) false,.fn 1364 [.ept (.ept m.enc 0) 0]]) (Cvs.cons (.refl (qb qF.isSh.tree _)) (Cvs.cons (.fn rfl (cf 0)) .nil)) (qk7 (by omega)) rfl ?_;simp only[go_sem];cases e3:m.R.any λp=> !jn m.C p
 case true=>
  simp only[go_sem];obtain⟨c,hc,hn⟩:=List.any_eq_true.1 e3;exact qM rfl (by rw[bad (λv=>v.rdx c hc) (by simpa using hn)])
 have hrdx:∀p∈m.R,jn m.C p=true:=λc hc=>by
  have:=List.any_eq_false.1 e3 c hc;simpa using this
 have hW:∀w∈qd m,wOk m.C w:=λw hw=>UT.1 (hwrd w hw);have hAW:allW m.C:=λk c hc w hw=>hW w (.tail _ (List.mem_flatMap.2 ⟨c,lMo hc,hw⟩));simp only[g1,go_sem];refine qL (qlA (by omega) (by omega) (by omega) hW hrdx) ?_;simp only[go_sem];cases e4:Wo m
 case false=>
  simp only[go_sem];exact qM rfl (by rw[bad (λv=>v.occ) (by simp[e4])])
 simp only[g1,go_sem];refine qL (qlB (by omega)) ?_;simp only[go_sem];cases e5:wP m.C (jP m.C) m.F
 case false=>
  simp only[go_sem];exact qM rfl (by rw[bad (λv=>v.chn) (by simp[e5])])
 simp only[g1,go_sem];refine Sem.loop (λi:Nat=>i<=m.C.length/\∀(k:Nat)(c:qC),k<i->m.C[k]?=some c->c.K=13->(res m.C (m.C.length+1) ⟨2,k⟩).2=true)
  (λi=>(⟨[(2,.ptr 0 0 0),(4,.bool false),(69,.lst 5 (m.C.map qC.enc) false),(70,iI (m.C.length:Nat)),(71,iI (i:Nat))],[],h2⟩:VSt)) (λi=>m.C.length-i)
  0 (by kernel_rfl) ⟨nZl _,λk c hk=>by omega⟩ csA ?_
 rintro i ⟨hi,hI⟩;simp only[go_sem];by_cases hlt:i<m.C.length
 ·have e:decide ((i:Int)<(m.C.length:Nat))=true:=dEt (by omega);have hc:=gEg hlt;generalize m.C[i]=c at hc;simp only[e,gMp,hc,oMs,go_sem];refine Jv (k:=5) rfl (by simp[go_sem]) ⟨_,rfl⟩ (by decide) ?_;simp only[go_sem];refine qL XQ ?_;simp only[go_sem];by_cases h13:c.K=13
  ·have hv:wOk m.C ⟨2,(i:Int)⟩:=⟨i,c,rfl,hc,.inr ⟨rfl,h13⟩⟩;have hr:=(qJH hAW (n:=m.C.length+1) hv).1;simp only[h13,g1,go_sem];refine qL (qkU (w:=⟨2,(i:Int)⟩) (by omega) hv hAW) ?_;simp only[go_sem];refine lsA ?_;simp only[go_sem,hr];cases e6:(res m.C (m.C.length+1) ⟨2,(i:Int)⟩).2
   ·simp only[go_sem];exact qM rfl (by rw[bad (λv=>v.ends i c hc h13) (by simp[e6])])
   ·simp only[go_sem,wuA (n:=i)];refine qa (i+1) ⟨by omega,λk d hk hd h3=>?_⟩ (by omega) csA;by_cases e:k=i
    ·subst e;exact e6
    ·exact hI k d (by omega) hd h3
  ·simp only[h13,decide_false,go_sem,wuA (n:=i)];refine qa (i+1) ⟨by omega,λk d hk hd h3=>?_⟩ (by omega) csA;by_cases e:k=i
   ·subst e;rw[hc]at hd;cases hd;exact absurd h3 h13
   ·exact hI k d (by omega) hd h3
 have e:decide ((i:Int)<(m.C.length:Nat))=false:=dEf (by omega);simp only[e,go_sem];refine qM rfl ?_;have hocc:=Vk.1 e4;rw[Xy.2 ⟨by simp only[inI,bAt,dTe];omega,by omega,λc hc=>?_,hwrd,hrdx,λk c hc=>?_,λk c hc=>hI k c (by have:=zO hc;omega) hc,e5⟩]
 ·obtain⟨k,hk⟩:=List.getElem?_of_mem hc;refine ql0 (hcell c hc) λh0=>?_;obtain⟨L,hL⟩:=FrC.of e5;exact hL.val hk h0
 ·have h:=hocc k c hc;have hv:=hcell c (lMo hc);refine⟨λq=>?_,λq=>?_⟩
  ·have:=Xn q;rw[h,zU,iN this.1,iN (by simp[this.2])]
  ·rw[h,zU,iN (by omega)];unfold JP at hv;rw[iN (by rw[q];decide),iP q]at hv;simp only[bAt,dTe]at hv;by_cases hw:c.W=[]
   ·rw[iP ⟨q,hw⟩,hw];rfl
   ·rw[iN (by simp[hw])];have:c.W.length≠0:=λe=>hw (lEz e);omega
theorem c867{m:qH}(hz:m.sz<=1048576):Pure Gm 867 [m.enc] (.bool (JX m)):=by
 refine pJ F867 ?_;simp only[F867,qN,go_sem];refine Qb rfl ?_;simp only[go_sem];refine wC (vs':=[.ept m.enc 0,.nils]) (Cvs.cons (.ptr rfl (by decide) rfl (.refl qH.tr)) (Cvs.cons (.refl rfl) .nil)) (qkG hz) rfl ?_;simp only[go_sem];exact qM rfl rfl
def cE(c:qC)(dv wv:AV):AV:=.agg [iI c.K,iI c.L,iI c.V,dv,wv]
@[go_sem] theorem qs9{c:qC}{dv wv:AV}:(cE c dv wv).part 0 (some 5)=some (cE c dv wv):=rfl
@[go_sem] theorem qtB{c:qC}{dv wv:AV}:(cE c dv wv).part 0 none=some (iI c.K):=rfl
@[go_sem] theorem qtC{c:qC}{dv wv:AV}:(cE c dv wv).part 1 none=some (iI c.L):=rfl
@[go_sem] theorem qtD{c:qC}{dv wv:AV}:(cE c dv wv).part 2 none=some (iI c.V):=rfl
@[go_sem] theorem qtE{c:qC}{dv wv:AV}:(cE c dv wv).part 3 none=some dv:=rfl
@[go_sem] theorem qtF{c:qC}{dv wv:AV}:(cE c dv wv).part 4 none=some wv:=rfl
@[go_sem] theorem qtA{c:qC}{dv wv:AV}:(cE c dv wv).cells.length=5:=rfl
def CV(P:Nat->Prop)(h:List qA)(v:AV)(c:qC):Prop:=∃dv wv,v=cE c dv wv/\LsW P 1 h dv (c.D.map qQ)/\LsW P 2 h wv (c.W.map qE.enc)
def mE(m:qH)(cid:Nat)(rv:AV)(post:List AV):AV:=.agg (sQ 5 cid m.C.length::iI m.F::iI m.O.T::iI m.O.I::rv::post)
theorem X5{cs:List AV}{n:Nat}{x v:AV}(hv:v.cells=[v])(hn:cs[n]?=some x):(AV.agg cs).put n v=some (.agg (cs.set n v)):=by
 have hl:=qz hn;show (if n+v.cells.length<=cs.length then some (AV.agg (List.take n cs++(v.cells++List.drop (n+v.cells.length) cs)))else none)=_;rw[hv,iP (by simp;omega)];simp only[lCo,lNi,nZa];rw[List.set_eq_take_append_cons_drop,iP hl];rfl
section
variable {m:qH} {cid:Nat} {rv:AV} {post:List AV}
theorem qo1{f:Int}:(mE m cid rv post).put 1 (iI f)=some (mE {m with F:=f} cid rv post):=X5 rfl rfl
theorem qo2{rx:List qF}{rv':AV}(hv:rv'.cells=[rv']):(mE m cid rv post).put 4 rv'=some (mE {m with R:=rx} cid rv' post):=X5 hv rfl
@[go_sem] theorem qwH:(mE m cid rv post).part 0 none=some (sQ 5 cid m.C.length):=rfl
@[go_sem] theorem qwI:(mE m cid rv post).part 1 none=some (iI m.F):=rfl
@[go_sem] theorem qwJ:(mE m cid rv post).part 4 none=some rv:=rfl
end
structure MO(w mid:Nat)(post:List AV)(ow:Nat->Nat)(h:List qA)(m:qH)(cid:Nat)(cs:List AV)(rv:AV):Prop where
 o:h[mid]?=some (.row w [mE m cid rv post] true)
 c:h[cid]?=some (.row 5 cs true)
 l:cs.length=m.C.length
 e:∀(k:Nat)(c:qC),m.C[k]?=some c->∃v,cs[k]?=some v/\CV (λj=>ow j=k+3) h v c
 r:LsW (λj=>ow j=2) 2 h rv (m.R.map qF.enc)
 m1:ow mid=1
 c1:ow cid=1
 ne:mid≠cid
 b:∀j,ow j≠0->j<h.length
def MH(w mid:Nat)(post:List AV)(ow:Nat->Nat)(h:List qA)(m:qH):Prop:=∃cid cs rv,MO w mid post ow h m cid cs rv
structure Fo(ow:Nat->Nat)(h:List qA)(ow':Nat->Nat)(h':List qA):Prop where
 l:h.length<=h'.length
 k:∀j,j<h.length->ow j=0->ow' j=0/\h'[j]?=h[j]?
section
variable {w mid cid k:Nat} {post cs:List AV} {ow ow' ow1 ow2:Nat->Nat} {h h' h1 h2:List qA} {m:qH} {rv v v':AV} {c c':qC} {P Q:Nat->Prop}
theorem Fo.refl:Fo ow h ow h:=⟨nLr _,λ_ _ q=>⟨q,rfl⟩⟩
theorem Fo.trans(x:Fo ow h ow1 h1)(y:Fo ow1 h1 ow2 h2):Fo ow h ow2 h2:=⟨nLt x.l y.l,λj hj q=>by
 obtain⟨a,b⟩:=x.k j hj q;obtain⟨a',b'⟩:=y.k j (nLl hj x.l) a;exact⟨a',b'.trans b⟩⟩
theorem Fo.app(o:List qA):Fo ow h ow (h++o):=⟨by simp,λj hj q=>⟨q,gAl hj⟩⟩
theorem Fo.at{o:qA}(x:Fo ow h ow1 h1){j:Nat}(q:h[j]?=some o)(z:ow j=0):h1[j]?=some o/\ow1 j=0:=by
 obtain⟨a,b⟩:=x.k j (qz q) z;exact⟨b.trans q,a⟩
theorem LsW.mono{w:Nat}{el:List AV}(x:LsW P w h v el)(k:∀j,j<h.length->P j->Q j/\h1[j]?=h[j]?):LsW Q w h1 v el:=by
 rcases x with x | ⟨id,q1,q2,q3⟩
 ·exact .inl x
 ·obtain⟨a,b⟩:=k id (qz q3) q1;exact .inr ⟨id,a,q2,b.trans q3⟩
theorem CV.mono(x:CV P h v c)(k:∀j,j<h.length->P j->Q j/\h1[j]?=h[j]?):CV Q h1 v c:=by
 obtain⟨dv,wv,e,a,b⟩:=x;exact⟨dv,wv,e,a.mono k,b.mono k⟩
theorem CV.free{n:Int}:CV P h (.agg [iI 0,iI 0,iI n,.nils,.nils]) (zq n):=⟨.nils,.nils,rfl,.inl ⟨rfl,rfl⟩,.inl ⟨rfl,rfl⟩⟩
theorem CV.cells(x:CV P h v c):v.cells.length=5:=by
 obtain⟨dv,wv,rfl,_⟩:=x;rfl
theorem CV.agg(x:CV P h v c):∃cs,v=.agg cs:=by
 obtain⟨dv,wv,rfl,_⟩:=x;exact⟨_,rfl⟩
noncomputable def owC(ow:Nat->Nat)(k:Nat)(T:Nat->Prop)(j:Nat):Nat:= @ite _ (T j) (Classical.propDecidable _) (k+3) (if ow j=k+3 then 0 else ow j)
theorem qqF{T:Nat->Prop}{j:Nat}(h:T j):owC ow k T j=k+3:=iP h
theorem Ja{T:Nat->Prop}{j:Nat}(h:¬T j):owC ow k T j=if ow j=k+3 then 0 else ow j:=iN h
theorem MO.cell(M:MO w mid post ow h m cid cs rv)(T:Nat->Prop)(hc:m.C[k]?=some c)(hcid:h'[cid]?=some (.row 5 (cs.set k v') true))(hlen:h.length<=h'.length)
  (ho:∀j,j<h.length->ow j≠0->j≠cid->ow j≠k+3->h'[j]?=h[j]?) (hT:∀j,T j->j<h'.length/\(h.length<=j\/ow j=0\/ow j=k+3)) (hv:CV T h' v' c'):
  MO w mid post (owC ow k T) h' {m with C:=m.C.set k c'} cid (cs.set k v') rv where
 o:=by
  rw[ho mid (qz M.o) (by rw[M.m1];decide) M.ne (by rw[M.m1];omega),M.o];simp[mE]
 c:=hcid
 l:=by simp[M.l]
 e:=λl d hd=>by
  have hk:k<m.C.length:=zO hc;by_cases e:l=k
  ·subst e;rw[gSs hk]at hd;cases hd;refine⟨v',gSs (by rw[M.l];exact hk), ?_⟩;exact hv.mono λj _ q=>⟨qqF q,rfl⟩
  ·rw[gSn (Ne.symm e)]at hd;obtain⟨u,u1,u2⟩:=M.e l d hd;refine⟨u,by rw[gSn (Ne.symm e)];exact u1,u2.mono λj hj q=>?_⟩;have nc:j≠cid:=λe=>by subst e;rw[M.c1]at q;omega
   refine⟨?_,ho j hj (by omega) nc (by omega)⟩;rw[Ja λt=>by have:=(hT j t).2;omega,iN (by omega)];exact q
 r:=M.r.mono λj hj q=>by
  have nc:j≠cid:=λe=>by subst e;rw[M.c1]at q;omega
  refine⟨?_,ho j hj (by omega) nc (by omega)⟩;rw[Ja λt=>by have:=(hT j t).2;omega,iN (by omega)];exact q
 m1:=by rw[Ja λt=>by have:=(hT mid t).2;have:=M.m1;have:=qz M.o;omega,iN (by rw[M.m1];omega)];exact M.m1
 c1:=by rw[Ja λt=>by have:=(hT cid t).2;have:=M.c1;have:=qz M.c;omega,iN (by rw[M.c1];omega)];exact M.c1
 ne:=M.ne
 b:=λj hj=>by
  by_cases t:T j
  ·exact(hT j t).1
  ·rw[Ja t]at hj;refine nLl (M.b j λe=>hj ?_) hlen;rw[iN (by omega)];exact e
theorem qCI{T:Nat->Prop}(hh:∀j,j<h.length->ow j=0->¬T j->h'[j]?=h[j]?)(hl:h.length<=h'.length)(ht:∀j,T j->j<h.length->ow j=k+3):Fo ow h (owC ow k T) h':=⟨hl,λj hj q=>by
 have nt:¬T j:=λt=>by have:=ht j t hj;omega
 exact⟨by rw[Ja nt,iN (by omega)];exact q,hh j hj q nt⟩⟩
theorem MO.top{m':qH}{rv':AV}{post':List AV}(M:MO w mid post ow h m cid cs rv)(hC:m'.C=m.C)(hm:h'[mid]?=some (.row w [mE m' cid rv' post'] true))(hlen:h.length<=h'.length)
  (ho:∀j,j<h.length->ow j≠0->j≠mid->ow j≠2->h'[j]?=h[j]?) (hw:∀j,ow j≠2->ow' j≠2->ow' j=ow j) (h12:∀j,ow j≠2->ow j≠0->ow' j≠2) (hb:∀j,ow' j=2->j<h'.length) (h2:∀j,ow j=2->ow' j=2\/ow' j=0)
  (hr:LsW (λj=>ow' j=2) 2 h' rv' (m'.R.map qF.enc)):MO w mid post' ow' h' m' cid cs rv' where
 o:=hm
 c:=by rw[ho cid (qz M.c) (by rw[M.c1];decide) (Ne.symm M.ne) (by rw[M.c1];decide)];exact M.c
 l:=by rw[hC];exact M.l
 e:=λk d hd=>by
  rw[hC]at hd;obtain⟨u,u1,u2⟩:=M.e k d hd;refine⟨u,u1,u2.mono λj hj q=>?_⟩;have nm:j≠mid:=λe=>by subst e;rw[M.m1]at q;omega
  exact⟨by rw[hw j (by omega) (h12 j (by omega) (by omega))];exact q,ho j hj (by omega) nm (by omega)⟩
 r:=hr
 m1:=by rw[hw mid (by rw[M.m1];decide) (h12 mid (by rw[M.m1];decide) (by rw[M.m1];decide))];exact M.m1
 c1:=by rw[hw cid (by rw[M.c1];decide) (h12 cid (by rw[M.c1];decide) (by rw[M.c1];decide))];exact M.c1
 ne:=M.ne
 b:=λj hj=>by
  by_cases e:ow' j=2
  ·exact hb j e
  ·by_cases e2:ow j=2
   ·have:=h2 j e2;omega
   ·rw[hw j e2 e]at hj;exact nLl (M.b j hj) hlen
theorem MO.heap(M:MO w mid post ow h m cid cs rv)(hlen:h.length<=h'.length)(hh:∀j,j<h.length->ow j≠0->h'[j]?=h[j]?):MO w mid post ow h' m cid cs rv where
 o:=by rw[hh mid (qz M.o) (by rw[M.m1];decide)];exact M.o
 c:=by rw[hh cid (qz M.c) (by rw[M.c1];decide)];exact M.c
 l:=M.l
 e:=λk d hd=>by
  obtain⟨u,u1,u2⟩:=M.e k d hd;exact⟨u,u1,u2.mono λj hj q=>⟨q,hh j hj (by omega)⟩⟩
 r:=M.r.mono λj hj q=>⟨q,hh j hj (by omega)⟩
 m1:=M.m1
 c1:=M.c1
 ne:=M.ne
 b:=λj hj=>nLl (M.b j hj) hlen
theorem MO.app(M:MO w mid post ow h m cid cs rv)(o:List qA):MO w mid post ow (h++o) m cid cs rv:=M.heap (by simp) λj hj _=>gAl hj
theorem MH.heap(M:MH w mid post ow h m)(hlen:h.length<=h'.length)(hh:∀j,j<h.length->ow j≠0->h'[j]?=h[j]?):MH w mid post ow h' m:=by
 obtain⟨cid,cs,rv,M⟩:=M;exact⟨cid,cs,rv,M.heap hlen hh⟩
theorem MH.app(M:MH w mid post ow h m)(o:List qA):MH w mid post ow (h++o) m:=M.heap (by simp) λj hj _=>gAl hj
theorem MH.b(M:MH w mid post ow h m):ow h.length=0:=by
 obtain⟨cid,cs,rv,M⟩:=M;refine Classical.byContradiction λq=>?_;have:=M.b _ q;omega
theorem MO.cv(M:MO w mid [] ow h m cid cs rv):Cv h (mE m cid rv []) m.enc:=by
 have hd:∀p∈cs.zip (m.C.map qC.enc),Cv h p.1 p.2:=λp hp=>by
  obtain⟨k,hk⟩:=List.getElem?_of_mem hp;obtain⟨h1,h2⟩:=List.getElem?_zip_eq_some.1 hk;rw[gMp,oMi]at h2;obtain⟨c,c1,c2⟩:=h2;obtain⟨v,v1,dv,wv,v2,v3,v4⟩:=M.e k c c1;rw[h1]at v1;cases v1;rw[v2,<-c2];have:=Cvs.cons (Cv.ints (h:=h) (x:=c.K)) (Cvs.cons (Cv.ints (x:=c.L)) (Cvs.cons (Cv.ints (x:=c.V)) (Cvs.cons (v3.cv (qb shI.tree _) (by decide)) (Cvs.cons (v4.cv (qb qE.isSh.tree _) (by decide)) Cvs.nil))));exact .agg this.1 this.2
 have hs:Cv h (sQ 5 cid m.C.length) (.lst 5 (m.C.map qC.enc) false):=by
  refine .slc M.c (by rw[M.l];omega) (by decide) (by rw[List.drop_zero,lLt,M.l,lMp];omega) ?_;rw[List.drop_zero,tOl (by rw[M.l];omega)];exact hd
 have:=Cvs.cons hs (Cvs.cons (Cv.ints (x:=m.F)) (Cvs.cons (Cv.ints (x:=m.O.T)) (Cvs.cons (Cv.ints (x:=m.O.I)) (Cvs.cons (M.r.cv (qb qF.isSh.tree _) (by decide)) Cvs.nil))));exact .agg this.1 this.2
end
section
variable {w mid cid k:Nat} {post cs:List AV} {ow ow' ow1 ow2:Nat->Nat} {h h' h1 h2:List qA} {m:qH} {rv v v':AV} {c c':qC} {P Q:Nat->Prop}
theorem sne{o:qA}{j id:Nat}(e:j≠id):(h.set id o)[j]?=h[j]?:=gSn (Ne.symm e)
theorem MO.setC(M:MO w mid post ow h m cid cs rv)(T:Nat->Prop)(hc:m.C[k]?=some c)(hT:∀j,T j->j<h.length/\(ow j=0\/ow j=k+3))(hv:CV T h v' c'):
  MO w mid post (owC ow k T) (h.set cid (.row 5 (cs.set k v') true)) {m with C:=m.C.set k c'} cid (cs.set k v') rv:=by
 refine M.cell T hc (gSs (qz M.c)) (by simp) (λj hj h0 hcj hk=>sne hcj) (λj t=>⟨by simpa using(hT j t).1,.inr (hT j t).2⟩) (hv.mono λj hj t=>⟨t,sne λe=>?_⟩);subst e;have:=(hT j t).2;rw[M.c1]at this;omega
theorem MO.setC_fo(M:MO w mid post ow h m cid cs rv){T:Nat->Prop}(hT:∀j,T j->ow j=k+3):Fo ow h (owC ow k T) (h.set cid (.row 5 (cs.set k v') true)):=
 qCI (λj hj h0 _=>sne λe=>by subst e;rw[M.c1]at h0;omega) (by simp) (λj t _=>hT j t)
theorem MO.setF(M:MO w mid post ow h m cid cs rv)(f:Int):MO w mid post ow (h.set mid (.row w [mE {m with F:=f} cid rv post] true)) {m with F:=f} cid cs rv:=by
 have hl:∀j,ow j≠0->j<h.length:=M.b;refine M.top (m':={m with F:=f}) rfl (gSs (qz M.o)) (by simp) (λj hj h0 hm h2=>sne hm) (λj _ _=>rfl) (λj a b=>a) (λj e=>by rw[lLs];exact hl j (by omega)) (λj e=>.inl e) ?_;exact M.r.mono λj hj q=>⟨q,sne λe=>by subst e;rw[M.m1]at q;omega⟩
theorem MO.setF_fo(M:MO w mid post ow h m cid cs rv){o:qA}:Fo ow h ow (h.set mid o):=⟨by simp,λj hj q=>⟨q,sne λe=>by subst e;rw[M.m1]at q;omega⟩⟩
theorem MO.sto5{E:Ev}{l:List qG}{ks:List Fr1}{s l':qt}{Q:qn->VSt->Prop}(M:MO w mid post ow h m cid cs rv)(hc:m.C[k]?=some c)(h5:v.cells.length=5)(ha:∃cs,v=.agg cs)(hr:R E (.ops l::ks) ⟨s,l',h.set cid (.row 5 (cs.set k v) true)⟩ Q):Sto E 5 (some (.ptr cid k 0)) (some v) l ks ⟨s,l',h⟩ Q:=by
 obtain⟨v0,v1,v2⟩:=M.e k c hc;exact zX h5 M.c v1 (Qh v2.cells h5 ⟨λ_=>ha,λ_=>v2.agg⟩ (by decide)) hr
theorem MO.stoF{E:Ev}{l:List qG}{ks:List Fr1}{s l':qt}{Q:qn->VSt->Prop}(M:MO w mid post ow h m cid cs rv)(f:Int)(hr:R E (.ops l::ks) ⟨s,l',h.set mid (.row w [mE {m with F:=f} cid rv post] true)⟩ Q):Sto E 1 (some (.ptr mid 0 1)) (some (iI f)) l ks ⟨s,l',h⟩ Q:=zX rfl M.o rfl qo1 hr
theorem V3(M:MH w mid post ow h m)(hc:m.C[k]?=some c):SCall Gm 1278 [.ptr mid 0 0,iI (k:Nat)] h (λ_ h'=>∃ow',MH w mid post ow' h' (qV m k)/\Fo ow h ow' h'/\h'.length=h.length/\∀j,j<h.length->ow j=k+3->ow' j=0/\h'[j]?=h[j]?):=by
 obtain⟨cid,cs,rv,M⟩:=M;have hk:=zO hc;refine sI Ux ?_;simp only[Ux,qN,go_sem,M.o,qS hk,nZa];refine M.sto5 hc rfl ⟨_,rfl⟩ ?_;have M1:=M.setC (k:=k) (c':=zq m.F) (λ_=>False) hc (λ_ t=>t.elim) CV.free;have f1:=M.setC_fo (k:=k) (T:=λ_=>False) (v':=.agg [iI 0,iI 0,iI m.F,.nils,.nils]) (λ_ t=>t.elim);simp only[go_sem];refine M1.stoF _ ?_;have M2:=M1.setF (k:Int);simp only[go_sem];refine⟨_,⟨cid,_,rv,by rw[qV,iTn];exact M2⟩,f1.trans M1.setF_fo,by simp,λj hj q=>⟨by rw[Ja (λt=>t),iP q], ?_⟩⟩;rw[sne λe=>by subst e;rw[M.m1]at q;omega,sne λe=>by subst e;rw[M.c1]at q;omega]
structure FoT(T:Nat->Prop)(ow:Nat->Nat)(h:List qA)(ow':Nat->Nat)(h':List qA):Prop where
 l:h.length<=h'.length
 k:∀j,j<h.length->ow j=0->¬T j->ow' j=0/\h'[j]?=h[j]?
theorem FoT.fo{T:Nat->Prop}(x:FoT T ow h ow' h')(n:∀j,j<h.length->ow j=0->¬T j):Fo ow h ow' h':=⟨x.l,λj hj q=>x.k j hj q (n j hj q)⟩
theorem Wv(M:MH w mid post ow h m)(hf:m.F=(k:Nat))(hc:m.C[k]?=some c){T:Nat->Prop}(hT:∀j,T j->j<h.length/\ow j=0)(hv:CV T h v c'):SCall Gm 1282 [.ptr mid 0 0,v] h (λr h'=>r=iI (k:Nat)/\∃ow',MH w mid post ow' h' (qW m c')/\FoT T ow h ow' h'/\h'.length=h.length):=by
 obtain⟨cid,cs,rv,M⟩:=M;have hk:=zO hc;obtain⟨dv',wv',rfl,u2,u3⟩:=id hv;refine sI U4 ?_;simp only[U4,qN,go_sem];refine qX rfl ?_;obtain⟨v0,v1,dv,wv,rfl,v2,v3⟩:=M.e k c hc;simp only[go_sem,M.o,hf,qS hk,nZa,M.c,v1];refine M.stoF _ ?_;have M1:=M.setF c.V;have hv1:CV T (h.set mid (.row w [mE {m with F:=c.V} cid rv post] true)) (cE c' dv' wv') c':=hv.mono λj hj t=>⟨t,sne λe=>by subst e;have:=(hT j t).2;rw[M.m1]at this;cases this⟩;have hl1:∀o,(h.set mid o).length=h.length:=λo=>by simp
 have M2:=M1.setC (k:=k) (c':=c') (v':=cE c' dv' wv') T hc (λj t=>⟨by rw[hl1];exact(hT j t).1,.inl (hT j t).2⟩) hv1;simp only[go_sem,M1.o,qS hk,nZa];refine M1.sto5 hc rfl ⟨_,rfl⟩ ?_;simp only[go_sem];have et:qW m c'={m with F:=c.V,C:=m.C.set k c'}:=by rw[qW,hf,iTn,Je hc]
 refine⟨trivial,_,⟨cid,_,rv,by rw[et];exact M2⟩,⟨by simp,λj hj q n=>⟨by rw[Ja n,iN (by omega)];exact q, ?_⟩⟩,by simp⟩;rw[sne (λe=>by subst e;rw[M.c1]at q;omega),sne (λe=>by subst e;rw[M.m1]at q;omega)]
theorem qCZ(M:MH w mid post ow h m)(hf:m.F=(k:Nat))(hc:m.C[k]?=some c):SCall Gm 1418 [.ptr mid 0 0] h (λr h'=>r=(vwI (k:Nat)).enc/\∃ow',MH w mid post ow' h' (qW m (qg []))/\Fo ow h ow' h'/\h'.length=h.length):=by
 refine sI Kl ?_;simp only[Kl,qN,go_sem];refine qu (SCall.mono (Wv M hf hc (c':=qg []) (v:=cE (qg []) .nils .nils) (T:=λ_=>False) (λ_ t=>t.elim) ⟨.nils,.nils,rfl,.inl ⟨rfl,rfl⟩,.inl ⟨rfl,rfl⟩⟩) ?_);rintro r h' ⟨rfl,ow',M',f,l⟩;simp only[go_sem];refine lsA ?_;simp only[go_sem];exact⟨rfl,ow',M',f.fo λ_ _ _ t=>t,l⟩
def owR(ow:Nat->Nat)(id:Nat)(j:Nat):Nat:=if j=id then 2 else if ow j=2 then 0 else ow j
theorem MO.redx{rx:List qF}{id:Nat}{rv':AV}(M:MO w mid post ow h m cid cs rv)(u:Up (λj=>ow j=2) h h1)(hi:h.length<=id)(hr:h1[id]?=some (.row 2 (rx.map qF.enc) true))(hv:rv'=sQ 2 id rx.length):
  MO w mid post (owR ow id) (h1.set mid (.row w [mE {m with R:=rx} cid rv' post] true)) {m with R:=rx} cid cs rv'/\Fo ow h (owR ow id) (h1.set mid (.row w [mE {m with R:=rx} cid rv' post] true)):=by
 have hm:=qz M.o;have hid:id≠mid:=by omega
 have ho:∀j,j<h.length->j≠mid->ow j≠2->(h1.set mid (.row w [mE {m with R:=rx} cid rv' post] true))[j]?=h[j]?:=λj hj a b=>by
  rw[sne a];have:=gEg hj;rw[this];exact u.at this b
 have n2:∀j,j≠id->owR ow id j=if ow j=2 then 0 else ow j:=λj e=>by rw[owR,iN e]
 have lb:∀j,ow j≠0->j≠id:=λj e=>by have:=M.b j e;omega
 refine⟨M.top (m':={m with R:=rx}) rfl (gSs (nLl hm u.1)) (by rw[lLs];exact u.1) (λj hj a b c=>ho j hj b c) (λj a b=>?_) (λj a b=>?_) (λj e=>?_) (λj e=>?_) (.inr ⟨id,iP rfl,by rw[lMp];exact hv,by rw[sne hid];exact hr⟩),by rw[lLs];exact u.1,λj hj q=>⟨?_,ho j hj (λe=>?_) (by omega)⟩⟩
 ·have:j≠id:=λe=>b (by rw[owR,iP e]);rw[n2 j this,iN a]
 ·rw[n2 j (lb j b),iN a];exact a
 ·rw[lLs];by_cases q:j=id
  ·rw[q];exact qz hr
  ·rw[n2 j q]at e;split at e
   ·cases e
   ·omega
 ·rw[n2 j (lb j (by omega)),iP e];exact .inr rfl
 ·rw[n2 j (by omega),iN (by omega)];exact q
 ·subst e;rw[M.m1]at q;cases q
theorem V8{E:Ev}{l:List qG}{ks:List Fr1}{s l':qt}{Q:qn->VSt->Prop}{rv':AV}(hm:h[mid]?=some (.row w [mE m cid rv post] true))(rx:List qF)(hv:rv'.cells=[rv'])(hr:R E (.ops l::ks) ⟨s,l',h.set mid (.row w [mE {m with R:=rx} cid rv' post] true)⟩ Q):Sto E 1 (some (.ptr mid 0 4)) (some rv') l ks ⟨s,l',h⟩ Q:=zX (by rw[hv];rfl) hm rfl (qo2 hv) hr
theorem V4{a b:Int}(M:MH w mid post ow h m)(hl:m.R.length<=1000000):SCall Gm 1280 [.ptr mid 0 0,iI a,iI b] h (λ_ h'=>∃ow',MH w mid post ow' h' (Jj m a b)/\Fo ow h ow' h'):=by
 obtain⟨cid,cs,rv,M⟩:=M;refine sI Uz ?_;simp only[Uz,qN,go_sem,M.o];refine qL c978 ?_;simp only[go_sem];refine qL c856 ?_;simp only[go_sem];have M1:=M.app [qA.row 2 [AV.agg [iI (if a<b then a else b),iI (if b<a then a else b)]] true];refine Jd M1.r ends (by rw[lMp];omega) λh3 u3 v3 l3=>?_;have hm:=u3.at M1.o (λq=>by have:=q.1;rw[M.m1]at this;omega);simp only[go_sem];have e1:(m.R.map qF.enc)++[AV.agg [iI (if a<b then a else b),iI (if b<a then a else b)]]=((m.R++[(⟨min a b,max a b⟩:qF)]).map qF.enc):=by
  rw[lMa];congr 1;have e1:(if a<b then a else b)=min a b:=by split<;>omega
  have e2:(if b<a then a else b)=max a b:=by split<;>omega
  rw[e1,e2];rfl
 rw[e1]at v3;refine V8 hm (m.R++[(⟨min a b,max a b⟩:qF)]) rfl ?_;simp only[go_sem];obtain⟨M2,f2⟩:=M1.redx (u3.w λj _ q=>q.1) (nLr _) v3 (rv':=.slice 2 (h++[qA.row 2 [AV.agg [iI (if a<b then a else b),iI (if b<a then a else b)]] true]).length 0 (m.R.length+1) false) (by simp);have f3:=(Fo.app (ow:=ow) (h:=h) _).trans f2;exact⟨_,⟨cid,cs,_,M2⟩,f3⟩
end
section
variable {w mid cid k:Nat} {post cs:List AV} {ow ow' ow1 ow2:Nat->Nat} {h h' h1 h2:List qA} {m:qH} {rv v v':AV} {c c':qC} {P:List qE} {O:Nat->Bool} {x y:qE}
theorem qGG(h:MM m (x::P) O):(x.T=1/\∀n,flw n m x=(m,x))\/∃k:Nat,x=vW k/\((m.C[k]?=some (qg [])/\∀n,flw n m x=(m,x))\/∃y,m.C[k]?=some (qg [y])/\(∀n,flw (n+1) m x=flw n (qV m (k:Int)) y)/\MM (qV m (k:Int)) (y::P) O/\nV (qV m (k:Int)).C+1=nV m.C):=by
 obtain⟨k,c,e1,e2,e3⟩:=h.pw x (.head _);by_cases ht:x.T=2
 ·have hk:c.K=13:=by
   rcases e3 with⟨q,_⟩ | ⟨_,q⟩
   ·omega
   ·exact q
  obtain⟨ho,ws,hv,hl⟩:=h.var e2 hk;have hpos:=qHU e2 hk;have hca:za m x.I=c:=by rw[e1];exact Je e2
  have hwv:x=vW k:=by
   obtain⟨t,a⟩:=x;simp only at ht e1;subst ht e1;rfl
  refine .inr ⟨k,hwv, ?_⟩;cases ws with
  | nil=>
   refine .inl ⟨by rw[e2,hv],λn=>?_⟩;cases n with
   | zero=>rfl
   | succ n=>rw[flw,iP ht,hca,hv];rfl
  | cons y r=>
   have hr:r=[]:=by cases r with | nil=>rfl | cons a r=>simp at hl
   subst hr;have h1:=MI.rel (Q:=[x]) h e2 ho (by omega) (λz hz=>by simp only[lMg]at hz;rw[hz];exact e1) (by rw[hv];simp[zU,qg]);have hrel:qV m (k:Int)={m with C:=m.C.set k (zq m.F),F:=(k:Int)}:=by
    unfold qV;rw[iTn]
   have hnv:=qHV (c':=zq m.F) e2;rw[iP hk,iN (by simp[zq])]at hnv;refine .inr ⟨y,by rw[e2,hv],λn=>?_,by rw[hrel];rw[hv]at h1;exact h1,by rw[hrel];simpa using hnv⟩;rw[flw,iP ht,hca,hv,e1];rfl
 ·refine .inl ⟨?_,λn=>?_⟩
  ·rcases e3 with⟨q,_⟩ | ⟨q,_⟩
   ·exact q
   ·exact absurd q ht
  ·cases n with
   | zero=>rfl
   | succ n=>rw[flw,iN ht]
theorem MO.words(M:MO w mid post ow h m cid cs rv)(hc:m.C[k]?=some c):∃dv wv,cs[k]?=some (cE c dv wv)/\LsW (λj=>ow j=k+3) 1 h dv (c.D.map qQ)/\LsW (λj=>ow j=k+3) 2 h wv (c.W.map qE.enc):=by
 obtain⟨v,v1,dv,wv,rfl,v2,v3⟩:=M.e k c hc;exact⟨dv,wv,v1,v2,v3⟩
theorem LsW.one{w:Nat}{Q:Nat->Prop}{a:AV}(x:LsW Q w h v [a]):∃id,Q id/\v=sQ w id 1/\h[id]?=some (.row w [a] true):=by
 rcases x with⟨_,q⟩ | x
 ·cases q
 ·exact x
theorem QA{w id:Nat}{cl:Bool}{k:IntKind}:idx w (some (.slice w id 0 1 cl)) (some (.int k 0))=some (.ptr id 0 0):=Xm (by omega) (by omega)
theorem qJS(M:MH w mid post ow h m)(hP:MM m (x::P) O):SCall Gm 1284 [.ptr mid 0 0,x.enc] h (λr h'=>r=(flw (nV m.C) m x).2.enc/\∃ow',MH w mid post ow' h' (flw (nV m.C) m x).1/\Fo ow h ow' h'):=by
 refine sI U6 ?_;simp only[U6,qN,go_sem];refine qX rfl ?_;simp only[go_sem];generalize hR:flw (nV m.C) m x=R;refine Sem.loop (λa:qH×qE×(Nat->Nat)×List qA=>MH w mid post a.2.2.1 a.2.2.2 a.1/\MM a.1 (a.2.1::P) O/\flw (nV a.1.C) a.1 a.2.1=R/\Fo ow h a.2.2.1 a.2.2.2) (λa=>(⟨[(0,.ptr mid 0 0)],[(3,a.2.1.enc),(4,.agg [iI 0,iI 0])],a.2.2.2⟩:VSt)) (λa=>nV a.1.C) (m,x,ow,h) (by kernel_rfl) ⟨M,hP,hR,Fo.refl⟩ csA ?_;rintro⟨m1,x1,ow1,h1⟩ ⟨M1,P1,R1,f1⟩;simp only at M1 P1 R1 f1;simp only[go_sem];have done:R1=R1->flw (nV m1.C) m1 x1=(m1,x1)->x1.enc=R.2.enc/\∃ow',MH w mid post ow' h1 R.1/\Fo ow h ow' h1:=λ_ q=>by
  rw[R1]at q;subst q;exact⟨rfl,ow1,M1,f1⟩
 rcases qGG P1 with⟨ht,hf⟩ | ⟨k,rfl,⟨hc,hf⟩ | ⟨y,hc,hf,hP1,hn⟩⟩
 ·have e:decide (x1.T=2)=false:=dEf (by omega);simp only[e,go_sem];refine lsA ?_;simp only[go_sem];exact done rfl (hf _)
 ·obtain⟨cid,cs,rv,M1⟩:=M1;have hk:=zO hc;obtain⟨dv,wv,v1,v2,v3⟩:=M1.words hc;have hlen:=v3.len;have e:decide ((vW k).T=2)=true:=rfl;simp only[e,go_sem,M1.o,show (vW k).I=(k:Int)from rfl,qS hk,nZa,M1.c,v1,hlen];have e2:decide ((0:Int)<((qg []).W.length:Nat))=false:=rfl;simp only[e2,go_sem];refine lsA ?_;simp only[go_sem];exact done rfl (hf _)
 ·have M1':=M1;obtain⟨cid,cs,rv,M1⟩:=M1;have hk:=zO hc;obtain⟨dv,wv,v1,v2,v3⟩:=M1.words hc;have hlen:=v3.len;obtain⟨id,i1,rfl,i3⟩:=v3.one;have e:decide ((vW k).T=2)=true:=rfl;have e2:decide ((0:Int)<((1:Nat):Int))=true:=rfl;simp only[e,go_sem,M1.o,show (vW k).I=(k:Int)from rfl,qS hk,nZa,M1.c,v1,Int.natCast_one,show decide ((0:Int)<1)=true from rfl,QA,i3];refine lsA ?_;simp only[go_sem];refine qu (SCall.mono (V3 M1' hc) ?_);rintro r h2 ⟨ow2,M2,f2,l2,-⟩;simp only[go_sem];refine qa (qV m1 (k:Int),y,ow2,h2) ⟨M2,hP1, ?_,f1.trans f2⟩ (by simp only;omega) csA;rw[<-hn,hf]at R1;exact R1
end
end Go.Ab
