/- Texts Net14 .. Net38: the abstract machine, its laws and contracts of functions: lemmas for the statement. No condition. -/
import Derived.Test.YthackbfgkomkjaaGreatP7
set_option linter.unusedSimpArgs false
set_option linter.unusedVariables false
namespace Go.Ab
open Go
set_option maxRecDepth 10000
set_option maxHeartbeats 2000000
section
variable {w:Nat} {post:List AV} {base nid:Nat} {h:List qD} {N:Ags} {K:AV->List qD->Prop} {a b s c k:Nat} {x y:qA} {X:Nat->Nat->Prop}
theorem qgV{n:Nat}{o:qD}:(w8 n++[o])[n]?=some o:=by
 have:(w8 n).length=n:=by simp[w8]
 rw[gAr (by omega),this,nSs];rfl
theorem s837{id q:Nat}{el:List AV}(ho:h[id]?=some (.row 5 el true))(he:el[k]?=some (encR x q))(hq:h[q]?=some (.row 2 (x.Ports.map qG.enc) true))(hz:x.sz<=1048576)(hK:∀ex,K x.enc (h++ex)):SCall Gm 837 [.ptr id k 0] h K:=by
 unfold qA.sz at hz;refine SCall.tree [] [] (gk _ Zf) (by kernel_rfl) rfl (qA.tr (x:=x)) ?_ hK;simp only[Zf,qQ,go_sem,ho,he,nZa];refine qO (c402 x.Data (by omega)) ?_;simp only[go_sem];refine Zi (Els.row hq (by simp)) (by simp;omega) ?_;simp only[go_sem];refine qU (k:=5) (by rfl) (by rfl) (by exact⟨_,rfl⟩) (by decide) ?_;simp only[go_sem];refine FinT.of (QJ (.agg rfl ?_));refine zE (.refl rfl) (zE (.refl rfl) (zE (.refl rfl) (zE (.refl ?_) (zE (Cv.row qgV ?_ (qV qG.isSh.tree _) (by decide)) (fun p hp=>by simp at hp)))))
 ·simp[AV.tree,qV shI.tree]
 ·simp
theorem qC1(hN:NE w post base nid h N)(hx:N[k]?=some x)(hz:x.sz<=1048576):∃aid,(∀K,(∀ex,K x.enc (h++ex))->SCall Gm 837 [.ptr aid k 0] h K)/\h[nid]?=some (.row w [.agg (.slice 5 aid 0 N.length false::post)] true):=by
 obtain⟨aid,ps,hN⟩:=hN;obtain⟨q,hq,ha,hr⟩:=hN.at hx;exact⟨aid,fun K hK=>s837 hN.a ha hr hz hK,hN.o⟩
theorem WG{kk lv v:Int}{n:Nat}(hN:NE w post base nid h N)(hn:n<=1048576)(hl:N.length<=1048576)
  (hK:∀h',NE w post base nid h' (N++[qT kk lv v [] n])->Keep base h h'->K (.int .i64 (N.length:Nat)) h'):SCall Gm 949 [.ptr nid 0 0,.int .i64 kk,.int .i64 lv,.int .i64 v,.nils,.int .i64 (n:Nat)] h K:=
 SCall.arg (Wks.same (Wks.same (Wks.same (Wks.same (.cons .nilL (Wks.same .nil)))))) (UC (d:=[]) hN (by simp) hn hl hK)
theorem NE.rd(hN:NE w post base nid h N)(hx:N[k]?=some x):∃aid ps q,NA w post base nid aid ps h N/\h[nid]?=some (.row w [.agg (.slice 5 aid 0 N.length false::post)] true)/\h[aid]?=some (.row 5 (zS N ps) true)/\(zS N ps)[k]?=some (encR x q):=by
 obtain⟨aid,ps,hN⟩:=hN;obtain⟨q,hq,ha,hr⟩:=hN.at hx;exact⟨aid,ps,q,hN,hN.o,hN.a,ha⟩
theorem qlL(hP:Pr N a b x y X)(hN:NE w post base nid h N)(hx:x.Ports.length=3)(hy:0<y.Ports.length)(hz:y.sz<=1000)(hl:N.length<=10000)
  (hK:∀h',NE w post base nid h' (Zn N a b x y)->Keep base h h'->K (.tup []) h'):SCall Gm 1299 [.ptr nid 0 0,.int .i64 (a:Nat),.int .i64 (b:Nat)] h K:=by
 have la:=hP.la;have lb:=hP.lb;have hz':=hz;unfold qA.sz at hz';refine sI Uq ?_;simp only[Uq,qQ,go_sem];obtain⟨aid,ps,q,_,o1,o2,o3⟩:=hN.rd hP.x;simp only[o1,zH la,o2,o3,go_sem];obtain⟨aid',f837,o4⟩:=qC1 hN hP.y (by omega);rw[o1]at o4;cases o4;simp only[zH lb,go_sem];refine qZ (f837 _ fun ex=> ?_);simp only[go_sem];refine qU (k:=5) (by rfl) (by simp only[go_sem]) ⟨_,rfl⟩ (by decide) ?_;simp only[go_sem];have hbl:=hN.bl;have k0:Keep base h (h++ex):=Keep.app hbl;refine qZ (UC (hN.app ex) (by omega) (by omega) (by omega) fun h1 n1 k1=> ?_);simp only[go_sem];refine qZ (UC n1 (by omega) (by omega) (by simp;omega) fun h2 n2 k2=> ?_);rw[show (N++[qT y.Kind y.Level y.Value y.Data y.Ports.length]).length=N.length+1 by simp];simp only[go_sem];refine Sem.loop (α:=Nat×List qD) (fun q=>q.1+1<=y.Ports.length/\NE w post base nid q.2 (zG N x y q.1)/\Keep base h q.2)
  (fun q=>(⟨[(0,.ptr nid 0 0),(1,.int .i64 (a:Nat)),(2,.int .i64 (b:Nat)),(6,.int .i64 x.Level),(8,.int .i64 (y.Ports.length:Nat)),(9,.int .i64 (N.length:Nat)),(10,.int .i64 (N.length+1:Nat)),(11,.int .i64 ((q.1+1:Nat):Int))],[],q.2⟩:VSt)) (fun q=>y.Ports.length-q.1) (0,h2) (by kernel_rfl)
  ⟨by simp only;omega,n2,k0.trans (k1.trans k2)⟩ (Can.sub (by simp[go_sem]) (by simp[go_sem])) ?_
 rintro⟨i,g⟩ ⟨hi,hn,hk⟩;simp only at hi hn hk;simp only[go_sem];have hg:(zG N x y i).length=N.length+2+i:=qBB;apply qM<;>intro hc<;>simp only[hc,go_sem]
 ·have hlt:i+1<y.Ports.length:=by have:=odT hc;omega
  clear hc;refine qZ (WG (n:=3) hn (by omega) (by omega) fun g1 m1 j1=> ?_);simp only[go_sem];have f1:Has (zG N x y i++[qT 4 x.Level 0 [] 3]) (zG N x y i).length 1:=zd (by omega);have f2:Has (zG N x y i++[qT 4 x.Level 0 [] 3]) (zG N x y i).length 2:=zd (by omega);have c1:Has (zG N x y i++[qT 4 x.Level 0 [] 3]) N.length (i+1):=(QF (by omega)).1.app;have c2:Has (zG N x y i++[qT 4 x.Level 0 [] 3]) (N.length+1) (i+1):=(QF (by omega)).2.app;refine qO zR ?_;simp only[go_sem];refine qO zR ?_;simp only[go_sem];refine qZ (XE (s:=1) (k:=i+1) m1 f1 c1 fun g2 m2 j2=> ?_);simp only[go_sem];refine qO zR ?_;simp only[go_sem];refine qO zR ?_;simp only[go_sem];refine qZ (XE (s:=2) (k:=i+1) m2 (f2.same (zr _ _ _)) (c2.same (zr _ _ _)) fun g3 m3 j3=> ?_);simp only[go_sem,qc (show i+1<4611686018427387904 by omega)];refine qd (i+1,g3) ⟨by simp only;omega,m3,hk.trans (j1.trans (j2.trans j3))⟩ (by simp only;omega) (Can.sub (by simp[go_sem]) (by simp[go_sem]))
 ·have hlt:i=y.Ports.length-1:=by have:=odF hc;omega
  clear hc;subst hlt;have w0:=qA9 (x:=x) hP hy;have w1:=qBC hP hx hy;have w2:=qaQ hP hx hy;have a1:Has (zG N x y (y.Ports.length-1)) a 1:=Qb (hP.ax (by omega));have a2:Has (Xv N a x y) a 2:=(Qb (hP.ax (by omega))).same Zl;refine qO zR ?_;simp only[go_sem];refine qO zR ?_;simp only[go_sem];refine qZ (J8 (s:=1) (k:=0) hn a1 (QF hy).1 (w0.peer a1 (by rintro(q | q);exact hP.nx (by omega) q.1;omega)) fun g1 m1 j1=> ?_);simp only[go_sem];refine qO zR ?_;simp only[go_sem];refine qO zR ?_;simp only[go_sem];refine qZ (J8 (s:=2) (k:=0) m1 a2 ((QF hy).2.same Zl) (w1.peer a2 (by rintro(q | q | q);exact hP.nx (by omega) q.1;omega;omega)) fun g2 m2 j2=> ?_);simp only[go_sem];refine Sem.loop (α:=Nat×List qD) (fun q=>q.1+1<=y.Ports.length/\NE w post base nid q.2 (QG N a b x y q.1)/\Keep base h q.2)
   (fun q=>(⟨[(0,.ptr nid 0 0),(2,.int .i64 (b:Nat)),(8,.int .i64 (y.Ports.length:Nat)),(10,.int .i64 (N.length+1:Nat)),(13,.int .i64 ((q.1+1:Nat):Int))],[],q.2⟩:VSt)) (fun q=>y.Ports.length-q.1) (0,g2) (by kernel_rfl)
   ⟨by simp only;omega,m2,hk.trans (j1.trans j2)⟩ (Can.sub (by simp[go_sem]) (by simp[go_sem])) ?_
  clear hn hk m1 m2 j1 j2 hg hi;rintro⟨i,g⟩ ⟨hi,hn,hk⟩;simp only at hi hn hk;simp only[go_sem];apply qM<;>intro hc<;>simp only[hc,go_sem]
  ·have hlt:i+1<y.Ports.length:=by have:=odT hc;omega
   clear hc;have b1:Has (QG N a b x y i) b (i+1):=(Qb (hP.by' (by omega))).same Zm;have b2:=qBA (N:=N) (x:=x) (y:=y) (i:=y.Ports.length-1) (j:=i) (s:=0) (by omega) (by omega);rw[show N.length+2+i=N.length+1+(i+1) by omega]at b2;have b3:Has (QG N a b x y i) (N.length+1+(i+1)) 0:=b2.same Zm;refine qO zR ?_;simp only[go_sem];have e1:IntKind.i64.wrap (((N.length+1:Nat):Int)+((i+1:Nat):Int))=((N.length+1+(i+1):Nat):Int):=by rw[qf (by omega) (by omega)];omega
   simp only[e1];refine qO zR ?_;simp only[go_sem];refine qZ (J8 (s:=i+1) (k:=0) hn b1 b3 ((qBE hP hx hy (i:=i) (by omega)).peer b1 (by rintro(⟨(q | q | q),_⟩ | q);exact hP.nx (by omega) q.1;omega;exact hP.ne q.1.symm;omega)) fun g1 m1 j1=> ?_);simp only[go_sem,qc (show i+1<4611686018427387904 by omega)];refine qd (i+1,g1) ⟨by simp only;omega,m1,hk.trans j1⟩ (by simp only;omega) (Can.sub (by simp[go_sem]) (by simp[go_sem]))
  ·have hlt:i=y.Ports.length-1:=by have:=odF hc;omega
   subst hlt;exact hK _ hn hk
end
section
variable {w:Nat} {post:List AV} {base nid:Nat} {h:List qD} {N:Ags} {K:AV->List qD->Prop} {a b s c k:Nat} {x y:qA} {X:Nat->Nat->Prop}
theorem Keep.wo{b:Nat}{h h':List qD}{ids:List Nat}(hk:Keep b h h')(hi:∀i∈ids,b<=i):Keep b h (without ids h'):=
 ⟨by rw[wN];exact hk.l,fun j hj=>by rw[wj (fun q=>by have:=hi j q;omega)];exact hk.k j hj⟩
theorem ql0{kk lv v d:Int}{n:Nat}(hN:NE w post base nid h N)(hn:n<=1048576)(hl:N.length<=1048576)
  (hK:∀h',NE w post base nid h' (N++[qT kk lv v [d] n])->Keep base h h'->K (.int .i64 (N.length:Nat)) h'):
  SCall Gm 949 [.ptr nid 0 0,.int .i64 kk,.int .i64 lv,.int .i64 v,.slice 1 h.length 0 1 false,.int .i64 (n:Nat)] (h++[.row 1 [.int .i64 d] true]) K:=by
 have hbl:=hN.bl;have hk:Keep h.length h (without [h.length] (h++[.row 1 [.int .i64 d] true])):=(Keep.app (nLr _)).wo (by simp);refine SCall.giveH [h.length] (vs':=[.ptr nid 0 0,.int .i64 kk,.int .i64 lv,.int .i64 v,.lst 1 ([d].map qK) false,.int .i64 (n:Nat)]) ?_ (UC (d:=[d]) (hN.keep hk) (by simp) hn hl fun h' n1 k1=>hK h' n1 ((hk.up hbl).trans k1));refine HCv.list (.same _) (HCv.list (.same _) (HCv.list (.same _) (HCv.list (.same _) (HCv.list (.cv (Cv.row (by rw[Jg (by simp)];simp[qK]) rfl rfl (by decide)) rfl) (HCv.list (.same _) (HCv.refls []))))))
theorem ZA{y:qA}{i:Nat}(h:i<y.Data.length):(y.Data.map qK)[i]?=some (.int .i64 (y.Data.getD i 0)):=by
 rw[gMp,lGd,gEg h];rfl
theorem qBF{q:Nat}(hr:h[q]?=some (.row 2 (x.Ports.map qG.enc) true)):Cv h (encR x q) x.enc:=
 .agg rfl (zE (.refl rfl) (zE (.refl rfl) (zE (.refl rfl) (zE (.refl (by simp only[AV.tree];exact qV shI.tree _)) (zE (Cv.row hr (by simp) (qV qG.isSh.tree _) (by decide)) (fun p hp=>by simp at hp))))))
theorem NA.cva{aid:Nat}{ps:List Nat}(hN:NA w post base nid aid ps h N)(hx:N[k]?=some x):Cv h (.ptr aid k 0) (.ept x.enc 0):=by
 obtain⟨q,hq,ha,hr⟩:=hN.at hx;exact .ptr hN.a (by decide) ha (qBF hr)
theorem qlM(hP:Pr N a b x y X)(hN:NE w post base nid h N)(h8:y.Kind=8->y.Ports.length=2/\0<y.Data.length)(h7:y.Kind≠8->y.Ports.length=3)(hz:y.sz<=1000)(hl:N.length<=10000)
  (hK:∀h',NE w post base nid h' (if y.Kind=8 then W2 (opI y.Value (y.Data.getD 0 0) x.Value) N b else W3 N b x y)->Keep base h h'->K (.tup []) h'):SCall Gm 1301 [.ptr nid 0 0,.int .i64 (a:Nat),.int .i64 (b:Nat)] h K:=by
 have la:=hP.la;have lb:=hP.lb;have hz':=hz;unfold qA.sz at hz';have hbl:=hN.bl;refine sI Us ?_;simp only[Us,qQ,go_sem];obtain⟨aid',f837,o4⟩:=qC1 hN hP.y (by omega);simp only[o4,zH lb,go_sem];refine qZ (f837 _ fun ex=> ?_);simp only[go_sem];refine qU (k:=5) (by rfl) (by simp only[go_sem]) ⟨_,rfl⟩ (by decide) ?_;simp only[go_sem];have hN1:=hN.app ex;have k0:Keep base h (h++ex):=Keep.app hbl;generalize h++ex=h1 at hN1 k0|-;obtain⟨aid,ps,q,_,o1,o2,o3⟩:=hN1.rd hP.x;simp only[o1,zH la,o2,o3,go_sem];apply qM<;>intro hc<;>simp only[hc,go_sem]
 ·have e8:y.Kind=8:=by simpa using hc
  rw[if_pos e8]at hK;obtain⟨p2,d1⟩:=h8 e8;simp only[ZA d1,oMs,go_sem];refine qO c762 ?_;simp only[go_sem];refine qZ (WG (n:=1) hN1 (by omega) (by omega) fun h2 n2 k2=> ?_);simp only[go_sem];refine qO zR ?_;simp only[go_sem];refine qO zR ?_;simp only[go_sem];have b1:Has (N++[qT 6 0 (opI y.Value (y.Data.getD 0 0) x.Value) [] 1]) b 1:=(hP.by' (by omega)).app;refine qZ (J8 (s:=1) (k:=0) n2 b1 (zd (by omega)) ((QE hP).peer b1 (by rintro(q | q);exact hP.nx (by omega) q.1;omega)) fun h3 n3 k3=> ?_);simp only[go_sem];exact hK _ n3 (k0.trans (k2.trans k3))
 ·have e8:y.Kind≠8:=by simpa using hc
  rw[if_neg e8]at hK;have p3:=h7 e8;refine qZ (ql0 (n:=2) hN1 (by omega) (by omega) fun h2 n2 k2=> ?_);simp only[go_sem];refine qO zR ?_;simp only[go_sem];refine qO zR ?_;simp only[go_sem];have b1:Has (N++[qT 8 y.Level y.Value [x.Value] 2]) b 1:=(hP.by' (by omega)).app;refine qZ (J8 (s:=1) (k:=0) n2 b1 (zd (by omega)) ((QE hP).peer b1 (by rintro(q | q);exact hP.nx (by omega) q.1;omega)) fun h3 n3 k3=> ?_);simp only[go_sem];refine qO zR ?_;simp only[go_sem];refine qO zR ?_;simp only[go_sem];have b2:Has (Z5 N b x y) b 2:=(hP.by' (by omega)).app.same ZU;have w2:W (Z5 N b x y) _:=YM hP (by omega) (by omega);refine qZ (J8 (s:=2) (k:=1) n3 b2 ((zd (by omega)).same ZU) (w2.peer b2 (by rintro(q | q | q);exact hP.nx (by omega) q.1;omega;omega)) fun h4 n4 k4=> ?_);simp only[go_sem];exact hK _ n4 (k0.trans (k2.trans (k3.trans k4)))
theorem qlN(hP:Pr N a b x y X)(hN:NE w post base nid h N)(hy:y.Ports.length=2)(h11:y.Kind=11->y.Data.length=2)(h10:y.Kind≠11->x.Kind=9/\0<x.Ports.length/\0<=x.Value/\x.Value<y.Data.length)(hz:y.sz<=1000)(hzx:x.sz<=1000)(hl:N.length<=10000)
  (hK:∀h',NE w post base nid h' (if y.Kind=11 then W7 y.Level (JZ x y) N b else Zj y.Level (y.Data.getD x.Value.toNat 0) N a b (x.Ports.length-1))->Keep base h h'->K (.tup []) h'):SCall Gm 1302 [.ptr nid 0 0,.int .i64 (a:Nat),.int .i64 (b:Nat)] h K:=by
 have la:=hP.la;have lb:=hP.lb;have hz':=hz;unfold qA.sz at hz';have hzx':=hzx;unfold qA.sz at hzx';have hbl:=hN.bl;refine sI Ut ?_;simp only[Ut,qQ,go_sem];obtain⟨aid',f837,o4⟩:=qC1 hN hP.y (by omega);simp only[o4,zH lb,go_sem];refine qZ (f837 _ fun ex=> ?_);simp only[go_sem];refine qU (k:=5) (by rfl) (by simp only[go_sem]) ⟨_,rfl⟩ (by decide) ?_;simp only[go_sem];have hN1:=hN.app ex;have k0:Keep base h (h++ex):=Keep.app hbl;generalize h++ex=h1 at hN1 k0|-;obtain⟨aid,ps,q,hNA,o1,o2,o3⟩:=hN1.rd hP.x;apply qM<;>intro hc<;>simp only[hc,go_sem]
 ·have e11:y.Kind=11:=by simpa using hc
  clear hc;rw[if_pos e11]at hK;have d2:=h11 e11;simp only[ZA (y:=y) (i:=1) (by omega),oMs,o1,zH la,o2,o3,go_sem];have b1:∀v,Has (N++[qT 12 y.Level v [] 1]) b 1:=fun v=>(hP.by' (by omega)).app;apply qM<;>intro hc<;>simp only[hc,go_sem]
  ·have ed:y.Data.getD 0 0=JZ x y:=by unfold JZ;rw[if_pos (by simpa using hc)]
   simp only[ZA (y:=y) (i:=0) (by omega),oMs,ed,go_sem];refine qZ (WG (n:=1) hN1 (by omega) (by omega) fun h2 n2 k2=> ?_);simp only[go_sem];refine qO zR ?_;simp only[go_sem];refine qO zR ?_;simp only[go_sem];refine qZ (J8 (s:=1) (k:=0) n2 (b1 _) (zd (by omega)) ((QE hP).peer (b1 _) (by rintro(q | q);exact hP.nx (by omega) q.1;omega)) fun h3 n3 k3=> ?_);simp only[go_sem];exact hK _ n3 (k0.trans (k2.trans k3))
  ·have ed:y.Data.getD 1 0=JZ x y:=by unfold JZ;rw[if_neg (by simpa using hc)]
   simp only[ed];refine qZ (WG (n:=1) hN1 (by omega) (by omega) fun h2 n2 k2=> ?_);simp only[go_sem];refine qO zR ?_;simp only[go_sem];refine qO zR ?_;simp only[go_sem];refine qZ (J8 (s:=1) (k:=0) n2 (b1 _) (zd (by omega)) ((QE hP).peer (b1 _) (by rintro(q | q);exact hP.nx (by omega) q.1;omega)) fun h3 n3 k3=> ?_);simp only[go_sem];exact hK _ n3 (k0.trans (k2.trans k3))
 ·have e11:y.Kind≠11:=by simpa using hc
  clear hc;rw[if_neg e11]at hK;obtain⟨e9,x0,v0,v1⟩:=h10 e11;have ef:fieldsOf x=((x.Ports.length-1:Nat):Int):=by unfold fieldsOf;rw[if_pos e9];omega
  simp only[o1,zH la,go_sem];obtain⟨_,_,_,hr⟩:=hNA.at hP.x;refine jM (Cvs.cons (hNA.cva hP.x) Cvs.nil) (qAP (x:=x) (by omega)) rfl ?_;rw[ef];simp only[o1,zH la,o2,o3,Jx v0,ZA (y:=y) (i:=x.Value.toNat) (by omega),oMs,go_sem];refine qZ (WG (n:=1) hN1 (by omega) (by omega) fun h2 n2 k2=> ?_);simp only[go_sem];refine qO zR ?_;simp only[go_sem];refine qU rfl rfl ⟨_,rfl⟩ (by decide) ?_;simp only[go_sem];generalize y.Data.getD x.Value.toNat 0=v at hK n2|-;refine Sem.loop (α:=Nat×List qD) (fun q=>q.1+1<=x.Ports.length/\NE w post base nid q.2 (jE y.Level v N a q.1)/\Keep base h q.2)
   (fun q=>(⟨[(0,.ptr nid 0 0),(1,.int .i64 (a:Nat)),(2,.int .i64 (b:Nat)),(9,.int .i64 ((x.Ports.length-1:Nat):Int)),(12,.int .i64 ((q.1+1:Nat):Int))],[(6,y.enc),(11,(Ja N.length q.1).enc)],q.2⟩:VSt)) (fun q=>x.Ports.length-q.1) (0,h2) (by kernel_rfl)
   ⟨by simp only;omega,n2,k0.trans k2⟩ (Can.sub (by simp[go_sem]) (by simp[go_sem];rfl)) ?_
  rintro⟨i,g⟩ ⟨hi,hn,hk⟩;simp only at hi hn hk;have hg:(jE y.Level v N a i).length=N.length+1+i:=qAJ;have wi:=Yv (lev:=y.Level) (v:=v) hP (i:=i) (by omega);simp only[go_sem];apply qM<;>intro hc<;>simp only[hc,go_sem]
  ·have hlt:i+1<x.Ports.length:=by have:=odT hc;omega
   clear hc;refine qZ (WG (n:=3) hn (by omega) (by omega) fun g1 m1 j1=> ?_);simp only[go_sem];refine qO zR ?_;simp only[go_sem];have f0:Has (jE y.Level v N a i++[qT 3 y.Level 0 [] 3]) (jE y.Level v N a i).length 0:=zd (by omega);have f1:Has (jE y.Level v N a i++[qT 3 y.Level 0 [] 3]) (jE y.Level v N a i).length 1:=zd (by omega);refine qZ (XE (k:=0) m1 WT.app f0 fun g2 m2 j2=> ?_);simp only[go_sem];refine qO zR ?_;simp only[go_sem];refine qO zR ?_;simp only[go_sem];have e0:zg i<=2:=by unfold zg;split<;>omega
   have n1:=hP.nx (p:=a) (q:=i+1) (by omega);have a1:Has (zj (jE y.Level v N a i++[qT 3 y.Level 0 [] 3]) (pt (N.length+i) (zg i)) (pt (jE y.Level v N a i).length 0)) a (i+1):=(Xl (hP.ax (by omega))).app.same (zr _ _ _);have w1:=(wi.add (qT 3 y.Level 0 [] 3)).link (a:=N.length+i) (s:=zg i) (c:=(jE y.Level v N a i).length) (k:=0) WT.app f0 (.inl ⟨.inr (.inr ⟨rfl,rfl⟩),by omega⟩) (.inr rfl) (by omega);refine qZ (J8 (s:=i+1) (k:=1) m2 a1 (f1.same (zr _ _ _)) (w1.peer a1 (by rintro⟨⟨(q | q | q),_⟩ | q,_⟩;exact n1 q.1;omega;omega;omega)) fun g3 m3 j3=> ?_);simp only[go_sem];refine qO zR ?_;simp only[go_sem];refine qU rfl rfl ⟨_,rfl⟩ (by decide) ?_;simp only[go_sem,qc (show i+1<4611686018427387904 by omega)];refine qd (i+1,g3) ⟨by simp only;omega,m3,hk.trans (j1.trans (j2.trans j3))⟩ (by simp only;omega) (Can.sub (by simp[go_sem]) ?_);simp[go_sem];rw[hg,show N.length+1+i=N.length+(i+1) by omega];rfl
  ·have hlt:i=x.Ports.length-1:=by have:=odF hc;omega
   clear hc;subst hlt;refine qO zR ?_;simp only[go_sem];have b1:Has (jE y.Level v N a (x.Ports.length-1)) b 1:=Xl (hP.by' (by omega));refine qZ (J8 (s:=1) (k:=zg (x.Ports.length-1)) hn b1 WT (wi.peer b1 (by rintro(q | q | q);exact hP.nx (by omega) q.1;exact hP.ne q.1.symm;omega)) fun g1 m1 j1=> ?_);simp only[go_sem];exact hK _ m1 (hk.trans j1)
end
section
variable {w:Nat} {post:List AV} {base nid:Nat} {h:List qD} {N:Ags} {K:AV->List qD->Prop} {a b s c k:Nat} {x y:qA} {X:Nat->Nat->Prop} {t:qC}
theorem UF{g:List qD}{A B C:qD}:(g++[A,B]).set (g.length+1) C=g++[A,C]:=by
 rw[lSr _ _ (by omega)];simp
theorem qeL{g:List qD}{A B:qD}:(g++[A,B])[g.length]?=some A:=by rw[gAr (by omega)];simp
theorem QS{g:List qD}{A B:qD}:(g++[A,B])[g.length+1]?=some B:=by rw[gAr (by omega)];simp
theorem NA.push3{aid:Nat}{ps:List Nat}{g:List qD}(hN:NA w post base nid aid ps g N){dl:List AV}(hd:dl=x.Data.map qK){X:AV}(hX:X=.agg [.int .i64 x.Kind,.int .i64 x.Level,.int .i64 x.Value,.slice 1 g.length 0 x.Data.length false,.slice 2 (g.length+1) 0 x.Ports.length false]):
  ∀G,G=(((g++[qD.row 1 dl true,qD.row 2 (x.Ports.map qG.enc) true]++[qD.row 5 [X] true]).set aid .dead)++[qD.row 5 (zS N ps++[X]) true]).set nid (.row w [.agg (.slice 5 (g.length+3) 0 (N.length+1) false::post)] true)->
  ∃G',(∀b s m,Can b ⟨s,m,G⟩ ⟨s,m,G'⟩)/\NE w post base nid G' (N++[x])/\Keep base g G':=by
 intro G hG;have k0:=hN.lt;have k1:=hN.lta;have n1:=hN.n1;have c1:=hN.b1;have c2:=hN.b2;have el:=Qd hN.l;have lG:G.length=g.length+4:=by rw[hG];simp
 have eG:∀j,j<g.length->j≠nid->j≠aid->G[j]?=g[j]?:=fun j hj j1 j2=>by
  rw[hG,gSn (Ne.symm j1),gAl (by simp;omega),gSn (Ne.symm j2),gAl (by simp;omega),gAl hj]
 have e0:G[g.length]?=some (.row 1 dl true):=by
  rw[hG,gSn (by omega),gAl (by simp),gSn (by omega),gAl (by simp)];exact qeL
 have e1:G[g.length+1]?=some (.row 2 (x.Ports.map qG.enc) true):=by
  rw[hG,gSn (by omega),gAl (by simp),gSn (by omega),gAl (by simp)];exact QS
 have e3:G[g.length+3]?=some (.row 5 (zS N ps++[X]) true):=by
  rw[hG,gSn (by omega),gAr (by simp)];simp
 have en:G[nid]?=some (.row w [.agg (.slice 5 (g.length+3) 0 (N.length+1) false::post)] true):=by
  rw[hG,gSs (by simp;omega)]
 refine⟨(without [g.length] G).set (g.length+3) (.row 5 (zS N ps++[encR x (g.length+1)]) true),fun b s m=>Can.giveH [g.length] (by simp) e3 (by simp) (HCv.apps _ ?_), ?_,⟨by simp[wN];omega,fun j hj=> ?_⟩⟩
 ·rw[hX];refine HCv.list (.agg rfl (HCv.list (.same _) (HCv.list (.same _) (HCv.list (.same _) (HCv.list (.cv (Cv.row (by rw[Jg (by simp)];rw[e0,hd]) (by simp) (qV shI.tree _) (by decide)) (by simp only[AV.tree];exact qV shI.tree _)) (HCv.list (.same _) (HCv.refls [])))))).2) (HCv.refls [])
 ·have hN0:NA w post base nid aid ps (g++[qD.dead,.row 2 (x.Ports.map qG.enc) true,.row 5 [X] true]) N:=hN.app _;have:=hN0.push (x:=x) (q:=g.length+1) (h2:=(without [g.length] G).set (g.length+3) (.row 5 (zS N ps++[encR x (g.length+1)]) true)) (by rw[gAr (by omega)];simp) (by omega) (by omega) (by omega) (fun q=>by have:=hN.ltp q;omega) ?_ ?_ ?_
  ·exact⟨_,_,this⟩
  ·simp only[lAp,lCo,lNi];rw[gSn (by omega),wj (by simp;omega)];exact en
  ·simp only[lAp,lCo,lNi];rw[gSs (by rw[wN];omega)]
  ·intro j hj j1 j2;simp only[lAp,lCo,lNi]at hj;rw[gSn (by omega)];by_cases q:j=g.length
   ·subst q;have:(without [g.length] G)[g.length]?=some .dead:=by
     unfold without;rw[List.getElem?_mapIdx,e0];simp
    rw[this,gAr (by omega)];simp
   ·rw[wj (by simpa using q)];by_cases q2:j<g.length
    ·rw[eG j q2 j1 j2,gAl q2]
    ·by_cases q3:j=g.length+1
     ·subst q3;rw[e1,gAr (by omega)];simp
     ·obtain rfl:j=g.length+2:=by omega
      rw[gAr (by omega),hG,gSn (by omega),gAl (by simp),gSn (by omega),gAr (by simp)];simp
 ·rw[gSn (by have:=hN.lt;omega),wj (by simp;omega)];exact eG j (by omega) (by omega) (by omega)
theorem Qm{ps:List qG}{c:Bool}{n:Nat}:(lay (.lst 2 (ps.map qG.enc) c) n).2=[.row 2 (ps.map qG.enc) true]:=by simp[lay,qG.flat]
theorem Qk{ps:List Int}{c:Bool}{n:Nat}:(lay (.lst 1 (ps.map qK) c) n).2=[.row 1 (ps.map qK) true]:=by simp[lay,lI]
def jT(N:Ags)(t:qC)(lev:Int)(j:Nat):Ags:=N++((t.Agents.drop 1).take j).map (zD lev ((N.length:Int)-1))
theorem qBL{lev:Int}{j:Nat}(h:j+1<=t.Agents.length):(jT N t lev j).length=N.length+j:=by unfold jT;simp;omega
theorem qa3{lev:Int}{j:Nat}(h:j+1<t.Agents.length):jT N t lev (j+1)=jT N t lev j++[zD lev ((N.length:Int)-1) t.Agents[j+1]]:=by
 unfold jT;have e:(t.Agents.drop 1)[j]?=some t.Agents[j+1]:=by rw[qA6,gEg h]
 have hj:j<(t.Agents.drop 1).length:=by simp;omega
 have e2:(t.Agents.drop 1)[j]=t.Agents[j+1]:=by rw[gEg hj]at e;exact Option.some.inj e
 rw[lTs hj,e2];simp
theorem qa2{lev:Int}{j:Nat}(h:j+1=t.Agents.length):jT N t lev j=jw N t lev:=by
 unfold jT jw;rw[List.take_of_length_le (by simp;omega)]
def shP(base:Int)(p:qG):qG:=⟨p.Agent+base,p.Slot⟩
def jr(f:qG->qG)(ps:List qG)(j:Nat):List qG:=(ps.take j).map f++ps.drop j
theorem YG{f:qG->qG}{ps:List qG}:jr f ps 0=ps:=by simp[jr]
theorem YI{f:qG->qG}{ps:List qG}:jr f ps ps.length=ps.map f:=by simp[jr]
theorem YH{f:qG->qG}{ps:List qG}{j:Nat}(h:j<ps.length):(jr f ps j)[j]?=some ps[j]:=by
 unfold jr;rw[gAr (by simp;omega)];simp only[lMp,lLt,nMl (Nat.le_of_lt h),nSs,gDr,nAz];exact gEg h
theorem YJ{f:qG->qG}{ps:List qG}{j:Nat}(h:j<ps.length):(jr f ps j).set j (f ps[j])=jr f ps (j+1):=by
 unfold jr;rw[lSr _ _ (by simp;omega)];simp only[lMp,lLt,nMl (Nat.le_of_lt h),nSs];rw[lDc h,lSz,lTs h,lMa];simp only[lMc,List.map_nil,lAa,lCa,lNa]
theorem YT{p:qG}{v:Int}:p.enc.put 0 (.int .i64 v)=some ((⟨v,p.Slot⟩:qG).enc):=by cases p;rfl
theorem qlO(hP:Pr N a b x y X)(hN:NE w post base nid h N)(ht:qq t=true)(hy:0<y.Ports.length)(hts:∀z∈t.Agents,z.sz<=1000)(htl:t.Agents.length<=600)(hl:N.length<=10000)(hlev:0<=x.Level/\x.Level<=8)
  (htp:∀(k s:Nat)(q:qG),atP t.Agents k s=some q->0<=q.Agent/\q.Agent<=600) (htv:∀z∈t.Agents,0<=z.Level/\z.Level<=8)
  (hK:∀h',NE w post base nid h' (Zo N t x.Level b)->Keep base h h'->K (.tup []) h'):SCall Gm 1303 [.ept t.enc 0,.ptr nid 0 0,.int .i64 (a:Nat),.int .i64 (b:Nat)] h K:=by
 have la:=hP.la;have lb:=hP.lb;have hbl:=hN.bl;refine sI Uu ?_;simp only[Uu,qQ,go_sem];obtain⟨aid,ps,q,hNA,o1,o2,o3⟩:=hN.rd hP.x;simp only[o1,zH la,o2,o3,go_sem];have eb:IntKind.i64.wrap ((N.length:Int)-1)=((N.length-1:Nat):Int):=by rw[qf (by omega) (by omega)];omega
 have eb2:(N.length:Int)-1=((N.length-1:Nat):Int):=by omega
 simp only[eb];clear o1 o2 o3 hNA;refine Sem.loop (α:=Nat×List qD) (fun q=>q.1+1<=t.Agents.length/\NE w post base nid q.2 (jT N t x.Level q.1)/\Keep base h q.2)
  (fun q=>(⟨[(0,.ept t.enc 0),(1,.ptr nid 0 0),(3,.int .i64 (b:Nat)),(8,.int .i64 x.Level),(9,.int .i64 ((N.length-1:Nat):Int)),(10,.int .i64 ((q.1+1:Nat):Int))],[],q.2⟩:VSt)) (fun q=>t.Agents.length-q.1) (0,h) (by kernel_rfl)
  ⟨by have:=Z2 ht;simp only;omega,by unfold jT;simpa using hN,Keep.refl⟩ (Can.sub (by simp[go_sem]) (by simp[go_sem])) ?_
 rintro⟨i,g⟩ ⟨hi,hn,hk⟩;simp only at hi hn hk;simp only[go_sem];apply qM<;>intro hc<;>simp only[hc,go_sem]
 ·have hlt:i+1<t.Agents.length:=by have:=odT hc;omega
  clear hc;have hz:=hts _ (gMm hlt);have hv8:=htv _ (gMm hlt);have hpp:∀(s:Nat)(hs:s<t.Agents[i+1].Ports.length),0<=t.Agents[i+1].Ports[s].Agent/\t.Agents[i+1].Ports[s].Agent<=600:=fun s hs=>htp (i+1) s _ (jY.2 ⟨_,gEg hlt,gEg hs⟩);have es:=qa3 (N:=N) (lev:=x.Level) hlt;simp only[gMp,gEg hlt,oMs,go_sem];generalize t.Agents[i+1]=z at hz hv8 hpp es|-;have hz':=hz;unfold qA.sz at hz';refine zW (n837 z (by omega)) ?_;simp only[qA.layE,AV.rows,Qm,Qk,lNa,lAn,lCa,WC,nZa,go_sem];refine qU (k:=5) (by rfl) (by simp only[go_sem]) ⟨_,rfl⟩ (by decide) ?_;simp only[go_sem];refine qO qAN ?_;simp only[go_sem];obtain⟨L,hL⟩:∃L,L=(zD x.Level ((N.length:Int)-1) z).Level:=⟨_,rfl⟩;apply qM<;>intro hc<;>simp only[hc,go_sem]
  ·have el:IntKind.i64.wrap (z.Level+x.Level)=L:=by rw[hL,qf (by omega) (by omega)];unfold zD;simp[hc]
   clear hc;refine Sem.loop (fun j:Nat=>j<=z.Ports.length/\True) (fun j=>(⟨[(0,.ept t.enc 0),(1,.ptr nid 0 0),(3,.int .i64 (b:Nat)),(8,.int .i64 x.Level),(9,.int .i64 ((N.length-1:Nat):Int)),(10,.int .i64 ((i+1:Nat):Int)),(12,.int .i64 (j:Nat))],
    [(11,.agg [.int .i64 z.Kind,.int .i64 L,.int .i64 z.Value,.slice 1 g.length 0 z.Data.length false,.slice 2 (g.length+1) 0 z.Ports.length false])],g++[.row 1 (z.Data.map qK) true,.row 2 ((jr (shP ((N.length:Int)-1)) z.Ports j).map qG.enc) true]⟩:VSt)) (fun j=>z.Ports.length-j) 0 (by kernel_rfl) ⟨nZl _,trivial⟩
    (by rw[YG];exact Can.sub (by simp[go_sem]) (by simp[go_sem,el])) ?_
   rintro j ⟨hj,_⟩;simp only[go_sem];apply qM<;>intro hc<;>simp only[hc,go_sem]
   ·have hlj:j<z.Ports.length:=by have:=odT hc;omega
    clear hc;have hq:=hpp j hlj;have hm:((jr (shP ((N.length:Int)-1)) z.Ports j).map qG.enc)[j]?=some (z.Ports[j].enc):=by rw[gMp,YH hlj];rfl
    simp only[Jb hlj,QS,hm,go_sem];refine q8 rfl QS hm YT ?_;have ep:(⟨IntKind.i64.wrap (z.Ports[j].Agent+((N.length-1:Nat):Int)),z.Ports[j].Slot⟩:qG)=shP ((N.length:Int)-1) z.Ports[j]:=by
     unfold shP;rw[eb2,qf (by omega) (by omega)]
    rw[ep,<-List.map_set,YJ hlj,UF];simp only[go_sem];simp only[qc (show j<4611686018427387904 by omega)];refine qd (j+1) ⟨by omega, ?_⟩ (by omega) (Can.sub (by simp[go_sem]) (by simp[go_sem]));trivial
   ·have hlj:j=z.Ports.length:=by have:=odF hc;omega
    clear hc;subst hlj;rw[YI];obtain⟨aid,ps,hNA⟩:=hn;have k0:=hNA.lt;have k1:=hNA.lta;have on:∀{o:List qD},(g++o)[nid]?=some (.row w [.agg (.slice 5 aid 0 (jT N t x.Level i).length false::post)] true):=fun{o}=>by rw[gAl k0];exact hNA.o
    simp only[on,go_sem];have l5:=Qd hNA.l;have lS:=qBL (N:=N) (lev:=x.Level) hi;refine zy (len:=(jT N t x.Level i).length) (x:=.agg [.int .i64 z.Kind,.int .i64 L,.int .i64 z.Value,.slice 1 g.length 0 z.Data.length false,.slice 2 (g.length+1) 0 z.Ports.length false]) (w:=5) (by simp) (by rw[gAl (by simp;omega),gAl k1];exact hNA.a) l5 (by omega) ?_;have eP:z.Ports.map (shP ((N.length:Int)-1))=(zD x.Level ((N.length:Int)-1) z).Ports:=rfl;rw[eP];simp only[lAp,nZa,go_sem];refine q8 rfl (by rw[gAl (by simp;omega),gSn (Ne.symm hNA.n1),gAl (by simp;omega)];exact on) rfl YU ?_;simp only[lSz];have hX:(AV.agg [.int .i64 z.Kind,.int .i64 L,.int .i64 z.Value,.slice 1 g.length 0 z.Data.length false,.slice 2 (g.length+1) 0 z.Ports.length false])=.agg [.int .i64 (zD x.Level ((N.length:Int)-1) z).Kind,.int .i64 (zD x.Level ((N.length:Int)-1) z).Level,.int .i64 (zD x.Level ((N.length:Int)-1) z).Value,.slice 1 g.length 0 (zD x.Level ((N.length:Int)-1) z).Data.length false,.slice 2 (g.length+1) 0 (zD x.Level ((N.length:Int)-1) z).Ports.length false]:=by
     rw[hL];simp[zD]
    obtain⟨G',c1,n1,q1⟩:=hNA.push3 (x:=zD x.Level ((N.length:Int)-1) z) (dl:=z.Data.map qK) rfl hX _ rfl;rw[<-es]at n1;simp only[go_sem,qc (show i+1<4611686018427387904 by omega)];refine qd (i+1,G') ⟨by simp only;omega,n1,hk.trans q1⟩ (by simp only;omega) ((c1 _ _ _).trans (Can.sub (by simp[go_sem]) (by simp[go_sem])))
  ·have el:z.Level=L:=by rw[hL];unfold zD;simp[hc]
   clear hc;refine Sem.loop (fun j:Nat=>j<=z.Ports.length/\True) (fun j=>(⟨[(0,.ept t.enc 0),(1,.ptr nid 0 0),(3,.int .i64 (b:Nat)),(8,.int .i64 x.Level),(9,.int .i64 ((N.length-1:Nat):Int)),(10,.int .i64 ((i+1:Nat):Int)),(12,.int .i64 (j:Nat))],
    [(11,.agg [.int .i64 z.Kind,.int .i64 L,.int .i64 z.Value,.slice 1 g.length 0 z.Data.length false,.slice 2 (g.length+1) 0 z.Ports.length false])],g++[.row 1 (z.Data.map qK) true,.row 2 ((jr (shP ((N.length:Int)-1)) z.Ports j).map qG.enc) true]⟩:VSt)) (fun j=>z.Ports.length-j) 0 (by kernel_rfl) ⟨nZl _,trivial⟩
    (by rw[YG];exact Can.sub (by simp[go_sem]) (by simp[go_sem,el])) ?_
   rintro j ⟨hj,_⟩;simp only[go_sem];apply qM<;>intro hc<;>simp only[hc,go_sem]
   ·have hlj:j<z.Ports.length:=by have:=odT hc;omega
    clear hc;have hq:=hpp j hlj;have hm:((jr (shP ((N.length:Int)-1)) z.Ports j).map qG.enc)[j]?=some (z.Ports[j].enc):=by rw[gMp,YH hlj];rfl
    simp only[Jb hlj,QS,hm,go_sem];refine q8 rfl QS hm YT ?_;have ep:(⟨IntKind.i64.wrap (z.Ports[j].Agent+((N.length-1:Nat):Int)),z.Ports[j].Slot⟩:qG)=shP ((N.length:Int)-1) z.Ports[j]:=by
     unfold shP;rw[eb2,qf (by omega) (by omega)]
    rw[ep,<-List.map_set,YJ hlj,UF];simp only[go_sem];simp only[qc (show j<4611686018427387904 by omega)];refine qd (j+1) ⟨by omega, ?_⟩ (by omega) (Can.sub (by simp[go_sem]) (by simp[go_sem]));trivial
   ·have hlj:j=z.Ports.length:=by have:=odF hc;omega
    clear hc;subst hlj;rw[YI];obtain⟨aid,ps,hNA⟩:=hn;have k0:=hNA.lt;have k1:=hNA.lta;have on:∀{o:List qD},(g++o)[nid]?=some (.row w [.agg (.slice 5 aid 0 (jT N t x.Level i).length false::post)] true):=fun{o}=>by rw[gAl k0];exact hNA.o
    simp only[on,go_sem];have l5:=Qd hNA.l;have lS:=qBL (N:=N) (lev:=x.Level) hi;refine zy (len:=(jT N t x.Level i).length) (x:=.agg [.int .i64 z.Kind,.int .i64 L,.int .i64 z.Value,.slice 1 g.length 0 z.Data.length false,.slice 2 (g.length+1) 0 z.Ports.length false]) (w:=5) (by simp) (by rw[gAl (by simp;omega),gAl k1];exact hNA.a) l5 (by omega) ?_;have eP:z.Ports.map (shP ((N.length:Int)-1))=(zD x.Level ((N.length:Int)-1) z).Ports:=rfl;rw[eP];simp only[lAp,nZa,go_sem];refine q8 rfl (by rw[gAl (by simp;omega),gSn (Ne.symm hNA.n1),gAl (by simp;omega)];exact on) rfl YU ?_;simp only[lSz];have hX:(AV.agg [.int .i64 z.Kind,.int .i64 L,.int .i64 z.Value,.slice 1 g.length 0 z.Data.length false,.slice 2 (g.length+1) 0 z.Ports.length false])=.agg [.int .i64 (zD x.Level ((N.length:Int)-1) z).Kind,.int .i64 (zD x.Level ((N.length:Int)-1) z).Level,.int .i64 (zD x.Level ((N.length:Int)-1) z).Value,.slice 1 g.length 0 (zD x.Level ((N.length:Int)-1) z).Data.length false,.slice 2 (g.length+1) 0 (zD x.Level ((N.length:Int)-1) z).Ports.length false]:=by
     rw[hL];simp[zD]
    obtain⟨G',c1,n1,q1⟩:=hNA.push3 (x:=zD x.Level ((N.length:Int)-1) z) (dl:=z.Data.map qK) rfl hX _ rfl;rw[<-es]at n1;simp only[go_sem,qc (show i+1<4611686018427387904 by omega)];refine qd (i+1,G') ⟨by simp only;omega,n1,hk.trans q1⟩ (by simp only;omega) ((c1 _ _ _).trans (Can.sub (by simp[go_sem]) (by simp[go_sem])))
 ·have hlt:i+1=t.Agents.length:=by have:=odF hc;omega
  clear hc;have w0:=qa2 (N:=N) (lev:=x.Level) hlt;obtain⟨c,r,e1,e2,e3,e4⟩:=qBK (N:=N) (b:=b) (lev:=x.Level) ht (by omega);have hz0:t.Agents[0]?=some t.Agents[0]:=gEg (Z2 ht);obtain⟨z0,hz1,hz2⟩:=jY.1 e2;rw[hz0]at hz1;cases hz1;simp only[gMp,hz0,hz2,oMs,go_sem];refine qU (k:=2) (by rfl) (by simp only[go_sem]) ⟨_,rfl⟩ (by decide) ?_;simp only[go_sem];have hc8:=htp 0 0 _ e2;simp only[pt]at hc8;have ec:IntKind.i64.wrap (((N.length-1:Nat):Int)+((c+1:Nat):Int))=((N.length+c:Nat):Int):=by rw[qf (by omega) (by omega)];omega
  simp only[ec];refine qO zR ?_;simp only[go_sem];refine qO zR ?_;simp only[go_sem];rw[w0]at hn;have b0:Has (jw N t x.Level) b 0:=by unfold jw;exact(hP.by' hy).app
  refine qZ (XE (s:=r) (k:=0) hn e3 b0 fun g1 m1 j1=> ?_);simp only[go_sem];exact hK _ (by rw[e4];exact m1) (hk.trans j1)
end
theorem qgS{x:qA}(h:qk x=true):x.Data.length<=4:=by
 have:=Qq h;unfold zu at this;simp only[bAt,dTe,inI]at this
 repeat' split at this
 all_goals (simp only[bAt,dTe]at this;omega)
theorem Qr{x:qA}(h:qk x=true):x.sz<=8:=by
 have:=qgS h;have:=W1 h;unfold qA.sz;omega
theorem UJ{α:Type}{f:α->Nat}{k:Nat}:∀{xs:List α},(∀x∈xs,f x<=k)->qH f xs<=k*xs.length
 |[],_=>nZl _
 | x::xs,h=>by
  have h1:=h x (by simp);have h2:=UJ (xs:=xs) fun y hy=>h y (by simp[hy]);simp only[qH,lCo,Nat.mul_add];omega
theorem wZ{n:qC}(h:qq n=true):n.sz<=5400/\n.Agents.length<=600:=by
 have h1:n.Agents.length<=600:=by
  have:=h;unfold qq wE at this;simp only[bAt,zK]at this;omega
 have h2:=UJ (f:=qA.sz) (k:=8) fun x hx=>Qr (wF (wY h) x hx);unfold qC.sz;omega
section
variable {w:Nat} {post:List AV} {base nid:Nat} {h:List qD} {N:Ags} {K:AV->List qD->Prop} {a b s c k:Nat} {x y:qA} {X:Nat->Nat->Prop} {bk:List qC}
theorem qaW:∀{N:Ags}{ps:List Nat},ps.length=N.length->(∀(k:Nat)(x:qA)(q:Nat),N[k]?=some x->ps[k]?=some q->h[q]?=some (.row 2 (x.Ports.map qG.enc) true))->
  ∀p∈(zS N ps).zip (N.map qA.enc),Cv h p.1 p.2
 |[],[],_,_=>fun p hp=>by simp[zS]at hp
 |[],_::_,e,_=>by simp at e
 | _::_,[],e,_=>by simp at e
 | x::N,q::ps,e,hp=>zE (qBF (hp 0 x q rfl rfl)) (qaW (N:=N) (ps:=ps) (by simpa using e) fun k x q hx hq=>hp (k+1) x q hx hq)
theorem NE.cvn(hN:NE 1 [] base nid h N):Cv h (.ptr nid 0 0) (.ept (qC.enc ⟨N⟩) 0):=by
 obtain⟨aid,ps,hN⟩:=hN;have el:=Qd hN.l;refine .ptr hN.o (by decide) rfl (.agg rfl (zE (.slc hN.a (by omega) (by decide) (by simp[el]) ?_) fun p hp=>by simp at hp));rw[List.drop_zero,<-el,lTl];exact qaW hN.l hN.p
theorem qgR:Cv h (.lst 1 (bk.map qC.enc) false) (.lst 1 (bk.map qC.enc) false):=.refl (by simp only[AV.tree];exact qV qC.isSh.tree _)
def wI(bk:List qC)(N:Ags)(a b:Nat)(x y:qA):Ags:=if qS x y=7 then(qm bk N a b x y).set a JP else((qm bk N a b x y).set a JP).set b JP
theorem qeW(bk:List qC)(N:Ags)(a b:Nat)(x y:qA):N.length<=(qm bk N a b x y).length:=by rw[(Yp bk N a b x y).len];simp
theorem qiX{n:qC}(h:qq n=true):Jd n.Agents=n.Agents.length:=by
 unfold Jd;rw[List.filter_eq_self.2];intro x hx;have:=wF (wY h) x hx;simp[qAE this]
theorem qh2{c p:Int}: -2<=(zw c p).1/\(zw c p).1<=600:=by
 unfold zw
 repeat' split
 all_goals (rename_i q;first | (rw[zK]at q;simp only;omega) | (simp only;omega))
theorem qbG: -2<=(qx bk x y).1/\(qx bk x y).1<=600:=by
 unfold qx
 repeat' split
 all_goals first
  | (simp only;omega)
  | exact qh2
theorem s979(hN:NE 1 [] base nid h N)(ok:qq ⟨N⟩=true)(hbk:j7 bk=true)(hA:Act N a b x y)(a0:a≠0)(b0:b≠0)(hf:zX x.Kind x.Level y.Kind y.Level≠2)
  (hK1:(qx bk x y).2≠0->K (.int .i64 (qx bk x y).2) h) (hK2:(qx bk x y).2=0->600<(N.length:Int)+(qx bk x y).1->K (.int .i64 4) h)
  (hK3:zN bk N a b x y->∀h' aid,NT 1 [] base nid aid h' (wI bk N a b x y)->Keep base h h'->K (.int .i64 0) h'):SCall Gm 979 [.lst 1 (bk.map qC.enc) false,.ptr nid 0 0,.int .i64 (a:Nat),.int .i64 (b:Nat)] h K:=by
 have la:=hA.pr.la;have lb:=hA.pr.lb;have hbl:=hN.bl;have xok:qk x=true:=J5 ok hA.x;have yok:qk y=true:=J5 ok hA.y;have nsz:=wZ ok;simp only at nsz;have hsw:zM x y=false:=by unfold zM;simpa using hf
 have exx:N[a]=x:=(gSi.1 hA.x).2;have eyy:N[b]=y:=(gSi.1 hA.y).2;have hord:J7 x y=(x,y):=by unfold J7;rw[hsw];rfl
 have hbz:∀t∈bk,t.sz<=600000:=fun t ht=>by
  unfold j7 at hbk;simp only[bAt]at hbk;have:=wZ (lAt.1 hbk.2 t ht);omega
 have c1:=qfP (bk:=bk) (n:=⟨N⟩) (a:=a) (b:=b) la lb (fun z hz=>by have:=Qr (wF (wY ok) z hz);omega) hbz (by
  simp only[exx,eyy,hord];intro c;have kx:x.Kind≠1:=fun e=>a0 ((QL ok a la).1 (by simp only[exx];exact e));have ky:y.Kind≠1:=fun e=>b0 ((QL ok b lb).1 (by simp only[eyy];exact e));obtain⟨e,_,_⟩:=qAY xok yok kx ky hf (by omega);have k:=(Qu (ka:=x.Kind) (la:=x.Level) (kb:=y.Kind) (lb:=y.Level)).2.2.2.2.2.2.1 (e.trans c);have hv:=qCJ xok k.1;unfold jv at hv;rw[zK]at hv;exact hv.1)
 simp only[exx,eyy,hord]at c1;refine sI F979 ?_;simp only[F979,qQ,go_sem];refine jM (Cvs.cons qgR (Cvs.cons hN.cvn (Cvs.cons (.refl rfl) (Cvs.cons (.refl rfl) Cvs.nil)))) c1 rfl ?_;simp only[go_sem];apply qM<;>intro hc<;>simp only[hc,go_sem]
 ·exact hK1 (by simpa using hc)
 have hg:(qx bk x y).2=0:=by simpa using hc
 clear hc c1;refine jM (Cvs.cons hN.cvn Cvs.nil) (qfQ (n:=⟨N⟩) (by omega)) rfl ?_;rw[qiX ok];have gb:=qbG (bk:=bk) (x:=x) (y:=y);have ew:IntKind.i64.wrap (((N.length:Nat):Int)+(qx bk x y).1)=(N.length:Int)+(qx bk x y).1:=qf (by omega) (by omega);simp only[go_sem,ew];apply qM<;>intro hc<;>simp only[hc,go_sem]
 ·exact hK2 hg (by simpa using hc)
 have hfull:(N.length:Int)+(qx bk x y).1<=600:=by simpa using hc
 clear hc;have G:zN bk N a b x y:=⟨ok,hbk,hA,a0,b0,hf,hg,hfull⟩;have hK:=hK3 G;clear hK1 hK2 hK3;refine jM (Cvs.cons hN.cvn (Cvs.cons (.refl rfl) (Cvs.cons (.refl rfl) Cvs.nil))) (c743 (n:=⟨N⟩) la lb) (by split<;>rfl) ?_;simp only[exx,eyy,hsw,if_false,go_sem];obtain⟨aid,ps,hNA⟩:=hN;have hN:NE 1 [] base nid h N:=⟨_,_,hNA⟩;simp only[hNA.o,zH la,zH lb,go_sem];refine jM (Cvs.cons (hNA.cva hA.x) (Cvs.cons (hNA.cva hA.y) Cvs.nil)) Y1 rfl ?_;simp only[go_sem];have lA:=qeW bk N a b x y;have tl:∀(g:List qD)(s m:qo),get s 1=some (.ptr nid 0 0)->get s 3=some (.int .i64 (b:Nat))->get s 11=some (.int .i64 (qS x y))->NE 1 [] base nid g (qm bk N a b x y)->Keep base h g->
   wl ⟨Gm,h.length,[],[]⟩ (some (1304,[.ptr nid 0 0,.int .i64 (a:Nat)])) false (some 128) [] [.code qAA] ⟨s,m,g⟩ (Qf [.t 8] K):=by
  intro g s m e1 e3 e11 nA kA;refine qZ (qlQ nA (Nat.lt_of_lt_of_le la lA) fun g1 aid1 n1 k1=> ?_);simp only[go_sem,e1,e3,e11];apply qM<;>intro hc<;>simp only[hc,go_sem]
  ·have c7:qS x y≠7:=by simpa using hc
   simp only[e1,e3,go_sem];refine qZ (qlP n1 (by rw[lLs];exact Nat.lt_of_lt_of_le lb lA) fun g2 n2 k2=> ?_);simp only[go_sem];exact hK g2 aid1 (by unfold wI;rw[if_neg c7];exact n2) (kA.trans (k1.trans k2))
  ·have c7:qS x y=7:=by simpa using hc
   exact hK g1 aid1 (by unfold wI;rw[if_pos c7];exact n1) (kA.trans k1)
 have P:=hA.pr;obtain⟨e,n0,n9⟩:=G.rule;obtain⟨r1,r2,r3,r4,r5,r6,r7,r8⟩:=Qu (ka:=x.Kind) (la:=x.Level) (kb:=y.Kind) (lb:=y.Level);have xz:=Qr xok;have yz:=Qr yok;have c17:=G.cls;apply qM<;>intro hc<;>simp only[hc,go_sem]
 ·have c1:qS x y=1:=by simpa using hc
  have p1:x.Ports.length=3:=wJ xok (by have:=r1;have:=r2;omega);have p2:y.Ports.length=3:=wJ yok (by have:=r1;have:=r2;omega);refine qO zR ?_;simp only[go_sem];refine qO zR ?_;simp only[go_sem];have w1:=X3 P p1 p2;refine qZ (V9 (s:=1) (k:=1) hN (P.ax (by omega)) (P.by' (by omega)) (P.w.peer (P.ax (by omega)) (P.nx (by omega))) (P.w.peer (P.by' (by omega)) (P.nx (by omega))) fun g n k=> ?_);simp only[go_sem];refine qO zR ?_;simp only[go_sem];refine qO zR ?_;simp only[go_sem];have a2:Has (jn N (pt a 1) (pt b 1)) a 2:=(P.ax (by omega)).same (JJ _ _ _);have b2:Has (jn N (pt a 1) (pt b 1)) b 2:=(P.by' (by omega)).same (JJ _ _ _);refine qZ (V9 (s:=2) (k:=2) n a2 b2 (w1.peer a2 (by unfold X0;omega)) (w1.peer b2 (by unfold X0;omega)) fun g2 n2 k2=> ?_);simp only[go_sem];exact tl _ _ _ (by simp[go_sem]) (by simp[go_sem]) (by simp[go_sem]) (by unfold qm;rw[if_pos (by omega)];exact n2) (k.trans k2)
 have n1:qS x y≠1:=by simpa using hc
 clear hc;apply qM<;>intro hc<;>simp only[hc,go_sem]
 ·have c2:qS x y=2:=by simpa using hc
  have p1:x.Ports.length=3:=wJ xok (by have:=r1;have:=r2;omega);have p2:y.Ports.length=3:=wJ yok (by have:=r1;have:=r2;omega);refine qO zR ?_;simp only[go_sem];refine qO zR ?_;simp only[go_sem];have w1:=X3 P p1 p2;refine qZ (V9 (s:=1) (k:=1) hN (P.ax (by omega)) (P.by' (by omega)) (P.w.peer (P.ax (by omega)) (P.nx (by omega))) (P.w.peer (P.by' (by omega)) (P.nx (by omega))) fun g n k=> ?_);simp only[go_sem];refine qO zR ?_;simp only[go_sem];refine qO zR ?_;simp only[go_sem];have a2:Has (jn N (pt a 1) (pt b 1)) a 2:=(P.ax (by omega)).same (JJ _ _ _);have b2:Has (jn N (pt a 1) (pt b 1)) b 2:=(P.by' (by omega)).same (JJ _ _ _);refine qZ (V9 (s:=2) (k:=2) n a2 b2 (w1.peer a2 (by unfold X0;omega)) (w1.peer b2 (by unfold X0;omega)) fun g2 n2 k2=> ?_);simp only[go_sem];exact tl _ _ _ (by simp[go_sem]) (by simp[go_sem]) (by simp[go_sem]) (by unfold qm;rw[if_pos (by omega)];exact n2) (k.trans k2)
 have n2:qS x y≠2:=by simpa using hc
 clear hc;apply qM<;>intro hc<;>simp only[hc,go_sem]
 ·have c3:qS x y=3:=by simpa using hc
  refine qZ (qlL P hN (wJ xok (.inr (.inr (.inl (r3 (e.trans c3)))))) (wK yok).2 (by omega) (by omega) fun g n k=> ?_);simp only[go_sem];exact tl _ _ _ (by simp[go_sem]) (by simp[go_sem]) (by simp[go_sem]) (by unfold qm;rw[if_neg (by omega),if_pos c3];exact n) k
 have n3:qS x y≠3:=by simpa using hc
 clear hc;apply qM<;>intro hc<;>simp only[hc,go_sem]
 ·have c4:qS x y=4:=by simpa using hc
  obtain⟨q,hq,ha,hr⟩:=hNA.at hA.y;simp only[hNA.o,zH lb,hNA.a,ha,go_sem];have y0:=(wK yok).2;refine Sem.loop (α:=Nat×List qD) (fun q=>q.1+1<=y.Ports.length/\NE 1 [] base nid q.2 (j9 b q.1 N)/\Keep base h q.2)
   (fun q=>(⟨[(1,.ptr nid 0 0),(2,.int .i64 (a:Nat)),(3,.int .i64 (b:Nat)),(11,.int .i64 (qS x y)),(12,.int .i64 (y.Ports.length:Nat)),(13,.int .i64 ((q.1+1:Nat):Int))],[],q.2⟩:VSt)) (fun q=>y.Ports.length-q.1) (0,h) (by kernel_rfl)
   ⟨by simp only;omega,hN,Keep.refl⟩ (Can.sub (by simp[go_sem]) (by simp[go_sem])) ?_
  rintro⟨i,g⟩ ⟨hi,hn,hk⟩;simp only at hi hn hk;have hg2:(j9 b i N).length=N.length+i:=qBH;have yz':=yz;unfold qA.sz at yz';simp only[go_sem];apply qM<;>intro hc<;>simp only[hc,go_sem]
  ·have hlt:i+1<y.Ports.length:=by have:=odT hc;omega
   clear hc;refine qZ (WG (n:=1) hn (by omega) (by omega) fun g1 m1 j1=> ?_);simp only[go_sem];refine qO zR ?_;simp only[go_sem];refine qO zR ?_;simp only[go_sem];have b1:Has (j9 b i N++[qT 5 0 0 [] 1]) b (i+1):=(qBI (P.by' (by omega))).app;refine qZ (J8 (s:=i+1) (k:=0) m1 b1 (zd (by omega)) (((VH P (i:=i) (by omega)).add (qT 5 0 0 [] 1)).peer b1 (by unfold X0;omega)) fun g2 m2 j2=> ?_);simp only[go_sem,qc (show i+1<4611686018427387904 by omega)];refine qd (i+1,g2) ⟨by simp only;omega,m2,hk.trans (j1.trans j2)⟩ (by simp only;omega) (Can.sub (by simp[go_sem]) (by simp[go_sem]))
  ·have hlt:i=y.Ports.length-1:=by have:=odF hc;omega
   clear hc;subst hlt;exact tl _ _ _ (by simp[go_sem]) (by simp[go_sem]) (by simp[go_sem]) (by unfold qm;rw[if_neg (by omega),if_neg n3,if_pos c4];exact hn) hk
 have n4:qS x y≠4:=by simpa using hc
 clear hc;apply qM<;>intro hc<;>simp only[hc,go_sem]
 ·have c5:qS x y=5:=by simpa using hc
  have k5:=r5 (e.trans c5);refine qZ (qlM P hN (fun k8=>⟨Z4 yok (.inl k8), ?_⟩) (fun k8=>wJ yok (.inr (.inr (.inr (by omega))))) (by omega) (by omega) fun g n k=> ?_)
  ·have:=Qq yok;unfold zu at this;rw[k8]at this;simp at this;omega
  simp only[go_sem];exact tl _ _ _ (by simp[go_sem]) (by simp[go_sem]) (by simp[go_sem]) (by unfold qm;rw[if_neg (by omega),if_neg n3,if_neg n4,if_pos c5];exact n) k
 have n5:qS x y≠5:=by simpa using hc
 clear hc;apply qM<;>intro hc<;>simp only[hc,go_sem]
 ·have c6:qS x y=6:=by simpa using hc
  have k6:=r6 (e.trans c6);refine qZ (qlN P hN (Z4 yok (by omega)) (fun k11=>(qCK yok k11).1) (fun k11=> ?_) (by omega) (by omega) (by omega) fun g n k=> ?_)
  ·have q:x.Kind=9/\y.Kind=10:=by omega
   have v9:=qCH xok q.1;rw[zK]at v9;exact⟨q.1,(wK xok).2,v9.1,by omega⟩
  simp only[go_sem];exact tl _ _ _ (by simp[go_sem]) (by simp[go_sem]) (by simp[go_sem]) (by unfold qm;rw[if_neg (by omega),if_neg n3,if_neg n4,if_neg n5,if_pos c6];exact n) k
 have n6:qS x y≠6:=by simpa using hc
 clear hc;apply qM<;>intro hc<;>simp only[hc,go_sem]
 ·have c7:qS x y=7:=by simpa using hc
  obtain⟨k12,v0,v1,t1,t2,t3⟩:=G.t7 c7;obtain⟨q,hq,ha,hr⟩:=hNA.at hA.x;have hv:x.Value.toNat<bk.length:=by omega
  have et:zY bk x.Value=bk[x.Value.toNat]:=by unfold zY;rw[gEg hv];rfl
  simp only[hNA.o,zH la,hNA.a,ha,Jx v0,gMp,gEg hv,oMs,go_sem];rw[<-et];have ts:=wZ t1;refine qZ (qlO hA.pe hN t1 (wK yok).2 (fun z hz=>by have:=Qr (wF (wY t1) z hz);omega) ts.2 (by omega) (J6 xok) (fun k s q hq=> ?_) (fun z hz=>J6 (wF (wY t1) z hz)) fun g n k=> ?_)
  ·obtain⟨b',t',rfl,e2,_,_⟩:=Qp t1 k s q hq id;have:=w6 e2;simp only[pt];omega
  simp only[go_sem];exact tl _ _ _ (by simp[go_sem]) (by simp[go_sem]) (by simp[go_sem]) (by unfold qm;rw[if_neg (by omega),if_neg n3,if_neg n4,if_neg n5,if_neg n6];exact n) k
 ·have:qS x y≠7:=by simpa using hc
  omega
end
section
variable {w:Nat} {post:List AV} {base nid aid:Nat} {h:List qD} {N M:Ags} {K:AV->List qD->Prop} {a b s c k:Nat} {x y:qA} {R:Nat->Bool}
theorem qkG{A:Ags}(hl:M.length=A.length)(e:∀k,R k=false->M[k]?=A[k]?):zo M R=zo A R:=by
 unfold zo;rw[hl];apply List.map_congr_left;intro k hk;have:=(qCN.1 hk).2;rw[lGd,lGd,e k this]
theorem qcZ{g:List qD}{oid:Nat}{el:List AV}{X:AV}(ho:g[oid]?=some (.row 5 el true))(hb:base<=oid)(hX:X=.agg [.int .i64 x.Kind,.int .i64 x.Level,.int .i64 x.Value,.slice 1 g.length 0 x.Data.length false,.slice 2 (g.length+1) 0 x.Ports.length false]):
  ∀G,G=((g++[qD.row 1 (x.Data.map qK) true,qD.row 2 (x.Ports.map qG.enc) true]++[qD.row 5 [X] true]).set oid .dead)++[qD.row 5 (el++[X]) true]->
  ∃G',(∀b s m,Can b ⟨s,m,G⟩ ⟨s,m,G'⟩)/\G'[g.length+3]?=some (.row 5 (el++[x.enc]) true)/\Keep base g G'/\∀j,j<g.length->j≠oid->G'[j]?=g[j]?:=by
 intro G hG;have k0:=qe ho;have lG:G.length=g.length+4:=by rw[hG];simp
 have eG:∀j,j<g.length->j≠oid->G[j]?=g[j]?:=fun j hj j1=>by
  rw[hG,gAl (by simp;omega),gSn (Ne.symm j1),gAl (by simp;omega),gAl hj]
 have e0:G[g.length]?=some (.row 1 (x.Data.map qK) true):=by
  rw[hG,gAl (by simp),gSn (by omega),gAl (by simp)];exact qeL
 have e1:G[g.length+1]?=some (.row 2 (x.Ports.map qG.enc) true):=by
  rw[hG,gAl (by simp),gSn (by omega),gAl (by simp)];exact QS
 have e3:G[g.length+3]?=some (.row 5 (el++[X]) true):=by rw[hG,gAr (by simp)];simp
 have eK:∀j,j<g.length->j≠oid->((without [g.length,g.length+1] G).set (g.length+3) (.row 5 (el++[x.enc]) true))[j]?=g[j]?:=fun j hj j1=>by
  rw[gSn (by omega),wj (by simp;omega)];exact eG j hj j1
 refine⟨(without [g.length,g.length+1] G).set (g.length+3) (.row 5 (el++[x.enc]) true),fun b s m=>Can.giveH [g.length,g.length+1] (by simp) e3 (by simp) (HCv.apps _ ?_), ?_,⟨by simp[wN];omega,fun j hj=>eK j (by omega) (by omega)⟩,eK⟩
 ·rw[hX];refine HCv.list (.agg rfl (HCv.list (.same _) (HCv.list (.same _) (HCv.list (.same _) (HCv.list (.cv (Cv.row (by rw[Jg (by simp)];exact e0) (by simp) (qV shI.tree _) (by decide)) (by simp only[AV.tree];exact qV shI.tree _))
   (HCv.list (.cv (Cv.row (by rw[Jg (by simp)];exact e1) (by simp) (qV qG.isSh.tree _) (by decide)) (by simp only[AV.tree];exact qV qG.isSh.tree _)) (HCv.refls [])))))).2) (HCv.refls [])
 ·rw[gSs (by rw[wN];omega)]
def Je(R:Nat->Bool)(i:Nat):List Int:=(List.range i).map fun k=>(qy R k:Int)
theorem qjU{i:Nat}:Je R (i+1)=Je R i++[(qy R i:Int)]:=by unfold Je;rw[List.range_succ];simp
theorem qjT{i j:Nat}(h:j<i):((Je R i).map qK)[j]?=some (.int .i64 (qy R j:Nat)):=by unfold Je;simp[h,qK]
def wb(M:Ags)(R:Nat->Bool)(i:Nat):Ags:=(ql R i).map fun k=>jA R (M.getD k JP)
theorem qkK{i:Nat}:wb M R (i+1)=wb M R i++if R i then []else [jA R (M.getD i JP)]:=by
 unfold wb;rw[YP,lMa];split<;>rfl
theorem qkJ{i:Nat}:(wb M R i).length<=i:=by simp only[wb,lMp];exact Q8
def ZY(R:Nat->Bool)(p:qG):qG:=⟨(qy R p.Agent.toNat:Nat),p.Slot⟩
theorem s981(hN:NT 1 [] base nid aid h M)(hR:∀k x,M[k]?=some x->(x.Kind=0↔R k=true))(hp:∀k x,M[k]?=some x->R k=false->∀(s:Nat)(q:qG),x.Ports[s]?=some q->0<=q.Agent/\q.Agent<M.length)(hz:∀x∈M,x.sz<=1000)(hl:M.length<=10000)
  (hK:∀h',h'[nid]?=some (.row 1 [qC.enc ⟨zo M R⟩] true)->h.length<=h'.length->(∀j,j<h.length->j≠nid->h'[j]?=h[j]?)->K (.tup []) h'):SCall Gm 981 [.ptr nid 0 0] h K:=by
 have k0:=qe hN.o;have k1:=qe hN.a;have b1:=hN.b1;have b2:=hN.b2;have n1:=hN.n1;refine SCall.run [] [85] (gk _ F981) (by kernel_rfl) rfl ?_;simp only[F981,qQ,go_sem];simp only[bPl,Nat.reduceBEq,go_sem];refine Sem.loop (α:=Nat×List qD×Nat) (fun q=>q.1<=M.length/\Keep h.length h q.2.1/\h.length<=q.2.2/\q.2.1[q.2.2]?=some (.row 1 ((Je R q.1).map qK) true))
  (fun q=>(⟨[(0,.ptr nid 0 0),(2,.slice 1 q.2.2 0 q.1 false),(3,.int .i64 (qy R q.1:Nat)),(4,.int .i64 (q.1:Nat))],[],q.2.1⟩:VSt)) (fun q=>M.length-q.1) (0,h++[.row 1 [] true],h.length) (by kernel_rfl)
  ⟨nZl _,Keep.app (nLr _),nLr _,by simp[Je]⟩
  (Can.ph (WkN.same rfl (WkN.cons rfl (Wk.ph2 (by simp)) (WkN.same rfl (WkN.same rfl WkN.nil)))) WkN.nil) ?_
 rintro⟨i,g,pid⟩ ⟨hi,hk,hpid,hr⟩;simp only at hi hk hpid hr;have on:∀{o:List qD},(g++o)[nid]?=some (.row 1 [.agg (.slice 5 aid 0 M.length false::[])] true):=fun{o}=>by rw[gAl (by have:=hk.l;omega),hk.k _ k0];exact hN.o
 have on0:=on (o:=[]);have oa:g[aid]?=some (.row 5 (M.map qA.enc) true):=by rw[hk.k _ k1];exact hN.a
 rw[lAn]at on0;simp only[bPl,Nat.reduceBEq,go_sem];simp only[on0,go_sem];apply qM<;>intro hc<;>simp only[hc,go_sem]
 ·have hlt:i<M.length:=by have:=odT hc;omega
  clear hc;have cl:=Q8 (R:=R) (n:=i);obtain⟨r1,r2⟩:=JT (tmp:=.row 1 [.int .i64 (qy R i:Nat)] true) hr;simp only[bPl,Nat.reduceBEq,go_sem];refine zy r2 r1 (by simp[Je]) (by omega) ?_;obtain⟨q1,q2⟩:=Z7 (x:=.int .i64 (qy R i:Nat)) (tmp:=.row 1 [.int .i64 (qy R i:Nat)] true) hk (nLr _) hpid hr;have em:(Je R i).map qK++[AV.int .i64 (qy R i:Nat)]=(Je R (i+1)).map qK:=by rw[qjU];simp[qK]
  rw[em]at q1 q2|-;simp only[lAp,lCo,lNi,nZa];have on2:∀{o o':List qD},((g++o).set pid .dead++o')[nid]?=some (.row 1 [.agg (.slice 5 aid 0 M.length false::[])] true):=fun{o o'}=>by
   rw[gAl (by have:=hk.l;simp;omega),gSn (by omega)];exact on
  have oa2:∀{o o':List qD},((g++o).set pid .dead++o')[aid]?=some (.row 5 (M.map qA.enc) true):=fun{o o'}=>by
   have:=qe oa;rw[gAl (by simp;omega),gSn (by omega),gAl this];exact oa
  have hx:M[i]?=some M[i]:=gEg hlt;simp only[bPl,Nat.reduceBEq,go_sem];simp only[on2,zH hlt,oa2,gMp,hx,oMs,go_sem];have hk0:=hR i _ hx;apply qM<;>intro hc<;>simp only[hc,go_sem]
  ·have hr0:R i=false:=by
    have:¬M[i].Kind=0:=by simpa using hc
    rw[hk0]at this;simpa using this
   have ec:=JH (R:=R) (n:=i);rw[hr0]at ec;simp only[bFt,if_false]at ec;simp only[bPl,Nat.reduceBEq,go_sem];simp only[qc (show i<4611686018427387904 by omega),qc (show qy R i<4611686018427387904 by omega),<-ec];exact qd (i+1,_,g.length+1) ⟨hlt,q1,by have:=hk.l;simp only;omega,q2⟩ (by simp only;omega) (Can.sub (by simp[go_sem]) (by simp[go_sem]))
  ·have hr0:R i=true:=hk0.1 (by simpa using hc);have ec:=JH (R:=R) (n:=i);rw[hr0]at ec;simp only[if_true,nAz]at ec;simp only[bPl,Nat.reduceBEq,go_sem];simp only[qc (show i<4611686018427387904 by omega)];exact qd (i+1,_,g.length+1) ⟨hlt,q1,by have:=hk.l;simp only;omega,q2⟩ (by simp only;omega) (Can.sub (by simp[go_sem,ec]) (by simp[go_sem]))
 ·have hlt:i=M.length:=by have:=odF hc;omega
  clear hc;subst hlt;simp only[bPl,Nat.reduceBEq,go_sem];have gl:=hk.l;have pl:=qe hr;have lpk:∀i,(wb M R i).length<=i:=fun i=>qkJ;refine Sem.loop (α:=Nat×List qD×Nat) (fun q=>q.1<=M.length/\Keep g.length g q.2.1/\g.length<=q.2.2/\q.2.1[q.2.2]?=some (.row 5 ((wb M R q.1).map qA.enc) true))
   (fun q=>(⟨[(0,.ptr nid 0 0),(2,.slice 1 pid 0 M.length false),(5,.slice 5 q.2.2 0 (wb M R q.1).length false),(6,.int .i64 (q.1:Nat))],[],q.2.1⟩:VSt)) (fun q=>M.length-q.1) (0,g++[.row 5 [] true],g.length) (by kernel_rfl)
   ⟨nZl _,Keep.app (nLr _),nLr _,by simp[wb,ql]⟩
   (Can.ph (WkN.same rfl (WkN.same rfl (WkN.cons rfl (Wk.ph2 (by simp)) (WkN.same rfl WkN.nil)))) WkN.nil) ?_
  rintro⟨i,f,oid⟩ ⟨hi,jk,hoid,ho⟩;simp only at hi jk hoid ho;have fl:=jk.l;have fn:f[nid]?=some (.row 1 [.agg (.slice 5 aid 0 M.length false::[])] true):=by rw[jk.k _ (by omega)];exact on0
  have fa:f[aid]?=some (.row 5 (M.map qA.enc) true):=by rw[jk.k _ (qe oa)];exact oa
  have fp:f[pid]?=some (.row 1 ((Je R M.length).map qK) true):=by rw[jk.k _ pl];exact hr
  simp only[bPl,Nat.reduceBEq,go_sem];simp only[fn,go_sem];apply qM<;>intro hc<;>simp only[hc,go_sem]
  ·have hlt:i<M.length:=by have:=odT hc;omega
   clear hc;have hx:M[i]?=some M[i]:=gEg hlt;have hxd:M.getD i JP=M[i]:=by rw[lGd,hx];rfl
   have hkx:=hR i _ hx;have hpx:=hp i _ hx;have hzx:=hz _ (gMm hlt);have pks:=qkK (M:=M) (R:=R) (i:=i);rw[hxd]at pks;simp only[bPl,Nat.reduceBEq,go_sem];simp only[fn,zH hlt,fa,gMp,hx,oMs,go_sem];generalize M[i]=x at hx hkx hpx hzx pks|-;apply qM<;>intro hc<;>simp only[hc,go_sem]
   ·have hr0:R i=false:=by
     have:¬x.Kind=0:=by simpa using hc
     rw[hkx]at this;simpa using this
    clear hc;rw[hr0]at pks;simp only[bFt,if_false]at pks;have hzx':=hzx;unfold qA.sz at hzx';simp only[bPl,Nat.reduceBEq,go_sem];simp only[fn,zH hlt,go_sem];refine Js (Cvs.cons (.ptr fa (by decide) (by rw[gMp,hx];rfl) (.refl (qA.tr (x:=x)))) Cvs.nil) (n837 x (by omega)) ?_;simp only[qA.layE,AV.rows,Qm,Qk,lNa,lAn,lCa,WC,nZa];simp only[bPl,Nat.reduceBEq,go_sem];refine qU (k:=5) (by rfl) (by simp only[go_sem]) ⟨_,rfl⟩ (by decide) ?_;simp only[bPl,Nat.reduceBEq,go_sem];have fp2:∀{o:List qD},(f++o)[pid]?=some (.row 1 ((Je R M.length).map qK) true):=fun{o}=>by rw[gAl (qe fp)];exact fp
    refine Sem.loop (fun j:Nat=>j<=x.Ports.length/\True) (fun j=>(⟨[(0,.ptr nid 0 0),(2,.slice 1 pid 0 M.length false),(5,.slice 5 oid 0 (wb M R i).length false),(6,.int .i64 (i:Nat)),(8,.int .i64 (j:Nat))],
     [(7,.agg [.int .i64 x.Kind,.int .i64 x.Level,.int .i64 x.Value,.slice 1 f.length 0 x.Data.length false,.slice 2 (f.length+1) 0 x.Ports.length false])],f++[.row 1 (x.Data.map qK) true,.row 2 ((jr (ZY R) x.Ports j).map qG.enc) true]⟩:VSt)) (fun j=>x.Ports.length-j) 0 (by kernel_rfl) ⟨nZl _,trivial⟩
     (by rw[YG];exact Can.sub (by simp[go_sem]) (by simp[go_sem])) ?_
    rintro j ⟨hj,_⟩;simp only[bPl,Nat.reduceBEq,go_sem];apply qM<;>intro hc<;>simp only[hc,go_sem]
    ·have hlj:j<x.Ports.length:=by have:=odT hc;omega
     clear hc;have hq:=hpx hr0 j _ (gEg hlj);have hm:((jr (ZY R) x.Ports j).map qG.enc)[j]?=some (x.Ports[j].enc):=by rw[gMp,YH hlj];rfl
     have hnw:=qjT (R:=R) (i:=M.length) (j:=x.Ports[j].Agent.toNat) (by omega);simp only[bPl,Nat.reduceBEq,go_sem];simp only[Jb hlj,QS,hm,qiD hq.1 hq.2,nZa,fp2,hnw,go_sem];refine q8 rfl QS hm YT ?_;have ep:(⟨(qy R x.Ports[j].Agent.toNat:Nat),x.Ports[j].Slot⟩:qG)=ZY R x.Ports[j]:=rfl;rw[ep,<-List.map_set,YJ hlj,UF];simp only[bPl,Nat.reduceBEq,go_sem];simp only[qc (show j<4611686018427387904 by omega)];refine qd (j+1) ⟨by omega, ?_⟩ (by omega) (Can.sub (by simp[go_sem]) (by simp[go_sem]));trivial
    ·have hlj:j=x.Ports.length:=by have:=odF hc;omega
     clear hc;subst hlj;rw[YI];simp only[bPl,Nat.reduceBEq,go_sem];have lo:=qe ho;have li:=lpk i;refine zy (len:=(wb M R i).length) (x:=.agg [.int .i64 x.Kind,.int .i64 x.Level,.int .i64 x.Value,.slice 1 f.length 0 x.Data.length false,.slice 2 (f.length+1) 0 x.Ports.length false]) (w:=5) (by simp) (by rw[gAl (by simp;omega),gAl lo];exact ho) (by simp) (by omega) ?_;have eP:x.Ports.map (ZY R)=(jA R x).Ports:=rfl;rw[eP];have hX:(AV.agg [.int .i64 x.Kind,.int .i64 x.Level,.int .i64 x.Value,.slice 1 f.length 0 x.Data.length false,.slice 2 (f.length+1) 0 x.Ports.length false])=.agg [.int .i64 (jA R x).Kind,.int .i64 (jA R x).Level,.int .i64 (jA R x).Value,.slice 1 f.length 0 (jA R x).Data.length false,.slice 2 (f.length+1) 0 (jA R x).Ports.length false]:=by simp[jA]
     obtain⟨G',c1,m1,q1,_⟩:=qcZ (x:=jA R x) (base:=g.length) ho hoid hX _ rfl;have em:(wb M R i).map qA.enc++[(jA R x).enc]=(wb M R (i+1)).map qA.enc:=by rw[pks];simp
     have el:(wb M R i).length+1=(wb M R (i+1)).length:=by rw[pks];simp
     rw[em]at m1;simp only[bPl,Nat.reduceBEq,go_sem];simp only[lAp,lCo,lNi,nZa,el,qc (show i<4611686018427387904 by omega)];exact qd (i+1,G',f.length+3) ⟨hlt,jk.trans q1,by simp only;omega,m1⟩ (by simp only;omega) ((c1 _ _ _).trans (Can.sub (by simp[go_sem]) (by simp[go_sem])))
   ·have hr0:R i=true:=hkx.1 (by simpa using hc);clear hc;rw[hr0,if_pos rfl,lAn]at pks;simp only[bPl,Nat.reduceBEq,go_sem];simp only[qc (show i<4611686018427387904 by omega)];exact qd (i+1,f,oid) ⟨hlt,jk,hoid,by simp only;rw[pks];exact ho⟩ (by simp only;omega) (Can.sub (by simp[go_sem,pks]) (by simp[go_sem]))
  ·have hlt:i=M.length:=by have:=odF hc;omega
   clear hc;subst hlt;simp only[bPl,Nat.reduceBEq,go_sem];refine Sem.can (Can.give (s':=[(0,.ptr nid 0 0),(5,.lst 5 ((zo M R).map qA.enc) false)]) (m':=[]) [oid] (GvS.same (by simp[go_sem]) (GvS.cons (v:=.slice 5 oid 0 (wb M R M.length).length false) (by simp[go_sem]) (Cv.row (by rw[Jg (by simp)];exact ho) (by simp[zo,wb]) (qV qA.isSh.tree _) (by decide)) (by simp only[AV.tree];exact qV qA.isSh.tree _) .nil)) .nil) (Sem.reg (by kernel_rfl) ?_);have fn2:(without [oid] f)[nid]?=some (.row 1 [.agg (.slice 5 aid 0 M.length false::[])] true):=by rw[wj (by simp;omega)];exact fn
   simp only[bPl,Nat.reduceBEq,go_sem];refine q8 rfl fn2 rfl rfl ?_;simp only[bPl,Nat.reduceBEq,go_sem];refine hK _ ?_ (by simp[wN];omega) fun j hj hne=> ?_
   ·rw[gSs (by rw[wN];omega)];rfl
   ·rw[gSn (Ne.symm hne),wj (by simp;omega),jk.k _ (by omega),hk.k _ (by omega)]
end
def qJ.run(d:qJ):Prop:=d.Net.sz<=1048576/\qq d.Net=true/\wM d.Schedule=true/\inI d.At 0 4000=true/\(∀b∈d.Breaks,w7 b=true)/\d.Breaks.length<=8
theorem qj9{d:qJ}(ok:qq d.Net=true)(h:qi d.Net≠[]):(zk d.Net (upP d)).A.toNat<d.Net.Agents.length/\0<=(zk d.Net (upP d)).A:=by
 have hl:0<(qi d.Net).length:=by cases hq:qi d.Net with
  | nil=>exact absurd hq h
  | cons a b=>simp
 obtain⟨sl,e⟩:=Yf hl;have hn:=ok;have ok2:=YS hn (show (qi d.Net)[Jl d (qi d.Net).length]∈zT d.Net.Agents (d.Net.Agents.length-1)from gMm sl);rw[<-e]at ok2;obtain⟨a,b,hp,la,lb⟩:=qCO ok2;rw[hp];exact⟨by simpa using la,by simp⟩
theorem Y0{d:qJ}(ok:d.run):Pure Gm 368 [.ept d.enc 0] (j4 d):=by
 refine pI Ko (by simp[AV.trees,AV.tree,go_sem]) (by unfold j4;split<;>simp[AV.tree,AV.trees,qj.tr]) ?_;simp only[Ko,qQ,go_sem];obtain⟨hzn,hn,hs1,hs2,_,_⟩:=ok;have hp:=qcI hn;have hl:=qjI d.Net;have hzz:d.Net.Agents.length<=d.Net.sz:=by unfold qC.sz;omega
 have hs:inI d.At 0 4000=true/\wM d.Schedule=true:=⟨hs2,hs1⟩;have hsl:d.Schedule.length<=200:=by unfold wM at hs1;simp only[bAt,dTe]at hs1;exact hs1.1
 unfold qC.sz at hzn;have hzn:d.Net.sz<=1048576:=hzn;have ha:=zK.1 hs.1;have conv:Cvs (only [] []) [.ept d.enc 4] [.ept d.Net.enc 0]:=Cvs.cons (.sub qJ.tr (qJ.q4_1) (by rw[qC.ln];decide)) Cvs.nil
 have conv2 (a b:Int):Cvs (only [] []) [.ept d.enc 4,.int .i64 a,.int .i64 b] [.ept d.Net.enc 0,.int .i64 a,.int .i64 b]:=Cvs.cons (.sub qJ.tr (qJ.q4_1) (by rw[qC.ln];decide)) (Cvs.cons (.refl rfl) (Cvs.cons (.refl rfl) Cvs.nil));refine Q7 conv (c742 hzn (fun x hx _=>hp x hx)) ?_
 rw[show zT d.Net.Agents (d.Net.Agents.length-1)=qi d.Net from rfl];simp only[go_sem];apply qM<;>intro hc<;>simp only[hc,go_sem]
 ·refine qU (k:=2) (by rfl) (by rfl) (by exact⟨_,rfl⟩) (by decide) ?_;simp only[go_sem];refine jV (by unfold j4;split<;>simp[AV.tree,AV.trees,qj.tr]) ?_;have:qi d.Net=[]:=by simpa using hc
  simp[j4,ZS,this]
 ·have hm:0<(qi d.Net).length:=by have:=odF hc;omega
  have fin (k:Nat) (hk:k<(qi d.Net).length) (e:Jl d (qi d.Net).length=k):j4 d=.tup [.int .i64 (k:Int),(zk d.Net (qi d.Net)[k]).enc,.int .i64 (qS (zA d.Net (zk d.Net (qi d.Net)[k]).A) (zA d.Net (zk d.Net (qi d.Net)[k]).B)),.bool true]:=by
   simp only[j4,ZS,e,gEg hk]
  apply qM<;>intro hc<;>simp only[hc,go_sem]
  ·have h1:0<d.Schedule.length:=by have:=odT hc;omega
   rw[if_neg (by omega),UM ha.1];have hlt:=Nat.mod_lt d.At.toNat h1;simp only[go_sem];simp only[gMp,gEg hlt,oMs,go_sem];simp only[qK,go_sem];rw[if_neg (by omega),UM (qd0 hs.2 hlt)];have hk:=Nat.mod_lt d.Schedule[d.At.toNat%d.Schedule.length].toNat hm;simp only[go_sem];have ok:=YS hn (show (qi d.Net)[(d.Schedule[d.At.toNat%d.Schedule.length].toNat%(qi d.Net).length)]∈zT d.Net.Agents (d.Net.Agents.length-1)from gMm hk);have fin:=fin _ hk (by rw[Jl,if_neg (by intro h;rw[h]at h1;cases h1),gEg hlt];rfl);simp only[gMp,gEg hk,oMs,go_sem];obtain⟨p,hpp⟩:∃p,p=(qi d.Net)[(d.Schedule[d.At.toNat%d.Schedule.length].toNat%(qi d.Net).length)]:=⟨_,rfl⟩;rw[<-hpp]at ok fin;rw[<-hpp];refine Q7 (conv2 _ _) (qZ8 ok) ?_;have ok2:=qCO ok;obtain⟨q,hq⟩:∃q,q=zk d.Net p:=⟨_,rfl⟩;rw[<-hq]at ok2 fin;rw[<-hq];obtain⟨a,b,rfl,la,lb⟩:=ok2;simp only[go_sem];simp only[gMp,gEg la,oMs,go_sem];simp only[gMp,gEg lb,oMs,go_sem];refine qO Y1 ?_;simp only[go_sem];refine qU (k:=2) (by rfl) (by rfl) (by exact⟨_,rfl⟩) (by decide) ?_;simp only[go_sem];have e1:zA d.Net (a:Int)=d.Net.Agents[a]:=by simp[zA,gEg la]
   have e2:zA d.Net (b:Int)=d.Net.Agents[b]:=by simp[zA,gEg lb]
   refine jV (by unfold j4;split<;>simp[AV.tree,AV.trees,qj.tr]) ?_;rw[fin];simp only[e1,e2,qj.enc,Int.ofNat_zero,Int.natCast_zero]
  ·have h1:d.Schedule=[]:=by have:=odF hc;exact lEz (by omega)
   have hk:=hm;have ok:=YS hn (show (qi d.Net)[0]∈zT d.Net.Agents (d.Net.Agents.length-1)from gMm hk);have fin:=fin _ hk (by rw[Jl,if_pos h1]);simp only[gMp,gEg hk,oMs,go_sem];obtain⟨p,hpp⟩:∃p,p=(qi d.Net)[0]:=⟨_,rfl⟩;rw[<-hpp]at ok fin;rw[<-hpp];refine Q7 (conv2 _ _) (qZ8 ok) ?_;have ok2:=qCO ok;obtain⟨q,hq⟩:∃q,q=zk d.Net p:=⟨_,rfl⟩;rw[<-hq]at ok2 fin;rw[<-hq];obtain⟨a,b,rfl,la,lb⟩:=ok2;simp only[go_sem];simp only[gMp,gEg la,oMs,go_sem];simp only[gMp,gEg lb,oMs,go_sem];refine qO Y1 ?_;simp only[go_sem];refine qU (k:=2) (by rfl) (by rfl) (by exact⟨_,rfl⟩) (by decide) ?_;simp only[go_sem];have e1:zA d.Net (a:Int)=d.Net.Agents[a]:=by simp[zA,gEg la]
   have e2:zA d.Net (b:Int)=d.Net.Agents[b]:=by simp[zA,gEg lb]
   refine jV (by unfold j4;split<;>simp[AV.tree,AV.trees,qj.tr]) ?_;rw[fin];simp only[e1,e2,qj.enc,Int.ofNat_zero,Int.natCast_zero]
theorem qf5{d:qJ}(ok:d.run):Pure Gm 393 [.ept d.enc 0] (.int .i64 (jy d)):=by
 refine pI Kw (by simp[AV.trees,AV.tree,go_sem]) rfl ?_;simp only[Kw,qQ,go_sem];have c:=Y0 ok;have hbl:=ok.2.2.2.2.2;by_cases hne:qi d.Net=[]
 ·have e:j4 d=.tup [.int .i64 0,.agg [.int .i64 0,.int .i64 0],.int .i64 0,.bool false]:=by simp[j4,ZS,hne]
  rw[e]at c;refine qO c ?_;simp only[go_sem];refine qU (k:=2) (by rfl) (by rfl) (by exact⟨_,rfl⟩) (by decide) ?_;simp only[go_sem];refine Sem.loop (fun _:Unit=>True) (fun _=>(⟨[(0,.ept d.enc 0),(6,.bool false),(7,.int .i64 0)],[],[]⟩:VSt)) (fun _=>0) () (by kernel_rfl) trivial (Can.sub (by simp[go_sem]) (by simp[go_sem])) ?_;rintro _ _;simp only[go_sem];apply qg<;>intro hc<;>simp only[hc,go_sem]
  ·refine qR rfl ?_;simp[jy,hne]
  ·refine qR rfl ?_;simp[jy,hne]
 ·obtain⟨k,e⟩:=Vp hne;have hp:=qj9 ok.2.1 hne;have hD:=qeN d;have hM:jy d=wA (Qn (upC d) (upD d) d.Net.Agents.length) d.Breaks 0:=by rw[jy,if_neg hne]
  rw[e]at c;obtain⟨M,hMM⟩:∃M,M=jy d:=⟨_,rfl⟩;rw[<-hMM]at hM;rw[<-hMM];obtain⟨p,hpp⟩:∃p,p=zk d.Net (upP d):=⟨_,rfl⟩;rw[<-hpp]at c hp hD;obtain⟨cl,hcl⟩:∃cl,cl=upC d:=⟨_,rfl⟩;rw[<-hcl]at c hD hM;refine qO c ?_;simp only[go_sem];refine qU (k:=2) (by rfl) (by rfl) (by exact⟨_,rfl⟩) (by decide) ?_;simp only[go_sem];refine Sem.loop (fun i:Nat=>i<=d.Breaks.length/\M=wA (Qn cl (upD d) d.Net.Agents.length) (d.Breaks.drop i) i) (fun i=>(⟨[(0,.ept d.enc 0),(5,.int .i64 cl),(6,.bool true),(7,.int .i64 (i:Nat))],[(4,p.enc)],[]⟩:VSt)) (fun i=>d.Breaks.length-i) 0 (by kernel_rfl) ⟨nZl _,by rw[hM];simp⟩ (Can.sub (by simp[go_sem]) (by simp[go_sem])) ?_;rintro i ⟨hi,hI⟩;simp only[go_sem];apply qg<;>intro hc<;>simp only[hc,go_sem]
  ·have hlt:i<d.Breaks.length:=by have:=odT hc;omega
   simp only[gMp,gEg hlt,oMs,go_sem];refine qU (k:=2) (by rfl) (by rfl) (by exact⟨_,rfl⟩) (by decide) ?_;simp only[go_sem];rw[jF hlt]at hI;simp only[wA]at hI;clear hM hc
   repeat' (first | (first | (apply qg<;>intro hc<;>simp only[hc,go_sem]) | (apply qM<;>intro hc<;>simp only[hc,go_sem])) | (refine qO (c369 hp.1 hp.2) ?_;simp only[go_sem]))
   all_goals simp only[Bool.not_true,Bool.not_false,dTe,decide_eq_false_iff_not,<-hD]at*
   all_goals first
    | (refine qR rfl ?_;rw[hI];simp[Qn, *];done)
    | (refine qR rfl ?_;rw[hI];simp[Qn, *];omega)
    | (simp only[qc (show i<4611686018427387904 by omega)];refine qd (i+1) ⟨by omega, ?_⟩ (by omega) (Can.sub (by simp[go_sem]) (by simp[go_sem]));rw[hI];simp[Qn, *];done)
    | (simp only[qc (show i<4611686018427387904 by omega)];refine qd (i+1) ⟨by omega, ?_⟩ (by omega) (Can.sub (by simp[go_sem]) (by simp[go_sem]));rw[hI];simp[Qn, *];omega)
  ·obtain rfl:i=d.Breaks.length:=by have:=odF hc;omega
   refine qR rfl ?_;rw[hI];simp[wA]
theorem qAT{d:qJ}(ok:d.run):Pure Gm 374 [.ept d.enc 0] (upV d):=by
 refine pI Ku (by simp[AV.trees,AV.tree,go_sem]) (by exact qDD d) ?_;simp only[Ku,qQ,go_sem];obtain⟨hzn,hn,hs1,hs2,_,_⟩:=ok;have hs:inI d.At 0 4000=true/\wM d.Schedule=true:=⟨hs2,hs1⟩;have ha:=zK.1 hs.1;have conv:Cvs (only [] []) [.ept d.enc 4] [.ept d.Net.enc 0]:=Cvs.cons (.sub qJ.tr (qJ.q4_1) (by rw[qC.ln];decide)) Cvs.nil
 have conv2 (p:qj):Cvs (only [] []) [.ept d.enc 4,p.enc] [.ept d.Net.enc 0,p.enc]:=Cvs.cons (.sub qJ.tr (qJ.q4_1) (by rw[qC.ln];decide)) (Cvs.cons (.refl qj.tr) Cvs.nil);refine Q7 conv (c376 hzn hn) ?_
 simp only[go_sem];apply qM<;>intro hc<;>simp only[hc,go_sem]
 ·refine qU (k:=6) (by rfl) (by rfl) (by exact⟨_,rfl⟩) (by decide) ?_;simp only[go_sem];have:qi d.Net=[]:=by simpa using hc
  refine jV (qDD d) ?_;simp[upV,this]
 ·have hm:0<(qi d.Net).length:=by have:=odF hc;omega
  have hne:qi d.Net≠[]:=by intro q;rw[q]at hm;simp at hm
  refine qO (c750 ha.1 hs.2 hm) ?_;simp only[go_sem];obtain⟨sl,e⟩:=Yf hm;have ok2:=YS hn (show (qi d.Net)[Jl d (qi d.Net).length]∈zT d.Net.Agents (d.Net.Agents.length-1)from gMm sl);rw[<-e]at ok2;have hv:upV d=.tup [.agg [.int .i64 (upP d).A,.int .i64 (upP d).B,.int .i64 (upC d),.int .i64 (upX d),.int .i64 (upY d),.int .i64 (upD d)],.bool true]:=by simp[upV,hne]
  rw[show Ya d.Schedule (qi d.Net) d.At=upP d from rfl];have eC:upC d=j5 (zA d.Net (upP d).A) (zA d.Net (upP d).B):=rfl;have eS:upS d=(zM (zA d.Net (upP d).A) (zA d.Net (upP d).B)&& !decide (upC d=8)):=rfl;have eX:upX d=if upS d then(upP d).B else(upP d).A:=rfl;have eY:upY d=if upS d then(upP d).A else(upP d).B:=rfl;have eD:upD d=if upC d=7 then(zA d.Net (upX d)).Value else-1:=rfl;have tv:=qDD d;obtain⟨V,hV⟩:∃V,V=upV d:=⟨_,rfl⟩;rw[<-hV]at hv tv;rw[<-hV];obtain⟨p,hp⟩:∃p,p=upP d:=⟨_,rfl⟩;rw[<-hp]at ok2 hv eC eS eX eY;rw[<-hp];obtain⟨a,b,rfl,la,lb⟩:=ok2;have e1:zA d.Net (a:Int)=d.Net.Agents[a]:=by simp[zA,gEg la]
  have e2:zA d.Net (b:Int)=d.Net.Agents[b]:=by simp[zA,gEg lb]
  simp only[e1,e2]at eC eS;refine qU (k:=2) (by rfl) (by rfl) (by exact⟨_,rfl⟩) (by decide) ?_;simp only[go_sem];refine Q7 (conv2 _) (c751 la lb hn) ?_;rw[<-eC,<-eS];simp only[go_sem];refine qU (k:=6) (by rfl) (by rfl) (by exact⟨_,rfl⟩) (by decide) ?_;simp only[go_sem];apply qM<;>intro hc<;>simp only[hc,go_sem]
  ·rw[if_pos hc]at eX eY;rename_i hc0;apply qM<;>intro hc<;>simp only[hc,go_sem]
   ·rw[if_pos (by simpa using hc),eX]at eD;simp only[gMp,gEg lb,oMs,go_sem];refine qU (k:=6) (by rfl) (by rfl) (by exact⟨_,rfl⟩) (by decide) ?_;simp only[go_sem];refine jV tv ?_;rw[hv,eX,eY,eD,e2]
   ·rw[if_neg (by simpa using hc)]at eD;refine qU (k:=6) (by rfl) (by rfl) (by exact⟨_,rfl⟩) (by decide) ?_;simp only[go_sem];refine jV tv ?_;rw[hv,eX,eY,eD]
  ·rw[if_neg (by simp[hc])]at eX eY;apply qM<;>intro hc<;>simp only[hc,go_sem]
   ·rw[if_pos (by simpa using hc),eX]at eD;simp only[gMp,gEg la,oMs,go_sem];refine qU (k:=6) (by rfl) (by rfl) (by exact⟨_,rfl⟩) (by decide) ?_;simp only[go_sem];refine jV tv ?_;rw[hv,eX,eY,eD,e1]
   ·rw[if_neg (by simpa using hc)]at eD;refine qU (k:=6) (by rfl) (by rfl) (by exact⟨_,rfl⟩) (by decide) ?_;simp only[go_sem];refine jV tv ?_;rw[hv,eX,eY,eD]
theorem qf6{d:qJ}(ok:d.run):Pure Gm 394 [.ept d.enc 0] (.int .i64 (jy d)):=by
 refine Pure.intro [1,3] [] (gk _ Kx) (by kernel_rfl) rfl (by simp[AV.trees,AV.tree,go_sem]) rfl ?_;simp only[Kx,qQ,go_sem];have c:=qAT ok;have hb:=ok.2.2.2.2.1;have hbl:=ok.2.2.2.2.2;refine Wh rfl ?_;simp only[go_sem,lNa,lSz];by_cases hne:qi d.Net=[]
 ·simp only[upV,if_pos hne]at c;refine qO c ?_;simp only[go_sem];refine q8 (by rfl) (by rfl) (by rfl) (by rfl) ?_;simp only[go_sem,lNa,lCa,lSz,List.set_cons_succ];refine qR rfl ?_;simp[jy,hne]
 ·simp only[upV,if_neg hne]at c;refine qO c ?_;simp only[go_sem];refine q8 (e':=.agg [.int .i64 (upP d).A,.int .i64 (upP d).B,.int .i64 (upC d),.int .i64 (upX d),.int .i64 (upY d),.int .i64 (upD d)]) (by rfl) (by rfl) (by rfl) (by rfl) ?_;simp only[go_sem,lNa,lCa,lSz,List.set_cons_succ];refine qO (c771 (YF (upC d) (upD d) d.Net.Agents.length) (by simp[AV.tree,AV.trees,qJ.tr]) _ (fun b _=>⟨772,_,rfl,c772⟩) (by omega)) ?_;simp only[go_sem];refine qR rfl ?_;rw[jy,if_neg hne,qbQ fun x hx=>qi8 (hb x hx)]
theorem qiJ(h:AH):h.kill []=h:=AH.ext' (fun _=>rfl) (fun _=>rfl)
theorem Fresh.lk0{Γ:Nat->Option AFn}{g:Nat}{x y t:AV}{j:Nat}{sh:Option Nat}(hx:x.tree=true)(hp:x.part j sh=some y)(hy:0<y.cells.length)(h:Fresh Γ g [.ept y 0] t):Fresh Γ g [.ept x j] t:=by
 unfold Fresh at h|-;obtain⟨t1,t2,h⟩:=h;refine⟨by simp only[AV.trees,AV.tree,Bool.and_true];exact hx,t2,fun hr ar har=> ?_⟩;simp only[RelVs]at har;obtain⟨r,bs',rfl,hr1,rfl⟩:=har;obtain⟨r',c1,c2⟩:=qv.subV (hr:=hr) (K:=[]) hp hy hr1;obtain⟨k,w,hr',ρ',h1,h2,h3,h4⟩:=h (hr.kill []) [r'] (by simp only[RelVs];exact⟨r',[],rfl,c2,rfl⟩);refine⟨k,w,hr',ρ',.frzA [] (fun id hi=>by cases hi) (as':=[r']) (by simp) (fun p hp=> ?_) h1,h2,h3,by rw[qiJ]at h4;exact h4⟩;simp only[List.zip_cons_cons,List.zip_nil_right,List.mem_cons,List.mem_nil_iff,or_false]at hp;subst hp;exact c1
def psF:Nat->Ags->List Nat
 | _,[]=>[]
 | m,_::xs=>(m+1)::psF (m+2) xs
def dsF:Nat->Ags->List Nat
 | _,[]=>[]
 | m,_::xs=>m::dsF (m+2) xs
theorem V1:∀{N:Ags}{m:Nat},(psF m N).length=N.length
 |[],_=>rfl
 | _::xs,m=>by simp[psF,V1 (N:=xs) (m:=m+2)]
theorem qCS:∀{N:Ags}{m k:Nat},k<N.length->(psF m N)[k]?=some (m+2*k+1)
 | x::xs,m,0,_=>rfl
 | x::xs,m,k+1,h=>by
  simp only[psF,List.getElem?_cons_succ];rw[qCS (by simpa using h)];congr 1;omega
theorem V2{N:Ags}{m q:Nat}(h:q∈psF m N):∃k,k<N.length/\q=m+2*k+1:=by
 obtain⟨k,hk,e⟩:=List.getElem_of_mem h;rw[V1]at hk;have:=qCS (m:=m) hk;rw[gEg (by rw[V1];exact hk),e]at this;exact⟨k,hk,Option.some.inj this⟩
theorem qc8:∀{N:Ags}{m:Nat},(psF m N).Nodup
 |[],_=>by simp[psF]
 | _::xs,m=>by
  rw[psF,List.nodup_cons];exact⟨fun q=>by obtain⟨k,_,e⟩:=V2 q;omega,qc8⟩
theorem qA7:∀{N:Ags}{m q:Nat},q∈dsF m N↔∃k,k<N.length/\q=m+2*k
 |[],m,q=>by simp[dsF]
 | _::xs,m,q=>by
  rw[dsF,List.mem_cons,qA7];constructor
  ·rintro(rfl | ⟨k,hk,rfl⟩)
   ·exact⟨0,by simp,rfl⟩
   ·exact⟨k+1,by simpa using hk,by omega⟩
  ·rintro⟨k,hk,rfl⟩;cases k with
   | zero=>exact .inl rfl
   | succ k=>exact .inr ⟨k,by simpa using hk,by omega⟩
theorem Zu:∀{N:Ags}{m:Nat},(qN (N.map qA.enc) m).2.length=2*N.length
 |[],_=>rfl
 | x::xs,m=>by
  simp only[lMc,qN,qA.layE,Qm,Qk,AV.rows,WC,lAp,lCo,lNi,Zu (N:=xs)];omega
theorem VX:∀{N:Ags}{m k:Nat}{x:qA},N[k]?=some x->(qN (N.map qA.enc) m).2[2*k]?=some (.row 1 (x.Data.map qK) true)/\(qN (N.map qA.enc) m).2[2*k+1]?=some (.row 2 (x.Ports.map qG.enc) true)
 | y::ys,m,0,x,h=>by
  cases h;simp only[lMc,qN,qA.layE,Qm,Qk];exact⟨rfl,rfl⟩
 | y::ys,m,k+1,x,h=>by
  have:=VX (N:=ys) (m:=m+2) (k:=k) (x:=x) h;simp only[lMc,qN,qA.layE,Qm,Qk,AV.rows,WC,nZa,lAn,lCa,lNa,lCo,lNi];exact this
theorem qb0:∀{N:Ags}{m:Nat}{H:List qD},(∀k x,N[k]?=some x->H[m+2*k]?=some (.row 1 (x.Data.map qK) true))->
  (qN (N.map qA.enc) m).1.length=(zS N (psF m N)).length/\∀p∈(qN (N.map qA.enc) m).1.zip (zS N (psF m N)),HCv H p.1 p.2
 |[],m,H,_=>HCv.refls []
 | x::xs,m,H,h=>by
  simp only[lMc,qN,qA.layE,Qm,Qk,AV.rows,WC,nZa,lAn,lCa,lNa,lCo,lNi,psF,zS];refine HCv.list (.agg rfl (HCv.list (.same _) (HCv.list (.same _) (HCv.list (.same _) (HCv.list (.cv (Cv.row (h 0 x rfl) (by simp) (qV shI.tree _) (by decide)) (by simp only[AV.tree];exact qV shI.tree _)) (HCv.list (.same _) (HCv.refls [])))))).2) (qb0 fun k z hz=> ?_);have:=h (k+1) z hz;rw[show m+2*(k+1)=m+2+2*k by omega]at this;exact this
section
variable {w:Nat} {post:List AV} {base nid aid:Nat} {h:List qD} {N:Ags}
theorem NA.ofLay(ho:h[nid]?=some (.row w [.agg (.slice 5 aid 0 N.length false::post)] true))(ha:h[aid]?=some (.row 5 (qN (N.map qA.enc) (aid+1)).1 true))(hr:∀i o,(qN (N.map qA.enc) (aid+1)).2[i]?=some o->h[aid+1+i]?=some o)
  (h0:0<N.length) (hn:nid<aid\/aid+2*N.length<nid) (b1:base<=nid) (b2:base<=aid):
  ∃h',(∀b s m,Can b ⟨s,m,h⟩ ⟨s,m,h'⟩)/\NA w post base nid aid (psF (aid+1) N) h' N/\Keep base h h'/\h'.length=h.length/\∀j,j<aid\/aid+2*N.length<j->h'[j]?=h[j]?:=by
 have hd:∀(k:Nat)(x:qA),N[k]?=some x->h[aid+1+2*k]?=some (.row 1 (x.Data.map qK) true):=fun k x hx=>hr _ _ (VX hx).1;have hp:∀(k:Nat)(x:qA),N[k]?=some x->h[aid+1+2*k+1]?=some (.row 2 (x.Ports.map qG.enc) true):=fun k x hx=>hr _ _ (VX hx).2;have e:∀j,j∉dsF (aid+1) N->j≠aid->((without (dsF (aid+1) N) h).set aid (.row 5 (zS N (psF (aid+1) N)) true))[j]?=h[j]?:=fun j j1 j2=>by
  rw[gSn (Ne.symm j2),wj j1]
 have nd:∀j,(∀k,k<N.length->j≠aid+1+2*k)->j∉dsF (aid+1) N:=fun j hj q=>by
  obtain⟨k,hk,e⟩:=qA7.1 q;exact hj k hk e
 refine⟨_,fun b s m=>Can.giveH (dsF (aid+1) N) ?_ ha ?_ (qb0 fun k x hx=> ?_),⟨?_, ?_,V1,fun k x q hx hq=> ?_,qc8,by omega,fun q=> ?_,fun q=> ?_,b1,b2,fun q hq=> ?_⟩,⟨by simp[wN],fun j hj=>e j (nd j fun k _=>by omega) (by omega)⟩,by simp[wN],fun j hj=>e j (nd j fun k _=>by omega) (by omega)⟩
 ·simp only[List.contains_eq_mem,decide_eq_false_iff_not];exact nd aid fun k _=>by omega
 ·rw[z7];simpa using h0
 ·rw[Jg (qA7.2 ⟨k,qe hx,rfl⟩)];exact hd k x hx
 ·rw[e nid (nd nid fun k _=>by omega) (by omega)];exact ho
 ·rw[gSs (by rw[wN];exact qe ha)]
 ·have hk:=qe hx;rw[qCS hk]at hq;cases hq;rw[e _ (nd _ fun k' _=>by omega) (by omega)];exact hp k x hx
 ·obtain⟨k,_,e⟩:=V2 q;omega
 ·obtain⟨k,_,e⟩:=V2 q;omega
 ·obtain⟨k,_,e⟩:=V2 hq;omega
end
def Jq(c i st df:Int)(o:qE):qE:=if c=3/\i<2 then⟨st,o.Def,o.Source⟩else if c=7 then⟨st,df,i+1⟩else⟨st,-1,-1⟩
def jb(os:List qE)(R:Nat->Bool)(c st df:Int)(o2:qE)(n:Nat):List qE:=
 (ql R n).map fun k=>if k<os.length then os.getD k ⟨0,0,0⟩else Jq c (((k-os.length:Nat):Int)) st df o2
namespace qJ
def pA(d:qJ):Nat:=(zk d.Net (upP d)).A.toNat
def pB(d:qJ):Nat:=(zk d.Net (upP d)).B.toNat
def xA(d:qJ):qA:=zA d.Net (zk d.Net (upP d)).A
def yB(d:qJ):qA:=zA d.Net (zk d.Net (upP d)).B
def stepC(d:qJ):Int:=if qi d.Net=[]then 3 else if 4000<=d.At then 12 else if (qx d.Book d.xA d.yB).2≠0 then(qx d.Book d.xA d.yB).2 else if 600<(d.Net.Agents.length:Int)+(qx d.Book d.xA d.yB).1 then 4 else 0
def stepO(d:qJ):List qE:=jb d.Origins (qt (upC d) d.pA d.pB) (upC d) (d.At+1) (upD d) (d.Origins.getD d.pB ⟨0,0,0⟩) (qm d.Book d.Net.Agents d.pA d.pB d.xA d.yB).length
def stepG(d:qJ):qC:=⟨XI d.Book d.Net.Agents d.pA d.pB d.xA d.yB⟩
def stepT(d:qJ):qJ:={d with At:=d.At+1,Net:=d.stepG,Origins:=d.stepO,Points:=if (d.At+1).tmod d.Every=0/\(d.Points.length:Int)=(d.At+1).tdiv d.Every then d.Points++[⟨d.At+1,d.stepG,d.stepO⟩]else d.Points}
end qJ
theorem qcW{os:List qE}{R:Nat->Bool}{c st df:Int}{o2:qE}{n:Nat}:jb os R c st df o2 (n+1)=jb os R c st df o2 n++if R n then []else [if n<os.length then os.getD n ⟨0,0,0⟩else Jq c (((n-os.length:Nat):Int)) st df o2]:=by
 unfold jb;rw[YP,lMa];split<;>rfl
theorem Z6{os:List qE}{R:Nat->Bool}{c st df:Int}{o2:qE}{n:Nat}:(jb os R c st df o2 n).length=qy R n:=by simp[jb,qy]
theorem qc3{xs:Ags}{p:qj}:∀{m:Nat},p∈zT xs m->∃k,1<=k/\p∈Jj xs k
 | 0,h=>by simp[zT]at h
 | m+1,h=>by
  rw[zT,wV]at h;rcases h with h | h
  ·exact qc3 h
  ·exact⟨m+1,by omega,h⟩
theorem qc1{n:qC}{p:qj}(h:p∈qi n):∃i j:Nat,p=⟨i,j⟩/\0<i/\i<j/\atP n.Agents i 0=some (pt j 0):=by
 obtain⟨k,hk,hp⟩:=qc3 h;unfold Jj at hp;split at hp
 ·rename_i x hx;split at hp
  ·simp at hp
  split at hp
  ·rename_i q hq;split at hp
   ·rename_i e;simp only[List.mem_cons,List.mem_nil_iff,or_false]at hp;refine⟨k,q.Agent.toNat, ?_,hk,by omega,jY.2 ⟨x,hx, ?_⟩⟩
    ·rw[hp,Int.toNat_of_nonneg (by omega)]
    ·rw[hq];obtain⟨qa,qs⟩:=q;simp only at e;simp only[pt,oSi,qG.mk.injEq];exact⟨(Int.toNat_of_nonneg (by omega)).symm,by rw[e.1];rfl⟩
   ·simp at hp
  ·simp at hp
 ·simp at hp
theorem qhS{x y:qA}(h:zX x.Kind x.Level y.Kind y.Level=2):zX y.Kind y.Level x.Kind x.Level≠2:=by
 unfold zX at h|-;rw[qc0]at h;split at h
 ·rename_i hp;rw[if_pos hp];split at h
  ·cases h
  ·split at h
   ·rename_i q;rw[if_pos q];decide
   ·cases h
 ·cases h
theorem qCF{d:qJ}(ok:qq d.Net=true)(hne:qi d.Net≠[]):Act d.Net.Agents d.pA d.pB d.xA d.yB/\d.pA≠0/\d.pB≠0/\zX d.xA.Kind d.xA.Level d.yB.Kind d.yB.Level≠2/\zk d.Net (upP d)=⟨(d.pA:Int),(d.pB:Int)⟩:=by
 have hl:0<(qi d.Net).length:=by cases hq:qi d.Net with
  | nil=>exact absurd hq hne
  | cons a b=>simp
 obtain⟨sl,e⟩:=Yf hl;have hm:upP d∈qi d.Net:=by rw[e];exact gMm sl
 obtain⟨i,j,e1,h0,h1,h2⟩:=qc1 hm;obtain⟨b',t',e3,h3,_,_⟩:=Qp ok i 0 _ h2 id;obtain⟨rfl,rfl⟩:=JA.1 e3;have li:=w6 h2;have lj:=w6 h3;have wk:=Qp ok;have gi:d.Net.Agents[i]?=some d.Net.Agents[i]:=gEg li;have gj:d.Net.Agents[j]?=some d.Net.Agents[j]:=gEg lj;have ai:zA d.Net (i:Int)=d.Net.Agents[i]:=by simp[zA,gi]
 have aj:zA d.Net (j:Int)=d.Net.Agents[j]:=by simp[zA,gj]
 unfold qJ.pA qJ.pB qJ.xA qJ.yB zk;rw[e1];simp only[ai,aj];split
 ·rename_i q;simp only[iTn,ai,aj];exact⟨⟨wk,gj,gi,by omega,h3,h2⟩,by omega,by omega,qhS (by unfold zM at q;simpa using q),by trivial⟩
 ·rename_i q;simp only[iTn,ai,aj];exact⟨⟨wk,gi,gj,by omega,h2,h3⟩,by omega,by omega,by unfold zM at q;simpa using q,by trivial⟩
structure DI(d:qJ):Prop where
 r:d.run
 bk:j7 d.Book=true
 ev:1<=d.Every/\d.Every<=50
 os:d.Origins.length=d.Net.Agents.length
 pl:d.At.tdiv d.Every+1<=d.Points.length
 pm:d.Points.length<=4001
 pv:∀(i:Nat)(p:qF),d.Points[i]?=some p->p.At=(i:Int)*d.Every/\qq p.Net=true/\p.Origins.length=p.Net.Agents.length
theorem VS{bk:List qC}{N:Ags}{a b:Nat}{x y:qA}{k:Nat}(hk:k<(qm bk N a b x y).length)(hc:qS x y<=7):
  (wI bk N a b x y)[k]?=if qt (qS x y) a b k then some JP else(qm bk N a b x y)[k]?:=by
 unfold wI qt;by_cases c:qS x y=7
 ·rw[if_pos c];simp only[c,ne_eq,not_true_eq_false,decide_false,Bool.false_and,Bool.or_false,dTe];split
  ·rename_i e;subst e;rw[gSs hk]
  ·rename_i e;rw[gSn (Ne.symm e)]
 ·rw[if_neg c];simp only[ne_eq,c,not_false_eq_true,decide_true,Bool.true_and,Bool.or_eq_true,dTe];by_cases e2:k=b
  ·subst e2;rw[if_pos (.inr rfl),gSs (by rw[lLs];exact hk)]
  ·rw[gSn (Ne.symm e2)];by_cases e1:k=a
   ·subst e1;rw[if_pos (.inl rfl),gSs hk]
   ·rw[if_neg (by omega),gSn (Ne.symm e1)]
theorem Qj{bk:List qC}{N:Ags}{a b:Nat}{x y:qA}:(wI bk N a b x y).length=(qm bk N a b x y).length:=by unfold wI;split<;>simp
section
variable {bk:List qC} {N:Ags} {a b:Nat} {x y:qA}
theorem zN.hR(G:zN bk N a b x y):∀k z,(wI bk N a b x y)[k]?=some z->(z.Kind=0↔qt (qS x y) a b k=true):=fun k z hz=>by
 have hk:=qe hz;rw[Qj]at hk;rw[VS hk G.cls.2]at hz;split at hz
 ·rename_i q;cases hz;simp[q]
 ·rename_i q;have:=qAE (Yq G k z hz).1;simp[this,q]
theorem zN.hp(G:zN bk N a b x y):∀k z,(wI bk N a b x y)[k]?=some z->qt (qS x y) a b k=false->∀(s:Nat)(q:qG),z.Ports[s]?=some q->0<=q.Agent/\q.Agent<(wI bk N a b x y).length:=fun k z hz hd s q hq=>by
 have hk:=qe hz;rw[Qj]at hk|-;rw[VS hk G.cls.2,hd]at hz;obtain⟨b',t',rfl,e2,_,_⟩:=qAC G k s q (jY.2 ⟨z,by simpa using hz,hq⟩) (by simp[hd]);have:=w6 e2;simp only[pt];omega
theorem zN.hz(G:zN bk N a b x y):∀z∈wI bk N a b x y,z.sz<=1000:=fun z hz=>by
 obtain⟨k,hk,e⟩:=List.getElem_of_mem hz;have hz:=gEg hk;rw[e]at hz;rw[Qj]at hk;rw[VS hk G.cls.2]at hz;split at hz
 ·cases hz;decide
 ·have:=Qr (Yq G k z hz).1;omega
theorem zN.hl(G:zN bk N a b x y):(qm bk N a b x y).length<=1300:=by
 have h1:=qZF G;have h2:=G.full;have h3:∀m,m<=qy (qt (qS x y) a b) m+2:=fun m=>by
  have la:=G.act.pr.la;have lb:=G.act.pr.lb;have key:∀(R:Nat->Bool)(a b:Nat),(∀k,R k=true->k=a\/k=b)->∀m,m<=qy R m+((if a<m then 1 else 0)+if b<m then 1 else 0):=by
   intro R a b hR m
   induction m with
   | zero=>simp
   | succ m ih=>
    rw[JH];cases hm:R m with
    | false=>simp only[bFt,if_false];split at ih<;>split at ih<;>split<;>split<;>omega
    | true=>
     simp only[if_true];rcases hR m hm with e | e<;>subst e<;>(split at ih<;>split at ih<;>split<;>split<;>omega)
  have:=key (qt (qS x y) a b) a b (fun k hk=>by unfold qt at hk;simp at hk;omega) m;split at this<;>split at this<;>omega
 have:=h3 (qm bk N a b x y).length;omega
theorem zN.pack(G:zN bk N a b x y):zo (wI bk N a b x y) (qt (qS x y) a b)=XI bk N a b x y:=
 qkG Qj fun k hk=>by
  rcases Nat.lt_or_ge k (qm bk N a b x y).length with q | q
  ·rw[VS q G.cls.2,hk];rfl
  ·rw[gEn (by rw[Qj];exact q),gEn q]
end
theorem c980{c i st df:Int}{o:qE}(hi:0<=i/\i<=1000000):Pure Gm 980 [.int .i64 c,.int .i64 i,.int .i64 st,.int .i64 df,o.enc] ((Jq c i st df o).enc):=by
 refine pI F980 (by simp[AV.trees,AV.tree,go_sem]) (by exact qE.tr) ?_;simp only[F980,qQ,go_sem];have hw:IntKind.i64.wrap (i+1)=i+1:=qf (by omega) (by omega);refine qW rfl ?_;simp only[go_sem];unfold Jq
 repeat' (first | (first | (apply qg<;>intro hc<;>simp only[hc,go_sem]) | (apply qM<;>intro hc<;>simp only[hc,go_sem])))
 all_goals try simp only[hw]
 all_goals refine qU rfl rfl ⟨_,rfl⟩ (by decide) ?_
 all_goals simp only[go_sem]
 all_goals refine qR qE.tr ?_
 all_goals (simp_all[qE.enc]<;>(rw[if_neg (by omega)];exact⟨rfl,rfl,rfl⟩))
def zf(d:qJ)(pid:Nat):AV:=.agg [.lst 1 (d.Book.map qC.enc) false,.lst 1 (d.Schedule.map qK) false,.int .i64 d.Every,.int .i64 d.At,.lst 5 (d.Net.Agents.map qA.enc) false,.lst 3 (d.Origins.map qE.enc) false,.lst 2 (d.Breaks.map qI.enc) false,.slice 3 pid 0 d.Points.length false]
structure DA(base did pid:Nat)(h:List qD)(d:qJ):Prop where
 o:h[did]?=some (.row 8 [zf d pid] true)
 p:h[pid]?=some (.row 3 (d.Points.map qF.enc) true)
 n:did≠pid
 b1:base<=did
 b2:base<=pid
section
variable {base did pid:Nat} {h h':List qD} {d:qJ} {K:AV->List qD->Prop}
theorem DA.o'(hD:DA base did pid h d):h[did]?=some (.row 8 [.agg [.lst 1 (d.Book.map qC.enc) false,.lst 1 (d.Schedule.map qK) false,.int .i64 d.Every,.int .i64 d.At,.lst 5 (d.Net.Agents.map qA.enc) false,.lst 3 (d.Origins.map qE.enc) false,.lst 2 (d.Breaks.map qI.enc) false,.slice 3 pid 0 d.Points.length false]] true):=hD.o
theorem DA.l1(hD:DA base did pid h d):did<h.length:=qe hD.o
theorem DA.l2(hD:DA base did pid h d):pid<h.length:=qe hD.p
theorem DA.bl(hD:DA base did pid h d):base<=h.length:=by have:=hD.l1;have:=hD.b1;omega
theorem DA.heap(hD:DA base did pid h d)(e1:h'[did]?=h[did]?)(e2:h'[pid]?=h[pid]?):DA base did pid h' d:=⟨e1.trans hD.o,e2.trans hD.p,hD.n,hD.b1,hD.b2⟩
theorem DA.keep(hD:DA base did pid h d)(hk:Keep h.length h h'):DA base did pid h' d:=hD.heap (hk.k _ hD.l1) (hk.k _ hD.l2)
theorem DA.cv0(hD:DA base did pid h d):Cv h (zf d pid) d.enc:=
 .agg rfl (zE (.refl (by simp only[AV.tree];exact qV qC.isSh.tree _)) (zE (.refl (by simp only[AV.tree];exact qV shI.tree _)) (zE (.refl rfl) (zE (.refl rfl) (zE (.refl (by simp only[AV.tree];exact qV qA.isSh.tree _)) (zE (.refl (by simp only[AV.tree];exact qV qE.isSh.tree _)) (zE (.refl (by simp only[AV.tree];exact qV qI.isSh.tree _)) (zE (Cv.row hD.p (by simp) (qV qF.isSh.tree _) (by decide)) (fun p hp=>by simp at hp)))))))))
theorem DA.cv(hD:DA base did pid h d)(j:Nat):Cv h (.ptr did 0 j) (.ept d.enc j):=.ptr hD.o (by decide) rfl hD.cv0
theorem DA.put{d':qJ}(hD:DA base did pid h d)(e:d'.Points=d.Points):DA base did pid (h.set did (.row 8 [zf d' pid] true)) d':=
 ⟨by rw[gSs hD.l1],by rw[gSn hD.n,e];exact hD.p,hD.n,hD.b1,hD.b2⟩
theorem qCE(d:qJ):(j4 d).leaf=true:=by unfold j4;split<;>rfl
theorem s607(hD:DA base did pid h d)(hI:DI d)(hK1:d.stepC≠0->∀h',Keep base h h'->K (.int .i64 d.stepC) h')
  (hK2:d.stepC=0->zN d.Book d.Net.Agents d.pA d.pB d.xA d.yB->∀h' pid',DA base did pid' h' d.stepT->Keep base h h'->K (.int .i64 0) h'):SCall Gm 607 [.ptr did 0 0] h K:=by
 have hD':=hD.o';obtain⟨nsz,ok,hsch,hAt,hbr,hbl⟩:=hI.r;have bl:=hD.bl;have ha:=zK.1 hAt;refine SCall.run [] [44,114,156] (gk _ kS) (by kernel_rfl) rfl ?_;simp only[kS,qQ,go_sem];simp only[bPl,Nat.reduceBEq,go_sem];refine jM (Cvs.cons (hD.cv 0) Cvs.nil) (Y0 hI.r) (qCE d) ?_;simp only[bPl,Nat.reduceBEq,go_sem];by_cases hne:qi d.Net=[]
 ·have e:j4 d=.tup [.int .i64 0,.agg [.int .i64 0,.int .i64 0],.int .i64 0,.bool false]:=by simp[j4,ZS,hne]
  rw[e];simp only[bPl,Nat.reduceBEq,go_sem];refine qU (k:=2) (by rfl) (by rfl) (by exact⟨_,rfl⟩) (by decide) ?_;simp only[bPl,Nat.reduceBEq,go_sem];have ec:d.stepC=3:=by unfold qJ.stepC;rw[if_pos hne]
  rw[ec]at hK1;exact hK1 (by decide) _ Keep.refl
 obtain⟨k0,e⟩:=Vp hne;obtain⟨A,a0,b0,hf,eo⟩:=qCF ok hne;rw[e,eo];simp only[bPl,Nat.reduceBEq,go_sem];refine qU (k:=2) (by rfl) (by rfl) (by exact⟨_,rfl⟩) (by decide) ?_;simp only[bPl,Nat.reduceBEq,go_sem];simp only[hD',go_sem];apply qM<;>intro hc<;>simp only[hc,go_sem]
 ·have ec:d.stepC=12:=by unfold qJ.stepC;rw[if_neg hne,if_pos (by simpa using hc)]
  rw[ec]at hK1;simp only[bPl,Nat.reduceBEq,go_sem];exact hK1 (by decide) _ Keep.refl
 have hlt:¬4000<=d.At:=by simpa using hc
 clear hc;have la:=A.pr.la;have lb:=A.pr.lb;have eA:zA d.Net (d.pA:Int)=d.xA:=by unfold qJ.xA;rw[eo]
 have eD:upD d=if upC d=7 then d.xA.Value else-1:=by rw[qeN,eo,eA]
 have eC:upC d=qS d.xA d.yB:=UO d;have ed:d.stepC=if (qx d.Book d.xA d.yB).2≠0 then(qx d.Book d.xA d.yB).2 else if 600<(d.Net.Agents.length:Int)+(qx d.Book d.xA d.yB).1 then 4 else 0:=by unfold qJ.stepC;rw[if_neg hne,if_neg hlt]
 simp only[bPl,Nat.reduceBEq,go_sem];refine jM (Cvs.cons (hD.cv 0) (Cvs.cons (.refl qj.tr) (Cvs.cons (.refl rfl) Cvs.nil))) (c369 (d:=d) (p:=⟨(d.pA:Int),(d.pB:Int)⟩) (by simpa using la) (by simp)) rfl ?_;simp only[eA,<-eD];simp only[bPl,Nat.reduceBEq,go_sem];have lo:d.pB<d.Origins.length:=by rw[hI.os];exact lb
 have eO:d.Origins.getD d.pB ⟨0,0,0⟩=d.Origins[d.pB]:=by rw[lGd,gEg lo];rfl
 simp only[hD',gMp,gEg lo,oMs,go_sem];rw[<-eO];refine qU (k:=3) (by rfl) (by simp only[go_sem]) ⟨_,rfl⟩ (by decide) ?_;simp only[bPl,Nat.reduceBEq,go_sem];refine Js (Cvs.cons (hD.cv 4) Cvs.nil) (Fresh.lk0 qJ.tr qJ.q4_1 (by rw[qC.ln];decide) (Vm d.Net nsz)) ?_;have eL:(lay d.Net.enc h.length)=(.agg [.slice 5 h.length 0 d.Net.Agents.length false],.row 5 (qN (d.Net.Agents.map qA.enc) (h.length+1)).1 true::(qN (d.Net.Agents.map qA.enc) (h.length+1)).2):=by rw[qC.layE,lAn];rfl
 rw[eL];simp only;generalize hh1:h++(qD.row 5 (qN (d.Net.Agents.map qA.enc) (h.length+1)).1 true::(qN (d.Net.Agents.map qA.enc) (h.length+1)).2)=h1;have l1:h1.length=h.length+1+2*d.Net.Agents.length:=by rw[<-hh1,lAp,lCo,Zu];omega
 simp only[bPl,Nat.reduceBEq,go_sem];refine q8 rfl (gCl) rfl rfl ?_;rw[lSr _ _ (nLr _),nSs];simp only[lSz];simp only[bPl,Nat.reduceBEq,go_sem];have q0:=Z2 ok;obtain⟨h2,c2,n2,k2,_⟩:=NA.ofLay (w:=1) (post:=[]) (base:=h.length) (nid:=h1.length) (aid:=h.length) (N:=d.Net.Agents) (h:=h1++[qD.row 1 [AV.agg [AV.slice 5 h.length 0 d.Net.Agents.length false]] true]) gCl
  (by rw[gAl (by omega),<-hh1,gAr (nLr _),nSs];rfl)
  (fun i o hi=>by
   have:=qe hi;rw[Zu]at this;rw[gAl (by omega),<-hh1,gAr (by omega),show h.length+1+i-h.length=i+1 by omega];exact hi) q0 (.inr (by omega)) (by omega) (nLr _)
 refine Sem.can (c2 _ _ _) (Sem.reg (by kernel_rfl) ?_);have k1:Keep h.length h h2:=(by
  have:Keep h.length h (h1++[qD.row 1 [AV.agg [AV.slice 5 h.length 0 d.Net.Agents.length false]] true]):=by rw[<-hh1,lAa];exact Keep.app (nLr _)
  exact this.trans k2)
 clear c2 k2 hh1;have hD2:h2[did]?=_:=(k1.k _ hD.l1).trans hD';simp only[bPl,Nat.reduceBEq,go_sem];simp only[hD2,go_sem];refine qZ (s979 (bk:=d.Book) ⟨_,_,n2⟩ ok hI.bk A a0 b0 hf (fun q=> ?_) (fun q q2=> ?_) fun G h3 aid n3 k3=> ?_)
 ·rw[ed,if_pos q]at hK1;simp only[bPl,Nat.reduceBEq,go_sem];simp only[q,decide_false,Bool.not_false];simp only[bPl,Nat.reduceBEq,go_sem];exact hK1 q _ (k1.up bl)
 ·rw[ed,if_neg (by simpa using q),if_pos q2]at hK1;simp only[bPl,Nat.reduceBEq,go_sem];simp only[Int.reduceEq,decide_false,Bool.not_false];simp only[bPl,Nat.reduceBEq,go_sem];exact hK1 (by decide) _ (k1.up bl)
 have hK:=fun q=>hK2 q G;rw[ed,if_neg (by simpa using G.g),if_neg (by have:=G.full;omega)]at hK;have hK:=hK rfl;clear hK1 hK2;have k3':=k1.trans k3;clear k1 k3 n2 hD2;have hD3:=hD.keep k3';have hD3':=hD3.o';have eAt:IntKind.i64.wrap (d.At+1)=d.At+1:=qf (by omega) (by omega);simp only[bPl,Nat.reduceBEq,go_sem];simp only[hD3',eAt,go_sem];refine q8 (e':=zf {d with At:=d.At+1} pid) rfl hD3' rfl rfl ?_;have d0:=hD.l1;have d1:=hD.l2;have g3:=k3'.l;have nb1:=n3.b1;have nb2:=n3.b2;simp only[lSz];have hD4:=hD3.put (d':={d with At:=d.At+1}) rfl;have e4:∀j,j≠did->(h3.set did (.row 8 [zf {d with At:=d.At+1} pid] true))[j]?=h3[j]?:=fun j hj=>by rw[gSn (Ne.symm hj)]
 have g4:(h3.set did (.row 8 [zf {d with At:=d.At+1} pid] true)).length=h3.length:=by rw[lLs]
 generalize h3.set did (.row 8 [zf {d with At:=d.At+1} pid] true)=h4 at hD4 e4 g4|-;have n4:NT 1 [] h.length h1.length aid h4 (wI d.Book d.Net.Agents d.pA d.pB d.xA d.yB):=⟨(e4 _ (by omega)).trans n3.o,(e4 _ (by omega)).trans n3.a,n3.n1,n3.b1,n3.b2⟩;have k4:Keep base h h4:=⟨by omega,fun j hj=>(e4 j (by have:=hD.b1;omega)).trans (k3'.k j (by omega))⟩;clear hD3 hD3' n3 k3';have hR:=G.hR;have hlM:=G.hl;have nn:=qe n4.o;have na:=qe n4.a;simp only[bPl,Nat.reduceBEq,go_sem];have mapS:∀{n:Nat}{l:List qE}{o:qE},l.map qE.enc++[o.enc]=(l++[o]).map qE.enc:=fun{n l o}=>by simp
 refine Sem.loop (α:=Nat×List qD×Nat) (fun q=>q.1<=(qm d.Book d.Net.Agents d.pA d.pB d.xA d.yB).length/\Keep h4.length h4 q.2.1/\h4.length<=q.2.2/\q.2.1[q.2.2]?=some (.row 3 ((jb d.Origins (qt (upC d) d.pA d.pB) (upC d) (d.At+1) (upD d) (d.Origins.getD d.pB ⟨0,0,0⟩) q.1).map qE.enc) true))
  (fun q=>(⟨[(0,.ptr did 0 0),(5,.int .i64 (upC d)),(7,.int .i64 (upD d)),(9,.ptr h1.length 0 0),(11,.slice 3 q.2.2 0 (qy (qt (upC d) d.pA d.pB) q.1) false),(12,.int .i64 (q.1:Nat))],[(8,(d.Origins.getD d.pB ⟨0,0,0⟩).enc)],q.2.1⟩:VSt)) (fun q=>(qm d.Book d.Net.Agents d.pA d.pB d.xA d.yB).length-q.1) (0,h4++[.row 3 [] true],h4.length) (by kernel_rfl)
  ⟨nZl _,Keep.app (nLr _),nLr _,by simp[jb,ql]⟩
  (Can.ph (WkN.same rfl (WkN.same rfl (WkN.same rfl (WkN.same rfl (WkN.cons rfl (Wk.ph2 (by simp)) (WkN.same rfl WkN.nil)))))) (WkN.same rfl WkN.nil)) ?_
 rintro⟨i,g,lid⟩ ⟨hi,hk,hlid,hr⟩;simp only at hi hk hlid hr;have gl:=hk.l;have gn:g[h1.length]?=_:=(hk.k _ nn).trans n4.o;have ga:g[aid]?=_:=(hk.k _ na).trans n4.a;have gD:=hD4.keep hk;have gd:=gD.o';simp only[bPl,Nat.reduceBEq,go_sem];simp only[gn,Qj,go_sem];apply qM<;>intro hc<;>simp only[hc,go_sem]
 ·have hlt:i<(qm d.Book d.Net.Agents d.pA d.pB d.xA d.yB).length:=by have:=odT hc;omega
  clear hc;have hlt':i<(wI d.Book d.Net.Agents d.pA d.pB d.xA d.yB).length:=by rw[Qj];exact hlt
  have hz:(wI d.Book d.Net.Agents d.pA d.pB d.xA d.yB)[i]?=some (wI d.Book d.Net.Agents d.pA d.pB d.xA d.yB)[i]:=gEg hlt';have hRi:=hR i _ hz;rw[<-eC]at hRi;have os:=qcW (os:=d.Origins) (R:=qt (upC d) d.pA d.pB) (c:=upC d) (st:=d.At+1) (df:=upD d) (o2:=d.Origins.getD d.pB ⟨0,0,0⟩) (n:=i);have cs:=JH (R:=qt (upC d) d.pA d.pB) (n:=i);have cl:=Q8 (R:=qt (upC d) d.pA d.pB) (n:=i);simp only[bPl,Nat.reduceBEq,go_sem];simp only[gn,Qj,zH hlt,ga,gMp,hz,oMs,go_sem];apply qM<;>intro hc<;>simp only[hc,go_sem]
  ·have hr0:qt (upC d) d.pA d.pB i=true:=hRi.1 (by simpa using hc);rw[hr0,if_pos rfl]at os cs;rw[lAn]at os;rw[nAz]at cs;simp only[bPl,Nat.reduceBEq,go_sem];simp only[qc (show i<4611686018427387904 by omega)];exact qd (i+1,g,lid) ⟨hlt,hk,hlid,by simp only;rw[os];exact hr⟩ (by simp only;omega) (Can.sub (by simp[go_sem,cs]) (by simp[go_sem]))
  ·have hr0:qt (upC d) d.pA d.pB i=false:=by
    have:¬qt (upC d) d.pA d.pB i=true:=fun e=>by have:=hRi.2 e;simp at hc;exact hc this
    simpa using this
   clear hc;rw[hr0]at os cs;simp only[bFt,if_false]at os cs;simp only[bPl,Nat.reduceBEq,go_sem];simp only[gd,go_sem];have nx:∀(o:qE),jb d.Origins (qt (upC d) d.pA d.pB) (upC d) (d.At+1) (upD d) (d.Origins.getD d.pB ⟨0,0,0⟩) (i+1)=jb d.Origins (qt (upC d) d.pA d.pB) (upC d) (d.At+1) (upD d) (d.Origins.getD d.pB ⟨0,0,0⟩) i++[o]->
     Keep h4.length h4 (((g++[qD.row 3 [o.enc] true]).set lid .dead)++[.row 3 ((jb d.Origins (qt (upC d) d.pA d.pB) (upC d) (d.At+1) (upD d) (d.Origins.getD d.pB ⟨0,0,0⟩) i).map qE.enc++[o.enc]) true])/\
     (((g++[qD.row 3 [o.enc] true]).set lid .dead)++[.row 3 ((jb d.Origins (qt (upC d) d.pA d.pB) (upC d) (d.At+1) (upD d) (d.Origins.getD d.pB ⟨0,0,0⟩) i).map qE.enc++[o.enc]) true])[g.length+1]?=some (.row 3 ((jb d.Origins (qt (upC d) d.pA d.pB) (upC d) (d.At+1) (upD d) (d.Origins.getD d.pB ⟨0,0,0⟩) (i+1)).map qE.enc) true):=fun o e=>by
    obtain⟨q1,q2⟩:=Z7 (x:=o.enc) (tmp:=.row 3 [o.enc] true) hk (nLr _) hlid hr;exact⟨q1,by rw[e,lMa];exact q2⟩
   apply qM<;>intro hc<;>simp only[hc,go_sem]
   ·have hio:i<d.Origins.length:=by have:=odT hc;omega
    have eo:d.Origins.getD i ⟨0,0,0⟩=d.Origins[i]:=by rw[lGd,gEg hio];rfl
    rw[if_pos hio,eo]at os;obtain⟨r1,r2⟩:=JT (tmp:=.row 3 [d.Origins[i].enc] true) hr;obtain⟨q1,q2⟩:=nx _ os;simp only[bPl,Nat.reduceBEq,go_sem];simp only[gd,gMp,gEg hio,oMs,go_sem];refine zy r2 r1 (by simp[Z6]) (by omega) ?_;simp only[bPl,Nat.reduceBEq,go_sem];simp only[lAp,lCo,lNi,nZa,qc (show i<4611686018427387904 by omega),<-cs];exact qd (i+1,_,g.length+1) ⟨hlt,q1,by simp only;omega,q2⟩ (by simp only;omega) (Can.sub (by simp[go_sem]) (by simp[go_sem]))
   ·have hio:¬i<d.Origins.length:=by have:=odF hc;omega
    rw[if_neg hio]at os;have ew:IntKind.i64.wrap ((i:Int)-(d.Origins.length:Nat))=((i-d.Origins.length:Nat):Int):=by have:=wZ ok;have:=hI.os;rw[qf (by omega) (by omega)];omega
    obtain⟨r1,r2⟩:=JT (tmp:=.row 3 [(Jq (upC d) ((i-d.Origins.length:Nat):Int) (d.At+1) (upD d) (d.Origins.getD d.pB ⟨0,0,0⟩)).enc] true) hr;obtain⟨q1,q2⟩:=nx _ os;simp only[bPl,Nat.reduceBEq,go_sem];simp only[gd,ew,go_sem];refine qO (c980 (by omega)) ?_;simp only[bPl,Nat.reduceBEq,go_sem];refine zy r2 r1 (by simp[Z6]) (by omega) ?_;simp only[bPl,Nat.reduceBEq,go_sem];simp only[lAp,lCo,lNi,nZa,qc (show i<4611686018427387904 by omega),<-cs];exact qd (i+1,_,g.length+1) ⟨hlt,q1,by simp only;omega,q2⟩ (by simp only;omega) (Can.sub (by simp[go_sem]) (by simp[go_sem]))
 ·have hlt:i=(qm d.Book d.Net.Agents d.pA d.pB d.xA d.yB).length:=by have:=odF hc;omega
  clear hc;subst hlt;simp only[bPl,Nat.reduceBEq,go_sem];have n5:NT 1 [] h.length h1.length aid g (wI d.Book d.Net.Agents d.pA d.pB d.xA d.yB):=⟨gn,ga,n4.n1,n4.b1,n4.b2⟩;have lidl:=qe hr;refine qZ (s981 n5 (R:=qt (upC d) d.pA d.pB) (by rw[eC];exact hR) (by rw[eC];exact G.hp) G.hz (by rw[Qj];omega) fun h6 m6 l6 k6=> ?_);have eG:zo (wI d.Book d.Net.Agents d.pA d.pB d.xA d.yB) (qt (upC d) d.pA d.pB)=d.stepG.Agents:=by rw[eC];exact G.pack
  rw[eG]at m6;have eS:jb d.Origins (qt (upC d) d.pA d.pB) (upC d) (d.At+1) (upD d) (d.Origins.getD d.pB ⟨0,0,0⟩) (qm d.Book d.Net.Agents d.pA d.pB d.xA d.yB).length=d.stepO:=rfl;rw[eS]at hr;have lS:qy (qt (upC d) d.pA d.pB) (qm d.Book d.Net.Agents d.pA d.pB d.xA d.yB).length=d.stepO.length:=by rw[<-eS,Z6]
  have gd6:DA base did pid h6 {d with At:=d.At+1}:=gD.heap (k6 _ (by omega) (by omega)) (k6 _ gD.l2 (by omega));have r6:h6[lid]?=_:=(k6 _ lidl (by omega)).trans hr;have k7:Keep base h h6:=⟨by omega,fun j hj=>by rw[k6 j (by omega) (by omega),hk.k j (by omega),k4.k j hj]⟩;simp only[bPl,Nat.reduceBEq,go_sem];refine Sem.can (Can.give (s':=[(0,.ptr did 0 0),(9,.ptr h1.length 0 0),(11,.lst 3 (d.stepO.map qE.enc) false)]) (m':=[]) [lid] (GvS.same (by simp[go_sem]) (GvS.same (by simp[go_sem]) (GvS.cons (v:=.slice 3 lid 0 (qy (qt (upC d) d.pA d.pB) (qm d.Book d.Net.Agents d.pA d.pB d.xA d.yB).length) false) (by simp[go_sem]) (Cv.row (by rw[Jg (by simp)];exact r6) (by rw[lS];simp) (qV qE.isSh.tree _) (by decide)) (by simp only[AV.tree];exact qV qE.isSh.tree _) .nil))) .nil) (Sem.reg (by kernel_rfl) ?_);have e8:∀j,j≠lid->(without [lid] h6)[j]?=h6[j]?:=fun j hj=>wj (by simpa using hj);have gd8:=gd6.heap (e8 did (by omega)) (e8 pid (by have:=gD.l2;have:=hD.l2;omega));have m8:=(e8 h1.length (by omega)).trans m6;have k8:Keep base h (without [lid] h6):=k7.wo (by simp;have:=hD.b1;omega);have l8:(without [lid] h6).length=h6.length:=wN;generalize without [lid] h6=h8 at gd8 m8 k8 l8|-;clear gd6 r6 k7 m6 k6 hr eS n5 gn ga gD gd n4 hD4 e4 nn na;have gd8':=gd8.o';simp only[bPl,Nat.reduceBEq,go_sem];simp only[m8,go_sem];refine q8 (e':=zf {d with At:=d.At+1,Net:=d.stepG} pid) (by simp only[go_sem]) gd8' rfl rfl ?_;simp only[lSz];have gd9:=gd8.put (d':={d with At:=d.At+1,Net:=d.stepG}) rfl;have m9:(h8.set did (.row 8 [zf {d with At:=d.At+1,Net:=d.stepG} pid] true))[h1.length]?=_:=(gSn (by omega)).trans m8;have k9:=k8.trans (Keep.set (i:=did) (o:=.row 8 [zf {d with At:=d.At+1,Net:=d.stepG} pid] true) hD.b1);generalize h8.set did (.row 8 [zf {d with At:=d.At+1,Net:=d.stepG} pid] true)=h9 at gd9 m9 k9|-;have gd9':=gd9.o';simp only[bPl,Nat.reduceBEq,go_sem];refine q8 (e':=zf {d with At:=d.At+1,Net:=d.stepG,Origins:=d.stepO} pid) rfl gd9' rfl rfl ?_;simp only[lSz];have gdA:=gd9.put (d':={d with At:=d.At+1,Net:=d.stepG,Origins:=d.stepO}) rfl;have mA:(h9.set did (.row 8 [zf {d with At:=d.At+1,Net:=d.stepG,Origins:=d.stepO} pid] true))[h1.length]?=_:=(gSn (by omega)).trans m9;have kA:=k9.trans (Keep.set (i:=did) (o:=.row 8 [zf {d with At:=d.At+1,Net:=d.stepG,Origins:=d.stepO} pid] true) hD.b1);generalize h9.set did (.row 8 [zf {d with At:=d.At+1,Net:=d.stepG,Origins:=d.stepO} pid] true)=hA at gdA mA kA|-;have gdA':=gdA.o';have ev0:¬d.Every=0:=by have:=hI.ev;omega
  simp only[bPl,Nat.reduceBEq,go_sem];simp only[gdA',if_neg ev0,kT,go_sem];simp only[bPl,Nat.reduceBEq,go_sem];have pm:=hI.pm;have tq:IntKind.i64.wrap ((d.At+1).tdiv d.Every)=(d.At+1).tdiv d.Every:=by
   have:=QR (a:=d.At+1) (b:=d.Every) (by omega) (by have:=hI.ev;omega);exact qf (by omega) (by omega)
  have kF:Keep base h hA:=kA;have fin0:¬((d.At+1).tmod d.Every=0/\(d.Points.length:Int)=(d.At+1).tdiv d.Every)->DA base did pid hA d.stepT:=fun q=>by
   have:d.stepT={d with At:=d.At+1,Net:=d.stepG,Origins:=d.stepO}:=by unfold qJ.stepT;rw[if_neg q]
   rw[this];exact gdA
  apply qg<;>intro hc<;>simp only[hc,go_sem]
  ·have h1:(d.At+1).tmod d.Every=0:=by simpa using hc
   clear hc;simp only[gdA',if_neg ev0,tq,go_sem];apply qM<;>intro hc<;>simp only[hc,go_sem]
   ·have h2:(d.Points.length:Int)=(d.At+1).tdiv d.Every:=by simpa using hc
    clear hc;simp only[bPl,Nat.reduceBEq,go_sem];simp only[gdA',mA,kU,go_sem];simp only[bPl,Nat.reduceBEq,go_sem];refine q8 (e':=(⟨d.At+1,d.stepG,d.stepO⟩:qF).enc) rfl gCl rfl rfl ?_;rw[lSr _ _ (nLr _),nSs];simp only[lSz];have xb:(hA++[qD.row 3 [(⟨d.At+1,d.stepG,d.stepO⟩:qF).enc] true])[hA.length]?=some (.row 3 [(⟨d.At+1,d.stepG,d.stepO⟩:qF).enc] true):=gCl;simp only[bPl,Nat.reduceBEq,go_sem];refine Sem.can (Can.give (s':=[(0,.ptr did 0 0),(13,.ept (⟨d.At+1,d.stepG,d.stepO⟩:qF).enc 0)]) (m':=[]) [hA.length] (GvS.same (by simp[go_sem]) (GvS.cons (v:=.ptr hA.length 0 0) (by simp[go_sem]) (.ptr (by rw[Jg (by simp)];exact xb) (by decide) rfl (.refl qF.tr)) (by simp only[AV.tree];exact qF.tr) .nil)) .nil) (Sem.reg (by kernel_rfl) ?_);have gdB:DA base did pid (without [hA.length] (hA++[qD.row 3 [(⟨d.At+1,d.stepG,d.stepO⟩:qF).enc] true])) {d with At:=d.At+1,Net:=d.stepG,Origins:=d.stepO}:=
     gdA.heap (by rw[wj (by have:=gdA.l1;simp;omega),gAl gdA.l1]) (by rw[wj (by have:=gdA.l2;simp;omega),gAl gdA.l2])
    have kB:Keep base h (without [hA.length] (hA++[qD.row 3 [(⟨d.At+1,d.stepG,d.stepO⟩:qF).enc] true])):=(kA.trans (Keep.app gdA.bl)).wo (by have:=gdA.bl;simp;omega);generalize without [hA.length] (hA++[qD.row 3 [(⟨d.At+1,d.stepG,d.stepO⟩:qF).enc] true])=hB at gdB kB|-;have gdB':=gdB.o';simp only[bPl,Nat.reduceBEq,go_sem];simp only[gdB',go_sem];have so:=qC9 G;have sz:(⟨d.At+1,d.stepG,d.stepO⟩:qF).sz<=1048576:=by
     have q1:=wZ so;have q2:d.stepO.length<=(qm d.Book d.Net.Agents d.pA d.pB d.xA d.yB).length:=by rw[<-lS];exact Q8
     unfold qF.sz;simp only;have:d.stepG=⟨XI d.Book d.Net.Agents d.pA d.pB d.xA d.yB⟩:=rfl;rw[this];omega
    refine qO (c795 _ sz) ?_;simp only[bPl,Nat.reduceBEq,go_sem];obtain⟨r1,r2⟩:=JT (tmp:=.row 3 [(⟨d.At+1,d.stepG,d.stepO⟩:qF).enc] true) gdB.p;refine zy r2 r1 (by simp) (show d.Points.length<4294967296 by omega) ?_;simp only[bPl,Nat.reduceBEq,go_sem];simp only[lAp,lCo,lNi,nZa];obtain⟨q1,q2⟩:=Z7 (x:=(⟨d.At+1,d.stepG,d.stepO⟩:qF).enc) (tmp:=.row 3 [(⟨d.At+1,d.stepG,d.stepO⟩:qF).enc] true) kB hD.bl hD.b2 gdB.p;have b0:=gdB.l1;have ob:(((hB++[qD.row 3 [(⟨d.At+1,d.stepG,d.stepO⟩:qF).enc] true]).set pid .dead)++[qD.row 3 (d.Points.map qF.enc++[(⟨d.At+1,d.stepG,d.stepO⟩:qF).enc]) true])[did]?=hB[did]?:=by
     rw[gAl (by simp;omega),gSn (Ne.symm hD.n),gAl b0]
    have eT:d.stepT={d with At:=d.At+1,Net:=d.stepG,Origins:=d.stepO,Points:=d.Points++[⟨d.At+1,d.stepG,d.stepO⟩]}:=by unfold qJ.stepT;rw[if_pos ⟨h1,h2⟩]
    refine q8 (e':=zf d.stepT (hB.length+1)) rfl (ob.trans gdB') rfl (by rw[eT];simp[zf,AV.put,AV.cells]) ?_;simp only[lSz];simp only[bPl,Nat.reduceBEq,go_sem];refine hK _ (hB.length+1) ⟨?_, ?_,by omega,hD.b1,by have:=gdB.bl;omega⟩ (q1.trans (Keep.set hD.b1))
    ·rw[gSs (by simp;omega)]
    ·rw[gSn (by omega),eT,lMa];exact q2
   ·have h2:¬(d.Points.length:Int)=(d.At+1).tdiv d.Every:=by simpa using hc
    simp only[bPl,Nat.reduceBEq,go_sem];exact hK _ pid (fin0 fun q=>h2 q.2) kF
  ·have h1:¬(d.At+1).tmod d.Every=0:=by simpa using hc
   simp only[bPl,Nat.reduceBEq,go_sem];exact hK _ pid (fin0 fun q=>h1 q.1) kF
end
def Sub(h:List qD)(n:Nat)(os:List qD):Prop:=∀i o,os[i]?=some o->h[n+i]?=some o
theorem Sub.app{h:List qD}{n:Nat}{A B:List qD}(s:Sub h n (A++B)):Sub h n A/\Sub h (n+A.length) B:=
 ⟨fun i o hi=>s i o (by rw[gAl (qe hi)];exact hi),fun i o hi=>by
  have:=s (A.length+i) o (by rw[gAr (by omega),Nat.add_sub_cancel_left];exact hi);rw[Nat.add_assoc];exact this⟩
theorem Sub.mono{h h':List qD}{n:Nat}{A:List qD}(s:Sub h n A)(e:∀j,n<=j->j<n+A.length->h'[j]?=h[j]?):Sub h' n A:=
 fun i o hi=>by have:=qe hi;rw[e _ (by omega) (by omega)];exact s i o hi
theorem qdF{h:List qD}{a b j:Nat}(h1:a<=j)(h2:j<a+b):(only (List.range' a b) h)[j]?=h[j]?:=Jg (by simp;omega)
theorem qCX{h:List qD}{a b j:Nat}(h1:j<a\/a+b<=j):(without (List.range' a b) h)[j]?=h[j]?:=wj (by simp;omega)
section
variable {base did n:Nat} {h:List qD} {d:qJ}
theorem DA.ofLay(ho:h[did]?=some (.row 8 [(lay d.enc n).1] true))(hs:Sub h n (lay d.enc n).2)(hp:0<d.Points.length)(hd:did<n\/n+d.enc.rows<=did)(b1:base<=did)(b2:base<=n):
  ∃h' pid,(∀b s m,Can b ⟨s,m,h⟩ ⟨s,m,h'⟩)/\DA base did pid h' d/\Keep base h h':=by
 rw[<-qb d.enc n]at hd;rw[qJ.layE]at ho hs hd;simp only[lAn,lAp]at ho hs hd;obtain⟨s1,hs⟩:=hs.app;obtain⟨s2,hs⟩:=hs.app;obtain⟨s3,hs⟩:=hs.app;obtain⟨s4,hs⟩:=hs.app;obtain⟨s5,s6⟩:=hs.app;simp only[qb]at s2 s3 s4 s5 s6 hd;have p1:(AV.lst 1 (d.Book.map qC.enc) false).pl=true:=by simp only[AV.pl];exact qn qC.plx _
 have p2:(AV.lst 1 (d.Schedule.map qK) false).pl=true:=by simp only[AV.pl];exact qn (fun _=>rfl) _
 have p3:(AV.lst 5 (d.Net.Agents.map qA.enc) false).pl=true:=by simp only[AV.pl];exact qn qA.plx _
 have p4:(AV.lst 3 (d.Origins.map qE.enc) false).pl=true:=by simp only[AV.pl];exact qn qE.plx _
 have p5:(AV.lst 2 (d.Breaks.map qI.enc) false).pl=true:=by simp only[AV.pl];exact qn qI.plx _
 have c1:(AV.lst 1 (d.Book.map qC.enc) false).cn=true:=by simp only[AV.cn];simp[ju qC.cnx]
 have c2:(AV.lst 1 (d.Schedule.map qK) false).cn=true:=by simp only[AV.cn];simp[ju (enc:=qK) (fun _=>rfl)]
 have c3:(AV.lst 5 (d.Net.Agents.map qA.enc) false).cn=true:=by simp only[AV.cn];simp[ju qA.cnx]
 have c4:(AV.lst 3 (d.Origins.map qE.enc) false).cn=true:=by simp only[AV.cn];simp[ju qE.cnx]
 have c5:(AV.lst 2 (d.Breaks.map qI.enc) false).cn=true:=by simp only[AV.cn];simp[ju qI.cnx]
 have t1:(AV.lst 1 (d.Book.map qC.enc) false).tree=true:=by simp only[AV.tree];exact qV qC.isSh.tree _
 have t2:(AV.lst 1 (d.Schedule.map qK) false).tree=true:=by simp only[AV.tree];exact qV shI.tree _
 have t3:(AV.lst 5 (d.Net.Agents.map qA.enc) false).tree=true:=by simp only[AV.tree];exact qV qA.isSh.tree _
 have t4:(AV.lst 3 (d.Origins.map qE.enc) false).tree=true:=by simp only[AV.tree];exact qV qE.isSh.tree _
 have t5:(AV.lst 2 (d.Breaks.map qI.enc) false).tree=true:=by simp only[AV.tree];exact qV qI.isSh.tree _
 obtain⟨r1,e1⟩:∃r,r=(AV.lst 1 (d.Book.map qC.enc) false).rows:=⟨_,rfl⟩;obtain⟨r2,e2⟩:∃r,r=(AV.lst 1 (d.Schedule.map qK) false).rows:=⟨_,rfl⟩;obtain⟨r3,e3⟩:∃r,r=(AV.lst 5 (d.Net.Agents.map qA.enc) false).rows:=⟨_,rfl⟩;obtain⟨r4,e4⟩:∃r,r=(AV.lst 3 (d.Origins.map qE.enc) false).rows:=⟨_,rfl⟩;obtain⟨r5,e5⟩:∃r,r=(AV.lst 2 (d.Breaks.map qI.enc) false).rows:=⟨_,rfl⟩;obtain⟨r6,e6⟩:∃r,r=(AV.lst 3 (d.Points.map qF.enc) false).rows:=⟨_,rfl⟩;have l1:=qb (.lst 1 (d.Book.map qC.enc) false) n;have l2:=qb (.lst 1 (d.Schedule.map qK) false) (n+r1);have l3:=qb (.lst 5 (d.Net.Agents.map qA.enc) false) (n+r1+r2);have l4:=qb (.lst 3 (d.Origins.map qE.enc) false) (n+r1+r2+r3);have l5:=qb (.lst 2 (d.Breaks.map qI.enc) false) (n+r1+r2+r3+r4);simp only[<-e1,<-e2,<-e3,<-e4,<-e5,<-e6]at s2 s3 s4 s5 s6 ho hd l1 l2 l3 l4 l5;have e6':r6=AV.rowss (d.Points.map qF.enc)+1:=by rw[e6];rfl
 obtain⟨pid,hpid⟩:∃pid,pid=n+r1+r2+r3+r4+r5:=⟨_,rfl⟩;rw[<-hpid]at s6 ho;have sp:h[pid]?=some (.row 3 (qN (d.Points.map qF.enc) (pid+1)).1 true):=by have:=s6 0 _ (by simp[lay];rfl);simpa using this
 have sq:Sub h (pid+1) (qN (d.Points.map qF.enc) (pid+1)).2:=fun i o hi=>by have:=s6 (i+1) o (by simpa[lay]using hi);rw[<-this];congr 1;omega
 have lq:=zQ (d.Points.map qF.enc) (pid+1);have h1:∀b s m,Can b ⟨s,m,h⟩ ⟨s,m,(without (List.range' (pid+1) (r6-1)) h).set pid (.row 3 (d.Points.map qF.enc) true)⟩:=fun b s m=>by
  refine Can.giveH (List.range' (pid+1) (r6-1)) (by simp;omega) sp (by rw[z7];simpa using hp) ⟨by rw[z7],fun p hp=>.cv (X7 _ _ (qn qF.plx _) (ju qF.cnx _) (fun i o hi=> ?_) p hp) ?_⟩
  ·have:=qe hi;rw[qdF (by omega) (by omega)];exact sq i o hi
  ·have:=(List.of_mem_zip hp).2;obtain⟨z,_,ez⟩:=List.mem_map.1 this;rw[<-ez];exact qF.tr
 obtain⟨H1,hH1⟩:∃H1,H1=(without (List.range' (pid+1) (r6-1)) h).set pid (.row 3 (d.Points.map qF.enc) true):=⟨_,rfl⟩;rw[<-hH1]at h1;have k1:∀j,j<pid\/pid+r6<=j->H1[j]?=h[j]?:=fun j hj=>by rw[hH1,gSn (by omega),qCX (by omega)]
 have hd1:did<n\/pid+r6<=did:=by omega
 have ho1:=(k1 did (by omega)).trans ho;have on:∀{a r:Nat}{os:List qD},Sub h a os->os.length=r->n<=a->a+r<=pid->Sub (only (List.range' n (pid-n)) H1) a os:=fun s e a1 a2=>s.mono fun j j1 j2=>by
  rw[qdF (by omega) (by omega),k1 j (by omega)]
 have h2:∀b s m,Can b ⟨s,m,H1⟩ ⟨s,m,(without (List.range' n (pid-n)) H1).set did (.row 8 [zf d pid] true)⟩:=fun b s m=>by
  have v1:=ZK _ _ p1 c1 (on s1 l1 (by omega) (by omega));have v2:=ZK _ _ p2 c2 (on s2 l2 (by omega) (by omega));have v3:=ZK _ _ p3 c3 (on s3 l3 (by omega) (by omega));have v4:=ZK _ _ p4 c4 (on s4 l4 (by omega) (by omega));have v5:=ZK _ _ p5 c5 (on s5 l5 (by omega) (by omega));rw[zU,lMp]at v1 v2 v3 v4 v5;exact Can.giveH (List.range' n (pid-n)) (by simp;omega) ho1 (by simp) (HCv.list (.agg rfl (HCv.list (.cv v1 t1) (HCv.list (.cv v2 t2) (HCv.list (.same _) (HCv.list (.same _) (HCv.list (.cv v3 t3) (HCv.list (.cv v4 t4) (HCv.list (.cv v5 t5) (HCv.list (.same _) (HCv.refls []))))))))).2) (HCv.refls []))
 refine⟨_,pid,fun b s m=>(h1 b s m).trans (h2 b s m),⟨?_, ?_,by omega,b1,by omega⟩,⟨by simp[wN,hH1],fun j hj=> ?_⟩⟩
 ·rw[gSs (by rw[wN];exact qe ho1)]
 ·rw[gSn (by omega),qCX (by omega),hH1,gSs (by rw[wN];exact qe sp)]
 ·rw[gSn (by omega),qCX (by omega),k1 j (by omega)]
end
theorem n427(d:qJ)(hz:d.sz<=1048576):Fresh Gm 427 [.ept d.enc 0] d.enc:=by
 unfold qJ.sz at hz;have zn:d.Net.sz<=1048576:=by omega
 refine fI K2 (by simp[AV.trees,AV.tree,go_sem]) (qJ.plx d) ?_;simp only[K2,qQ,go_sem];refine zW (n402 d.Schedule (by omega)) ?_;simp only[go_sem,zU,lNa];have conv:∀h,Cvs h [.ept d.enc 4] [.ept d.Net.enc 0]:=fun h=>Cvs.cons (.sub qJ.tr (qJ.q4_1) (by rw[qC.ln];decide)) Cvs.nil
 refine Js (conv _) (Vm d.Net (by omega)) ?_;simp only[go_sem,qC.layE,lAn,qb];refine Zi Els.lst (by simp;omega) ?_;simp only[go_sem,lAp,qb];refine Zi Els.lst (by simp;omega) ?_;simp only[go_sem,lAp,qb];refine qU (k:=8) (by rfl) (by rfl) (by exact⟨_,rfl⟩) (by decide) ?_;simp only[go_sem];have hB:0<AV.rows (.lst 1 (d.Book.map qC.enc) false):=by simp only[AV.rows];omega
 have hS:0<AV.rows (.lst 1 (d.Schedule.map qK) false):=by simp only[AV.rows];omega
 have hN:0<AV.rows (.lst 5 (d.Net.Agents.map qA.enc) false):=by simp only[AV.rows];omega
 have hO:0<AV.rows (.lst 3 (d.Origins.map qE.enc) false):=by simp only[AV.rows];omega
 have hK:0<AV.rows (.lst 2 (d.Breaks.map qI.enc) false):=by simp only[AV.rows];omega
 have rO:AV.rows (.lst 3 (d.Origins.map qE.enc) false)=1:=by have:=qE.flat d.Origins 0;have h2:=zQ (d.Origins.map qE.enc) 0;rw[this]at h2;simp only[AV.rows,<-h2,lNi]
 have rK:AV.rows (.lst 2 (d.Breaks.map qI.enc) false)=1:=by have:=qI.flat d.Breaks 0;have h2:=zQ (d.Breaks.map qI.enc) 0;rw[this]at h2;simp only[AV.rows,<-h2,lNi]
 have hp1:AV.pls [.lst 1 (d.Schedule.map qK) false,.lst 5 (d.Net.Agents.map qA.enc) false,.lst 3 (d.Origins.map qE.enc) false,.lst 2 (d.Breaks.map qI.enc) false]=true:=by simp only[AV.pls,AV.pl,qn (enc:=qK) (fun _=>rfl),qn qA.plx,qn qE.plx,qn qI.plx,Bool.and_self]
 have hb1:AV.rowss [.lst 1 (d.Schedule.map qK) false,.lst 5 (d.Net.Agents.map qA.enc) false,.lst 3 (d.Origins.map qE.enc) false,.lst 2 (d.Breaks.map qI.enc) false]=AV.rows (.lst 1 (d.Schedule.map qK) false)+AV.rows (.lst 5 (d.Net.Agents.map qA.enc) false)+1+1:=by simp only[AV.rowss];omega
 have hL1:(qN [.lst 1 (d.Schedule.map qK) false,.lst 5 (d.Net.Agents.map qA.enc) false,.lst 3 (d.Origins.map qE.enc) false,.lst 2 (d.Breaks.map qI.enc) false] 0).2.length=AV.rows (.lst 1 (d.Schedule.map qK) false)+AV.rows (.lst 5 (d.Net.Agents.map qA.enc) false)+1+1:=by rw[zQ,hb1]
 have hp2:AV.pls [.lst 1 (d.Schedule.map qK) false,.lst 5 (d.Net.Agents.map qA.enc) false,.lst 3 (d.Origins.map qE.enc) false,.lst 2 (d.Breaks.map qI.enc) false,.lst 1 (d.Book.map qC.enc) false]=true:=by simp only[AV.pls,AV.pl,qn qC.plx,qn (enc:=qK) (fun _=>rfl),qn qA.plx,qn qE.plx,qn qI.plx,Bool.and_self]
 have hb2:AV.rowss [.lst 1 (d.Schedule.map qK) false,.lst 5 (d.Net.Agents.map qA.enc) false,.lst 3 (d.Origins.map qE.enc) false,.lst 2 (d.Breaks.map qI.enc) false,.lst 1 (d.Book.map qC.enc) false]=AV.rows (.lst 1 (d.Schedule.map qK) false)+AV.rows (.lst 5 (d.Net.Agents.map qA.enc) false)+1+1+AV.rows (.lst 1 (d.Book.map qC.enc) false):=by simp only[AV.rowss];omega
 have hL2:(qN [.lst 1 (d.Schedule.map qK) false,.lst 5 (d.Net.Agents.map qA.enc) false,.lst 3 (d.Origins.map qE.enc) false,.lst 2 (d.Breaks.map qI.enc) false,.lst 1 (d.Book.map qC.enc) false] 0).2.length=AV.rows (.lst 1 (d.Schedule.map qK) false)+AV.rows (.lst 5 (d.Net.Agents.map qA.enc) false)+1+1+AV.rows (.lst 1 (d.Book.map qC.enc) false):=by rw[zQ,hb2]
 refine Sem.loop (fun i:Nat=>i<=d.Book.length) (fun i=>(⟨[(0,.ept d.enc 0),(4,.int .i64 (i:Nat))],[(2,.agg [.nils,.nils,.int .i64 0,.int .i64 0,.nils,.nils,.nils,.nils]),(3,.agg [.slice 1 (AV.rows (.lst 1 (d.Schedule.map qK) false)+AV.rows (.lst 5 (d.Net.Agents.map qA.enc) false)+1+1) 0 i false,.slice 1 0 0 d.Schedule.length false,.int .i64 d.Every,.int .i64 d.At,.slice 5 (AV.rows (.lst 1 (d.Schedule.map qK) false)) 0 d.Net.Agents.length false,.slice 3 (AV.rows (.lst 1 (d.Schedule.map qK) false)+AV.rows (.lst 5 (d.Net.Agents.map qA.enc) false)) 0 d.Origins.length false,.slice 2 (AV.rows (.lst 1 (d.Schedule.map qK) false)+AV.rows (.lst 5 (d.Net.Agents.map qA.enc) false)+1) 0 d.Breaks.length false,.nils])],(qN [.lst 1 (d.Schedule.map qK) false,.lst 5 (d.Net.Agents.map qA.enc) false,.lst 3 (d.Origins.map qE.enc) false,.lst 2 (d.Breaks.map qI.enc) false] 0).2++.row 1 (qN ((d.Book.take i).map qC.enc) (AV.rows (.lst 1 (d.Schedule.map qK) false)+AV.rows (.lst 5 (d.Net.Agents.map qA.enc) false)+1+1+1)).1 true::(qN ((d.Book.take i).map qC.enc) (AV.rows (.lst 1 (d.Schedule.map qK) false)+AV.rows (.lst 5 (d.Net.Agents.map qA.enc) false)+1+1+1)).2⟩:VSt)) (fun i=>d.Book.length-i) 0 (by kernel_rfl) (nZl _) (Can.start hp1 hb1 ?_ ⟨⟨_,rfl,.tree (by simp only[AV.tree,qJ.tr])⟩,⟨_,rfl,.tree rfl⟩,trivial⟩ ⟨⟨_,rfl,.tree rfl⟩,⟨_,rfl,.agg rfl (VR2s.cons (.ph qC7) (VR2s.cons (.slice (JD (by omega))) (VR2s.cons (.tree rfl) (VR2s.cons (.tree rfl) (VR2s.cons (.slice (JD (by omega))) (VR2s.cons (.slice (JD (by omega))) (VR2s.cons (.slice (JD (by omega))) (VR2s.cons (.tree rfl) VR2s.nil)))))))).2⟩,trivial⟩) ?_
 ·have loO:∀n,(lay (.lst 3 (d.Origins.map qE.enc) false) n).2=[.row 3 (d.Origins.map qE.enc) true]:=fun n=>by simp only[lay,qE.flat]
  have loK:∀n,(lay (.lst 2 (d.Breaks.map qI.enc) false) n).2=[.row 2 (d.Breaks.map qI.enc) true]:=fun n=>by simp only[lay,qI.flat]
  simp only[qN,qb,loO,loK,nZa,lAn,lAa]
 rintro i hi;simp only[go_sem];apply qM<;>intro hc<;>simp only[hc,go_sem]
 ·have hlt:i<d.Book.length:=by have:=odT hc;omega
  have hsz:qC.sz d.Book[i]<=qH qC.sz d.Book:=zq (f:=qC.sz) (gMm hlt);simp only[gMp,gEg hlt,oMs,go_sem];have en:(qN [.lst 1 (d.Schedule.map qK) false,.lst 5 (d.Net.Agents.map qA.enc) false,.lst 3 (d.Origins.map qE.enc) false,.lst 2 (d.Breaks.map qI.enc) false] 0).2.length+((qN ((d.Book.take i).map qC.enc) (AV.rows (.lst 1 (d.Schedule.map qK) false)+AV.rows (.lst 5 (d.Net.Agents.map qA.enc) false)+1+1+1)).2.length+1)=AV.rows (.lst 1 (d.Schedule.map qK) false)+AV.rows (.lst 5 (d.Net.Agents.map qA.enc) false)+1+1+1+AV.rowss ((d.Book.take i).map qC.enc):=by rw[hL1,zQ];omega
  refine zW (Vm d.Book[i] (by omega)) ?_;simp only[go_sem,lAp,en];refine Xo (by rw[ZJ (qC.plx _)];rfl) ?_;simp only[go_sem,lAp,qb,en];have hA:(qN ((d.Book.take i).map qC.enc) (AV.rows (.lst 1 (d.Schedule.map qK) false)+AV.rows (.lst 5 (d.Net.Agents.map qA.enc) false)+1+1+1)).1.length=i:=by rw[z7];simp;omega
  refine zy (len:=i) (el:=(qN ((d.Book.take i).map qC.enc) (AV.rows (.lst 1 (d.Schedule.map qK) false)+AV.rows (.lst 5 (d.Net.Agents.map qA.enc) false)+1+1+1)).1) (x:=(lay d.Book[i].enc (AV.rows (.lst 1 (d.Schedule.map qK) false)+AV.rows (.lst 5 (d.Net.Agents.map qA.enc) false)+1+1+1+AV.rowss ((d.Book.take i).map qC.enc))).1) ?_ ?_ hA (by omega) ?_
  ·rw[gAr (by simp only[lAp,qb,lCo];omega)];simp only[lAp,qb,lCo,en];simp
  ·simp only[lAa,lCa];exact qB9 hL1
  simp only[go_sem,lAp,qb,en];simp only[qc (show i<4611686018427387904 by omega)];refine qd (i+1) (by omega) (by omega) ?_;have e:(d.Book.take (i+1)).map qC.enc=(d.Book.take i).map qC.enc++[qC.enc d.Book[i]]:=by
   rw[lTs hlt,lMa];rfl
  refine Can.push (w:=1) (ps:=[.lst 1 (d.Schedule.map qK) false,.lst 5 (d.Net.Agents.map qA.enc) false,.lst 3 (d.Origins.map qE.enc) false,.lst 2 (d.Breaks.map qI.enc) false]) (A:=(d.Book.take i).map qC.enc) (t:=d.Book[i].enc) hp1 (qn qC.plx _) (qC.plx _) hb1 rfl ?_ ?_
   ⟨⟨_,rfl,.tree (by simp only[AV.tree,qJ.tr])⟩,⟨_,rfl,.tree rfl⟩,trivial⟩ ⟨⟨_,rfl,.tree rfl⟩,⟨_,rfl,.agg rfl (VR2s.cons (.slice (W8.trans ?_)) (VR2s.cons (.slice (JB (by omega))) (VR2s.cons (.tree rfl) (VR2s.cons (.tree rfl) (VR2s.cons (.slice (JB (by omega))) (VR2s.cons (.slice (JB (by omega))) (VR2s.cons (.slice (JB (by omega))) (VR2s.cons (.tree rfl) VR2s.nil)))))))).2⟩,trivial⟩
  ·simp only[lAa,lCa];rw[qCA hL1];simp only[lAa,lCa,lNa]
  ·rw[e]
  ·congr 2;omega
 ·obtain rfl:i=d.Book.length:=by have:=odF hc;omega
  simp only[lTl];refine Sem.loop (fun i:Nat=>i<=d.Points.length) (fun i=>(⟨[(0,.ept d.enc 0),(5,.int .i64 (i:Nat))],[(2,.agg [.nils,.nils,.int .i64 0,.int .i64 0,.nils,.nils,.nils,.nils]),(3,.agg [.slice 1 (AV.rows (.lst 1 (d.Schedule.map qK) false)+AV.rows (.lst 5 (d.Net.Agents.map qA.enc) false)+1+1) 0 d.Book.length false,.slice 1 0 0 d.Schedule.length false,.int .i64 d.Every,.int .i64 d.At,.slice 5 (AV.rows (.lst 1 (d.Schedule.map qK) false)) 0 d.Net.Agents.length false,.slice 3 (AV.rows (.lst 1 (d.Schedule.map qK) false)+AV.rows (.lst 5 (d.Net.Agents.map qA.enc) false)) 0 d.Origins.length false,.slice 2 (AV.rows (.lst 1 (d.Schedule.map qK) false)+AV.rows (.lst 5 (d.Net.Agents.map qA.enc) false)+1) 0 d.Breaks.length false,.slice 3 (AV.rows (.lst 1 (d.Schedule.map qK) false)+AV.rows (.lst 5 (d.Net.Agents.map qA.enc) false)+1+1+AV.rows (.lst 1 (d.Book.map qC.enc) false)) 0 i false])],(qN [.lst 1 (d.Schedule.map qK) false,.lst 5 (d.Net.Agents.map qA.enc) false,.lst 3 (d.Origins.map qE.enc) false,.lst 2 (d.Breaks.map qI.enc) false,.lst 1 (d.Book.map qC.enc) false] 0).2++.row 3 (qN ((d.Points.take i).map qF.enc) (AV.rows (.lst 1 (d.Schedule.map qK) false)+AV.rows (.lst 5 (d.Net.Agents.map qA.enc) false)+1+1+AV.rows (.lst 1 (d.Book.map qC.enc) false)+1)).1 true::(qN ((d.Points.take i).map qF.enc) (AV.rows (.lst 1 (d.Schedule.map qK) false)+AV.rows (.lst 5 (d.Net.Agents.map qA.enc) false)+1+1+AV.rows (.lst 1 (d.Book.map qC.enc) false)+1)).2⟩:VSt)) (fun i=>d.Points.length-i) 0 (by kernel_rfl) (nZl _) (Can.start hp2 hb2 ?_ ⟨⟨_,rfl,.tree (by simp only[AV.tree,qJ.tr])⟩,⟨_,rfl,.tree rfl⟩,trivial⟩ ⟨⟨_,rfl,.tree rfl⟩,⟨_,rfl,.agg rfl (VR2s.cons (.slice (JD (by omega))) (VR2s.cons (.slice (JD (by omega))) (VR2s.cons (.tree rfl) (VR2s.cons (.tree rfl) (VR2s.cons (.slice (JD (by omega))) (VR2s.cons (.slice (JD (by omega))) (VR2s.cons (.slice (JD (by omega))) (VR2s.cons (.ph qC7) VR2s.nil)))))))).2⟩,trivial⟩) ?_
  ·rw[show ([.lst 1 (d.Schedule.map qK) false,.lst 5 (d.Net.Agents.map qA.enc) false,.lst 3 (d.Origins.map qE.enc) false,.lst 2 (d.Breaks.map qI.enc) false,.lst 1 (d.Book.map qC.enc) false]:List AV)=[.lst 1 (d.Schedule.map qK) false,.lst 5 (d.Net.Agents.map qA.enc) false,.lst 3 (d.Origins.map qE.enc) false,.lst 2 (d.Breaks.map qI.enc) false]++[.lst 1 (d.Book.map qC.enc) false]from rfl,Zw,hb1];show _=(qN [.lst 1 (d.Schedule.map qK) false,.lst 5 (d.Net.Agents.map qA.enc) false,.lst 3 (d.Origins.map qE.enc) false,.lst 2 (d.Breaks.map qI.enc) false] 0).2++(qN [.lst 1 (d.Book.map qC.enc) false] (0+(AV.rows (.lst 1 (d.Schedule.map qK) false)+AV.rows (.lst 5 (d.Net.Agents.map qA.enc) false)+1+1))).2;congr 1;simp only[qN,lay,lAn,nZa]
  rintro i hi;simp only[go_sem];apply qM<;>intro hc<;>simp only[hc,go_sem]
  ·have hlt:i<d.Points.length:=by have:=odT hc;omega
   have hsz:qF.sz d.Points[i]<=qH qF.sz d.Points:=zq (f:=qF.sz) (gMm hlt);simp only[gMp,gEg hlt,oMs,go_sem];have en:(qN [.lst 1 (d.Schedule.map qK) false,.lst 5 (d.Net.Agents.map qA.enc) false,.lst 3 (d.Origins.map qE.enc) false,.lst 2 (d.Breaks.map qI.enc) false,.lst 1 (d.Book.map qC.enc) false] 0).2.length+((qN ((d.Points.take i).map qF.enc) (AV.rows (.lst 1 (d.Schedule.map qK) false)+AV.rows (.lst 5 (d.Net.Agents.map qA.enc) false)+1+1+AV.rows (.lst 1 (d.Book.map qC.enc) false)+1)).2.length+1)=AV.rows (.lst 1 (d.Schedule.map qK) false)+AV.rows (.lst 5 (d.Net.Agents.map qA.enc) false)+1+1+AV.rows (.lst 1 (d.Book.map qC.enc) false)+1+AV.rowss ((d.Points.take i).map qF.enc):=by rw[hL2,zQ];omega
   refine zW (n795 d.Points[i] (by omega)) ?_;simp only[go_sem,lAp,en];refine Xo (by rw[ZJ (qF.plx _)];rfl) ?_;simp only[go_sem,lAp,qb,en];have hA:(qN ((d.Points.take i).map qF.enc) (AV.rows (.lst 1 (d.Schedule.map qK) false)+AV.rows (.lst 5 (d.Net.Agents.map qA.enc) false)+1+1+AV.rows (.lst 1 (d.Book.map qC.enc) false)+1)).1.length=i:=by rw[z7];simp;omega
   refine zy (len:=i) (el:=(qN ((d.Points.take i).map qF.enc) (AV.rows (.lst 1 (d.Schedule.map qK) false)+AV.rows (.lst 5 (d.Net.Agents.map qA.enc) false)+1+1+AV.rows (.lst 1 (d.Book.map qC.enc) false)+1)).1) (x:=(lay d.Points[i].enc (AV.rows (.lst 1 (d.Schedule.map qK) false)+AV.rows (.lst 5 (d.Net.Agents.map qA.enc) false)+1+1+AV.rows (.lst 1 (d.Book.map qC.enc) false)+1+AV.rowss ((d.Points.take i).map qF.enc))).1) ?_ ?_ hA (by omega) ?_
   ·rw[gAr (by simp only[lAp,qb,lCo];omega)];simp only[lAp,qb,lCo,en];simp
   ·simp only[lAa,lCa];exact qB9 hL2
   simp only[go_sem,lAp,qb,en];simp only[qc (show i<4611686018427387904 by omega)];refine qd (i+1) (by omega) (by omega) ?_;have e:(d.Points.take (i+1)).map qF.enc=(d.Points.take i).map qF.enc++[qF.enc d.Points[i]]:=by
    rw[lTs hlt,lMa];rfl
   refine Can.push (w:=3) (ps:=[.lst 1 (d.Schedule.map qK) false,.lst 5 (d.Net.Agents.map qA.enc) false,.lst 3 (d.Origins.map qE.enc) false,.lst 2 (d.Breaks.map qI.enc) false,.lst 1 (d.Book.map qC.enc) false]) (A:=(d.Points.take i).map qF.enc) (t:=d.Points[i].enc) hp2 (qn qF.plx _) (qF.plx _) hb2 rfl ?_ ?_
    ⟨⟨_,rfl,.tree (by simp only[AV.tree,qJ.tr])⟩,⟨_,rfl,.tree rfl⟩,trivial⟩ ⟨⟨_,rfl,.tree rfl⟩,⟨_,rfl,.agg rfl (VR2s.cons (.slice (JB (by omega))) (VR2s.cons (.slice (JB (by omega))) (VR2s.cons (.tree rfl) (VR2s.cons (.tree rfl) (VR2s.cons (.slice (JB (by omega))) (VR2s.cons (.slice (JB (by omega))) (VR2s.cons (.slice (JB (by omega))) (VR2s.cons (.slice (W8.trans ?_)) VR2s.nil)))))))).2⟩,trivial⟩
   ·simp only[lAa,lCa];rw[qCA hL2];simp only[lAa,lCa,lNa]
   ·rw[e]
   ·congr 2;omega
  ·obtain rfl:i=d.Points.length:=by have:=odF hc;omega
   simp only[lTl];refine qU (k:=8) (by rfl) (by rfl) (by exact⟨_,rfl⟩) (by decide) ?_;simp only[go_sem];have hrP:AV.rowss [.lst 3 (d.Points.map qF.enc) false]=AV.rows (.lst 3 (d.Points.map qF.enc) false):=rfl;have hrB:AV.rowss [.lst 1 (d.Book.map qC.enc) false]=AV.rows (.lst 1 (d.Book.map qC.enc) false):=rfl;have hP:0<AV.rows (.lst 3 (d.Points.map qF.enc) false):=by simp only[AV.rows];omega
   refine FinF.swap (X:=[.lst 1 (d.Schedule.map qK) false,.lst 5 (d.Net.Agents.map qA.enc) false,.lst 3 (d.Origins.map qE.enc) false,.lst 2 (d.Breaks.map qI.enc) false]) (Y:=[.lst 1 (d.Book.map qC.enc) false]) (W:=[.lst 3 (d.Points.map qF.enc) false]) hp1 (by simp only[AV.pls,AV.pl,qn qC.plx,Bool.and_self]) (by simp only[AV.pls,AV.pl,qn qF.plx,Bool.and_self]) ?_ ?_ ?_
   ·rw[show ([.lst 1 (d.Schedule.map qK) false,.lst 5 (d.Net.Agents.map qA.enc) false,.lst 3 (d.Origins.map qE.enc) false,.lst 2 (d.Breaks.map qI.enc) false]:List AV)++([.lst 1 (d.Book.map qC.enc) false]++[.lst 3 (d.Points.map qF.enc) false])=[.lst 1 (d.Schedule.map qK) false,.lst 5 (d.Net.Agents.map qA.enc) false,.lst 3 (d.Origins.map qE.enc) false,.lst 2 (d.Breaks.map qI.enc) false,.lst 1 (d.Book.map qC.enc) false]++[.lst 3 (d.Points.map qF.enc) false]from rfl,Zw,hb2];show _=(qN [.lst 1 (d.Schedule.map qK) false,.lst 5 (d.Net.Agents.map qA.enc) false,.lst 3 (d.Origins.map qE.enc) false,.lst 2 (d.Breaks.map qI.enc) false,.lst 1 (d.Book.map qC.enc) false] 0).2++(qN [.lst 3 (d.Points.map qF.enc) false] (0+(AV.rows (.lst 1 (d.Schedule.map qK) false)+AV.rows (.lst 5 (d.Net.Agents.map qA.enc) false)+1+1+AV.rows (.lst 1 (d.Book.map qC.enc) false)))).2;congr 1;simp only[qN,lay,lAn,nZa]
   ·simp only[qJ.layE,qN,qb,lCa,lNa,lAn]
   ·simp only[qJ.layE];exact .agg rfl (VR2s.cons (.slice (Qt (by omega))) (VR2s.cons (.slice (Qt (by omega))) (VR2s.cons (.tree rfl) (VR2s.cons (.tree rfl) (VR2s.cons (.slice (Qt (by omega))) (VR2s.cons (.slice (Qt (by omega))) (VR2s.cons (.slice (Qt (by omega))) (VR2s.cons (.slice (Qt (by omega))) VR2s.nil)))))))).2
def QC:qJ:={Book:=[],Schedule:=[],Every:=0,At:=0,Net:={Agents:=[]},Origins:=[],Breaks:=[],Points:=[]}
theorem qaO{a e:Int}(ha:0<=a)(he:0<e):(a+1).tdiv e<=a.tdiv e+1/\((a+1).tmod e≠0->(a+1).tdiv e=a.tdiv e)/\((a+1).tmod e=0->a+1=(a+1).tdiv e*e):=by
 rw[Int.tdiv_eq_ediv_of_nonneg (by omega),Int.tdiv_eq_ediv_of_nonneg ha,Int.tmod_eq_emod_of_nonneg (by omega)];have h1:=Int.mul_ediv_add_emod (a+1) e;have h2:=Int.mul_ediv_add_emod a e;have h3:=Int.emod_nonneg a (show e≠0 by omega);have h4:=Int.emod_lt_of_pos a he;have h5:=Int.emod_nonneg (a+1) (show e≠0 by omega);have h6:=Int.emod_lt_of_pos (a+1) he;have key:(a+1)/e=a/e\/(a+1)/e=a/e+1:=by
  have u:(a+1)/e<a/e+2:=by
   rw[Int.ediv_lt_iff_lt_mul he,Int.add_mul];rw[Int.mul_comm (a/e)];omega
  have l:a/e<=(a+1)/e:=Int.ediv_le_ediv he (by omega);omega
 refine⟨by omega,fun q=> ?_,fun q=> ?_⟩
 ·rcases key with k | k
  ·exact k
  ·rw[k,Int.mul_add]at h1;omega
 ·rw[Int.mul_comm];omega
section
variable {d:qJ}
theorem qmJ(ok:qq d.Net=true)(h:d.stepC=0)(hI:DI d):qi d.Net≠[]/\d.At<4000/\zN d.Book d.Net.Agents d.pA d.pB d.xA d.yB:=by
 unfold qJ.stepC at h;split at h
 ·cases h
 rename_i hne;split at h
 ·cases h
 split at h
 ·rename_i q;exact absurd h q
 split at h
 ·cases h
 rename_i h1 h2 h3;obtain⟨A,a0,b0,hf,_⟩:=qCF ok hne;exact⟨hne,by omega,ok,hI.bk,A,a0,b0,hf,by simpa using h2,by omega⟩
theorem Yc(hI:DI d)(h:d.stepC=0):DI d.stepT:=by
 obtain⟨nsz,ok,hsch,hAt,hbr,hbl⟩:=hI.r;obtain⟨hne,h4,G⟩:=qmJ ok h hI;have so:qq d.stepG=true:=qC9 G;have sn:=wZ so;have ha:=zK.1 hAt;have eC:upC d=qS d.xA d.yB:=UO d;have eo:d.stepO.length=d.stepG.Agents.length:=by
  unfold qJ.stepO qJ.stepG XI;rw[Z6,YR,eC]
 have ev:=hI.ev;obtain⟨d1,d2,d3⟩:=qaO (a:=d.At) (e:=d.Every) ha.1 (by omega);have pl:=hI.pl;have pm:=hI.pm;have tb:=QR (a:=d.At+1) (b:=d.Every) (by omega) (by omega);refine⟨⟨by show d.stepG.sz<=_;omega,so,hsch, ?_,hbr,hbl⟩,hI.bk,ev,eo, ?_, ?_, ?_⟩
 ·show inI (d.At+1) 0 4000=true;rw[zK];omega
 ·show (d.At+1).tdiv d.Every+1<=((if _ then _ else _:List qF).length:Int);split
  ·rename_i q;simp;omega
  ·rename_i q;by_cases q1:(d.At+1).tmod d.Every=0
   ·have:¬(d.Points.length:Int)=(d.At+1).tdiv d.Every:=fun e=>q ⟨q1,e⟩;omega
   ·rw[d2 q1];exact pl
 ·show (if _ then _ else _:List qF).length<=4001;split
  ·rename_i q;simp;omega
  ·exact pm
 ·intro i p hp;have hp':(if (d.At+1).tmod d.Every=0/\(d.Points.length:Int)=(d.At+1).tdiv d.Every then d.Points++[⟨d.At+1,d.stepG,d.stepO⟩]else d.Points)[i]?=some p:=hp;split at hp'
  ·rename_i q;rcases Nat.lt_or_ge i d.Points.length with w | w
   ·rw[gAl w]at hp';exact hI.pv i p hp'
   ·rw[gAr w]at hp';have:i-d.Points.length=0:=by have:=qe hp';simp at this;omega
    rw[this]at hp';cases hp';refine⟨?_,so,eo⟩;show d.At+1=(i:Int)*d.Every;rw[d3 q.1,<-q.2,show i=d.Points.length by omega]
  ·exact hI.pv i p hp'
theorem qc6{e:Int}:∀{ps:List qF}{i:Nat},wC e ps i=true->∀(k:Nat)(p:qF),ps[k]?=some p->p.At=((i+k:Nat):Int)*e/\wa p.Net p.Origins p.At=true
 |[],_,_,_,_,h=>by simp at h
 | q::ps,i,h,0,p,hp=>by
  cases hp;simp only[wC,bAt,dTe]at h;exact⟨h.1.1,h.1.2⟩
 | q::ps,i,h,k+1,p,hp=>by
  simp only[wC,bAt,dTe]at h;have:=qc6 h.2 k p hp;rw[show i+1+k=i+(k+1) by omega]at this;exact this
theorem qcX{n:qC}{os:List qE}{a:Int}(h:wa n os a=true):qq n=true/\os.length=n.Agents.length:=by
 unfold wa at h;simp only[bAt,dTe]at h;exact⟨h.1.1,by omega⟩
theorem qBW(ok:jN d=true):DI d:=by
 have hn:=qgU ok;have hb:=qgT ok;have ns:=wZ hn;unfold jN at ok;simp only[bAt,bNt,decide_eq_false_iff_not,zK]at ok;obtain⟨⟨⟨⟨⟨⟨⟨⟨o1,o2⟩,o3⟩,o4⟩,o5⟩,o6⟩,o7⟩,o8⟩,o9⟩:=ok;have t4:=QR (a:=4000) (b:=d.Every) (by omega) (by omega);refine⟨⟨by omega,hn,o2,by rw[zK];exact o4,hb,by omega⟩,o1,o3,(qcX o5).2,o8.1,by omega,fun i p hp=> ?_⟩;have:=qc6 o9 i p hp;rw[nZa]at this;exact⟨this.1,qcX this.2⟩
end
def wH:Nat->Nat->qJ->qJ×Int×Int
 | 0,n,d=>(d,(n:Int),0)
 | f+1,n,d=>if n≠0/\0<=jy d then(d,(n:Int),0)else if qi d.Net=[]then(d,(n:Int),0)else if d.stepC≠0 then(QC,0,d.stepC)else wH f (n+1) d.stepT
def wS(d:qJ)(c:Int):qJ×Int×Int:=if jN d then(if inI c 0 4000 then wH c.toNat 0 d else(QC,0,2))else(QC,0,1)
def Ji(r:qJ×Int×Int):AV:=.tup [r.1.enc,.int .i64 r.2.1,.int .i64 r.2.2]
theorem wW(x:qJ)(n:Nat):(lay x.enc n).1.part 0 (some 8)=some (lay x.enc n).1:=qiR (qJ.plx x) ⟨_,rfl⟩ rfl
theorem Jz(x:qJ)(n:Nat):(lay x.enc n).1.cells.length=8:=by rw[ZJ (qJ.plx x)];rfl
theorem Ql(x:qJ)(n:Nat):∃cs,(lay x.enc n).1=.agg cs:=⟨_,congrArg Prod.fst (qJ.layE x n)⟩
theorem ZE{h:List qD}{v v' w':AV}{vs:List AV}(hc:Cv h (.tup (v'::w'::vs)) v):Fin (some (v'::w'::vs)) h v:=by unfold Fin;exact hc
theorem put8{z:List AV}{v:AV}(h:v.cells.length=8)(ha:∃cs,v=.agg cs)(hz:z.length=8:=by rfl):(AV.agg z).put 0 v=some v:=by
 obtain⟨cs,rfl⟩:=ha;simp only[AV.cells]at h;simp only[AV.put,AV.cells,h,hz,nZa,nLr,if_true,List.take_zero,lNa];rw[List.drop_of_length_le (by omega),lAn]
theorem qj.ag{x:qj}:∃cs,x.enc=.agg cs:=⟨_,rfl⟩
theorem qkA(r:qJ×Int×Int):(Ji r).tree=true:=by unfold Ji;simp[AV.tree,AV.trees,qJ.tr]
theorem UT{h:List qD}{n k:Int}:Cv h (.tup [.agg [.nils,.nils,.int .i64 0,.int .i64 0,.nils,.nils,.nils,.nils],.int .i64 n,.int .i64 k]) (Ji (QC,n,k)):=
 .tup rfl (zE (.agg rfl (zE .nils (zE .nils (zE (.refl rfl) (zE (.refl rfl) (zE .nils (zE .nils (zE .nils (zE .nils fun p hp=>by simp at hp))))))))) (zE (.refl rfl) (zE (.refl rfl) fun p hp=>by simp at hp)))
theorem VA{h:List qD}{base did pid:Nat}{d:qJ}{n k:Int}(hD:DA base did pid h d):Cv h (.tup [zf d pid,.int .i64 n,.int .i64 k]) (Ji (d,n,k)):=
 .tup rfl (zE hD.cv0 (zE (.refl rfl) (zE (.refl rfl) fun p hp=>by simp at hp)))
theorem c250{d:qJ}{c:Int}(hz:d.sz<=1048576):Pure Gm 250 [d.enc,.int .i64 c] (Ji (wS d c)):=by
 refine pI Ki (by simp[AV.trees,AV.tree,go_sem]) (by exact qkA _) ?_;simp only[Ki,qQ,go_sem];refine Wh qJ.ln ?_;simp only[go_sem,lNa];refine jM (Cvs.cons (.ptr (el:=[d.enc]) rfl (by decide) rfl (.refl qJ.tr)) Cvs.nil) (c367 hz) rfl ?_;simp only[go_sem];cases ok:jN d
 ·simp only[go_sem];refine qU (k:=8) (by rfl) (by rfl) ⟨_,rfl⟩ (by decide) ?_;simp only[go_sem];have e:wS d c=(QC,0,1):=by unfold wS;rw[ok];rfl
  rw[e];exact ZE UT
 simp only[go_sem];refine qO wn ?_;simp only[go_sem];cases cok:inI c 0 4000
 ·simp only[go_sem];refine qU (k:=8) (by rfl) (by rfl) ⟨_,rfl⟩ (by decide) ?_;simp only[go_sem];have e:wS d c=(QC,0,2):=by unfold wS;rw[ok,cok];rfl
  rw[e];exact ZE UT
 have e:wS d c=wH c.toNat 0 d:=by unfold wS;rw[ok,cok];rfl
 rw[e];have hc4:=zK.1 cok;obtain⟨m,rfl⟩:∃m:Nat,c=m:=⟨c.toNat,by omega⟩;rw[iTn];generalize hres:wH m 0 d=res;have hI:=qBW ok;simp only[go_sem];refine Js (Cvs.cons (.ptr (el:=[d.enc]) rfl (by decide) rfl (.refl qJ.tr)) Cvs.nil) (n427 d hz) ?_;obtain⟨h1,hh1⟩:∃h1,h1=[qD.row 8 [d.enc] true]++(lay d.enc [qD.row 8 [d.enc] true].length).2:=⟨_,rfl⟩;rw[<-hh1];have l1:h1.length=1+d.enc.rows:=by rw[hh1,lAp,qb];rfl
 simp only[go_sem];refine q8 (e':=(lay d.enc [qD.row 8 [d.enc] true].length).1) (Jz d _) gCl rfl (put8 (Jz d _) (Ql d _)) ?_;rw[lSr _ _ (nLr _),nSs];simp only[lSz];obtain⟨h2,pid,c2,D2,k2⟩:=DA.ofLay (d:=d) (base:=0) (did:=h1.length) (n:=1) (h:=h1++[qD.row 8 [(lay d.enc [qD.row 8 [d.enc] true].length).1] true]) gCl
  (fun i o hi=>by
   have:=qe hi;rw[qb]at this;rw[gAl (by omega),hh1,gAr (by simp)];simpa using hi) (by have:=hI.pl;have:=QR (a:=d.At) (b:=d.Every) (zK.1 hI.r.2.2.2.1).1 (by have:=hI.ev;omega);omega) (.inr (by omega)) (nZl _) (nZl _)
 generalize h1.length=did at D2|-;simp only[go_sem];refine Sem.loop (α:=Nat×List qD×Nat×qJ) (fun q=>q.1<=m/\DA 0 did q.2.2.1 q.2.1 q.2.2.2/\DI q.2.2.2/\wH (m-q.1) q.1 q.2.2.2=res)
  (fun q=>(⟨[(1,.int .i64 (m:Nat)),(7,.ptr did 0 0),(8,.int .i64 (q.1:Nat))],[(4,.agg [.nils,.nils,.int .i64 0,.int .i64 0,.nils,.nils,.nils,.nils])],q.2.1⟩:VSt)) (fun q=>m-q.1) (0,h2,pid,d) (by kernel_rfl)
  ⟨nZl _,D2,hI,hres⟩ ((c2 _ _ _).trans (Can.sub (by simp[go_sem]) (by simp[go_sem]))) ?_
 clear hres hI D2 c2 k2 hh1 l1 ok e hz;clear d;rintro⟨n,g,pid,d⟩ ⟨hn,hD,hI,hres⟩;simp only at hn hD hI hres;have hD':=hD.o';have hok:=hI.r.2.1;simp only[go_sem];have stop:(n=m\/(n≠0/\0<=jy d)\/qi d.Net=[])->res=(d,(n:Int),0):=fun q=>by
  rw[<-hres];cases hf:m-n with
  | zero=>rfl
  | succ f=>
   unfold wH;split
   ·rfl
   ·rename_i q1;split
    ·rfl
    ·rename_i q2;rcases q with q | q | q
     ·omega
     ·exact absurd q q1
     ·exact absurd q q2
 have stepc:¬(n=m)->¬(n≠0/\0<=jy d)->qi d.Net≠[]->res=if d.stepC≠0 then(QC,0,d.stepC)else wH (m-(n+1)) (n+1) d.stepT:=fun q1 q2 q3=>by
  rw[<-hres,show m-n=(m-(n+1))+1 by omega];show wH _ _ _=_;rw[wH,if_neg q2,if_neg q3]
 apply qg<;>intro hc<;>simp only[hc,go_sem]
 ·have h1:n<m:=by have:=odT hc;omega
  clear hc;apply qg<;>intro hc<;>simp only[hc,go_sem]
  ·have h2:n≠0:=by have:=odF hc;omega
   clear hc;refine jM (Cvs.cons (hD.cv 0) Cvs.nil) (qf5 hI.r) rfl ?_;simp only[go_sem];apply qM<;>intro hc<;>simp only[hc,go_sem]
   ·have q2:¬(n≠0/\0<=jy d):=by have:=odT hc;omega
    clear hc;refine jM (Cvs.cons (hD.cv 0) Cvs.nil) (Y0 hI.r) (qCE d) ?_;simp only[go_sem];by_cases hne:qi d.Net=[]
    ·have e:j4 d=.tup [.int .i64 0,.agg [.int .i64 0,.int .i64 0],.int .i64 0,.bool false]:=by simp[j4,ZS,hne]
     rw[e];simp only[go_sem];refine qU (k:=2) (by rfl) (by rfl) (by exact⟨_,rfl⟩) (by decide) ?_;simp only[hD',go_sem];refine qU (k:=8) (by rfl) (by rfl) ⟨_,rfl⟩ (by decide) ?_;simp only[go_sem];rw[stop (.inr (.inr hne))];exact ZE (VA hD)
    obtain⟨k0,e⟩:=Vp hne;rw[e];simp only[go_sem];refine qU (k:=2) (by rfl) (by simp only[go_sem]) qj.ag (by decide) ?_;simp only[go_sem];have sc:=stepc (by omega) q2 hne;refine qZ (s607 hD hI (fun q h' k'=> ?_) (fun q G h' pid' D' k'=> ?_))
    ·rw[if_pos q]at sc;simp only[q,decide_false,go_sem];refine qU (k:=8) (by rfl) (by rfl) ⟨_,rfl⟩ (by decide) ?_;simp only[go_sem];rw[sc];exact ZE UT
    ·rw[if_neg (by simpa using q)]at sc;simp only[go_sem,qc (show n<4611686018427387904 by omega)];exact qd (n+1,h',pid',d.stepT) ⟨h1,D',Yc hI q,sc.symm⟩ (by simp only;omega) (Can.sub (by simp[go_sem]) (by simp[go_sem]))
   ·have q2:n≠0/\0<=jy d:=⟨h2,by have:=odF hc;omega⟩;simp only[hD',go_sem];refine qU (k:=8) (by rfl) (by rfl) ⟨_,rfl⟩ (by decide) ?_;simp only[go_sem];rw[stop (.inr (.inl q2))];exact ZE (VA hD)
  ·have q2:¬(n≠0/\0<=jy d):=by have:=odT hc;omega
   clear hc;refine jM (Cvs.cons (hD.cv 0) Cvs.nil) (Y0 hI.r) (qCE d) ?_;simp only[go_sem];by_cases hne:qi d.Net=[]
   ·have e:j4 d=.tup [.int .i64 0,.agg [.int .i64 0,.int .i64 0],.int .i64 0,.bool false]:=by simp[j4,ZS,hne]
    rw[e];simp only[go_sem];refine qU (k:=2) (by rfl) (by rfl) (by exact⟨_,rfl⟩) (by decide) ?_;simp only[hD',go_sem];refine qU (k:=8) (by rfl) (by rfl) ⟨_,rfl⟩ (by decide) ?_;simp only[go_sem];rw[stop (.inr (.inr hne))];exact ZE (VA hD)
   obtain⟨k0,e⟩:=Vp hne;rw[e];simp only[go_sem];refine qU (k:=2) (by rfl) (by simp only[go_sem]) qj.ag (by decide) ?_;simp only[go_sem];have sc:=stepc (by omega) q2 hne;refine qZ (s607 hD hI (fun q h' k'=> ?_) (fun q G h' pid' D' k'=> ?_))
   ·rw[if_pos q]at sc;simp only[q,decide_false,go_sem];refine qU (k:=8) (by rfl) (by rfl) ⟨_,rfl⟩ (by decide) ?_;simp only[go_sem];rw[sc];exact ZE UT
   ·rw[if_neg (by simpa using q)]at sc;simp only[go_sem,qc (show n<4611686018427387904 by omega)];exact qd (n+1,h',pid',d.stepT) ⟨h1,D',Yc hI q,sc.symm⟩ (by simp only;omega) (Can.sub (by simp[go_sem]) (by simp[go_sem]))
 ·have h1:n=m:=by have:=odF hc;omega
  simp only[hD',go_sem];refine qU (k:=8) (by rfl) (by rfl) ⟨_,rfl⟩ (by decide) ?_;simp only[go_sem];rw[stop (.inl h1)];exact ZE (VA hD)
namespace qJ
end qJ
section
variable {d:qJ} {t:Int}
end
section
variable {base did pid:Nat} {h h':List qD} {d:qJ} {K:AV->List qD->Prop}
end
structure KM(base:Nat)(h h':List qD):Prop extends Keep base h h' where
 m:∀(j:Nat) es,h[j]?=some (.map es)->h'[j]?=some (.map es)
theorem KM.refl{b:Nat}{h:List qD}:KM b h h:=⟨Keep.refl,fun _ _ q=>q⟩
theorem KM.trans{b:Nat}{h h1 h2:List qD}(x:KM b h h1)(y:KM b h1 h2):KM b h h2:=⟨x.toKeep.trans y.toKeep,fun j es q=>y.m j es (x.m j es q)⟩
theorem KM.app{b:Nat}{h ex:List qD}(hb:b<=h.length):KM b h (h++ex):=⟨Keep.app hb,fun j es q=>by rw[gAl (qe q)];exact q⟩
theorem KM.set{b i w:Nat}{h:List qD}{el:List AV}{rw':Bool}{o:qD}(hb:b<=i)(hr:h[i]?=some (.row w el rw')):KM b h (h.set i o):=
 ⟨Keep.set hb,fun j es q=>by rw[gSn (fun e=>by rw[e]at hr;rw[hr]at q;cases q)];exact q⟩
theorem KM.wo{b:Nat}{h h':List qD}{ids:List Nat}(hk:KM b h h')(hb:b<=h.length)(hi:∀i∈ids,h.length<=i):KM b h (without ids h'):=
 ⟨hk.toKeep.wo fun i q=>by have:=hi i q;omega,fun j es q=>by rw[wj (fun e=>by have:=hi j e;have:=qe q;omega)];exact hk.m j es q⟩
theorem KM.up{b c:Nat}{h h':List qD}(hb:b<=c)(hk:KM c h h'):KM b h h':=⟨hk.toKeep.up hb,hk.m⟩
structure K1(base:Nat)(h h':List qD):Prop extends KM base h h' where
 r:∀(j:Nat) el,h[j]?=some (.row 1 el true)->h'[j]?=some (.row 1 el true)
theorem K1.refl{b:Nat}{h:List qD}:K1 b h h:=⟨KM.refl,fun _ _ q=>q⟩
theorem K1.trans{b:Nat}{h h1 h2:List qD}(x:K1 b h h1)(y:K1 b h1 h2):K1 b h h2:=⟨x.toKM.trans y.toKM,fun j es q=>y.r j es (x.r j es q)⟩
theorem K1.app{b:Nat}{h ex:List qD}(hb:b<=h.length):K1 b h (h++ex):=⟨KM.app hb,fun j es q=>by rw[gAl (qe q)];exact q⟩
theorem K1.set{b i w:Nat}{h:List qD}{el:List AV}{rw':Bool}{o:qD}(hb:b<=i)(hr:h[i]?=some (.row w el rw'))(hw:w≠1):K1 b h (h.set i o):=
 ⟨KM.set hb hr,fun j es q=>by rw[gSn (fun e=>by rw[e]at hr;rw[hr]at q;simp only[oSi,qD.row.injEq]at q;exact hw q.1)];exact q⟩
theorem K1.wo{b:Nat}{h h':List qD}{ids:List Nat}(hk:K1 b h h')(hb:b<=h.length)(hi:∀i∈ids,h.length<=i):K1 b h (without ids h'):=
 ⟨hk.toKM.wo hb hi,fun j es q=>by rw[wj (fun e=>by have:=hi j e;have:=qe q;omega)];exact hk.r j es q⟩
theorem K1.up{b c:Nat}{h h':List qD}(hb:b<=c)(hk:K1 c h h'):K1 b h h':=⟨hk.toKM.up hb,hk.r⟩
section
variable {w:Nat} {post:List AV} {base nid:Nat} {h:List qD} {N:Ags} {K:AV->List qD->Prop} {a s c k:Nat}
theorem s555(hN:NE w post base nid h N)(hp:Has N a s)(hK:K (z9 N (pt a s)).enc h):SCall Gm 555 [.ptr nid 0 0,(pt a s).enc] h K:=by
 obtain⟨aid,ps,hN⟩:=hN;obtain⟨x,hx,hs⟩:=jm.1 hp;obtain⟨q,hq,ha,hr⟩:=hN.at hx;have e:z9 N (pt a s)=x.Ports[s]:=W5 (jY.2 ⟨x,hx,gEg hs⟩);rw[e]at hK;refine sI Ze ?_;simp only[Ze,qQ,go_sem];refine qW rfl ?_;simp only[go_sem,hN.o,pt,zH (qe hx),hN.a,ha,Jb hs,hr,W6 hs];refine qU rfl rfl ⟨_,rfl⟩ (by decide) ?_;simp only[go_sem];exact hK
theorem XC(hN:NE w post base nid h N)(h1:Has N a s)(h2:Has N c k)(hK:∀h',NE w post base nid h' (zj N (pt a s) (pt c k))->K1 base h h'->K (.tup []) h'):SCall Gm 1196 [.ptr nid 0 0,(pt a s).enc,(pt c k).enc] h K:=by
 obtain⟨aid,ps,hN⟩:=hN;obtain⟨x,hx,hs⟩:=jm.1 h1;obtain⟨q,hq,ha,hr⟩:=hN.at hx;have b1:=hN.b3 _ (lMo hq);have hN1:=hN.write (s:=s) (r:=pt c k) hx hq;obtain⟨y,hy,hk⟩:=jm.1 ((XG N (pt a s) (pt c k)).has.1 h2);obtain⟨q',hq',ha',hr'⟩:=hN1.at hy;have b2:=hN1.b3 _ (lMo hq');have hN2:=hN1.write (s:=k) (r:=pt a s) hy hq';refine sI Um ?_;simp only[Um,qQ,go_sem];refine qW rfl ?_;simp only[go_sem];refine qW rfl ?_;simp only[go_sem,hN.o,pt,zH (qe hx),hN.a,ha,Jb hs];refine q8 rfl hr (W6 hs) V3 ?_;rw[UE];simp only[go_sem,hN1.o,zH (qe hy),hN1.a,ha',Jb hk];refine q8 rfl hr' (W6 hk) V3 ?_;rw[UE];simp only[go_sem];exact hK _ ⟨aid,ps,hN2⟩ ((K1.set b1 hr (by decide)).trans (K1.set b2 hr' (by decide)))
theorem qAF{A B:Ags}(h:SameA A B)(e:∀b u,atP A b u=atP B b u):A=B:=by
 refine List.ext_getElem? fun i=> ?_;cases hx:A[i]? with
 | none=>
  have l:=h.len;have:=List.getElem?_eq_none_iff.1 hx;rw[gEn (by omega)]
 | some x=>
  obtain⟨y,hy,c⟩:=h.at hx;rw[hy];have ep:x.Ports=y.Ports:=List.ext_getElem? fun u=>by
   have:=e i u;unfold atP at this;rwa[hx,hy]at this
  simp only[jR,Prod.mk.injEq]at c;obtain⟨c1,c2,c3,c4,_⟩:=c;cases x;cases y;simp_all
theorem qB1{p q r t:Nat}(hne:¬(p=r/\q=t))(h1:Has N p q)(h2:Has N r t):zj N (pt p q) (pt r t)=zj N (pt r t) (pt p q):=by
 have l1:=zr N (pt p q) (pt r t);have l2:=zr N (pt r t) (pt p q);refine qAF (l1.back.trans l2) fun b u=> ?_;rw[wP h1 h2,wP h2 h1];by_cases e1:b=r/\u=t
 ·rw[if_pos e1,if_neg (by omega),if_pos e1]
 ·rw[if_neg e1];by_cases e2:b=p/\u=q
  ·rw[if_pos e2,if_pos e2]
  ·rw[if_neg e2,if_neg e2,if_neg e1]
theorem QM(hN:NE w post base nid h N)(h1:Has N a s)(h2:Has N c k)(h3:∃b t,z9 N (pt a s)=pt b t/\Has N b t/\¬(c=b/\k=t))(hK:∀h',NE w post base nid h' (jH N (pt a s) (pt c k))->K1 base h h'->K (.tup []) h'):SCall Gm 1310 [.ptr nid 0 0,(pt a s).enc,(pt c k).enc] h K:=by
 obtain⟨b,t,e,h3,ne⟩:=h3;refine sI U0 ?_;simp only[U0,qQ,go_sem];refine qW rfl ?_;simp only[go_sem];refine qW rfl ?_;simp only[go_sem];refine qZ (s555 hN h1 ?_);simp only[go_sem,e];refine qZ (XC hN h3 h2 fun h' hN' hk=> ?_);simp only[go_sem];exact hK _ (by unfold jH;rw[e,qB1 ne h2 h3];exact hN') hk
theorem UA(hN:NE w post base nid h N)(h1:Has N a s)(h2:Has N c k)(h3:∃b t,z9 N (pt a s)=pt b t/\Has N b t)(h4:∃b t,z9 N (pt c k)=pt b t/\Has N b t)
  (hK:∀h',NE w post base nid h' (jn N (pt a s) (pt c k))->K1 base h h'->K (.tup []) h'):SCall Gm 1308 [.ptr nid 0 0,(pt a s).enc,(pt c k).enc] h K:=by
 obtain⟨b,t,e,h3⟩:=h3;obtain⟨b',t',e',h4⟩:=h4;refine sI Uy ?_;simp only[Uy,qQ,go_sem];refine qW rfl ?_;simp only[go_sem];refine qW rfl ?_;simp only[go_sem];refine qZ (s555 hN h1 ?_);simp only[go_sem,e];refine qZ (s555 hN h2 ?_);simp only[go_sem,e'];refine qU rfl rfl ⟨_,rfl⟩ (by decide) ?_;simp only[go_sem];refine qU rfl rfl ⟨_,rfl⟩ (by decide) ?_;simp only[go_sem];apply qM<;>intro hc<;>simp only[hc,go_sem]
 ·refine qZ (XC hN h3 h4 fun h' hN' hk=> ?_);simp only[go_sem];refine hK _ ?_ hk;unfold jn;rw[e,e',if_neg (fun q=>by rw[q]at hc;simp at hc)];exact hN'
 ·refine hK _ ?_ K1.refl;unfold jn;rw[e,if_pos (by simpa using hc)];exact hN
theorem c401(xs:List Int)(hz:xs.length<=4194304):Pure Gm 401 [.lst 1 (xs.map qK) false] (.lst 1 (xs.map qK) false):=
 (n401 xs hz).pure (by simp only[AV.cn];simp[ju (enc:=qK) (fun _=>rfl)]) (by simp only[AV.tree];exact qV shI.tree _)
theorem UB{kk lv v:Int}{d:List Int}{n:Nat}(hw:w≠1)(hN:NE w post base nid h N)(hd:d.length<=1048576)(hn:n<=1048576)(hl:N.length<=1048576)
  (hK:∀h',NE w post base nid h' (N++[qT kk lv v d n])->K1 base h h'->K (.int .i64 (N.length:Nat)) h'):SCall Gm 1311 [.ptr nid 0 0,.int .i64 kk,.int .i64 lv,.int .i64 v,.lst 1 (d.map qK) false,.int .i64 (n:Nat)] h K:=by
 obtain⟨aid,ps,hN⟩:=hN;have hbl:=hN.bl;have k0:=hN.lt;have k1:=hN.lta;refine sI U1 ?_;simp only[U1,qQ,go_sem,hN.o];refine qO (c401 d (by omega)) ?_;simp only[go_sem];refine YK (by show n<=4294967296;omega) ?_;simp only[go_sem];have hr:(h++[qD.row 2 (List.replicate n (AV.agg [.int .i64 0,.int .i64 0])) true])[h.length]?=some (.row 2 ((qT kk lv v d n).Ports.map qG.enc) true):=by rw[gCl];simp[qT,qG.enc]
 have hN1:NA w post base nid aid ps (h++[qD.row 2 (List.replicate n (AV.agg [.int .i64 0,.int .i64 0])) true]) N:=hN.app _;have eX:encR (qT kk lv v d n) h.length=.agg [.int .i64 kk,.int .i64 lv,.int .i64 v,.lst 1 (d.map qK) false,.slice 2 h.length 0 n false]:=by simp[encR,qT]
 obtain⟨r1,r2⟩:=JT (tmp:=.row 5 [.agg [.int .i64 kk,.int .i64 lv,.int .i64 v,.lst 1 (d.map qK) false,.slice 2 h.length 0 n false]] true) hN1.a;have hl5:=Qd hN.l;refine zy r2 r1 hl5 (by omega) ?_;obtain⟨h2,e2,e3⟩:=hN1.pushed (x:=qT kk lv v d n) (q:=h.length) (b:=h.length) (tmp:=.row 5 [.agg [.int .i64 kk,.int .i64 lv,.int .i64 v,.lst 1 (d.map qK) false,.slice 2 h.length 0 n false]] true) hr hbl (nLr _) (fun q=>hN.ltp q) k0 k1;rw[eX]at h2 e2 e3;simp only[lAp,nZa,go_sem]at h2 e2 e3|-;refine q8 rfl h2 rfl YU ?_;simp only[lSz];have km:∀{g:List qD}{tm nw o:qD},g[aid]?=some (.row 5 (zS N ps) true)->g[nid]?=some (.row w [.agg (.slice 5 aid 0 N.length false::post)] true)->base<=g.length->K1 base g ((((g++[tm]).set aid .dead)++[nw]).set nid o):=fun{g tm nw o} q1 q2 q3=>by
  have t1:K1 base g (g++[tm]):=K1.app q3;have t2:K1 base (g++[tm]) ((g++[tm]).set aid .dead):=K1.set hN.b2 (by rw[gAl (qe q1)];exact q1) (by decide);have t3:K1 base ((g++[tm]).set aid .dead) (((g++[tm]).set aid .dead)++[nw]):=K1.app (by simp;omega);have t4:K1 base (((g++[tm]).set aid .dead)++[nw]) ((((g++[tm]).set aid .dead)++[nw]).set nid o):=K1.set hN.b1 (by
   rw[gAl (by have:=qe q2;simp;omega),gSn (Ne.symm hN.n1),gAl (qe q2)];exact q2) hw
  exact((t1.trans t2).trans t3).trans t4
 have e3:=km (tm:=qD.row 5 [.agg [.int .i64 kk,.int .i64 lv,.int .i64 v,.lst 1 (d.map qK) false,.slice 2 h.length 0 n false]] true) (nw:=qD.row 5 (zS N ps++[.agg [.int .i64 kk,.int .i64 lv,.int .i64 v,.lst 1 (d.map qK) false,.slice 2 h.length 0 n false]]) true) (o:=.row w [.agg (.slice 5 (h.length+1+1) 0 (N.length+1) false::post)] true) hN1.a hN1.o hN1.bl;generalize hg:List.set _ _ _=h3;rw[hg]at e2 e3;simp only[go_sem,e2.o];have e5:IntKind.i64.wrap (((N.length+1:Nat):Int)-1)=((N.length:Nat):Int):=by rw[qf (by omega) (by omega)];omega
 simp only[lAp,nZa,e5,go_sem];exact hK _ ⟨_,_,e2⟩ ((K1.app hbl).trans e3)
theorem XD{kk lv v:Int}{n:Nat}(hw:w≠1)(hN:NE w post base nid h N)(hn:n<=1048576)(hl:N.length<=1048576)
  (hK:∀h',NE w post base nid h' (N++[qT kk lv v [] n])->K1 base h h'->K (.int .i64 (N.length:Nat)) h'):SCall Gm 1311 [.ptr nid 0 0,.int .i64 kk,.int .i64 lv,.int .i64 v,.nils,.int .i64 (n:Nat)] h K:=
 SCall.arg (Wks.same (Wks.same (Wks.same (Wks.same (.cons .nilL (Wks.same .nil)))))) (UB (d:=[]) hw hN (by simp) hn hl hK)
theorem qlV{kk lv v d:Int}{n:Nat}(hw:w≠1)(hN:NE w post base nid h N)(hn:n<=1048576)(hl:N.length<=1048576)
  (hK:∀h',NE w post base nid h' (N++[qT kk lv v [d] n])->K1 base h h'->K (.int .i64 (N.length:Nat)) h'):
  SCall Gm 1311 [.ptr nid 0 0,.int .i64 kk,.int .i64 lv,.int .i64 v,.slice 1 h.length 0 1 false,.int .i64 (n:Nat)] (h++[.row 1 [.int .i64 d] true]) K:=by
 have hbl:=hN.bl;have hk:K1 h.length h (without [h.length] (h++[.row 1 [.int .i64 d] true])):=(K1.app (nLr _)).wo (nLr _) (by simp);refine SCall.giveH [h.length] (vs':=[.ptr nid 0 0,.int .i64 kk,.int .i64 lv,.int .i64 v,.lst 1 ([d].map qK) false,.int .i64 (n:Nat)]) ?_ (UB (d:=[d]) hw (hN.keep hk.toKeep) (by simp) hn hl fun h' n1 k1=>hK h' n1 ((hk.up hbl).trans k1));refine HCv.list (.same _) (HCv.list (.same _) (HCv.list (.same _) (HCv.list (.same _) (HCv.list (.cv (Cv.row (by rw[Jg (by simp)];simp[qK]) rfl rfl (by decide)) rfl) (HCv.list (.same _) (HCv.refls []))))))
end
theorem WX{c p:Int}(h0: -1000000<=p)(h1:p<=1000000):Pure Gm 1461 [.int .i64 c,.int .i64 p] (.tup [.int .i64 (zw c p).1,.int .i64 (zw c p).2]):=by
 refine pI KR (by simp[AV.trees,AV.tree,go_sem]) rfl ?_;simp only[KR,qQ,go_sem];have w2:IntKind.i64.wrap (p+ -2)=p-2:=by rw[qf (by omega) (by omega)];omega
 have w1:IntKind.i64.wrap (p+ -1)=p-1:=by rw[qf (by omega) (by omega)];omega
 have w0:IntKind.i64.wrap (p+0)=p:=by rw[qf (by omega) (by omega)];omega
 unfold zw
 repeat' (first | (first | (apply qg<;>intro hc<;>simp only[hc,go_sem]) | (apply qM<;>intro hc<;>simp only[hc,go_sem])) | (refine jV (by rfl) ?_))
 all_goals simp_all[inI]
 all_goals first
  | omega
  | (rw[if_neg (by omega)];exact⟨rfl,rfl⟩)
def lvA(by':Int)(x:qA):qA:=if wT x.Kind then{x with Level:=x.Level+by'}else x
def wu(by':Int)(x:qA):Bool:= !wT x.Kind || decide (x.Level+by'<=8)
def J9(n:qC)(by':Int):qC×Bool:=if n.Agents.all (wu by')then(⟨n.Agents.map (lvA by')⟩,true)else(⟨[]⟩,false)
def JS(r:qC×Bool):AV:=.tup [r.1.enc,.bool r.2]
def JR(by':Int)(xs:Ags)(i:Nat):Ags:=(xs.take i).map (lvA by')++xs.drop i
theorem Zv:∀{N:Ags}{m k:Nat}{x:qA},N[k]?=some x->(qN (N.map qA.enc) m).1[k]?=some (.agg [.int .i64 x.Kind,.int .i64 x.Level,.int .i64 x.Value,.slice 1 (m+2*k) 0 x.Data.length false,.slice 2 (m+2*k+1) 0 x.Ports.length false])
 | y::ys,m,0,x,h=>by
  cases h;simp only[lMc,qN,qA.layE,AV.rows,WC,nZa,List.getElem?_cons_zero,Nat.mul_zero,nAz]
 | y::ys,m,k+1,x,h=>by
  have:=Zv (N:=ys) (m:=m+2) (k:=k) (x:=x) h;simp only[lMc,qN,qA.layE,Qm,Qk,lCa,lNa,lCo,lNi,List.getElem?_cons_succ];rw[show m+2*(k+1)=m+2+2*k by omega];exact this
theorem qbZ:∀{A B:Ags}{m:Nat},A.map (fun x=>(x.Data,x.Ports))=B.map (fun x=>(x.Data,x.Ports))->(qN (A.map qA.enc) m).2=(qN (B.map qA.enc) m).2
 |[],[],_,_=>rfl
 |[],_::_,_,h=>by simp at h
 | _::_,[],_,h=>by simp at h
 | x::A,y::B,m,h=>by
  simp only[lMc,List.cons.injEq,Prod.mk.injEq]at h;simp only[lMc,qN,qA.layE,Qm,Qk,h.1.1,h.1.2,lCa,lNa,lCo,lNi,qbZ (A:=A) (B:=B) h.2]
theorem qi3{by':Int}{x:qA}:((lvA by' x).Data,(lvA by' x).Ports)=(x.Data,x.Ports):=by unfold lvA;split<;>rfl
theorem qjA{by':Int}{xs:Ags}{i:Nat}(h:i<xs.length):(JR by' xs i)[i]?=some xs[i]:=by
 unfold JR;rw[gAr (by simp;omega)];simp only[lMp,lLt,nMl (Nat.le_of_lt h),nSs,gDr,nAz];exact gEg h
theorem qjB{by':Int}{xs:Ags}{i:Nat}(h:i<xs.length):(JR by' xs i).set i (lvA by' xs[i])=JR by' xs (i+1):=by
 unfold JR;rw[lSr _ _ (by simp;omega)];simp only[lMp,lLt,nMl (Nat.le_of_lt h),nSs];rw[lDc h,lSz,lTs h,lMa];simp only[lMc,List.map_nil,lAa,lCa,lNa]
theorem qiS{N:Ags}{m k:Nat}{x y:qA}(hx:N[k]?=some x)(e1:y.Data=x.Data)(e2:y.Ports=x.Ports):
  (qN (N.map qA.enc) m).1.set k (.agg [.int .i64 y.Kind,.int .i64 y.Level,.int .i64 y.Value,.slice 1 (m+2*k) 0 x.Data.length false,.slice 2 (m+2*k+1) 0 x.Ports.length false])=(qN ((N.set k y).map qA.enc) m).1:=by
 have hk:=qe hx;refine List.ext_getElem? fun i=> ?_;rcases Nat.lt_or_ge i N.length with q | q
 ·by_cases e:i=k
  ·subst e;rw[gSs (by rw[z7];simpa using hk),Zv (x:=y) (gSs hk),e1,e2]
  ·rw[gSn (Ne.symm e),Zv (gEg q),Zv (x:=N[i]) (by rw[gSn (Ne.symm e)];exact gEg q)]
 ·rw[gEn (by rw[lLs,z7];simpa using q),gEn (by rw[z7];simpa using q)]
theorem qcY(r:qC×Bool):(JS r).pl=true:=by unfold JS;simp[AV.pl,AV.pls,qC.plx]
theorem qkB(r:qC×Bool):(JS r).cn=true:=by unfold JS;simp[AV.cn,AV.cns,qC.cnx]
theorem qkC(r:qC×Bool):(JS r).tree=true:=by unfold JS;simp[AV.tree,AV.trees,qC.tr]
theorem qmA{h:List qD}:FinF (some [.agg [.nils],.bool false]) h (JS (⟨[]⟩,false)):=by
 refine⟨[none],rfl,⟨.ph,trivial⟩, ?_⟩;have a:VR2 [none] (.agg [.nils]) (.agg [.slice 5 0 0 0 false]):=.agg rfl (VR2s.cons (.ph rfl) VR2s.nil).2;exact .tup rfl (VR2s.cons a (VR2s.cons (.tree rfl) VR2s.nil)).2
theorem qcH(n:qC)(b:Int)(hz:n.sz<=1048576)(hb:0<=b/\b<=8)(hl:∀x∈n.Agents,0<=x.Level/\x.Level<=8):Fresh Gm 1456 [n.enc,.int .i64 b] (JS (J9 n b)):=by
 refine fI KP (by simp[AV.trees,AV.tree,qC.tr]) (qcY _) ?_;simp only[KP,qQ,go_sem];refine qW rfl ?_;simp only[go_sem];refine zW (Ws n hz) ?_;simp only[lNa,lNi];have eL:(lay n.enc 0)=(.agg [.slice 5 0 0 n.Agents.length false],.row 5 (qN (n.Agents.map qA.enc) 1).1 true::(qN (n.Agents.map qA.enc) 1).2):=by rw[qC.layE,lAn];rfl
 rw[eL];simp only[go_sem];unfold qC.sz at hz;refine Sem.loop (fun i:Nat=>i<=n.Agents.length/\(n.Agents.take i).all (wu b)=true) (fun i=>(⟨[(1,.int .i64 b),(13,.int .i64 (n.Agents.length:Nat)),(14,.int .i64 (i:Nat))],[(6,.agg [.slice 5 0 0 n.Agents.length false]),(4,.agg [.nils])],.row 5 (qN ((JR b n.Agents i).map qA.enc) 1).1 true::(qN (n.Agents.map qA.enc) 1).2⟩:VSt)) (fun i=>n.Agents.length-i) 0 (by kernel_rfl) ⟨nZl _,by simp⟩ (by rw[show JR b n.Agents 0=n.Agents by simp[JR]];exact Can.sub (by simp[go_sem]) (by simp[go_sem])) ?_;rintro i ⟨hi,hI⟩;simp only[go_sem];apply qM<;>intro hc<;>simp only[hc,go_sem]
 ·have hlt:i<n.Agents.length:=by have:=odT hc;omega
  clear hc;have hx:=qjA (by':=b) hlt;have hg:=Zv (m:=1) hx;have hlx:=hl _ (gMm hlt);have ms:=qjB (by':=b) hlt;have al:(n.Agents.take (i+1)).all (wu b)=((n.Agents.take i).all (wu b)&&wu b n.Agents[i]):=by rw[lTs hlt,List.all_append];simp only[lAc,List.all_nil,Bool.and_true]
  rw[hI,Bool.true_and]at al;have alf:wu b n.Agents[i]=false->n.Agents.all (wu b)=false:=fun e=>by
   rw[<-Bool.not_eq_true,lAt];intro q;have:=q _ (gMm hlt);rw[e]at this;cases this
  generalize n.Agents[i]=x at hx hg hlx ms al alf;simp only[zH hlt,hg,go_sem];refine qO qAO ?_;simp only[go_sem];apply qM<;>intro hc<;>simp only[hc,go_sem]
  ·have hv:wT x.Kind=false:=by simpa using hc
   have e1:lvA b x=x:=by unfold lvA;simp[hv]
   rw[e1]at ms;have e2:(JR b n.Agents i).set i x=JR b n.Agents i:=by
    refine List.ext_getElem? fun j=> ?_;by_cases e:j=i
    ·subst e;rw[gSs (qe hx),hx]
    ·rw[gSn (Ne.symm e)]
   rw[e2]at ms;rw[ms];simp only[qc (show i<4611686018427387904 by omega)];refine qd (i+1) ⟨by omega, ?_⟩ (by omega) (Can.sub (by simp[go_sem]) (by simp[go_sem]));rw[al];unfold wu;simp[hv]
  ·have hv:wT x.Kind=true:=by simpa using hc
   clear hc;have e1:lvA b x={x with Level:=x.Level+b}:=by unfold lvA;simp[hv]
   have ew:IntKind.i64.wrap (x.Level+b)=x.Level+b:=qf (by omega) (by omega);simp only[hg,ew,go_sem];refine q8 (e':=.agg [.int .i64 x.Kind,.int .i64 (x.Level+b),.int .i64 x.Value,.slice 1 (1+2*i) 0 x.Data.length false,.slice 2 (1+2*i+1) 0 x.Ports.length false]) rfl (by rfl) hg rfl ?_;simp only[lSz];have es:=qiS (m:=1) (y:={x with Level:=x.Level+b}) hx rfl rfl;simp only at es;rw[es,<-e1,ms];have hx2:(JR b n.Agents (i+1))[i]?=some (lvA b x):=by rw[<-ms,gSs (qe hx)]
   have hg2:=Zv (m:=1) hx2;rw[e1]at hg2;simp only at hg2;simp only[hg2,go_sem];apply qM<;>intro hc<;>simp only[hc,go_sem]
   ·have eo:wu b x=false:=by unfold wu;have:=odT hc;simp[hv];omega
    have er:J9 n b=(⟨[]⟩,false):=by unfold J9;rw[alf eo];rfl
    rw[er];exact qmA
   ·have eo:wu b x=true:=by unfold wu;have:=odF hc;simp[hv];omega
    simp only[qc (show i<4611686018427387904 by omega)];refine qd (i+1) ⟨by omega, ?_⟩ (by omega) (Can.sub (by simp[go_sem]) (by simp[go_sem]));rw[al,eo]
 ·have hlt:i=n.Agents.length:=by have:=odF hc;omega
  subst hlt;rw[lTl]at hI;have er:J9 n b=(⟨n.Agents.map (lvA b)⟩,true):=by unfold J9;rw[hI];rfl
  have em:JR b n.Agents n.Agents.length=n.Agents.map (lvA b):=by simp[JR]
  rw[er,em];have e2:(qN (n.Agents.map qA.enc) 1).2=(qN ((n.Agents.map (lvA b)).map qA.enc) 1).2:=(qbZ (by rw[List.map_map];exact List.map_congr_left fun x _=>qi3)).symm;rw[e2];refine jU (pre:=[]) (post:=[]) (qcY _) ?_ ?_
  ·simp[zI,JS,lay,qN,qC.layE]
  ·simp[JS,lay,qN,qC.layE]
structure RW(bk:List qC)(es:List (AV×AV))(mid base nid:Nat)(h:List qD)(N:Ags):Prop where
 n:NE 3 [.lst 1 (bk.map qC.enc) false,.map mid] base nid h N
 m:h[mid]?=some (.map es)
theorem RW.km{bk:List qC}{es:List (AV×AV)}{mid base nid:Nat}{h h':List qD}{N M:Ags}(hN:RW bk es mid base nid h N)(n':NE 3 [.lst 1 (bk.map qC.enc) false,.map mid] base nid h' M)(hk:KM base h h'):RW bk es mid base nid h' M:=⟨n',hk.m _ _ hN.m⟩
theorem qiA{m:Int}(h0:0<=m){xs:Ags}(h:∀x∈xs,x.Level<=m):hiI xs<=m:=by
 have key:∀(xs:Ags)(k:Int),k<=m->(∀x∈xs,x.Level<=m)->xs.foldl (fun m x=>if x.Level<m then m else x.Level) k<=m:=by
  intro xs
  induction xs with
  | nil=>intro k h1 _;exact h1
  | cons y ys ih=>
   intro k h1 h2;have:=h2 y (by simp);exact ih _ (by simp only;split<;>omega) fun x hx=>h2 x (by simp[hx])
 exact key xs 0 h0 h
theorem qd8{t:qC}{lev:Int}(ht:qq t=true)(hl:0<=lev/\lev<=8):t.Agents.all (wu lev)=true↔¬8<IntKind.i64.wrap (hiI t.Agents+lev):=by
 have hb:=qbL (xs:=t.Agents) fun x hx=>J6 (wF (wY ht) x hx);rw[qf (by omega) (by omega),lAt];constructor
 ·intro h;have:=qiA (m:=8-lev) (by omega) (xs:=t.Agents) fun x hx=>by
   have h1:=h x hx;unfold wu at h1;have h2:=Jf (wF (wY ht) x hx);unfold jq at h2;by_cases q:wT x.Kind=true
   ·simp[q]at h1;omega
   ·rw[if_neg q]at h2;simp at h2;omega
  omega
 ·intro h x hx;have:=qbM hx;unfold wu;simp;right;omega
section
variable {w:Nat} {post:List AV} {bk:List qC} {es:List (AV×AV)} {mid base nid:Nat} {h:List qD} {N:Ags} {K:AV->List qD->Prop} {a b s c k:Nat} {x y:qA}
theorem s751(hN:NE w post base nid h N)(hx:N[a]?=some x)(hy:N[b]?=some y)(oa:qk x=true)(ob:qk y=true)(hK:K (.tup [.int .i64 (j5 x y),.bool (zM x y&& !decide (j5 x y=8))]) h):
  SCall Gm 751 [.ptr nid 0 0,(⟨(a:Int),(b:Int)⟩:qj).enc] h K:=by
 obtain⟨aid,ps,q,hNA,ho,ha,hq⟩:=hN.rd hx;obtain⟨q',hq',ha',hr'⟩:=hNA.at hy;have la:=qe hx;have lb:=qe hy;have fin:∀v,v=AV.tup [.int .i64 (j5 x y),.bool (zM x y&& !decide (j5 x y=8))]->K v h:=fun v e=>e▸hK;have key:=qcV oa ob;refine sI Xc ?_;simp only[Xc,qQ,go_sem,qj.enc];refine qW rfl ?_;simp only[go_sem,ho,zH la,zH lb,ha,hq,ha'];refine qU rfl rfl ⟨_,rfl⟩ (by decide) ?_;simp only[go_sem];refine qU rfl rfl ⟨_,rfl⟩ (by decide) ?_;simp only[go_sem];refine qO qZ2 ?_;simp only[go_sem];have c8:za x.Kind x.Level y.Kind y.Level=8->zX x.Kind x.Level y.Kind y.Level=2->False:=by
  intro h1 h2;simp only[za,zX]at h1 h2;split at h1
  ·rename_i hp;simp only[hp,if_true]at h2;split at h1
   ·exact V6 h1
   ·split at h1
    ·exact V6 h1
    ·rename_i q1 q2;rw[if_neg q1,if_neg q2]at h2;omega
  ·omega
 have k8:za x.Kind x.Level y.Kind y.Level=6->(if zM x y then x.Kind=10/\(x.Data.length:Int)<=y.Value else y.Kind=10/\(y.Data.length:Int)<=x.Value)->j5 x y=8:=fun h1 h2=>by rw[key,if_pos ⟨h1,h2⟩]
 have kn:¬(za x.Kind x.Level y.Kind y.Level=6/\(if zM x y then x.Kind=10/\(x.Data.length:Int)<=y.Value else y.Kind=10/\(y.Data.length:Int)<=x.Value))->j5 x y=za x.Kind x.Level y.Kind y.Level:=fun h1=>by rw[key,if_neg h1]
 clear key oa ob hK hx hy hNA ho ha hq hq' ha' hr';have hs:zM x y=decide (zX x.Kind x.Level y.Kind y.Level=2):=rfl;generalize zM x y=S at*;generalize j5 x y=O at*;generalize za x.Kind x.Level y.Kind y.Level=C at*;generalize zX x.Kind x.Level y.Kind y.Level=F at*;subst hs
 repeat' (first | (first | (apply qg<;>intro hc<;>simp only[hc,go_sem]) | (apply qM<;>intro hc<;>simp only[hc,go_sem])) | (refine qU rfl rfl ⟨_,rfl⟩ (by decide) ?_;simp only[go_sem]) | refine fin _ ?_)
 all_goals clear fin
 all_goals simp only[Bool.not_true,dTe,decide_eq_false_iff_not,AV.tup.injEq]at*
 all_goals first
  | (have e:=k8 (by assumption) (by simp[*];done);simp[e];done)
  | (have e:=kn (by simp[*];try omega);simp only[e];simp[*];try first | omega | (intro h8;exact c8 h8 (by assumption)))
theorem qBV{v:Int}(h0:0<=v)(h1:v<bk.length):idx 1 (some (.lst 1 (bk.map qC.enc) false)) (some (.int .i64 v))=some (.ept (zY bk v).enc 0):=by
 have lv:v.toNat<bk.length:=by omega
 have e:v=((v.toNat:Nat):Int):=by omega
 unfold zY;generalize v.toNat=n at e lv;subst e;rw[VT,gMp,gEg lv];rfl
def Jh(bk:List qC)(x y:qA)(a b:Nat):AV:=if (qx bk x y).2=0 then .tup [.int .i64 (qS x y),.int .i64 (a:Nat),.int .i64 (b:Nat),.int .i64 0]else .tup [.int .i64 0,.int .i64 0,.int .i64 0,.int .i64 (qx bk x y).2]
theorem qh3(h:qS x y=8):(qx bk x y).2=11:=by unfold qx;rw[if_pos h]
theorem qbI(h:qS x y=7)(q:(bk.length:Int)<=x.Value):(qx bk x y).2=3:=by unfold qx;rw[if_neg (by omega),if_pos ⟨h,q⟩]
theorem qh4(h:qS x y=7)(q:¬(bk.length:Int)<=x.Value)(r:8<IntKind.i64.wrap (hiI (zY bk x.Value).Agents+x.Level)):(qx bk x y).2=9:=by unfold qx;rw[if_neg (by omega),if_neg (by omega),if_pos ⟨h,r⟩]
theorem qbH(h8:qS x y≠8)(q:qS x y=7->¬(bk.length:Int)<=x.Value/\¬8<IntKind.i64.wrap (hiI (zY bk x.Value).Agents+x.Level)):(qx bk x y).2=0:=by
 unfold qx;rw[if_neg h8,if_neg (fun e=>(q e.1).1 e.2),if_neg (fun e=>(q e.1).2 e.2)]
theorem qlR{u v:qA}{A B:Nat}(hR:RW bk es mid base nid h N)(ok:qq ⟨N⟩=true)(hbk:j7 bk=true)(hu:N[A]?=some u)(hv:N[B]?=some v)
  (ho:(zM u v=true/\a=B/\b=A/\x=v/\y=u)\/(zM u v=false/\a=A/\b=B/\x=u/\y=v)) (h7:qS x y=7->0<=x.Value) (hK:K (Jh bk x y a b) h):
  SCall Gm 1305 [.ptr nid 0 0,(⟨(A:Int),(B:Int)⟩:qj).enc] h K:=by
 have eo:j5 u v=qS x y:=by unfold j5;rcases ho with⟨e,_,_,rfl,rfl⟩ | ⟨e,_,_,rfl,rfl⟩<;>rw[e]<;>rfl
 have hx:N[a]?=some x:=by rcases ho with⟨_,rfl,_,rfl,_⟩ | ⟨_,rfl,_,rfl,_⟩<;>assumption
 have xok:=J6 (J5 ok hx);obtain⟨aid,ps,q,hNA,hq1,hq2,hq3⟩:=hR.n.rd hx;have la:=qe hx;refine sI Uv ?_;simp only[Uv,qQ,go_sem,qj.enc];refine qW rfl ?_;simp only[go_sem];refine qZ (s751 hR.n hu hv (J5 ok hu) (J5 ok hv) ?_);rw[eo];by_cases c8:qS x y=8
 ·have eC:Jh bk x y a b=.tup [.int .i64 0,.int .i64 0,.int .i64 0,.int .i64 11]:=by unfold Jh;rw[qh3 c8,if_neg (by decide)]
  rw[eC]at hK;have eb:(zM u v&& !decide (qS x y=8))=false:=by simp[c8]
  rw[eb,c8];simp only[go_sem];exact hK
 ·have eb:(zM u v&& !decide (qS x y=8))=zM u v:=by simp[c8]
  rw[eb];have hab:∃A' B':Nat,A'=A/\B'=B:=⟨A,B,rfl,rfl⟩;rcases ho with⟨hs,ha,hb,h1,h2⟩ | ⟨hs,ha,hb,h1,h2⟩<;>subst ha hb<;>rw[hs]<;>simp only[go_sem]
  all_goals
   simp only[show decide (qS x y=8)=false from decide_eq_false c8,go_sem];apply qM<;>intro hc<;>simp only[hc,go_sem]
   ·have c7:qS x y=7:=by simpa using hc
    clear hc;have v0:=h7 c7;simp only[hq1,zH la,hq2,hq3,go_sem];refine qU rfl rfl ⟨_,rfl⟩ (by decide) ?_;simp only[go_sem];simp only[hq1,go_sem];apply qM<;>intro hc<;>simp only[hc,go_sem]
    ·have q3:(bk.length:Int)<=x.Value:=by simpa using hc
     have eC:Jh bk x y a b=.tup [.int .i64 0,.int .i64 0,.int .i64 0,.int .i64 3]:=by unfold Jh;rw[qbI c7 q3,if_neg (by decide)]
     exact eC▸hK
    ·have q3:¬(bk.length:Int)<=x.Value:=by simpa using hc
     clear hc;have ot:=qDC hbk v0 (show x.Value<bk.length by omega);simp only[hq1,qBV v0 (show x.Value<bk.length by omega),go_sem];simp only[qC.enc,go_sem];refine qO ((qcH (zY bk x.Value) x.Level (by have:=wZ ot;omega) xok fun z hz=>J6 (wF (wY ot) z hz)).pure (qkB _) (qkC _)) ?_;have sh:=qd8 ot xok;simp only[JS,qC.enc,go_sem];by_cases q9:8<IntKind.i64.wrap (hiI (zY bk x.Value).Agents+x.Level)
     ·have e9:(J9 (zY bk x.Value) x.Level).2=false:=by unfold J9;rw[if_neg (fun e=>sh.1 e q9)]
      have eC:Jh bk x y a b=.tup [.int .i64 0,.int .i64 0,.int .i64 0,.int .i64 9]:=by unfold Jh;rw[qh4 c7 q3 q9,if_neg (by decide)]
      rw[e9];simp only[go_sem];exact eC▸hK
     ·have e9:(J9 (zY bk x.Value) x.Level).2=true:=by unfold J9;rw[if_pos (sh.2 q9)]
      have eC:∀a b,Jh bk x y a b=.tup [.int .i64 (qS x y),.int .i64 (a:Nat),.int .i64 (b:Nat),.int .i64 0]:=fun a b=>by unfold Jh;rw[if_pos (qbH c8 fun _=>⟨q3,q9⟩)]
      rw[e9];simp only[go_sem];exact eC _ _▸hK
   ·have n7:qS x y≠7:=by simpa using hc
    have eC:∀a b,Jh bk x y a b=.tup [.int .i64 (qS x y),.int .i64 (a:Nat),.int .i64 (b:Nat),.int .i64 0]:=fun a b=>by unfold Jh;rw[if_pos (qbH c8 fun e=>absurd e n7)]
    exact eC _ _▸hK
theorem qlS(hR:RW bk [] mid base nid h N)(hl:N.length<=1000000)(hK:K (.int .i64 (N.length:Nat)) h):SCall Gm 1306 [.ptr nid 0 0] h K:=by
 obtain⟨aid,ps,hN⟩:=hR.n;refine sI Uw ?_;simp only[Uw,qQ,go_sem,hN.o,oBs,qaX hR.m,oMs];have ew:IntKind.i64.wrap (((N.length:Nat):Int)-((0:Nat):Int))=((N.length:Nat):Int):=by rw[qf (by omega) (by omega)];omega
 rw[ew];exact hK
theorem qlT{c:Int}(hR:RW bk es mid base nid h N)(hx:N[a]?=some x)(hy:N[b]?=some y)(px:x.Ports.length<=4)(py:y.Ports.length<=4)(h7:c=7->0<=x.Value/\x.Value<bk.length/\(zY bk x.Value).Agents.length<=600)
  (hK:K (.int .i64 (zw c (jX bk x y c)).1) h):SCall Gm 1307 [.ptr nid 0 0,.int .i64 c,.int .i64 (a:Nat),.int .i64 (b:Nat)] h K:=by
 obtain⟨aid,ps,q,hNA,ho,ha,hq⟩:=hR.n.rd hx;obtain⟨q',hq',ha',hr'⟩:=hNA.at hy;have la:=qe hx;have lb:=qe hy;have fin:∀p:Int,jX bk x y c=p->K (.int .i64 (zw c p).1) h:=fun p e=>e▸hK;have ep:IntKind.i64.wrap (((x.Ports.length:Nat):Int)-1)=(x.Ports.length:Int)-1:=qf (by omega) (by omega);have eq:IntKind.i64.wrap (((y.Ports.length:Nat):Int)-1)=(y.Ports.length:Int)-1:=qf (by omega) (by omega);clear hK;refine sI Ux ?_;simp only[Ux,qQ,go_sem];apply qM<;>intro hc<;>simp only[hc,go_sem]
 ·have e:c=3:=by simpa using hc
  simp only[ho,zH lb,ha,ha',eq,go_sem];refine qO (WX (by omega) (by omega)) ?_;simp only[go_sem];exact fin _ (by unfold jX;rw[if_pos (.inl e)])
 have n3:c≠3:=by simpa using hc
 clear hc;apply qM<;>intro hc<;>simp only[hc,go_sem]
 ·have e:c=4:=by simpa using hc
  simp only[ho,zH lb,ha,ha',eq,go_sem];refine qO (WX (by omega) (by omega)) ?_;simp only[go_sem];exact fin _ (by unfold jX;rw[if_pos (.inr e)])
 have n4:c≠4:=by simpa using hc
 clear hc;apply qM<;>intro hc<;>simp only[hc,go_sem]
 ·have e:c=6:=by simpa using hc
  clear hc;simp only[ho,zH la,ha,hq,go_sem];apply qM<;>intro hc<;>simp only[hc,go_sem]
  ·have k9:x.Kind=9:=by simpa using hc
   simp only[ho,zH la,ha,hq,ep,go_sem];refine qO (WX (by omega) (by omega)) ?_;simp only[go_sem];exact fin _ (by unfold jX fieldsOf;rw[if_neg (by omega),if_pos e,if_pos k9])
  ·have k9:¬x.Kind=9:=by simpa using hc
   refine qO (WX (by omega) (by omega)) ?_;simp only[go_sem];exact fin _ (by unfold jX fieldsOf;rw[if_neg (by omega),if_pos e,if_neg k9])
 have n6:c≠6:=by simpa using hc
 clear hc;apply qM<;>intro hc<;>simp only[hc,go_sem]
 ·have e:c=7:=by simpa using hc
  obtain⟨v0,v1,v2⟩:=h7 e;simp only[ho,zH la,ha,hq,go_sem];simp only[qBV v0 v1,qC.enc,go_sem];refine qO (WX (by omega) (by omega)) ?_;simp only[go_sem];exact fin _ (by unfold jX;rw[if_neg (by omega),if_neg n6,if_pos e])
 ·have n7:c≠7:=by simpa using hc
  refine qO (WX (by omega) (by omega)) ?_;simp only[go_sem];exact fin _ (by unfold jX;rw[if_neg (by omega),if_neg n6,if_neg n7])
end
section
variable {w:Nat} {post:List AV} {base nid:Nat} {h:List qD} {N:Ags} {K:AV->List qD->Prop} {a b s c k:Nat} {x y:qA} {X:Nat->Nat->Prop}
theorem W.peerX(h:W N X)(h1:Has N a s)(x1:¬X a s)(x2:X c k):∃b t,z9 N (pt a s)=pt b t/\Has N b t/\¬(c=b/\k=t):=by
 obtain⟨c',k',e,_,h2,x3,_⟩:=h.live h1 x1;exact⟨c',k',e,h2,fun q=>x3 (q.1▸q.2▸x2)⟩
def JN(c n:Nat):List AV:=(List.range n).map fun j=>.int .i64 ((c+j:Nat):Int)
theorem qa6{n:Nat}:JN c (n+1)=JN c n++[.int .i64 ((c+n:Nat):Int)]:=by simp[JN,List.range_succ]
theorem qa5{n:Nat}:(JN c n).length=n:=by simp[JN]
theorem qa4{n i:Nat}(h:i<n):(JN c n)[i]?=some (.int .i64 ((c+i:Nat):Int)):=by simp[JN,h]
theorem X2{id n i:Nat}(h:i<n):idx 1 (some (.slice 1 id 0 n false)) (some (.int .i64 (i:Nat)))=some (.ptr id i 0):=by simp[idx,inI];omega
theorem NE.app1{g:List qD}{f:Nat}{el:List AV}{v:AV}{tmp:qD}(hw:w≠1)(hN:NE w post base nid g N)(hf:g[f]?=some (.row 1 el true))(hb:base<=f):
  NE w post base nid ((g++[tmp]).set f .dead++[.row 1 (el++[v]) true]) N/\KM base g ((g++[tmp]).set f .dead++[.row 1 (el++[v]) true])/\((g++[tmp]).set f .dead++[.row 1 (el++[v]) true])[g.length+1]?=some (.row 1 (el++[v]) true)/\base<=g.length+1:=by
 have hbl:=hN.bl;have hk:KM base g ((g++[tmp]).set f .dead++[.row 1 (el++[v]) true]):=((KM.app hbl).trans (KM.set hb (by rw[gAl (qe hf)];exact hf))).trans (KM.app (by simp;omega));refine⟨?_,hk, ?_,by omega⟩
 ·obtain⟨aid,ps,hN⟩:=hN;have e:∀{j:Nat}{o:qD},g[j]?=some o->o≠.row 1 el true->((g++[tmp]).set f .dead++[.row 1 (el++[v]) true])[j]?=g[j]?:=fun{j o} q ne=>by
   have:=qe q;rw[gAl (by simp;omega),gSn (fun e=>by rw[<-e,hf]at q;cases q;exact ne rfl),gAl this]
  refine⟨aid,ps,hN.heap (e hN.o fun q=>by simp only[qD.row.injEq]at q;exact hw q.1) (e hN.a fun q=>by simp at q) fun q hq=> ?_⟩;obtain⟨k,hk⟩:=List.getElem?_of_mem hq;have hl:=qe hk;rw[hN.l]at hl;exact e (hN.p k _ q (gEg hl) hk) fun q=>by simp at q
 ·rw[gAr (by simp)];simp
theorem qlU(hw:w≠1)(hP:Pr N a b x y X)(hN:NE w post base nid h N)(hx:x.Ports.length=3)(hy:0<y.Ports.length)(hz:y.sz<=1000)(hl:N.length<=10000)
  (hK:∀h',NE w post base nid h' (Zn N a b x y)->KM base h h'->K (.tup []) h'):SCall Gm 1309 [.ptr nid 0 0,.int .i64 (a:Nat),.int .i64 (b:Nat)] h K:=by
 have la:=hP.la;have lb:=hP.lb;have hz':=hz;unfold qA.sz at hz';refine sI Uz ?_;simp only[Uz,qQ,go_sem];obtain⟨aid,ps,q,_,o1,o2,o3⟩:=hN.rd hP.y;simp only[o1,zH lb,o2,o3,go_sem];refine qU (k:=5) (by rfl) (by simp only[go_sem]) ⟨_,rfl⟩ (by decide) ?_;simp only[go_sem];refine qZ (UB hw hN (by omega) (by omega) (by omega) fun h1 n1 k1=> ?_);simp only[go_sem];refine qZ (UB hw n1 (by omega) (by omega) (by simp;omega) fun h2 n2 k2=> ?_);rw[show (N++[qT y.Kind y.Level y.Value y.Data y.Ports.length]).length=N.length+1 by simp];simp only[go_sem];have hbl:=n2.bl;refine Sem.loop (α:=Nat×Nat×List qD) (fun q=>q.1+1<=y.Ports.length/\NE w post base nid q.2.2 (zG N x y q.1)/\KM base h q.2.2/\q.2.2[q.2.1]?=some (.row 1 (JN (N.length+2) q.1) true)/\base<=q.2.1)
  (fun z=>(⟨[(0,.ptr nid 0 0),(1,.int .i64 (a:Nat)),(2,.int .i64 (b:Nat)),(7,.int .i64 (N.length:Nat)),(8,.int .i64 (N.length+1:Nat)),(9,.slice 1 z.2.1 0 z.1 false),(10,.int .i64 ((z.1+1:Nat):Int))],[(6,encR y q)],z.2.2⟩:VSt)) (fun q=>y.Ports.length-q.1) (0,h2.length,h2++[.row 1 [] true]) (by kernel_rfl)
  ⟨by simp only;omega,n2.app _,(k1.toKM.trans k2.toKM).trans (KM.app hbl),by simp[JN],hbl⟩
  (Can.ph (WkN.same rfl (WkN.same rfl (WkN.same rfl (WkN.same rfl (WkN.same rfl (WkN.cons rfl (Wk.ph (by simp)) (WkN.same rfl WkN.nil))))))) (WkN.same rfl WkN.nil)) ?_
 rintro⟨i,f,g⟩ ⟨hi,hn,hk,hf,hfb⟩;simp only at hi hn hk hf hfb;simp only[go_sem];have hg:(zG N x y i).length=N.length+2+i:=qBB;apply qM<;>intro hc<;>simp only[hc,go_sem]
 ·have hlt:i+1<y.Ports.length:=by have:=odT hc;omega
  clear hc;obtain⟨x',hx',cx⟩:=(Qc (N:=N) (x:=x) (y:=y) (i:=i)).at (a:=a) (x:=x) (by unfold wR;rw[gAl (by simp;omega),gAl (by simp;omega),gAl la];exact hP.x);obtain⟨aid1,ps1,q1,_,p1,p2,p3⟩:=hn.rd hx';rw[VF cx]at p3;simp only[p1,zH (show a<(zG N x y i).length by omega),p2,p3,go_sem];refine qZ (XD (n:=3) hw hn (by omega) (by omega) fun g1 m1 j1=> ?_);simp only[go_sem];have f1:Has (zG N x y i++[qT 4 x.Level 0 [] 3]) (zG N x y i).length 1:=zd (by omega);have f2:Has (zG N x y i++[qT 4 x.Level 0 [] 3]) (zG N x y i).length 2:=zd (by omega);have c1:Has (zG N x y i++[qT 4 x.Level 0 [] 3]) N.length (i+1):=(QF (by omega)).1.app;have c2:Has (zG N x y i++[qT 4 x.Level 0 [] 3]) (N.length+1) (i+1):=(QF (by omega)).2.app;refine qZ (XC (s:=1) (k:=i+1) m1 f1 c1 fun g2 m2 j2=> ?_);simp only[go_sem];refine qZ (XC (s:=2) (k:=i+1) m2 (f2.same (zr _ _ _)) (c2.same (zr _ _ _)) fun g3 m3 j3=> ?_);simp only[go_sem];have hf3:=(j1.trans (j2.trans j3)).r _ _ hf;obtain⟨r1,r2⟩:=JT (tmp:=.row 1 [.int .i64 ((zG N x y i).length:Nat)] true) hf3;refine zy r2 r1 qa5 (by omega) ?_;obtain⟨z1,z2,z3,z4⟩:=m3.app1 (v:=.int .i64 ((zG N x y i).length:Nat)) (tmp:=.row 1 [.int .i64 ((zG N x y i).length:Nat)] true) hw hf3 hfb;simp only[go_sem,qc (show i+1<4611686018427387904 by omega)];refine qd (i+1,g3.length+1,_) ⟨by simp only;omega,z1,hk.trans (((j1.trans (j2.trans j3)).toKM).trans z2), ?_,z4⟩ (by simp only;omega) (Can.sub (by simp[go_sem]) (by simp[go_sem]));rw[qa6,<-hg];exact z3
 ·have hlt:i=y.Ports.length-1:=by have:=odF hc;omega
  clear hc;subst hlt;have w0:=qA9 (x:=x) hP hy;have w1:=qBC hP hx hy;have a1:Has (zG N x y (y.Ports.length-1)) a 1:=Qb (hP.ax (by omega));have a2:Has (Xv N a x y) a 2:=(Qb (hP.ax (by omega))).same Zl;refine qZ (QM (s:=1) (k:=0) hn a1 (QF hy).1 (w0.peerX a1 (by rintro(q | q);exact hP.nx (by omega) q.1;omega) (.inr ⟨nLr _,rfl⟩)) fun g1 m1 j1=> ?_);simp only[go_sem];refine qZ (QM (s:=2) (k:=0) m1 a2 ((QF hy).2.same Zl) (w1.peerX a2 (by rintro(q | q | q);exact hP.nx (by omega) q.1;omega;omega) (.inr (.inl ⟨nLr _,rfl⟩))) fun g2 m2 j2=> ?_);simp only[go_sem];have hf2:=(j1.trans j2).r _ _ hf;refine Sem.loop (α:=Nat×List qD) (fun q=>q.1+1<=y.Ports.length/\NE w post base nid q.2 (QG N a b x y q.1)/\KM base h q.2/\q.2[f]?=some (.row 1 (JN (N.length+2) (y.Ports.length-1)) true))
   (fun q=>(⟨[(0,.ptr nid 0 0),(2,.int .i64 (b:Nat)),(100,.slice 1 f 0 (y.Ports.length-1) false),(101,.int .i64 (y.Ports.length-1:Nat)),(102,.int .i64 (q.1:Nat))],[],q.2⟩:VSt)) (fun q=>y.Ports.length-q.1) (0,g2) (by kernel_rfl)
   ⟨by simp only;omega,m2,hk.trans (j1.trans j2).toKM,hf2⟩ (Can.sub (by simp[go_sem]) (by simp[go_sem])) ?_
  clear hn hk m1 m2 j1 j2 hg hi hf hf2;rintro⟨i,g⟩ ⟨hi,hn,hk,hf⟩;simp only at hi hn hk hf;simp only[go_sem];apply qM<;>intro hc<;>simp only[hc,go_sem]
  ·have hlt:i+1<y.Ports.length:=by have:=odT hc;omega
   clear hc;have b1:Has (QG N a b x y i) b (i+1):=(Qb (hP.by' (by omega))).same Zm;have b2:=qBA (N:=N) (x:=x) (y:=y) (i:=y.Ports.length-1) (j:=i) (s:=0) (by omega) (by omega);rw[show N.length+2+i=N.length+1+(i+1) by omega]at b2;have b3:Has (QG N a b x y i) (N.length+1+(i+1)) 0:=b2.same Zm;simp only[X2 (show i<y.Ports.length-1 by omega),hf,qa4 (c:=N.length+2) (show i<y.Ports.length-1 by omega),go_sem];rw[show N.length+2+i=N.length+1+(i+1) by omega];simp only[qc (show i<4611686018427387904 by omega),go_sem];refine qZ (QM (s:=i+1) (k:=0) hn b1 b3 ((qBE hP hx hy (i:=i) (by omega)).peerX b1 (by rintro(⟨(q | q | q),_⟩ | q);exact hP.nx (by omega) q.1;omega;exact hP.ne q.1.symm;omega) (.inl ⟨.inr (.inl ⟨by omega,rfl⟩),by omega⟩)) fun g1 m1 j1=> ?_);simp only[go_sem,qc (show i<4611686018427387904 by omega)];refine qd (i+1,g1) ⟨by simp only;omega,m1,hk.trans j1.toKM,j1.r _ _ hf⟩ (by simp only;omega) (Can.sub (by simp[go_sem]) (by simp[go_sem]))
  ·have hlt:i=y.Ports.length-1:=by have:=odF hc;omega
   subst hlt;exact hK _ hn hk
end
section
variable {N M A:Ags} {a b c d s k t u:Nat} {x y:qA} {lev v:Int} {X:Nat->Nat->Prop}
theorem qiW(h1:Has N a s)(h2:Has N c k)(h3:Has N b t)(h4:Has N d u)(n1:¬(a=b/\s=t))(n2:¬(a=d/\s=u))(n3:¬(c=b/\k=t))(n4:¬(c=d/\k=u)):
  zj (zj N (pt a s) (pt c k)) (pt b t) (pt d u)=zj (zj N (pt b t) (pt d u)) (pt a s) (pt c k):=by
 have s1:=zr N (pt a s) (pt c k);have s2:=zr N (pt b t) (pt d u);refine qAF ((s1.trans (zr _ _ _)).back.trans (s2.trans (zr _ _ _))) fun e v=> ?_;rw[wP (s1.has.1 h3) (s1.has.1 h4),wP h1 h2,wP (s2.has.1 h1) (s2.has.1 h2),wP h3 h4];by_cases e1:e=d/\v=u
 ·rw[if_pos e1,if_neg (by omega),if_neg (by omega),if_pos e1]
 ·by_cases e2:e=b/\v=t
  ·rw[if_neg e1,if_pos e2,if_neg (by omega),if_neg (by omega),if_neg e1,if_pos e2]
  ·rw[if_neg e1,if_neg e2,if_neg e1,if_neg e2]
theorem qiV(h1:Has N a s)(h2:Has N c k):zj (N++M) (pt a s) (pt c k)=zj N (pt a s) (pt c k)++M:=by
 refine qAF ((zr (N++M) (pt a s) (pt c k)).back.trans ((zr N (pt a s) (pt c k)).app (SameA.refl M))) fun e v=> ?_;have l1:=h1.lt;have l2:=h2.lt;rw[wP h1.app h2.app];by_cases hb:e<N.length
 ·rw[QX hb,QX (by rw[Wo];exact hb),wP h1 h2]
 ·obtain⟨e',rfl⟩:=Nat.exists_eq_add_of_le (Nat.le_of_not_lt hb);rw[if_neg (by omega),if_neg (by omega),qZO];have:=qZO (N:=zj N (pt a s) (pt c k)) (M:=M) (a:=e') (s:=v);rw[Wo]at this;rw[this]
def XA(X:Nat->Nat->Prop)(c i p q:Nat):Prop:=(X p q/\p<c)\/(c+1<=p/\p<=c+i/\q=1)\/(p=c+i/\q=zg i)
theorem Yu{i:Nat}:Has (zP lev N.length i (qz lev v N)) (N.length+i) (zg i):=by
 refine Has.same Xk ?_;unfold zg;split
 ·rename_i e;subst e;exact(zd (by omega)).app
 ·have:=VQ (N:=qz lev v N) (k:=3) (l:=lev) (v:=0) (e:=[]) (i:=i) (j:=i-1) (s:=2) (n:=3) (by omega) (by omega);rw[show (qz lev v N).length+(i-1)=N.length+i by simp[qz];omega]at this;exact this
theorem qZL{i:Nat}(h:Has N c s):Has (zP lev N.length i (qz lev v N)) c s:=h.app.app.same Xk
theorem qAI{i j:Nat}(h1:1<=j)(h2:j<=i):Has (zP lev N.length i (qz lev v N)) (N.length+j) 1:=by
 have:=VQ (N:=qz lev v N) (k:=3) (l:=lev) (v:=0) (e:=[]) (i:=i) (j:=j-1) (s:=1) (n:=3) (by omega) (by omega);rw[show (qz lev v N).length+(j-1)=N.length+j by simp[qz];omega]at this;exact this.same Xk
theorem Xj{i:Nat}:(zP lev N.length i (qz lev v N)).length=N.length+1+i:=by rw[qe0];simp[qz]
theorem qZK(h:Pr N a b x y X):∀{i:Nat},W (zP lev N.length i (qz lev v N)) (XA X N.length i)
 | 0=>(QE h).mono fun u w hb=>by
   have h3:u=N.length->w<1:=fun q=>by subst q;exact Z3 (SameA.refl _) hb
   unfold XA zg;by_cases hX:X u w<;>simp only[hX,true_and,false_and,false_or,true_or,and_true,if_true]<;>omega
 | i+1=>by
  have ih:=qZK h (i:=i);have hl:(zP lev N.length i (qz lev v N)).length=N.length+1+i:=Xj;have e0:zg i=0\/zg i=2:=by unfold zg;split<;>simp
  refine((ih.add (qT 3 lev 0 [] 3)).link (a:=(zP lev N.length i (qz lev v N)).length) (s:=0) (c:=N.length+i) (k:=zg i) (zd (by omega)) Yu.app (.inr rfl) (.inl ⟨.inr (.inr ⟨rfl,rfl⟩),by omega⟩) (by omega)).mono fun u w hb=> ?_;have hv:u=(zP lev N.length i (qz lev v N)).length->w<3:=fun q=>by subst q;exact Z3 (zr _ _ _) hb
  have hu:=hb.lt;simp only[Wo,lAp,lCo,lNi]at hu;rw[hl]at hv hu|-;have e1:zg (i+1)=2:=rfl;unfold XA;rw[e1];by_cases hX:X u w<;>simp only[hX,true_and,false_and,false_or,true_or,and_true]<;>omega
theorem qcC(h:Pr N a b x y X){i n:Nat}(hn:n<=x.Ports.length-1)(hi:i<=n):W (j0 a N.length 1 i (zP lev N.length n (qz lev v N))) fun p q=>(XA X N.length n p q/\¬(N.length+1<=p/\p<=N.length+i/\q=1))\/(p=a/\1<=q/\q<=i):=
 qCC (qZK h) (Nat.le_of_lt h.la) (fun k h1 h2=>⟨qZL (h.ax (by omega)),by
  have la:=h.la;rintro(q | q | q)
  ·exact h.nx (by omega) q.1
  ·omega
  ·omega⟩) (fun k h1 h2=>⟨qAI h1 h2,.inr (.inl ⟨by omega,by omega,rfl⟩)⟩) hi
theorem qcE{i n:Nat}(h:Has N c s):Has (j0 a N.length 1 i (zP lev N.length n (qz lev v N))) c s:=(qZL h).same Qo
theorem qcD(h:Pr N a b x y X){i:Nat}(hn:i+1<=x.Ports.length-1):∀{j:Nat},j<=i->
  j0 a N.length 1 j (zP lev N.length (i+1) (qz lev v N))=zj (j0 a N.length 1 j (zP lev N.length i (qz lev v N))++[qT 3 lev 0 [] 3]) (Ja N.length i) (pt (N.length+1+i) 0)
 | 0,_=>by
  show zj (zP lev N.length i (qz lev v N)++[qT 3 lev 0 [] 3]) (pt (zP lev N.length i (qz lev v N)).length 0) (Ja N.length i)=_;rw[qB1 (by rw[Xj];omega) (zd (by omega)) Yu.app,Xj];rfl
 | j+1,hj=>by
  have la:=h.la;have ih:=qcD h hn (j:=j) (by omega);have hw:=qcC (lev:=lev) (v:=v) h (i:=j) (n:=i) (by omega) (by omega);have hl:(j0 a N.length 1 j (zP lev N.length i (qz lev v N))).length=N.length+1+i:=by rw[(Qo).len,Xj]
  have p1:Has (j0 a N.length 1 j (zP lev N.length i (qz lev v N))) a (j+1):=qcE (h.ax (by omega));have p2:Has (j0 a N.length 1 j (zP lev N.length i (qz lev v N))) (N.length+(j+1)) 1:=(qAI (by omega) hj).same Qo;have p3:Has (j0 a N.length 1 j (zP lev N.length i (qz lev v N))) (N.length+i) (zg i):=Yu.same Qo;have e0:zg i=0\/zg i=2:=by unfold zg;split<;>simp
  obtain⟨g,z,e,hg,ne⟩:=hw.peerX (c:=N.length+i) (k:=zg i) p1 (by
   rintro(⟨(q | q | q),_⟩ | q)
   ·exact h.nx (by omega) q.1
   ·omega
   ·omega
   ·omega) (.inl ⟨.inr (.inr ⟨rfl,rfl⟩),by omega⟩)
  show jH (j0 a N.length 1 j (zP lev N.length (i+1) (qz lev v N))) (pt a (j+1)) (pt (N.length+(j+1)) 1)=zj (jH (j0 a N.length 1 j (zP lev N.length i (qz lev v N))) (pt a (j+1)) (pt (N.length+(j+1)) 1)++[qT 3 lev 0 [] 3]) (Ja N.length i) (pt (N.length+1+i) 0);rw[ih];generalize j0 a N.length 1 j (zP lev N.length i (qz lev v N))=B at hl p1 p2 p3 e hg|-;have q0:Has (B++[qT 3 lev 0 [] 3]) (N.length+1+i) 0:=by rw[<-hl];exact zd (by omega)
  have pe:z9 (zj (B++[qT 3 lev 0 [] 3]) (Ja N.length i) (pt (N.length+1+i) 0)) (pt a (j+1))=pt g z:=by
   obtain⟨r,hr⟩:=p1;have:=W5 hr;rw[e]at this;subst this;refine W5 ?_;rw[wP p3.app q0,if_neg (by omega),if_neg (by omega),QX (w6 hr),hr]
  unfold jH;rw[pe,e,<-qiV p2 hg];have lg:=hg.lt;exact qiW p3.app q0 p2.app hg.app (by omega) (by omega) (by omega) (by omega)
theorem qaD(h:Pr N a b x y X):∀{i:Nat},i<=x.Ports.length-1->j0 a N.length 1 i (zP lev N.length i (qz lev v N))=jE lev v N a i
 | 0,_=>rfl
 | i+1,hi=>by
  have ih:=qaD h (i:=i) (by omega);have hl:(jE lev v N a i).length=N.length+1+i:=qAJ;show jH (j0 a N.length 1 i (zP lev N.length (i+1) (qz lev v N))) (pt a (i+1)) (pt (N.length+(i+1)) 1)=jH (zj (jE lev v N a i++[qT 3 lev 0 [] 3]) (Ja N.length i) (pt (jE lev v N a i).length 0)) (pt a (i+1)) (pt (jE lev v N a i).length 1);rw[qcD h (by omega) (nLr _),ih,hl,show N.length+(i+1)=N.length+1+i by omega]
end
section
variable {w:Nat} {post:List AV} {base nid:Nat} {h:List qD} {N:Ags} {K:AV->List qD->Prop} {a b s c k:Nat} {x y:qA} {X:Nat->Nat->Prop}
theorem qlW(hw:w≠1)(hP:Pr N a b x y X)(hN:NE w post base nid h N)(h8:y.Kind=8->y.Ports.length=2/\0<y.Data.length)(h7:y.Kind≠8->y.Kind=7/\y.Ports.length=3)(hz:y.sz<=1000)(hl:N.length<=10000)
  (hK:∀h',NE w post base nid h' (if y.Kind=8 then W2 (opI y.Value (y.Data.getD 0 0) x.Value) N b else W3 N b x y)->KM base h h'->K (.tup []) h'):SCall Gm 1312 [.ptr nid 0 0,.int .i64 (a:Nat),.int .i64 (b:Nat)] h K:=by
 have la:=hP.la;have lb:=hP.lb;have hz':=hz;unfold qA.sz at hz';have hbl:=hN.bl;refine sI U2 ?_;simp only[U2,qQ,go_sem];obtain⟨aid,ps,q,hNA,o1,o2,o3⟩:=hN.rd hP.x;obtain⟨q',hq',o4,_⟩:=hNA.at hP.y;simp only[o1,zH la,zH lb,o2,o3,o4,go_sem];refine qU (k:=5) (by rfl) (by simp only[go_sem]) ⟨_,rfl⟩ (by decide) ?_;simp only[go_sem];apply qM<;>intro hc<;>simp only[hc,go_sem]
 ·have e7:y.Kind=7:=by simpa using hc
  have e8:y.Kind≠8:=by omega
  rw[if_neg e8]at hK;have p3:=(h7 e8).2;refine qZ (qlV (n:=2) hw hN (by omega) (by omega) fun h2 n2 k2=> ?_);simp only[go_sem];have b1:Has (N++[qT 8 y.Level y.Value [x.Value] 2]) b 1:=(hP.by' (by omega)).app;refine qZ (QM (s:=1) (k:=0) n2 b1 (zd (by omega)) ((QE hP).peerX b1 (by rintro(q | q);exact hP.nx (by omega) q.1;omega) (.inr rfl)) fun h3 n3 k3=> ?_);simp only[go_sem];have b2:Has (Z5 N b x y) b 2:=(hP.by' (by omega)).app.same ZU;have w2:W (Z5 N b x y) _:=YM hP (by omega) (by omega);refine qZ (QM (s:=2) (k:=1) n3 b2 ((zd (by omega)).same ZU) (w2.peerX b2 (by rintro(q | q | q);exact hP.nx (by omega) q.1;omega;omega) (.inr (.inl ⟨rfl,by omega⟩))) fun h4 n4 k4=> ?_);simp only[go_sem];exact hK _ n4 (k2.toKM.trans (k3.toKM.trans k4.toKM))
 ·have e7:y.Kind≠7:=by simpa using hc
  have e8:y.Kind=8:=by rcases Classical.em (y.Kind=8)with q | q;exact q;exact absurd (h7 q).1 e7
  rw[if_pos e8]at hK;obtain⟨p2,d1⟩:=h8 e8;simp only[ZA d1,oMs,go_sem];refine qO qfK ?_;simp only[go_sem];refine qZ (XD (n:=1) hw hN (by omega) (by omega) fun h2 n2 k2=> ?_);simp only[go_sem];have b1:Has (N++[qT 6 0 (opI y.Value (y.Data.getD 0 0) x.Value) [] 1]) b 1:=(hP.by' (by omega)).app;refine qZ (QM (s:=1) (k:=0) n2 b1 (zd (by omega)) ((QE hP).peerX b1 (by rintro(q | q);exact hP.nx (by omega) q.1;omega) (.inr rfl)) fun h3 n3 k3=> ?_);simp only[go_sem];exact hK _ n3 (k2.toKM.trans k3.toKM)
end
section
variable {w:Nat} {post:List AV} {base nid:Nat} {h:List qD} {N:Ags} {K:AV->List qD->Prop} {a b s c k:Nat} {x y:qA} {X:Nat->Nat->Prop}
theorem qlX(hw:w≠1)(hP:Pr N a b x y X)(hN:NE w post base nid h N)(hy:y.Ports.length=2)(h11:y.Kind=11->x.Kind=6/\y.Data.length=2)(h10:y.Kind≠11->x.Kind=9/\0<x.Ports.length/\0<=x.Value/\x.Value<y.Data.length)(hz:y.sz<=1000)(hzx:x.sz<=1000)(hl:N.length<=10000)
  (hK:∀h',NE w post base nid h' (if y.Kind=11 then W7 y.Level (JZ x y) N b else Zj y.Level (y.Data.getD x.Value.toNat 0) N a b (x.Ports.length-1))->KM base h h'->K (.tup []) h'):SCall Gm 1313 [.ptr nid 0 0,.int .i64 (a:Nat),.int .i64 (b:Nat)] h K:=by
 have la:=hP.la;have lb:=hP.lb;have hz':=hz;unfold qA.sz at hz';have hzx':=hzx;unfold qA.sz at hzx';refine sI U3 ?_;simp only[U3,qQ,go_sem];obtain⟨aid,ps,q,hNA,o1,o2,o3⟩:=hN.rd hP.x;obtain⟨q',hq',o4,_⟩:=hNA.at hP.y;simp only[o1,zH la,zH lb,o2,o3,o4,go_sem];refine qU (k:=5) (by rfl) (by simp only[go_sem]) ⟨_,rfl⟩ (by decide) ?_;simp only[go_sem];refine qU (k:=5) (by rfl) (by simp only[go_sem]) ⟨_,rfl⟩ (by decide) ?_;simp only[go_sem];apply qM<;>intro hc<;>simp only[hc,go_sem]
 ·have e6:x.Kind=6:=by simpa using hc
  have e11:y.Kind=11:=by rcases Classical.em (y.Kind=11)with q | q;exact q;have:=(h10 q).1;omega
  clear hc;rw[if_pos e11]at hK;have d2:=(h11 e11).2;refine qO c566 ?_;simp only[go_sem];have b1:∀v,Has (N++[qT 12 y.Level v [] 1]) b 1:=fun v=>(hP.by' (by omega)).app;have ed:idx 1 (some (.lst 1 (y.Data.map qK) false)) (some (.int .i64 (if decide (x.Value=0)=true then 1 else 0)))=some (.ept (.int .i64 (JZ x y)) 0):=by
   unfold JZ;by_cases e:x.Value=0
   ·simp only[e,decide_true,if_true,ne_eq,not_true,if_false];rw[Jx (by omega),show (1:Int).toNat=1 from rfl,ZA (y:=y) (i:=1) (by omega)];rfl
   ·simp only[e,decide_false,if_false,ne_eq,not_false_eq_true,if_true,bFt];rw[Jx (by omega),show (0:Int).toNat=0 from rfl,ZA (y:=y) (i:=0) (by omega)];rfl
  simp only[ed,go_sem];refine qZ (XD (n:=1) hw hN (by omega) (by omega) fun h2 n2 k2=> ?_);simp only[go_sem];refine qZ (QM (s:=1) (k:=0) n2 (b1 _) (zd (by omega)) ((QE hP).peerX (b1 _) (by rintro(q | q);exact hP.nx (by omega) q.1;omega) (.inr rfl)) fun h3 n3 k3=> ?_);simp only[go_sem];exact hK _ n3 (k2.toKM.trans k3.toKM)
 ·have e6:x.Kind≠6:=by simpa using hc
  have e11:y.Kind≠11:=fun q=>e6 (h11 q).1;clear hc;rw[if_neg e11]at hK;obtain⟨e9,x0,v0,v1⟩:=h10 e11;simp only[Jx v0,ZA (y:=y) (i:=x.Value.toNat) (by omega),oMs,go_sem];generalize y.Data.getD x.Value.toNat 0=v at hK|-;refine qZ (XD (n:=1) hw hN (by omega) (by omega) fun h2 n2 k2=> ?_);simp only[go_sem];refine qU rfl rfl ⟨_,rfl⟩ (by decide) ?_;simp only[go_sem];have hbl:=n2.bl;have ew:IntKind.i64.wrap ((x.Ports.length:Int)-1)=((x.Ports.length-1:Nat):Int):=by rw[qf (by omega) (by omega)];omega
  simp only[ew];refine Sem.loop (α:=Nat×Nat×List qD) (fun q=>q.1+1<=x.Ports.length/\NE w post base nid q.2.2 (zP y.Level N.length q.1 (qz y.Level v N))/\KM base h q.2.2/\q.2.2[q.2.1]?=some (.row 1 (JN (N.length+1) q.1) true)/\base<=q.2.1)
   (fun z=>(⟨[(0,.ptr nid 0 0),(1,.int .i64 (a:Nat)),(2,.int .i64 (b:Nat)),(9,.slice 1 z.2.1 0 z.1 false),(63,.int .i64 ((x.Ports.length-1:Nat):Int)),(64,.int .i64 ((z.1:Nat):Int))],[(7,encR y q'),(8,(Ja N.length z.1).enc)],z.2.2⟩:VSt)) (fun q=>x.Ports.length-q.1) (0,h2.length,h2++[.row 1 [] true]) (by kernel_rfl)
   ⟨by simp only;omega,n2.app _,k2.toKM.trans (KM.app hbl),by simp[JN],hbl⟩
   (Can.ph (WkN.same rfl (WkN.same rfl (WkN.same rfl (WkN.cons rfl (Wk.ph (by simp)) (WkN.same rfl (WkN.same rfl WkN.nil)))))) (WkN.same rfl (WkN.same rfl WkN.nil))) ?_
  rintro⟨i,f,g⟩ ⟨hi,hn,hk,hf,hfb⟩;simp only at hi hn hk hf hfb;simp only[go_sem];have hg:(zP y.Level N.length i (qz y.Level v N)).length=N.length+1+i:=Xj;apply qM<;>intro hc<;>simp only[hc,go_sem]
  ·have hlt:i+1<x.Ports.length:=by have:=odT hc;omega
   clear hc;refine qZ (XD (n:=3) hw hn (by omega) (by omega) fun g1 m1 j1=> ?_);simp only[go_sem];have f0:Has (zP y.Level N.length i (qz y.Level v N)++[qT 3 y.Level 0 [] 3]) (zP y.Level N.length i (qz y.Level v N)).length 0:=zd (by omega);refine qZ (XC (s:=0) (k:=zg i) m1 f0 Yu.app fun g2 m2 j2=> ?_);simp only[go_sem];refine qU rfl rfl ⟨_,rfl⟩ (by decide) ?_;simp only[go_sem];have hf2:=(j1.trans j2).r _ _ hf;obtain⟨r1,r2⟩:=JT (tmp:=.row 1 [.int .i64 ((zP y.Level N.length i (qz y.Level v N)).length:Nat)] true) hf2;refine zy r2 r1 qa5 (by omega) ?_;obtain⟨z1,z2,z3,z4⟩:=m2.app1 (v:=.int .i64 ((zP y.Level N.length i (qz y.Level v N)).length:Nat)) (tmp:=.row 1 [.int .i64 ((zP y.Level N.length i (qz y.Level v N)).length:Nat)] true) hw hf2 hfb;simp only[go_sem,qc (show i<4611686018427387904 by omega)];refine qd (i+1,g2.length+1,_) ⟨by simp only;omega,z1,hk.trans (((j1.trans j2).toKM).trans z2), ?_,z4⟩ (by simp only;omega) (Can.sub (by simp[go_sem]) ?_)
   ·rw[qa6,show N.length+1+i=(zP y.Level N.length i (qz y.Level v N)).length by omega];exact z3
   ·simp[go_sem];rw[hg,show N.length+1+i=N.length+(i+1) by omega];rfl
  ·have hlt:i=x.Ports.length-1:=by have:=odF hc;omega
   clear hc;subst hlt;refine Sem.loop (α:=Nat×List qD) (fun q=>q.1+1<=x.Ports.length/\NE w post base nid q.2 (j0 a N.length 1 q.1 (zP y.Level N.length (x.Ports.length-1) (qz y.Level v N)))/\KM base h q.2/\q.2[f]?=some (.row 1 (JN (N.length+1) (x.Ports.length-1)) true))
    (fun q=>(⟨[(0,.ptr nid 0 0),(1,.int .i64 (a:Nat)),(2,.int .i64 (b:Nat)),(84,.slice 1 f 0 (x.Ports.length-1) false),(85,.int .i64 (x.Ports.length-1:Nat)),(86,.int .i64 (q.1:Nat))],[(8,(Ja N.length (x.Ports.length-1)).enc)],q.2⟩:VSt)) (fun q=>x.Ports.length-q.1) (0,g) (by kernel_rfl)
    ⟨by simp only;omega,hn,hk,hf⟩ (Can.sub (by simp[go_sem]) (by simp[go_sem])) ?_
   clear hn hk hg hi hf;rintro⟨i,g⟩ ⟨hi,hn,hk,hf⟩;simp only at hi hn hk hf;simp only[go_sem];have wi:=qcC (lev:=y.Level) (v:=v) hP (i:=i) (n:=x.Ports.length-1) (nLr _) (by omega);apply qM<;>intro hc<;>simp only[hc,go_sem]
   ·have hlt:i+1<x.Ports.length:=by have:=odT hc;omega
    clear hc;have b1:Has (j0 a N.length 1 i (zP y.Level N.length (x.Ports.length-1) (qz y.Level v N))) a (i+1):=qcE (hP.ax (by omega));have b3:Has (j0 a N.length 1 i (zP y.Level N.length (x.Ports.length-1) (qz y.Level v N))) (N.length+(i+1)) 1:=(qAI (by omega) (by omega)).same Qo;simp only[X2 (show i<x.Ports.length-1 by omega),hf,qa4 (c:=N.length+1) (show i<x.Ports.length-1 by omega),go_sem];rw[show N.length+1+i=N.length+(i+1) by omega];simp only[qc (show i<4611686018427387904 by omega),go_sem];refine qZ (QM (s:=i+1) (k:=1) hn b1 b3 (wi.peerX b1 (by rintro(⟨(q | q | q),_⟩ | q);exact hP.nx (by omega) q.1;omega;omega;omega) (.inl ⟨.inr (.inl ⟨by omega,by omega,rfl⟩),by omega⟩)) fun g1 m1 j1=> ?_);simp only[go_sem,qc (show i<4611686018427387904 by omega)];refine qd (i+1,g1) ⟨by simp only;omega,m1,hk.trans j1.toKM,j1.r _ _ hf⟩ (by simp only;omega) (Can.sub (by simp[go_sem]) (by simp[go_sem]))
   ·have hlt:i=x.Ports.length-1:=by have:=odF hc;omega
    clear hc;subst hlt;rw[qaD hP (nLr _)]at hn;have ws:=Yv (lev:=y.Level) (v:=v) hP (i:=x.Ports.length-1) (by omega);have b1:Has (jE y.Level v N a (x.Ports.length-1)) b 1:=Xl (hP.by' (by omega));refine qZ (QM (s:=1) (k:=zg (x.Ports.length-1)) hn b1 WT (ws.peerX b1 (by rintro(q | q | q);exact hP.nx (by omega) q.1;exact hP.ne q.1.symm;omega) (.inr (.inr ⟨rfl,rfl⟩))) fun g1 m1 j1=> ?_);simp only[go_sem];exact hK _ m1 (hk.trans j1.toKM)
end
section
variable {w:Nat} {post:List AV} {base nid:Nat} {h:List qD} {N:Ags} {K:AV->List qD->Prop} {a b s c k:Nat} {x y:qA} {X:Nat->Nat->Prop} {t:qC}
theorem ql3{α:Type}{xs:List α}{i:Nat}{x:α}(h:xs[i]?=some x):xs.set i x=xs:=List.ext_getElem? fun j=>by
 by_cases e:j=i
 ·subst e;rw[gSs (qe h),h]
 ·rw[gSn (Ne.symm e)]
theorem qiC{id len i:Nat}(h:i<len):idx 5 (some (.slice 5 id 1 len false)) (some (.int .i64 (i:Int)))=some (.ptr id (i+1) 0):=by simp[idx,inI];omega
theorem ql9{lev d:Int}{z:qA}:jR (zD lev d z)=jR (lvA lev z):=by unfold zD lvA;split<;>simp[jR]
structure TP(T:Ags)(tid:Nat)(ts:List Nat)(base nid aid:Nat)(ps:List Nat)(j:Nat)(G:List qD):Prop where
 a:G[tid]?=some (.row 5 (zS T ts) true)
 l:ts.length=T.length
 p:∀(k:Nat)(x:qA)(q:Nat),j<=k->T[k]?=some x->ts[k]?=some q->G[q]?=some (.row 2 (x.Ports.map qG.enc) true)
 nd:ts.Nodup
 bq:∀q∈ts,base<=q
 tn:tid∉ts
 d1:tid≠nid/\tid≠aid/\tid∉ps
 d2:∀(k q:Nat),j<=k->ts[k]?=some q->q≠nid/\q≠aid/\q∉ps
theorem TP.next{T:Ags}{tid base nid aid aid':Nat}{ts ps:List Nat}{j q:Nat}{G H:List qD}(t:TP T tid ts base nid aid ps j G)(hq:ts[j]?=some q)(hl:G.length<=aid')(e:∀i,i<G.length->i≠q->i≠nid->i≠aid->H[i]?=G[i]?):TP T tid ts base nid aid' (ps++[q]) (j+1) H:=by
 have mq:=lMo hq;have ne:∀(k q':Nat),j+1<=k->ts[k]?=some q'->q'≠q:=fun k q' hk h e=>by
  subst e;have:=(List.getElem?_inj (qe hq) t.nd).1 (hq.trans h.symm);omega
 refine⟨?_,t.l,fun k x q' hk hx hq'=> ?_,t.nd,t.bq,t.tn,⟨t.d1.1, ?_, ?_⟩,fun k q' hk hq'=>⟨(t.d2 k q' (by omega) hq').1, ?_, ?_⟩⟩
 ·rw[e tid (qe t.a) (fun e=>t.tn (e▸mq)) t.d1.1 t.d1.2.1];exact t.a
 ·have hp:=t.p k x q' (by omega) hx hq';have:=t.d2 k q' (by omega) hq';rw[e q' (qe hp) (ne k q' hk hq') this.1 this.2.1];exact hp
 ·have:=qe t.a;omega
 ·intro h;rcases wV.1 h with h | h
  ·exact t.d1.2.2 h
  ·simp only[lMg]at h;exact t.tn (h▸mq)
 ·have hk':k<T.length:=by rw[<-t.l];exact qe hq'
  have hp:=t.p k _ q' (by omega) (gEg hk') hq';have:=qe hp;omega
 ·intro h;rcases wV.1 h with h | h
  ·exact(t.d2 k q' (by omega) hq').2.2 h
  ·simp only[lMg]at h;exact ne k q' hk hq' h
theorem qlZ{bid tid n q len:Nat}{el:List AV}{v0 v1 v2 v3:AV}{ps:List qG}(ho:h[bid]?=some (.row 1 [.agg [.slice 5 tid 0 n false]] true))(ht:h[tid]?=some (.row 5 el true))(h0:0<n)(he:el[0]?=some (.agg [v0,v1,v2,v3,.slice 2 q 0 len false]))
  (hq:h[q]?=some (.row 2 (ps.map qG.enc) true)) (hl:len=ps.length) {p:qG} (hp:ps[0]?=some p) (hK:K p.enc h):SCall Gm 555 [.ptr bid 0 0,(pt 0 0).enc] h K:=by
 have hs:=qe hp;refine sI Ze ?_;simp only[Ze,qQ,go_sem];refine qW rfl ?_;have hr:(ps.map qG.enc)[0]?=some p.enc:=by rw[gMp,hp];rfl
 simp only[go_sem,ho,pt,zH h0,ht,he,Jb (show 0<len by omega),hq,hr];refine qU rfl rfl ⟨_,rfl⟩ (by decide) ?_;simp only[go_sem];exact hK
theorem qlY(hw:w≠1){bk:List qC}{pp:AV}(hP:Pr N a b x y X)(hN:NE w (.lst 1 (bk.map qC.enc) false::pp::[]) base nid h N)(hv:0<=x.Value/\x.Value<bk.length)(et:zY bk x.Value=t)(ht:qq t=true)(hy:0<y.Ports.length)(hl:N.length<=10000)(hlev:0<=x.Level/\x.Level<=8)
  (hs:t.Agents.all (wu x.Level)=true)
  (hK:∀h',NE w (.lst 1 (bk.map qC.enc) false::pp::[]) base nid h' (Zo N t x.Level b)->KM base h h'->K (.tup []) h'):SCall Gm 1314 [.ptr nid 0 0,.int .i64 (a:Nat),.int .i64 (b:Nat)] h K:=by
 have la:=hP.la;have lb:=hP.lb;have hbl:=hN.bl;refine sI U4 ?_;simp only[U4,qQ,go_sem];obtain⟨aid,ps,q,hNA,o1,o2,o3⟩:=hN.rd hP.x;simp only[o1,zH la,o2,o3,qBV hv.1 hv.2,et,go_sem];have hsz:=wZ ht;refine zW (qcH t x.Level (by omega) hlev (fun z hz=>J6 (wF (wY ht) z hz))) ?_;rw[show J9 t x.Level=(⟨t.Agents.map (lvA x.Level)⟩,true) by unfold J9;rw[hs];rfl];have hT:(t.Agents.map (lvA x.Level)).length=t.Agents.length:=by simp
 have hT0:∀(k:Nat)(z:qA),t.Agents[k]?=some z->(t.Agents.map (lvA x.Level))[k]?=some (lvA x.Level z):=fun k z hz=>by rw[gMp,hz];rfl
 generalize hTT:t.Agents.map (lvA x.Level)=T at hT hT0|-;have eL:(lay (JS (⟨T⟩,true)) h.length)=(.tup [.agg [.slice 5 h.length 0 T.length false],.bool true],.row 5 (qN (T.map qA.enc) (h.length+1)).1 true::(qN (T.map qA.enc) (h.length+1)).2):=by simp[JS,lay,qN,qC.layE]
 rw[eL];simp only[go_sem];obtain⟨H0,eH⟩:∃H0,H0=h++qD.row 5 (qN (T.map qA.enc) (h.length+1)).1 true::(qN (T.map qA.enc) (h.length+1)).2:=⟨_,rfl⟩;rw[<-eH];have f1:H0[h.length]?=some (.row 5 (qN (T.map qA.enc) (h.length+1)).1 true):=by rw[eH,gAr (nLr _),nSs];rfl
 have f2:∀i o,(qN (T.map qA.enc) (h.length+1)).2[i]?=some o->H0[h.length+1+i]?=some o:=fun i o ho=>by rw[eH,gAr (by omega),show h.length+1+i-h.length=i+1 by omega,List.getElem?_cons_succ];exact ho
 have f3:H0.length=h.length+1+2*T.length:=by rw[eH];simp[Zu];omega
 have f4:∀j,j<h.length->H0[j]?=h[j]?:=fun j hj=>by rw[eH,gAl hj]
 clear eH eL;refine q8 (e':=.agg [.slice 5 h.length 0 T.length false]) rfl gCl rfl rfl ?_;simp only[lSz];obtain⟨H1,eH⟩:∃H1,H1=(H0++[qD.row 1 [.agg [.nils]] true]).set H0.length (.row 1 [.agg [.slice 5 h.length 0 T.length false]] true):=⟨_,rfl⟩;rw[<-eH];have g0:H1[H0.length]?=some (.row 1 [.agg [.slice 5 h.length 0 T.length false]] true):=by rw[eH,gSs (by simp)]
 have g1:∀j,j<H0.length->H1[j]?=H0[j]?:=fun j hj=>by rw[eH,gSn (by omega),gAl hj]
 have g2:H1.length=H0.length+1:=by rw[eH];simp
 clear eH;have hNB:NA w (.lst 1 (bk.map qC.enc) false::pp::[]) base nid aid ps H1 N:=hNA.heap (by rw[g1 _ (by have:=hNA.lt;omega),f4 _ hNA.lt]) (by rw[g1 _ (by have:=hNA.lta;omega),f4 _ hNA.lta]) fun q hq=>by rw[g1 _ (by have:=hNA.ltp hq;omega),f4 _ (hNA.ltp hq)]
 have kH:KM base h H1:=⟨⟨by omega,fun j hj=>by rw[g1 _ (by omega),f4 _ (by omega)]⟩,fun j es q=>by have:=qe q;rw[g1 _ (by omega),f4 _ this];exact q⟩;have f1':=(g1 _ (show h.length<H0.length by omega)).trans f1;have f2':∀i o,(qN (T.map qA.enc) (h.length+1)).2[i]?=some o->H1[h.length+1+i]?=some o:=fun i o ho=>by rw[g1 _ (by have:=qe ho;rw[Zu]at this;omega)];exact f2 i o ho
 clear f1 f2 g1 f4;simp only[hNB.o,go_sem];have eb:IntKind.i64.wrap ((N.length:Int)-1)=((N.length-1:Nat):Int):=by rw[qf (by omega) (by omega)];omega
 have eb2:(N.length:Int)-1=((N.length-1:Nat):Int):=by omega
 simp only[eb];have hpos:=Z2 ht;obtain⟨c,r,e1,e2,e3,e4⟩:=qBK (N:=N) (b:=b) (lev:=x.Level) ht (by omega);have hz0:t.Agents[0]?=some t.Agents[0]:=gEg hpos;obtain⟨z0,hz1,hz2⟩:=jY.1 e2;have hz3:=hT0 _ _ hz1;have hz4:(lvA x.Level z0).Ports=z0.Ports:=by unfold lvA;split<;>rfl
 refine qZ (qlZ (p:=pt (c+1) r) g0 f1' (by omega) (Zv hz3) (f2' _ _ (VX hz3).2) rfl (by rw[hz4];exact hz2) ?_);simp only[go_sem];refine qU (k:=2) (by rfl) (by simp only[go_sem]) ⟨_,rfl⟩ (by decide) ?_;simp only[g0,go_sem];refine qkU (v:=.slice 5 h.length 1 (T.length-1) false) (by simp[val,bnd,go_sem,show (1:Int)<=(T.length:Int) by omega]) ?_;simp only[go_sem];obtain⟨H2,c1,n2,k2,l2,s2⟩:=NA.ofLay (w:=1) (post:=[]) (base:=h.length) (nid:=H0.length) (aid:=h.length) (h:=H1) (N:=T) g0 f1' f2' (by omega) (.inr (by omega)) (by omega) (nLr _);have hNC:NA w (.lst 1 (bk.map qC.enc) false::pp::[]) base nid aid ps H2 N:=hNB.heap (k2.k _ hNA.lt) (k2.k _ hNA.lta) fun q hq=>k2.k _ (hNA.ltp hq);have kC:KM base h H2:=⟨kH.toKeep.trans (k2.up hbl),fun j es q=>by have:=qe q;rw[k2.k _ this];exact kH.m _ _ q⟩;have hTP:TP T h.length (psF (h.length+1) T) base nid aid ps 1 H2:=⟨n2.a,n2.l,fun k z q _ hz hq=>n2.p k z q hz hq,n2.nd,fun q hq=>by have:=n2.b3 q hq;omega,n2.n3,
  ⟨by have:=hNA.lt;omega,by have:=hNA.lta;omega,fun q=>by have:=hNA.ltp q;omega⟩,fun k q _ hq=>by
   have b3:=n2.b3 q (lMo hq);exact⟨by have:=hNA.lt;omega,by have:=hNA.lta;omega,fun q=>by have:=hNA.ltp q;omega⟩⟩
 generalize psF (h.length+1) T=ts at hTP n2;refine Sem.loop (α:=Nat×List qD) (fun q=>q.1+1<=T.length/\(∃aid ps,NA w (.lst 1 (bk.map qC.enc) false::pp::[]) base nid aid ps q.2 (jT N t x.Level q.1)/\TP T h.length ts base nid aid ps (q.1+1) q.2)/\KM base h q.2)
  (fun q=>(⟨[(0,.ptr nid 0 0),(2,.int .i64 (b:Nat)),(8,.int .i64 ((N.length-1:Nat):Int)),(52,.slice 5 h.length 1 (T.length-1) false),(53,.int .i64 ((T.length-1:Nat):Int)),(54,.int .i64 (q.1:Nat))],[(9,(pt (c+1) r).enc)],q.2⟩:VSt)) (fun q=>T.length-q.1) (0,H2) (by kernel_rfl)
  ⟨by simp only;omega,⟨aid,ps,by unfold jT;simpa using hNC,hTP⟩,kC⟩ ((c1 _ _ _).trans (Can.sub (by simp[go_sem]) (by simp[go_sem]))) ?_
 clear hNC kC hTP n2 k2 l2 s2 c1 hNB kH f1' f2' g0 g2 hNA o1 o2 o3;rintro⟨i,g⟩ ⟨hi,⟨aid,ps,hn,hT1⟩,hk⟩;simp only at hi hn hk hT1;simp only[go_sem];apply qM<;>intro hc<;>simp only[hc,go_sem]
 ·have hlt:i+1<T.length:=by have:=odT hc;omega
  clear hc;have hlt':i+1<t.Agents.length:=by omega
  have es:=qa3 (N:=N) (lev:=x.Level) hlt';have hzt:=gEg hlt';have hpp:∀(s:Nat)(p:qG),t.Agents[i+1].Ports[s]?=some p->0<=p.Agent/\p.Agent<=600:=fun s p hp=>by
   obtain⟨b',t',e,e',_⟩:=Qp ht (i+1) s p (jY.2 ⟨_,hzt,hp⟩) (fun q=>q);have:=w6 e';subst e;simp only[pt];omega
  have hp4:=W1 (wF (wY ht) _ (gMm hlt'));generalize t.Agents[i+1]=zt at hzt es hpp hp4;have hz:=hT0 _ _ hzt;have hzp:(lvA x.Level zt).Ports=zt.Ports:=by unfold lvA;split<;>rfl
  have hcz:=ql9 (lev:=x.Level) (d:=(N.length:Int)-1) (z:=zt);have hsp:(zD x.Level ((N.length:Int)-1) zt).Ports=(lvA x.Level zt).Ports.map (shP ((N.length:Int)-1)):=by rw[hzp];rfl
  rw[<-hzp]at hpp hp4;generalize lvA x.Level zt=z at hz hzp hpp hcz hsp hp4;obtain⟨q,hq⟩:∃q,ts[i+1]?=some q:=⟨_,gEg (by rw[hT1.l];exact hlt)⟩;have hR:=hT1.p _ _ _ (nLr _) hz hq;have hE:=qBG hz hq;simp only[qiC (show i<T.length-1 by omega),hT1.a,hE,go_sem];refine qU (k:=5) (by rfl) (by simp only[go_sem]) ⟨_,rfl⟩ (by decide) ?_;simp only[go_sem];refine Sem.loop (fun j:Nat=>j<=z.Ports.length/\True) (fun j=>(⟨[(0,.ptr nid 0 0),(2,.int .i64 (b:Nat)),(8,.int .i64 ((N.length-1:Nat):Int)),(52,.slice 5 h.length 1 (T.length-1) false),(53,.int .i64 ((T.length-1:Nat):Int)),(54,.int .i64 (i:Nat)),(60,.int .i64 (z.Ports.length:Nat)),(61,.int .i64 (j:Nat))],
   [(9,(pt (c+1) r).enc),(11,encR z q)],g.set q (.row 2 ((jr (shP ((N.length:Int)-1)) z.Ports j).map qG.enc) true)⟩:VSt)) (fun j=>z.Ports.length-j) 0 (by kernel_rfl) ⟨nZl _,trivial⟩
   (by rw[YG,ql3 hR];exact Can.sub (by simp[go_sem]) (by simp[go_sem])) ?_
  rintro j ⟨hj,_⟩;simp only[go_sem];apply qM<;>intro hc<;>simp only[hc,go_sem]
  ·have hlj:j<z.Ports.length:=by have:=odT hc;omega
   clear hc;have hqq:=hpp j _ (gEg hlj);have hm:((jr (shP ((N.length:Int)-1)) z.Ports j).map qG.enc)[j]?=some (z.Ports[j].enc):=by rw[gMp,YH hlj];rfl
   have hG:(g.set q (.row 2 ((jr (shP ((N.length:Int)-1)) z.Ports j).map qG.enc) true))[q]?=some (.row 2 ((jr (shP ((N.length:Int)-1)) z.Ports j).map qG.enc) true):=gSs (qe hR);simp only[Jb hlj,hG,hm,go_sem];refine q8 rfl hG hm YT ?_;have ep:(⟨IntKind.i64.wrap (z.Ports[j].Agent+((N.length-1:Nat):Int)),z.Ports[j].Slot⟩:qG)=shP ((N.length:Int)-1) z.Ports[j]:=by
    unfold shP;rw[eb2,qf (by omega) (by omega)]
   rw[ep,<-List.map_set,YJ hlj,List.set_set];simp only[go_sem];simp only[qc (show j<4611686018427387904 by omega)];refine qd (j+1) ⟨by omega, ?_⟩ (by omega) (Can.sub (by simp[go_sem]) (by simp[go_sem]));trivial
  ·have hlj:j=z.Ports.length:=by have:=odF hc;omega
   clear hc;subst hlj;rw[YI,<-hsp];have dq:=hT1.d2 _ _ (nLr _) hq;have m1:NA w (.lst 1 (bk.map qC.enc) false::pp::[]) base nid aid ps (g.set q (.row 2 ((zD x.Level ((N.length:Int)-1) zt).Ports.map qG.enc) true)) (jT N t x.Level i):=hn.heap (gSn dq.1) (gSn dq.2.1) fun r hr=>gSn fun e=>dq.2.2 (by rw[e];exact hr);have hbq:=hT1.bq q (lMo hq);have kg:KM base h (g.set q (.row 2 ((zD x.Level ((N.length:Int)-1) zt).Ports.map qG.enc) true)):=hk.trans (KM.set hbq hR);have hG:(g.set q (.row 2 ((zD x.Level ((N.length:Int)-1) zt).Ports.map qG.enc) true))[q]?=some (.row 2 ((zD x.Level ((N.length:Int)-1) zt).Ports.map qG.enc) true):=gSs (qe hR);have eg:∀j,j≠q->(g.set q (.row 2 ((zD x.Level ((N.length:Int)-1) zt).Ports.map qG.enc) true))[j]?=g[j]?:=fun j hj=>gSn (Ne.symm hj);have lg:(g.set q (.row 2 ((zD x.Level ((N.length:Int)-1) zt).Ports.map qG.enc) true)).length=g.length:=lLs;generalize g.set q (.row 2 ((zD x.Level ((N.length:Int)-1) zt).Ports.map qG.enc) true)=G at m1 kg hG eg lg|-;have k0:=m1.lt;have k1:=m1.lta;simp only[m1.o,go_sem];have l5:=Qd m1.l;have lS:=qBL (N:=N) (lev:=x.Level) (show i+1<=t.Agents.length by omega);have et2:∀{o:qD},(G++[o])[aid]?=some (.row 5 (zS (jT N t x.Level i) ps) true):=fun{o}=>by rw[gAl k1];exact m1.a
   refine zy (len:=(jT N t x.Level i).length) (x:=encR z q) (w:=5) gCl et2 l5 (by omega) ?_;simp only[lAp,nZa,go_sem];refine q8 rfl (by rw[gAl (by simp;omega),gSn (Ne.symm m1.n1),gAl (by omega)];exact m1.o) rfl YU ?_;simp only[lSz];obtain⟨H,eH⟩:∃H,H=((G++[qD.row 5 [encR z q] true]).set aid .dead++[qD.row 5 (zS (jT N t x.Level i) ps++[encR z q]) true]).set nid (.row w [.agg [.slice 5 (G.length+1) 0 ((jT N t x.Level i).length+1) false,.lst 1 (bk.map qC.enc) false,pp]] true):=⟨_,rfl⟩;rw[<-eH];have ee:encR z q=encR (zD x.Level ((N.length:Int)-1) zt) q:=(VF hcz).symm;have x1:H[nid]?=some (.row w [.agg [.slice 5 (G.length+1) 0 ((jT N t x.Level i).length+1) false,.lst 1 (bk.map qC.enc) false,pp]] true):=by rw[eH,gSs (by simp;omega)]
   have x2:H[G.length+1]?=some (.row 5 (zS (jT N t x.Level i) ps++[encR z q]) true):=by rw[eH,gSn (by omega),gAr (by simp)];simp
   have x3:∀j,j<G.length+1->j≠nid->j≠aid->H[j]?=(G++[qD.row 5 [encR z q] true])[j]?:=fun j hj n1 n2=>by rw[eH,gSn (Ne.symm n1),gAl (by simp;omega),gSn (Ne.symm n2)]
   have kH:KM base G H:=by
    rw[eH];refine(((KM.app m1.bl).trans (KM.set m1.b2 et2)).trans (KM.app (by have:=m1.bl;simp;omega))).trans (KM.set m1.b1 (rw':=true) (w:=w) (el:=[.agg [.slice 5 aid 0 (jT N t x.Level i).length false,.lst 1 (bk.map qC.enc) false,pp]]) ?_);rw[gAl (by simp;omega),gSn (Ne.symm m1.n1),gAl (by omega)];exact m1.o
   have mm:=(m1.app [qD.row 5 [encR z q] true]).push (x:=zD x.Level ((N.length:Int)-1) zt) (q:=q) (h2:=H) (by rw[gAl (qe hG)];exact hG) hbq dq.1 dq.2.1 dq.2.2 (by simpa using x1) (by rw[<-ee];simpa using x2) (by simpa using x3);rw[<-es]at mm;have tt:=hT1.next (H:=H) (aid':=G.length+1) hq (by omega) fun j h1 h2 h3 h4=>by rw[x3 j (by omega) h3 h4,gAl (by omega)];exact eg j h2
   simp only[go_sem,qc (show i<4611686018427387904 by omega)];refine qd (i+1,H) ⟨by simp only;omega,⟨G.length+1,_,by simpa using mm,tt⟩,kg.trans kH⟩ (by simp only;omega) (Can.sub (by simp[go_sem]) (by simp[go_sem]))
 ·have hlt:i+1=t.Agents.length:=by have:=odF hc;omega
  clear hc;have w0:=qa2 (N:=N) (lev:=x.Level) hlt;rw[w0]at hn;have hc8:c+1<t.Agents.length:=by
   obtain⟨b',t',e,e',_⟩:=Qp ht 0 0 _ e2 (fun q=>q);have:=w6 e';have:=(JA.1 e).1;omega
  have ec:IntKind.i64.wrap (((c+1:Nat):Int)+((N.length-1:Nat):Int))=((N.length+c:Nat):Int):=by rw[qf (by omega) (by omega)];omega
  have b0:Has (jw N t x.Level) b 0:=by unfold jw;exact(hP.by' hy).app
  simp only[pt,qG.enc,ec,go_sem];refine qZ (XC (s:=0) (k:=r) (a:=b) (c:=N.length+c) ⟨aid,ps,hn⟩ b0 e3 fun g1 m1 j1=> ?_);simp only[go_sem];exact hK _ (by rw[e4,qB1 (by omega) e3 b0];exact m1) (hk.trans j1.toKM)
end
def wG(ks:List Nat):List (AV×AV):=ks.map fun k=>(kI k,.bool true)
section
variable {w:Nat} {post:List AV} {bk:List qC} {es:List (AV×AV)} {mid base nid lid:Nat} {h:List qD} {N:Ags} {K:AV->List qD->Prop} {a b s c k:Nat} {x y:qA} {ks rem:List Nat}
theorem RW.put{e2:List (AV×AV)}(hR:RW bk es mid base nid h N):RW bk e2 mid base nid (h.set mid (.map e2)) N:=by
 have e:∀{j:Nat}{o:qD},h[j]?=some o->(∀q,o≠.map q)->(h.set mid (.map e2))[j]?=h[j]?:=fun{j o} q ne=>gSn fun e=>ne es (by rw[<-e,hR.m]at q;exact(Option.some.inj q).symm);obtain⟨aid,ps,hN⟩:=hR.n;refine⟨⟨aid,ps,hN.heap (e hN.o (by simp)) (e hN.a (by simp)) fun q hq=> ?_⟩,gSs (qe hR.m)⟩;obtain⟨k,hk⟩:=List.getElem?_of_mem hq;have hl:=qe hk;rw[hN.l]at hl;exact e (hN.p k _ q (gEg hl) hk) (by simp)
theorem WF(hR:RW bk (wG ks) mid base nid h N)(hm:base<=mid)(hl:h[lid]?=some (.row 1 (rem.map kI) true))(nd:(ks++rem).Nodup)(hn:rem.length<=4)
  (hK:∀h',RW bk (wG (ks++rem)) mid base nid h' N->Keep base h h'->K (.tup []) h'):SCall Gm 1315 [.ptr nid 0 0,.slice 1 lid 0 rem.length false] h K:=by
 refine sI U5 ?_;simp only[U5,qQ,go_sem];refine Sem.loop (α:=Nat×List qD) (fun q=>q.1<=rem.length/\RW bk (wG (ks++rem.take q.1)) mid base nid q.2 N/\q.2[lid]?=some (.row 1 (rem.map kI) true)/\Keep base h q.2)
  (fun q=>(⟨[(0,.ptr nid 0 0),(6,.slice 1 lid 0 rem.length false),(7,.int .i64 (rem.length:Nat)),(8,.int .i64 (q.1:Nat))],[],q.2⟩:VSt)) (fun q=>rem.length-q.1) (0,h) (by kernel_rfl)
  ⟨nZl _,by simpa using hR,hl,Keep.refl⟩ (Can.sub (by simp[go_sem]) (by simp[go_sem])) ?_
 rintro⟨i,g⟩ ⟨hi,hg,hr,hk⟩;simp only at hi hg hr hk;simp only[go_sem];apply qM<;>intro hc<;>simp only[hc,go_sem]
 ·have hlt:i<rem.length:=by have:=odT hc;omega
  clear hc;have hx:(rem.map kI)[i]?=some (.int .i64 ((rem[i]:Nat):Int)):=by rw[gMp,gEg hlt];rfl
  obtain⟨aid,ps,hN⟩:=hg.n;simp only[X2 hlt,hr,hx,hN.o,go_sem];have et:rem.take (i+1)=rem.take i++[rem[i]]:=lTs hlt;have hf:jG (kI rem[i]) (wG (ks++rem.take i)) 0=some none:=VN (v:=fun _=>.bool true) fun q=>by
   have nd2:(ks++rem.take (i+1)).Nodup:=nd.sublist (List.Sublist.append (List.Sublist.refl _) (List.take_sublist _ _));rw[et,<-lAa,List.nodup_append]at nd2;exact nd2.2.2 _ q _ (lMg.2 rfl) rfl
  refine qcF hg.m hf ?_;have e2:wG (ks++rem.take i)++[(.int .i64 ((rem[i]:Nat):Int),.bool true)]=wG (ks++rem.take (i+1)):=by rw[et,<-lAa];unfold wG;rw[lMa (l₂:=[rem[i]])];rfl
  rw[e2];simp only[go_sem,qc (show i<4611686018427387904 by omega)];refine qd (i+1,_) ⟨hlt,hg.put, ?_,hk.trans (Keep.set hm)⟩ (by simp only;omega) (Can.sub (by simp[go_sem]) (by simp[go_sem]));rw[gSn (fun e=>by rw[<-e,hg.m]at hr;cases hr)];exact hr
 ·have hlt:i=rem.length:=by have:=odF hc;omega
  clear hc;subst hlt;rw[lTl]at hg;exact hK _ hg hk
end
section
variable {e:Env} {w i:Nat} {el:List AV} {v:AV} {x:Ao} {r:List (Nat×Ao)}
@[go_sem] theorem qn4{a b:AV}(h:v.cells.length=w):fil e w [a,b] 0 (some v) r=z6 e w [v,b] r:=by
 show (if v.cells.length=w/\0<2 then _ else _)=_;rw[if_pos ⟨h,by omega⟩];rfl
@[go_sem] theorem qn5{a b:AV}(h:v.cells.length=w):fil e w [a,b] 1 (some v) r=z6 e w [a,v] r:=by
 show (if v.cells.length=w/\1<2 then _ else _)=_;rw[if_pos ⟨h,by omega⟩];rfl
@[go_sem] theorem rep2{v:AV}:List.replicate 2 v=[v,v]:=nr rfl
end
section
variable {w:Nat} {post:List AV} {bk:List qC} {es:List (AV×AV)} {mid base nid lid A B:Nat} {h:List qD} {N:Ags} {K:AV->List qD->Prop} {a b s c k:Nat} {x y u v:qA} {ks rem:List Nat}
def jl(c:Int)(a b:Nat):List Nat:=if c=7 then [a]else [a,b]
theorem RW.app(hR:RW bk es mid base nid h N)(ex:List qD):RW bk es mid base nid (h++ex) N:=⟨hR.n.app ex,by rw[gAl (qe hR.m)];exact hR.m⟩
theorem qh1(h:(qx bk x y).2=0):(qx bk x y).1=(zw (qS x y) (jX bk x y (qS x y))).1:=by
 unfold qx at h|-;split
 ·rename_i q;rw[if_pos q]at h;simp at h
 ·rename_i q;rw[if_neg q]at h;split
  ·rename_i q;rw[if_pos q]at h;simp at h
  ·rename_i q;rw[if_neg q]at h;split
   ·rename_i q;rw[if_pos q]at h;simp at h
   ·rfl
theorem s983{h0:List qD}(hc:∀b s m,Can b ⟨s,m,h0⟩ ⟨s,m,h⟩)(hR:RW bk (wG []) mid base nid h N)(hm:base<=mid)(ok:qq ⟨N⟩=true)(hbk:j7 bk=true)(hA:Act N a b x y)(a0:a≠0)(b0:b≠0)(hf:zX x.Kind x.Level y.Kind y.Level≠2)
  (hu:N[A]?=some u) (hv:N[B]?=some v) (ho:(zM u v=true/\a=B/\b=A/\x=v/\y=u)\/(zM u v=false/\a=A/\b=B/\x=u/\y=v))
  (hK1:(qx bk x y).2≠0->K (.int .i64 (qx bk x y).2) h) (hK2:(qx bk x y).2=0->600<(N.length:Int)+(qx bk x y).1->K (.int .i64 4) h)
  (hK3:zN bk N a b x y->∀h',RW bk (wG (jl (qS x y) a b)) mid base nid h' (qm bk N a b x y)->Keep base h h'->K (.int .i64 0) h'):SCall Gm 983 [.ptr nid 0 0,(⟨(A:Int),(B:Int)⟩:qj).enc] h0 K:=by
 have la:=hA.pr.la;have lb:=hA.pr.lb;have xok:qk x=true:=J5 ok hA.x;have yok:qk y=true:=J5 ok hA.y;have nsz:=wZ ok;simp only at nsz;have kx:x.Kind≠1:=fun e=>a0 ((QL ok a la).1 (by simp only[(gSi.1 hA.x).2];exact e));have ky:y.Kind≠1:=fun e=>b0 ((QL ok b lb).1 (by simp only[(gSi.1 hA.y).2];exact e));have h7:qS x y=7->0<=x.Value:=fun c=>by
  obtain⟨e,_,_⟩:=qAY xok yok kx ky hf (by omega);have k:=(Qu (ka:=x.Kind) (la:=x.Level) (kb:=y.Kind) (lb:=y.Level)).2.2.2.2.2.2.1 (e.trans c);have hv:=qCJ xok k.1;unfold jv at hv;rw[zK]at hv;exact hv.1
 refine SCall.runC [] [] (gk _ F983) (by kernel_rfl) rfl (hc _ _ _) ?_;clear hc;simp only[F983,qQ,go_sem];refine qW rfl ?_;simp only[go_sem];refine qZ (qlR hR ok hbk hu hv ho h7 ?_);unfold Jh;by_cases hg:(qx bk x y).2≠0
 ·rw[if_neg hg];simp only[go_sem];simp only[hg,decide_false,go_sem];exact hK1 hg
 replace hg:(qx bk x y).2=0:=by omega
 rw[if_pos hg];simp only[go_sem];refine qZ (qlS hR (by omega) ?_);simp only[go_sem];have px:=W1 xok;have py:=W1 yok;refine qZ (qlT hR hA.x hA.y px py (fun c7=> ?_) ?_)
 ·have v1:x.Value<bk.length:=by
   rcases Classical.em ((bk.length:Int)<=x.Value)with q | q
   ·have:=qbI (bk:=bk) c7 q;omega
   ·omega
  have:=wZ (qDC hbk (h7 c7) v1);exact⟨h7 c7,v1,this.2⟩
 rw[<-qh1 hg];have gb:=qbG (bk:=bk) (x:=x) (y:=y);have ew:IntKind.i64.wrap (((N.length:Nat):Int)+(qx bk x y).1)=(N.length:Int)+(qx bk x y).1:=qf (by omega) (by omega);simp only[go_sem,ew];apply qM<;>intro hc<;>simp only[hc,go_sem]
 ·exact hK2 hg (by simpa using hc)
 have hfull:(N.length:Int)+(qx bk x y).1<=600:=by simpa using hc
 clear hc;have G:zN bk N a b x y:=⟨ok,hbk,hA,a0,b0,hf,hg,hfull⟩;have hK:=hK3 G;clear hK1 hK2 hK3;have P:=hA.pr;obtain⟨e,n0,n9⟩:=G.rule;obtain⟨r1,r2,r3,r4,r5,r6,r7,r8⟩:=Qu (ka:=x.Kind) (la:=x.Level) (kb:=y.Kind) (lb:=y.Level);have xz:=Qr xok;have yz:=Qr yok;have c17:=G.cls;apply qM<;>intro hc<;>simp only[hc,go_sem]
 ·have c1:qS x y=1:=by simpa using hc
  have p1:x.Ports.length=3:=wJ xok (by have:=r1;have:=r2;omega);have p2:y.Ports.length=3:=wJ yok (by have:=r1;have:=r2;omega);have w1:=X3 P p1 p2;refine qZ (UA (s:=1) (k:=1) hR.n (P.ax (by omega)) (P.by' (by omega)) (P.w.peer (P.ax (by omega)) (P.nx (by omega))) (P.w.peer (P.by' (by omega)) (P.nx (by omega))) fun g n k=> ?_);simp only[go_sem];have a2:Has (jn N (pt a 1) (pt b 1)) a 2:=(P.ax (by omega)).same (JJ _ _ _);have b2:Has (jn N (pt a 1) (pt b 1)) b 2:=(P.by' (by omega)).same (JJ _ _ _);refine qZ (UA (s:=2) (k:=2) n a2 b2 (w1.peer a2 (by unfold X0;omega)) (w1.peer b2 (by unfold X0;omega)) fun g2 n2 k2=> ?_);simp only[go_sem];refine qZ (WF (lid:=g2.length) (ks:=[]) (rem:=[a,b]) (RW.app (hR.km n2 (k.toKM.trans k2.toKM)) [.row 1 [.int .i64 (a:Nat),.int .i64 (b:Nat)] true]) hm (by rw[gCl];rfl) (by simpa using hA.ne) (by simp) fun h' m' j'=> ?_);simp only[go_sem];refine hK _ ?_ ((k.toKM.trans k2.toKM).toKeep.trans ((Keep.app (hR.km n2 (k.toKM.trans k2.toKM)).n.bl).trans j'));have e7:jl (qS x y) a b=[a,b]:=by unfold jl;rw[if_neg (by omega)]
  have ea:qm bk N a b x y=VV N a b:=by unfold qm;rw[if_pos (by omega)]
  rw[e7,ea];exact m'
 have n1:qS x y≠1:=by simpa using hc
 clear hc;apply qM<;>intro hc<;>simp only[hc,go_sem]
 ·have c2:qS x y=2:=by simpa using hc
  have p1:x.Ports.length=3:=wJ xok (by have:=r1;have:=r2;omega);have p2:y.Ports.length=3:=wJ yok (by have:=r1;have:=r2;omega);have w1:=X3 P p1 p2;refine qZ (UA (s:=1) (k:=1) hR.n (P.ax (by omega)) (P.by' (by omega)) (P.w.peer (P.ax (by omega)) (P.nx (by omega))) (P.w.peer (P.by' (by omega)) (P.nx (by omega))) fun g n k=> ?_);simp only[go_sem];have a2:Has (jn N (pt a 1) (pt b 1)) a 2:=(P.ax (by omega)).same (JJ _ _ _);have b2:Has (jn N (pt a 1) (pt b 1)) b 2:=(P.by' (by omega)).same (JJ _ _ _);refine qZ (UA (s:=2) (k:=2) n a2 b2 (w1.peer a2 (by unfold X0;omega)) (w1.peer b2 (by unfold X0;omega)) fun g2 n2 k2=> ?_);simp only[go_sem];refine qZ (WF (lid:=g2.length) (ks:=[]) (rem:=[a,b]) (RW.app (hR.km n2 (k.toKM.trans k2.toKM)) [.row 1 [.int .i64 (a:Nat),.int .i64 (b:Nat)] true]) hm (by rw[gCl];rfl) (by simpa using hA.ne) (by simp) fun h' m' j'=> ?_);simp only[go_sem];refine hK _ ?_ ((k.toKM.trans k2.toKM).toKeep.trans ((Keep.app (hR.km n2 (k.toKM.trans k2.toKM)).n.bl).trans j'));have e7:jl (qS x y) a b=[a,b]:=by unfold jl;rw[if_neg (by omega)]
  have ea:qm bk N a b x y=VV N a b:=by unfold qm;rw[if_pos (by omega)]
  rw[e7,ea];exact m'
 have n2:qS x y≠2:=by simpa using hc
 clear hc;apply qM<;>intro hc<;>simp only[hc,go_sem]
 ·have c3:qS x y=3:=by simpa using hc
  refine qZ (qlU (by decide) P hR.n (wJ xok (.inr (.inr (.inl (r3 (e.trans c3)))))) (wK yok).2 (by omega) (by omega) fun g n k=> ?_);simp only[go_sem];refine qZ (WF (lid:=g.length) (ks:=[]) (rem:=[a,b]) (RW.app (hR.km n (k)) [.row 1 [.int .i64 (a:Nat),.int .i64 (b:Nat)] true]) hm (by rw[gCl];rfl) (by simpa using hA.ne) (by simp) fun h' m' j'=> ?_);simp only[go_sem];refine hK _ ?_ ((k).toKeep.trans ((Keep.app (hR.km n (k)).n.bl).trans j'));have e7:jl (qS x y) a b=[a,b]:=by unfold jl;rw[if_neg (by omega)]
  have ea:qm bk N a b x y=Zn N a b x y:=by unfold qm;rw[if_neg (by omega),if_pos c3]
  rw[e7,ea];exact m'
 have n3:qS x y≠3:=by simpa using hc
 clear hc;apply qM<;>intro hc<;>simp only[hc,go_sem]
 ·have c4:qS x y=4:=by simpa using hc
  have y0:=(wK yok).2;refine Sem.loop (α:=Nat×List qD) (fun q=>q.1+1<=y.Ports.length/\NE 3 [.lst 1 (bk.map qC.enc) false,.map mid] base nid q.2 (j9 b q.1 N)/\KM base h q.2)
   (fun q=>(⟨[(0,.ptr nid 0 0),(6,.int .i64 (a:Nat)),(7,.int .i64 (b:Nat)),(9,.int .i64 ((q.1+1:Nat):Int))],[],q.2⟩:VSt)) (fun q=>y.Ports.length-q.1) (0,h) (by kernel_rfl)
   ⟨by simp only;omega,hR.n,KM.refl⟩ (Can.sub (by simp[go_sem]) (by simp[go_sem])) ?_
  rintro⟨i,g⟩ ⟨hi,hn,hk⟩;simp only at hi hn hk;have hg2:(j9 b i N).length=N.length+i:=qBH;have yz':=yz;unfold qA.sz at yz';obtain⟨y',hy',cy⟩:=(Wd (b:=b) (N:=N) (i:=i)).at (a:=b) (x:=y) (by rw[gAl lb];exact hA.y);obtain⟨aid,ps,q,_,o1,o2,o3⟩:=hn.rd hy';rw[VF cy]at o3;simp only[o1,zH (show b<(j9 b i N).length by omega),o2,o3,go_sem];apply qM<;>intro hc<;>simp only[hc,go_sem]
  ·have hlt:i+1<y.Ports.length:=by have:=odT hc;omega
   clear hc;refine qZ (XD (n:=1) (by decide) hn (by omega) (by omega) fun g1 m1 j1=> ?_);simp only[go_sem];have b1:Has (j9 b i N++[qT 5 0 0 [] 1]) b (i+1):=(qBI (P.by' (by omega))).app;refine qZ (QM (s:=i+1) (k:=0) m1 b1 (zd (by omega)) (((VH P (i:=i) (by omega)).add (qT 5 0 0 [] 1)).peerX b1 (by unfold X0;omega) (.inr rfl)) fun g2 m2 j2=> ?_);simp only[go_sem,qc (show i+1<4611686018427387904 by omega)];refine qd (i+1,g2) ⟨by simp only;omega,m2,hk.trans (j1.toKM.trans j2.toKM)⟩ (by simp only;omega) (Can.sub (by simp[go_sem]) (by simp[go_sem]))
  ·have hlt:i=y.Ports.length-1:=by have:=odF hc;omega
   clear hc;subst hlt;refine qZ (WF (lid:=g.length) (ks:=[]) (rem:=[a,b]) (RW.app (hR.km hn (hk)) [.row 1 [.int .i64 (a:Nat),.int .i64 (b:Nat)] true]) hm (by rw[gCl];rfl) (by simpa using hA.ne) (by simp) fun h' m' j'=> ?_);simp only[go_sem];refine hK _ ?_ ((hk).toKeep.trans ((Keep.app (hR.km hn (hk)).n.bl).trans j'));have e7:jl (qS x y) a b=[a,b]:=by unfold jl;rw[if_neg (by omega)]
   have ea:qm bk N a b x y=j9 b (y.Ports.length-1) N:=by unfold qm;rw[if_neg (by omega),if_neg n3,if_pos c4]
   rw[e7,ea];exact m'
 have n4:qS x y≠4:=by simpa using hc
 clear hc;apply qM<;>intro hc<;>simp only[hc,go_sem]
 ·have c5:qS x y=5:=by simpa using hc
  have k5:=r5 (e.trans c5);refine qZ (qlW (by decide) P hR.n (fun k8=>⟨Z4 yok (.inl k8), ?_⟩) (fun k8=>⟨by omega,wJ yok (.inr (.inr (.inr (by omega))))⟩) (by omega) (by omega) fun g n k=> ?_)
  ·have:=Qq yok;unfold zu at this;rw[k8]at this;simp at this;omega
  simp only[go_sem];refine qZ (WF (lid:=g.length) (ks:=[]) (rem:=[a,b]) (RW.app (hR.km n (k)) [.row 1 [.int .i64 (a:Nat),.int .i64 (b:Nat)] true]) hm (by rw[gCl];rfl) (by simpa using hA.ne) (by simp) fun h' m' j'=> ?_);simp only[go_sem];refine hK _ ?_ ((k).toKeep.trans ((Keep.app (hR.km n (k)).n.bl).trans j'));have e7:jl (qS x y) a b=[a,b]:=by unfold jl;rw[if_neg (by omega)]
  have ea:qm bk N a b x y=if y.Kind=8 then W2 (opI y.Value (y.Data.getD 0 0) x.Value) N b else W3 N b x y:=by unfold qm;rw[if_neg (by omega),if_neg n3,if_neg n4,if_pos c5]
  rw[e7,ea];exact m'
 have n5:qS x y≠5:=by simpa using hc
 clear hc;apply qM<;>intro hc<;>simp only[hc,go_sem]
 ·have c6:qS x y=6:=by simpa using hc
  have k6:=r6 (e.trans c6);refine qZ (qlX (by decide) P hR.n (Z4 yok (by omega)) (fun k11=>⟨by omega,(qCK yok k11).1⟩) (fun k11=> ?_) (by omega) (by omega) (by omega) fun g n k=> ?_)
  ·have q:x.Kind=9/\y.Kind=10:=by omega
   have v9:=qCH xok q.1;rw[zK]at v9;exact⟨q.1,(wK xok).2,v9.1,by omega⟩
  simp only[go_sem];refine qZ (WF (lid:=g.length) (ks:=[]) (rem:=[a,b]) (RW.app (hR.km n (k)) [.row 1 [.int .i64 (a:Nat),.int .i64 (b:Nat)] true]) hm (by rw[gCl];rfl) (by simpa using hA.ne) (by simp) fun h' m' j'=> ?_);simp only[go_sem];refine hK _ ?_ ((k).toKeep.trans ((Keep.app (hR.km n (k)).n.bl).trans j'));have e7:jl (qS x y) a b=[a,b]:=by unfold jl;rw[if_neg (by omega)]
  have ea:qm bk N a b x y=if y.Kind=11 then W7 y.Level (JZ x y) N b else Zj y.Level (y.Data.getD x.Value.toNat 0) N a b (x.Ports.length-1):=by unfold qm;rw[if_neg (by omega),if_neg n3,if_neg n4,if_neg n5,if_pos c6]
  rw[e7,ea];exact m'
 have n6:qS x y≠6:=by simpa using hc
 clear hc;apply qM<;>intro hc<;>simp only[hc,go_sem]
 ·have c7:qS x y=7:=by simpa using hc
  obtain⟨k12,v0,v1,t1,t2,t3⟩:=G.t7 c7;refine qZ (qlY (by decide) hA.pe hR.n ⟨v0,v1⟩ rfl t1 (wK yok).2 (by omega) (J6 xok) ((qd8 t1 (J6 xok)).2 (by omega)) fun g n k=> ?_);simp only[go_sem];refine qZ (WF (lid:=g.length) (ks:=[]) (rem:=[a]) (RW.app (hR.km n k) [.row 1 [.int .i64 (a:Nat)] true]) hm (by rw[gCl];rfl) (by simp) (by simp) fun h' m' j'=> ?_);simp only[go_sem];refine hK _ ?_ (k.toKeep.trans ((Keep.app (hR.km n k).n.bl).trans j'));have e7:jl (qS x y) a b=[a]:=by unfold jl;rw[if_pos c7]
  have ea:qm bk N a b x y=Zo N (zY bk x.Value) x.Level b:=by unfold qm;rw[if_neg (by omega),if_neg n3,if_neg n4,if_neg n5,if_neg n6]
  rw[e7,ea];exact m'
 ·have:qS x y≠7:=by simpa using hc
  omega
end
section
variable {w:Nat} {post:List AV} {base nid lid:Nat} {h:List qD} {N:Ags} {K:AV->List qD->Prop} {R:Nat->Bool}
def QI(R:Nat->Bool)(ks:List Nat):List (AV×AV):=ks.map fun k=>(kI k,.int .i64 (qy R k:Nat))
theorem qj7{n:Nat}:(ql R n).Nodup:=List.Nodup.sublist List.filter_sublist List.nodup_range
theorem qB3{z:AV}{ks:List Nat}{v:Nat->AV}{n:Nat}(h:n∈ks):lku z false (kI n) (ks.map fun k=>(kI k,v k))=some (v n):=by
 obtain⟨j,e⟩:=qbC (v:=v) (i:=0) h;unfold lku;rw[e];rfl
theorem qb3{z:AV}{ks:List Nat}{v:Nat->AV}{n:Nat}(h:n∉ks):lku z false (kI n) (ks.map fun k=>(kI k,v k))=some z:=by
 unfold lku;rw[VN (v:=v) (i:=0) h];rfl
theorem Keep.split{h h':List qD}(k:Keep h.length h h'):h'=h++h'.drop h.length:=List.ext_getElem? fun i=>by
 rcases Nat.lt_or_ge i h.length with q | q
 ·rw[k.k i q,gAl q]
 ·rw[gAr q,gDr];congr 1;omega
theorem qkI{i:Nat}(hi:i<(ql R N.length).length):(zo N R).take (i+1)=(zo N R).take i++[jA R (N.getD ((ql R N.length)[i]) JP)]:=by
 unfold zo;rw[lTs (by simpa using hi),List.getElem_map]
theorem s702(hN:NE w post base nid h N)(hl:h[lid]?=some (.row 1 ((ql R N.length).map kI) true))(hp:∀k x,N[k]?=some x->R k=false->∀(s:Nat)(q:qG),x.Ports[s]?=some q->0<=q.Agent/\q.Agent<N.length/\R q.Agent.toNat=false)(hz:∀x∈N,x.sz<=1000)(hln:N.length<=10000)
  (hK:∀ex,K (qC.enc ⟨zo N R⟩) (h++ex)):SCall Gm 702 [.ptr nid 0 0,.slice 1 lid 0 (ql R N.length).length false] h K:=by
 have lo:(ql R N.length).length<=N.length:=Q8;refine SCall.tree [] [] (gk _ kW) (by kernel_rfl) rfl (qC.tr (x:=⟨zo N R⟩)) ?_ hK;simp only[kW,qQ,go_sem];refine Sem.loop (fun i:Nat=>i<=(ql R N.length).length/\True) (fun i=>(⟨[(0,.ptr nid 0 0),(1,.slice 1 lid 0 (ql R N.length).length false),(5,.map h.length),(14,.slice 1 lid 0 (ql R N.length).length false),(15,.int .i64 ((ql R N.length).length:Nat)),(16,.int .i64 (i:Nat))],[(4,.agg [.nils])],h++[.map (QI R ((ql R N.length).take i))]⟩:VSt)) (fun i=>(ql R N.length).length-i) 0 (by kernel_rfl)
  ⟨nZl _,trivial⟩ (Can.sub (by simp[go_sem]) (by simp[go_sem])) ?_
 rintro i ⟨hi,_⟩;have hl1:∀{o:List qD},(h++o)[lid]?=some (.row 1 ((ql R N.length).map kI) true):=fun{o}=>by rw[gAl (qe hl)];exact hl
 simp only[go_sem];apply qM<;>intro hc<;>simp only[hc,go_sem]
 ·have hlt:i<(ql R N.length).length:=by have:=odT hc;omega
  clear hc;obtain⟨o1,o2,o3⟩:=qCM (gEg hlt);have hx:((ql R N.length).map kI)[i]?=some (.int .i64 (((ql R N.length)[i]:Nat):Int)):=by rw[gMp,gEg hlt];rfl
  have et:(ql R N.length).take (i+1)=(ql R N.length).take i++[(ql R N.length)[i]]:=lTs hlt;simp only[X2 hlt,hl1,hx,go_sem];have hf:jG (kI (ql R N.length)[i]) (QI R ((ql R N.length).take i)) 0=some none:=VN (v:=fun k=>.int .i64 (qy R k:Nat)) fun q=>by
   have nd2:((ql R N.length).take (i+1)).Nodup:=qj7.sublist (List.take_sublist _ _);rw[et,List.nodup_append]at nd2;exact nd2.2.2 _ q _ (lMg.2 rfl) rfl
  refine qcF gCl hf ?_;have e2:QI R ((ql R N.length).take i)++[(.int .i64 (((ql R N.length)[i]:Nat):Int),.int .i64 (i:Nat))]=QI R ((ql R N.length).take (i+1)):=by rw[et];unfold QI;rw[lMa (l₂:=[(ql R N.length)[i]]),List.map_singleton,o3];rfl
  rw[e2,lSr _ _ (nLr _),nSs,lSz];simp only[go_sem];simp only[qc (show i<4611686018427387904 by omega)];refine qd (i+1) ⟨by omega, ?_⟩ (by omega) (Can.sub (by simp[go_sem]) (by simp[go_sem]));trivial
 ·have hlt:i=(ql R N.length).length:=by have:=odF hc;omega
  clear hc;subst hlt;rw[lTl];obtain⟨h1,e1⟩:∃h1,h1=h++[qD.map (QI R (ql R N.length))]:=⟨_,rfl⟩;rw[<-e1];have hm:h1[h.length]?=some (.map (QI R (ql R N.length))):=by rw[e1];exact gCl
  have hl2:h1[lid]?=some (.row 1 ((ql R N.length).map kI) true):=by rw[e1];exact hl1
  have hN1:NE w post base nid h1 N:=by rw[e1];exact hN.app _
  have k1:Keep h.length h h1:=by rw[e1];exact Keep.app (nLr _)
  clear e1 hl1;have bl:=hN1.bl;refine Sem.loop (α:=Nat×List qD×Nat) (fun q=>q.1<=(ql R N.length).length/\Keep h1.length h1 q.2.1/\h1.length<=q.2.2/\q.2.1[q.2.2]?=some (.row 5 (((zo N R).take q.1).map qA.enc) true))
   (fun q=>(⟨[(0,.ptr nid 0 0),(5,.map h.length),(25,.slice 1 lid 0 (ql R N.length).length false),(26,.int .i64 ((ql R N.length).length:Nat)),(27,.int .i64 (q.1:Nat))],[(4,.agg [.nils]),(8,.agg [.slice 5 q.2.2 0 q.1 false])],q.2.1⟩:VSt)) (fun q=>(ql R N.length).length-q.1) (0,h1++[.row 5 [] true],h1.length) (by kernel_rfl)
   ⟨nZl _,Keep.app (nLr _),nLr _,by simp⟩
   (Can.ph (WkN.same rfl (WkN.same rfl (WkN.same rfl (WkN.same rfl (WkN.same rfl WkN.nil))))) (WkN.same rfl (WkN.cons rfl (Wk.agg (.cons (Wk.ph (by simp)) .nil)) WkN.nil))) ?_
  rintro⟨i,f,oid⟩ ⟨hi,jk,hoid,ho⟩;simp only at hi jk hoid ho;have fl:=jk.l;have fN:=hN1.keep jk;have fm:f[h.length]?=some (.map (QI R (ql R N.length))):=(jk.k _ (qe hm)).trans hm;have fL:f[lid]?=some (.row 1 ((ql R N.length).map kI) true):=(jk.k _ (qe hl2)).trans hl2;have lpk:((zo N R).take i).length=i:=by rw[lLt,YR];exact nMl hi
  simp only[go_sem];apply qM<;>intro hc<;>simp only[hc,go_sem]
  ·have hlt:i<(ql R N.length).length:=by have:=odT hc;omega
   clear hc;obtain⟨o1,o2,o3⟩:=qCM (gEg hlt);have hkx:((ql R N.length).map kI)[i]?=some (.int .i64 (((ql R N.length)[i]:Nat):Int)):=by rw[gMp,gEg hlt];rfl
   have pks:=qkI (N:=N) hlt;generalize (ql R N.length)[i]=k at o1 o2 o3 hkx pks;have hx:=gEg o1;have hxd:N.getD k JP=N[k]:=by rw[lGd,hx];rfl
   have hzx:=hz _ (gMm o1);rw[hxd]at pks;generalize N[k]=x at hx hxd hzx pks;have hpx:=hp k x hx o2;obtain⟨aid,ps,hNA⟩:=fN;obtain⟨q,hq,ha,hr⟩:=hNA.at hx;have hzx':=hzx;unfold qA.sz at hzx';simp only[X2 hlt,fL,hkx,hNA.o,zH o1,hNA.a,ha,go_sem];refine Js (Cvs.cons (qBF hr) Cvs.nil) (qcG x (by omega)) ?_;simp only[qA.layE,AV.rows,Qm,Qk,lNa,lAn,lCa,WC,nZa];simp only[go_sem];refine qU (k:=5) (by rfl) (by simp only[go_sem]) ⟨_,rfl⟩ (by decide) ?_;simp only[go_sem];have fm2:∀{o:List qD},(f++o)[h.length]?=some (.map (QI R (ql R N.length))):=fun{o}=>by rw[gAl (qe fm)];exact fm
   refine Sem.loop (fun j:Nat=>j<=x.Ports.length/\True) (fun j=>(⟨[(0,.ptr nid 0 0),(5,.map h.length),(25,.slice 1 lid 0 (ql R N.length).length false),(26,.int .i64 ((ql R N.length).length:Nat)),(27,.int .i64 (i:Nat)),(41,.int .i64 (x.Ports.length:Nat)),(42,.int .i64 (j:Nat))],
    [(4,.agg [.nils]),(8,.agg [.slice 5 oid 0 i false]),(11,.agg [.int .i64 x.Kind,.int .i64 x.Level,.int .i64 x.Value,.slice 1 f.length 0 x.Data.length false,.slice 2 (f.length+1) 0 x.Ports.length false])],f++[.row 1 (x.Data.map qK) true,.row 2 ((jr (ZY R) x.Ports j).map qG.enc) true]⟩:VSt)) (fun j=>x.Ports.length-j) 0 (by kernel_rfl) ⟨nZl _,trivial⟩
    (by rw[YG];exact Can.sub (by simp[go_sem]) (by simp[go_sem])) ?_
   rintro j ⟨hj,_⟩;simp only[go_sem];apply qM<;>intro hc<;>simp only[hc,go_sem]
   ·have hlj:j<x.Ports.length:=by have:=odT hc;omega
    clear hc;have hq:=hpx j _ (gEg hlj);have hm:((jr (ZY R) x.Ports j).map qG.enc)[j]?=some (x.Ports[j].enc):=by rw[gMp,YH hlj];rfl
    have em:x.Ports[j].Agent.toNat∈ql R N.length:=qCN.2 ⟨by omega,hq.2.2⟩;have eu:lku (.int .i64 0) false (.int .i64 x.Ports[j].Agent) (QI R (ql R N.length))=some (.int .i64 (qy R x.Ports[j].Agent.toNat:Nat)):=by
     have:=qB3 (z:=.int .i64 0) (v:=fun k=>.int .i64 (qy R k:Nat)) em;unfold kI at this;rw[show ((x.Ports[j].Agent.toNat:Nat):Int)=x.Ports[j].Agent by omega]at this;exact this
    simp only[Jb hlj,QS,hm,X9 fm2,eu,go_sem];refine q8 rfl QS hm YT ?_;have ep:(⟨(qy R x.Ports[j].Agent.toNat:Nat),x.Ports[j].Slot⟩:qG)=ZY R x.Ports[j]:=rfl;rw[ep,<-List.map_set,YJ hlj,UF];simp only[go_sem];have:x.Ports.length<=1000:=by omega
    simp only[qc (show j<4611686018427387904 by omega)];refine qd (j+1) ⟨by omega, ?_⟩ (by omega) (Can.sub (by simp[go_sem]) (by simp[go_sem]));trivial
   ·have hlj:j=x.Ports.length:=by have:=odF hc;omega
    clear hc;subst hlj;rw[YI];have lo2:=qe ho;refine zy (len:=i) (x:=.agg [.int .i64 x.Kind,.int .i64 x.Level,.int .i64 x.Value,.slice 1 f.length 0 x.Data.length false,.slice 2 (f.length+1) 0 x.Ports.length false]) (w:=5) (by simp) (by rw[gAl (by simp;omega),gAl lo2];exact ho) (by simpa using lpk) (by omega) ?_;have eP:x.Ports.map (ZY R)=(jA R x).Ports:=rfl;rw[eP];have hX:(AV.agg [.int .i64 x.Kind,.int .i64 x.Level,.int .i64 x.Value,.slice 1 f.length 0 x.Data.length false,.slice 2 (f.length+1) 0 x.Ports.length false])=.agg [.int .i64 (jA R x).Kind,.int .i64 (jA R x).Level,.int .i64 (jA R x).Value,.slice 1 f.length 0 (jA R x).Data.length false,.slice 2 (f.length+1) 0 (jA R x).Ports.length false]:=by simp[jA]
    obtain⟨G',c1,m1,q1,_⟩:=qcZ (x:=jA R x) (base:=h1.length) ho hoid hX _ rfl;have em:((zo N R).take i).map qA.enc++[(jA R x).enc]=((zo N R).take (i+1)).map qA.enc:=by rw[pks];simp
    rw[em]at m1;simp only[go_sem];simp only[lAp,nZa,qc (show i<4611686018427387904 by omega),go_sem];exact qd (i+1,G',f.length+3) ⟨hlt,jk.trans q1,by simp only;omega,m1⟩ (by simp only;omega) ((c1 _ _ _).trans (Can.sub (by simp[go_sem]) (by simp[go_sem])))
  ·have hlt:i=(ql R N.length).length:=by have:=odF hc;omega
   clear hc;subst hlt;have ep:(zo N R).take (ql R N.length).length=zo N R:=List.take_of_length_le (by rw[YR];exact nLr _);rw[ep]at ho lpk;have k2:=k1.trans (jk.up k1.l);refine⟨f.drop h.length,k2.split, ?_⟩;have e2:(w8 h.length++f.drop h.length)[oid]?=f[oid]?:=by
    have:=k1.l;rw[gAr (by simp[w8];omega),gDr];simp only[w8,lLr];congr 1;omega
   simp only[go_sem,qC.enc];exact .agg rfl (zE (Cv.row (e2.trans ho) (by simpa using lpk) (qV qA.isSh.tree _) (by decide)) fun p hp=>by simp at hp)
end
end Go.Ab
