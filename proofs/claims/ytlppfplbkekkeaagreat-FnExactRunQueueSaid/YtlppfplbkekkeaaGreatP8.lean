/- Texts Net34 .. Net50: the abstract machine, its laws and contracts of functions: lemmas for the statement. No condition. -/
import Derived.Test.YtlppfplbkekkeaaGreatP7
set_option linter.unusedSimpArgs false
set_option linter.unusedVariables false
namespace Go.Ab
open Go
set_option maxRecDepth 10000
set_option maxHeartbeats 2000000
section
variable {w:Nat} {post:List AV} {base:Nat->Prop} {nid:Nat} {h:List qC} {N:Ags} {K:AV->List qC->Prop} {a b s c k:Nat} {x y:qB} {X:Nat->Nat->Prop}
theorem qo5(hw:w≠1)(hP:Pr N a b x y X)(hN:NE w post base nid h N)(hy:y.Ports.length=2)(h11:y.Kind=11->x.Kind=6/\y.Data.length=2)(h10:y.Kind≠11->x.Kind=9/\0<x.Ports.length/\0<=x.Value/\x.Value<y.Data.length)(hz:y.sz<=1000)(hzx:x.sz<=1000)(hl:N.length<=10000)
  (hK:∀h',NE w post base nid h' (if y.Kind=11 then Xv y.Level (J3 x y) N b else ZA y.Level (y.Data.getD x.Value.toNat 0) N a b (x.Ports.length-1))->KM base h h'->K (.tup []) h'):SCall Gm 1313 [.ptr nid 0 0,iI (a:Nat),iI (b:Nat)] h K:=by
 have la:=hP.la;have lb:=hP.lb;have hz':=hz;unfold qB.sz at hz';have hzx':=hzx;unfold qB.sz at hzx';refine sI kS ?_;simp only[kS,qM,go_sem];obtain⟨aid,ps,q,hNA,o1,o2,o3⟩:=hN.rd hP.x;have hk4:b<ps.length:=by rw[hNA.l];exact hP.lb
 obtain⟨q',hq',o4⟩:∃q',ps[b]?=some q'/\(zC N ps)[b]?=some (encR y q'):=⟨ps[b],gEg hk4,Qk hP.y (gEg hk4)⟩;simp only[o1,zH la,zH lb,o2,o3,o4,go_sem];refine lsA ?_;simp only[go_sem];refine lsA ?_;simp only[go_sem];apply qI<;>intro hc<;>simp only[hc,go_sem]
 ·have e6:x.Kind=6:=by simpa using hc
  have e11:y.Kind=11:=by rcases Classical.em (y.Kind=11)with q | q;exact q;have:=(h10 q).1;omega
  clear hc;rw[if_pos e11]at hK;have d2:=(h11 e11).2;refine qL Vp ?_;simp only[go_sem];have b1:∀v,Has (N++[qS 12 y.Level v [] 1]) b 1:=λv=>(hP.by' (by omega)).app;have ed:idx 1 (some (lQ y.Data)) (some (iI (if decide (x.Value=0)=true then 1 else 0)))=some (.ept (iI (J3 x y)) 0):=by
   unfold J3;by_cases e:x.Value=0
   ·simp only[e,decide_true,if_true,ne_eq,not_true,if_false];rw[Qn (by omega),show (1:Int).toNat=1 from rfl,Zi (y:=y) (i:=1) (by omega)];rfl
   ·simp only[e,decide_false,if_false,ne_eq,not_false_eq_true,if_true,bFt];rw[Qn (by omega),show (0:Int).toNat=0 from rfl,Zi (y:=y) (i:=0) (by omega)];rfl
  simp only[ed,go_sem];refine qU (X1 (n:=1) hw hN (by omega) (by omega) λh2 n2 k2=>?_);simp only[go_sem];refine qU (Q0 (s:=1) (k:=0) n2 (b1 _) (zd (by omega)) ((QI hP).peerX (b1 _) (by rintro(q | q);exact hP.nx (by omega) q.1;omega) (.inr rfl)) λh3 n3 k3=>?_);simp only[go_sem];exact hK _ n3 (k2.toKM.trans k3.toKM)
 ·have e6:x.Kind≠6:=by simpa using hc
  have e11:y.Kind≠11:=λq=>e6 (h11 q).1;clear hc;rw[if_neg e11]at hK;obtain⟨e9,x0,v0,v1⟩:=h10 e11;simp only[Qn v0,Zi (y:=y) (i:=x.Value.toNat) (by omega),oMs,go_sem];generalize y.Data.getD x.Value.toNat 0=v at hK|-;refine qU (X1 (n:=1) hw hN (by omega) (by omega) λh2 n2 k2=>?_);simp only[go_sem];refine lsA ?_;simp only[Qc (show 0<x.Ports.length by omega),go_sem];have hbl:=n2.bl;have ew:IntKind.i64.wrap ((x.Ports.length:Int)-1)=((x.Ports.length-1:Nat):Int):=by rw[wsA];omega
  simp only[ew];refine Sem.loop (α:=Nat×Nat×List qC) (λq=>q.1+1<=x.Ports.length/\NE w post base nid q.2.2 (zR y.Level N.length q.1 (zD y.Level v N))/\KM base h q.2.2/\q.2.2[q.2.1]?=some (.row 1 (Jo (N.length+1) q.1) true)/\¬base q.2.1)
   (λz=>(⟨[(0,.ptr nid 0 0),(1,iI (a:Nat)),(2,iI (b:Nat)),(9,sQ 1 z.2.1 z.1),(63,iI ((x.Ports.length-1:Nat):Int)),(64,iI ((z.1:Nat):Int))],[(7,encR y q'),(8,(J6 N.length z.1).enc)],z.2.2⟩:VSt)) (λq=>x.Ports.length-q.1) (0,h2.length,h2++[.row 1 [] true]) (by kernel_rfl)
   ⟨by simp only;omega,n2.app _,k2.toKM.trans (KM.app hbl),by simp[Jo],λq=>by have:=hbl _ q;simp only at this;omega⟩
   (Can.ph (WkN.same rfl (WkN.same rfl (WkN.same rfl (WkN.cons rfl (Wk.ph (by simp)) (WkN.same rfl (WkN.same rfl WkN.nil)))))) (WkN.same rfl (WkN.same rfl WkN.nil))) ?_
  rintro⟨i,f,g⟩ ⟨hi,hn,hk,hf,hfb⟩;simp only at hi hn hk hf hfb;simp only[go_sem];have hg:(zR y.Level N.length i (zD y.Level v N)).length=N.length+1+i:=YN;apply qI<;>intro hc<;>simp only[hc,go_sem]
  ·have hlt:i+1<x.Ports.length:=by have:=odT hc;omega
   clear hc;refine qU (X1 (n:=3) hw hn (by omega) (by omega) λg1 m1 j1=>?_);simp only[go_sem];have f0:Has (zR y.Level N.length i (zD y.Level v N)++[qS 3 y.Level 0 [] 3]) (zR y.Level N.length i (zD y.Level v N)).length 0:=zd (by omega);refine qU (Xz (s:=0) (k:=zU i) m1 f0 Vg.app λg2 m2 j2=>?_);simp only[go_sem];refine lsA ?_;simp only[go_sem];have hf2:=(j1.trans j2).r _ _ hf;obtain⟨r1,r2⟩:=Qb (tmp:=.row 1 [iI ((zR y.Level N.length i (zD y.Level v N)).length:Nat)] true) hf2;refine jO r2 r1 qcW (by omega) ?_;obtain⟨z1,z2,z3,z4⟩:=m2.app1 (v:=iI ((zR y.Level N.length i (zD y.Level v N)).length:Nat)) (tmp:=.row 1 [iI ((zR y.Level N.length i (zD y.Level v N)).length:Nat)] true) hw hf2 hfb;simp only[go_sem,wuA (n:=i)];refine qb (i+1,g2.length+1,_) ⟨by simp only;omega,z1,hk.trans (((j1.trans j2).toKM).trans z2), ?_,z4⟩ (by simp only;omega) (Can.sub (by simp[go_sem]) ?_)
   ·rw[qcX,show N.length+1+i=(zR y.Level N.length i (zD y.Level v N)).length by omega];exact z3
   ·simp[go_sem];rw[hg,show N.length+1+i=N.length+(i+1) by omega];rfl
  ·have hlt:i=x.Ports.length-1:=by have:=odF hc;omega
   clear hc;subst hlt;refine Sem.loop (α:=Nat×List qC) (λq=>q.1+1<=x.Ports.length/\NE w post base nid q.2 (jz a N.length 1 q.1 (zR y.Level N.length (x.Ports.length-1) (zD y.Level v N)))/\KM base h q.2/\q.2[f]?=some (.row 1 (Jo (N.length+1) (x.Ports.length-1)) true))
    (λq=>(⟨[(0,.ptr nid 0 0),(1,iI (a:Nat)),(2,iI (b:Nat)),(84,sQ 1 f (x.Ports.length-1)),(85,iI (x.Ports.length-1:Nat)),(86,iI (q.1:Nat))],[(8,(J6 N.length (x.Ports.length-1)).enc)],q.2⟩:VSt)) (λq=>x.Ports.length-q.1) (0,g) (by kernel_rfl)
    ⟨by simp only;omega,hn,hk,hf⟩ csA ?_
   clear hn hk hg hi hf;rintro⟨i,g⟩ ⟨hi,hn,hk,hf⟩;simp only at hi hn hk hf;simp only[go_sem];have wi:=qd8 (lev:=y.Level) (v:=v) hP (i:=i) (n:=x.Ports.length-1) (nLr _) (by omega);apply qI<;>intro hc<;>simp only[hc,go_sem]
   ·have hlt:i+1<x.Ports.length:=by have:=odT hc;omega
    clear hc;have b1:Has (jz a N.length 1 i (zR y.Level N.length (x.Ports.length-1) (zD y.Level v N))) a (i+1):=qeA (hP.ax (by omega));have b3:Has (jz a N.length 1 i (zR y.Level N.length (x.Ports.length-1) (zD y.Level v N))) (N.length+(i+1)) 1:=(qBD (by omega) (by omega)).same Qt;simp only[J8 (show i<x.Ports.length-1 by omega),hf,qcV (c:=N.length+1) (show i<x.Ports.length-1 by omega),go_sem];rw[show N.length+1+i=N.length+(i+1) by omega];simp only[wuA (n:=i),go_sem];refine qU (Q0 (s:=i+1) (k:=1) hn b1 b3 (wi.peerX b1 (by rintro(⟨(q | q | q),_⟩ | q);exact hP.nx (by omega) q.1;omega;omega;omega) (.inl ⟨.inr (.inl ⟨by omega,by omega,rfl⟩),by omega⟩)) λg1 m1 j1=>?_);simp only[go_sem,wuA (n:=i)];refine qb (i+1,g1) ⟨by simp only;omega,m1,hk.trans j1.toKM,j1.r _ _ hf⟩ (by simp only;omega) csA
   ·have hlt:i=x.Ports.length-1:=by have:=odF hc;omega
    clear hc;subst hlt;rw[qb1 hP (nLr _)]at hn;have ws:=XI (lev:=y.Level) (v:=v) hP (i:=x.Ports.length-1) (by omega);have b1:Has (zf y.Level v N a (x.Ports.length-1)) b 1:=WQ (hP.by' (by omega));refine qU (Q0 (s:=1) (k:=zU (x.Ports.length-1)) hn b1 WP (ws.peerX b1 (by rintro(q | q | q);exact hP.nx (by omega) q.1;exact hP.ne q.1.symm;omega) (.inr (.inr ⟨rfl,rfl⟩))) λg1 m1 j1=>?_);simp only[go_sem];exact hK _ m1 (hk.trans j1.toKM)
end
theorem qlM(h:AH):h.kill []=h:=AH.ext' (λ_=>rfl) (λ_=>rfl)
theorem Fresh.lk0{Γ:Nat->Option AFn}{g:Nat}{x y t:AV}{j:Nat}{sh:Option Nat}(hx:x.tree=true)(hp:x.part j sh=some y)(hy:0<y.cells.length)(h:Fresh Γ g [.ept y 0] t):Fresh Γ g [.ept x j] t:=by
 unfold Fresh at h|-;obtain⟨t1,t2,h⟩:=h;refine⟨by simp only[AV.trees,AV.tree,Bool.and_true];exact hx,t2,λhr ar har=>?_⟩;simp only[RelVs]at har;obtain⟨r,bs',rfl,hr1,rfl⟩:=har;obtain⟨r',c1,c2⟩:=qz.subV (hr:=hr) (K:=[]) hp hy hr1;obtain⟨k,w,hr',ρ',h1,h2,h3,h4⟩:=h (hr.kill []) [r'] (by simp only[RelVs];exact⟨r',[],rfl,c2,rfl⟩);refine⟨k,w,hr',ρ',.frzA [] (λid hi=>by cases hi) (as':=[r']) (by simp) (λp hp=>?_) h1,h2,h3,by rw[qlM]at h4;exact h4⟩;simp only[List.zip_cons_cons,List.zip_nil_right,List.mem_cons,List.mem_nil_iff,or_false]at hp;subst hp;exact c1
def psF:Nat->Ags->List Nat
 | _,[]=>[]
 | m,_::xs=>(m+1)::psF (m+2) xs
def dsF:Nat->Ags->List Nat
 | _,[]=>[]
 | m,_::xs=>m::dsF (m+2) xs
theorem U5:∀{N:Ags}{m:Nat},(psF m N).length=N.length
 |[],_=>rfl
 | _::xs,m=>by simp[psF,U5 (N:=xs) (m:=m+2)]
theorem qDR:∀{N:Ags}{m k:Nat},k<N.length->(psF m N)[k]?=some (m+2*k+1)
 | x::xs,m,0,_=>rfl
 | x::xs,m,k+1,h=>by
  simp only[psF,List.getElem?_cons_succ];rw[qDR (by simpa using h)];congr 1;omega
theorem Y3{N:Ags}{m q:Nat}(h:q∈psF m N):∃k,k<N.length/\q=m+2*k+1:=by
 obtain⟨k,hk,e⟩:=List.getElem_of_mem h;rw[U5]at hk;have:=qDR (m:=m) hk;rw[gEg (by rw[U5];exact hk),e]at this;exact⟨k,hk,Option.some.inj this⟩
theorem qfD:∀{N:Ags}{m:Nat},(psF m N).Nodup
 |[],_=>by simp[psF]
 | _::xs,m=>by
  rw[psF,List.nodup_cons];exact⟨λq=>by obtain⟨k,_,e⟩:=Y3 q;omega,qfD⟩
theorem qB1:∀{N:Ags}{m q:Nat},q∈dsF m N↔∃k,k<N.length/\q=m+2*k
 |[],m,q=>by simp[dsF]
 | _::xs,m,q=>by
  rw[dsF,List.mem_cons,qB1];constructor
  ·rintro(rfl | ⟨k,hk,rfl⟩)
   ·exact⟨0,by simp,rfl⟩
   ·exact⟨k+1,by simpa using hk,by omega⟩
  ·rintro⟨k,hk,rfl⟩;cases k with
   | zero=>exact .inl rfl
   | succ k=>exact .inr ⟨k,by simpa using hk,by omega⟩
theorem Wc:∀{N:Ags}{m:Nat},(qK (N.map qB.enc) m).2.length=2*N.length
 |[],_=>rfl
 | x::xs,m=>by
  simp only[lMc,qK,qB.layE,ZJ,ZI,AV.rows,Wr,lAp,lCo,lNi,Wc (N:=xs)];omega
theorem UT:∀{N:Ags}{m k:Nat}{x:qB},N[k]?=some x->(qK (N.map qB.enc) m).2[2*k]?=some (.row 1 (x.Data.map qQ) true)/\(qK (N.map qB.enc) m).2[2*k+1]?=some (.row 2 (x.Ports.map qE.enc) true)
 | y::ys,m,0,x,h=>by
  cases h;simp only[lMc,qK,qB.layE,ZJ,ZI];exact⟨rfl,rfl⟩
 | y::ys,m,k+1,x,h=>by
  have:=UT (N:=ys) (m:=m+2) (k:=k) (x:=x) h;simp only[lMc,qK,qB.layE,ZJ,ZI,AV.rows,Wr,nZa,lAn,lCa,lNa,lCo,lNi];exact this
theorem qdU:∀{N:Ags}{m:Nat}{H:List qC},(∀x∈N,0<x.Ports.length)->(∀k x,N[k]?=some x->H[m+2*k]?=some (.row 1 (x.Data.map qQ) true))->
  (qK (N.map qB.enc) m).1.length=(zC N (psF m N)).length/\∀p∈(qK (N.map qB.enc) m).1.zip (zC N (psF m N)),HCv H p.1 p.2
 |[],m,H,_,_=>HCv.refls []
 | x::xs,m,H,h0,h=>by
  simp only[lMc,qK,qB.layE,ZJ,ZI,AV.rows,Wr,nZa,lAn,lCa,lNa,lCo,lNi,psF,zC];have hx0:=h0 x (by simp);unfold encR;rw[Qc hx0];refine HCv.list (.agg rfl (HCv.list (.same _) (HCv.list (.same _) (HCv.list (.same _) (HCv.list (.cv (Cv.row (h 0 x rfl) (by simp) (qa shI.tree _) (by decide)) (by simp only[AV.tree];exact qa shI.tree _)) (HCv.list (.same _) (HCv.refls [])))))).2) (qdU (λz hz=>h0 z (by simp[hz])) λk z hz=>?_);have:=h (k+1) z hz;rw[show m+2*(k+1)=m+2+2*k by omega]at this;exact this
section
variable {w:Nat} {post:List AV} {base:Nat->Prop} {nid aid:Nat} {h:List qC} {N:Ags}
theorem NA.ofLay(ho:h[nid]?=some (.row w [.agg (sQ 5 aid N.length::post)] true))(ha:h[aid]?=some (.row 5 (qK (N.map qB.enc) (aid+1)).1 true))(hr:∀i o,(qK (N.map qB.enc) (aid+1)).2[i]?=some o->h[aid+1+i]?=some o)
  (hP0:∀x∈N,0<x.Ports.length) (h0:0<N.length) (hn:nid<aid\/aid+2*N.length<nid) (b1:¬base nid) (b2:∀j,aid<=j->j<=aid+2*N.length->¬base j) (bl:∀j,base j->j<h.length):
  ∃h',(∀b s m,Can b ⟨s,m,h⟩ ⟨s,m,h'⟩)/\NA w post base nid aid (psF (aid+1) N) h' N/\Keep base h h'/\h'.length=h.length/\∀j,j<aid\/aid+2*N.length<j->h'[j]?=h[j]?:=by
 have hd:∀(k:Nat)(x:qB),N[k]?=some x->h[aid+1+2*k]?=some (.row 1 (x.Data.map qQ) true):=λk x hx=>hr _ _ (UT hx).1;have hp:∀(k:Nat)(x:qB),N[k]?=some x->h[aid+1+2*k+1]?=some (.row 2 (x.Ports.map qE.enc) true):=λk x hx=>hr _ _ (UT hx).2;have e:∀j,j∉dsF (aid+1) N->j≠aid->((without (dsF (aid+1) N) h).set aid (.row 5 (zC N (psF (aid+1) N)) true))[j]?=h[j]?:=λj j1 j2=>by
  rw[gSn (Ne.symm j2),Jy j1]
 have nd:∀j,(∀k,k<N.length->j≠aid+1+2*k)->j∉dsF (aid+1) N:=λj hj q=>by
  obtain⟨k,hk,e⟩:=qB1.1 q;exact hj k hk e
 refine⟨_,λb s m=>Can.giveH (dsF (aid+1) N) ?_ ha ?_ (qdU hP0 λk x hx=>?_),⟨?_, ?_,U5,λk x q hx hq h00=>?_,qfD,by omega,λq=>?_,λq=>?_,b1,b2 _ (nLr _) (by omega),λq hq=>?_,λq hq=>?_,λj hj=>by rw[lLs,QG];exact bl j hj⟩,⟨by simp[QG],λj hj=>e j (nd j λk _ q=>b2 j (by omega) (by omega) hj) (λq=>b2 j (by omega) (by omega) hj)⟩,by simp[QG],λj hj=>e j (nd j λk _=>by omega) (by omega)⟩
 ·simp only[List.contains_eq_mem,decide_eq_false_iff_not];exact nd aid λk _=>by omega
 ·rw[jK];simpa using h0
 ·rw[QY (qB1.2 ⟨k,qR hx,rfl⟩)];exact hd k x hx
 ·rw[e nid (nd nid λk _=>by omega) (by omega)];exact ho
 ·rw[gSs (by rw[QG];exact qR ha)]
 ·have hk:=qR hx;rw[qDR hk]at hq;cases hq;rw[e _ (nd _ λk' _=>by omega) (by omega)];exact hp k x hx
 ·obtain⟨k,_,e⟩:=Y3 q;omega
 ·obtain⟨k,_,e⟩:=Y3 q;omega
 ·obtain⟨k,_,e⟩:=Y3 hq;exact b2 _ (by omega) (by omega)
 ·obtain⟨k,hk,eq⟩:=Y3 hq;subst eq;rw[e _ (nd _ λk' _=>by omega) (by omega)];exact⟨_,hp k N[k] (gEg hk)⟩
end
section
variable {w:Nat} {post:List AV} {base:Nat->Prop} {nid:Nat} {h:List qC} {N:Ags} {K:AV->List qC->Prop} {a b s c k:Nat} {x y:qB} {X:Nat->Nat->Prop} {t:qD}
theorem KJ{α:Type}{xs:List α}{i:Nat}{x:α}(h:xs[i]?=some x):xs.set i x=xs:=List.ext_getElem? λj=>by
 by_cases e:j=i
 ·subst e;rw[gSs (qR h),h]
 ·rw[gSn (Ne.symm e)]
theorem qlB{id len i:Nat}(h:i<len):idx 5 (some (.slice 5 id 1 len false)) (some (iI (i:Int)))=some (.ptr id (i+1) 0):=by simp[idx,inI];omega
theorem qpN{lev d:Int}{z:qB}:jQ (zF lev d z)=jQ (lvA lev z):=by unfold zF lvA;split<;>simp[jQ]
structure TP(T:Ags)(tid:Nat)(ts:List Nat)(base:Nat->Prop)(nid aid:Nat)(ps:List Nat)(j:Nat)(G:List qC):Prop where
 a:G[tid]?=some (.row 5 (zC T ts) true)
 l:ts.length=T.length
 p:∀(k:Nat)(x:qB)(q:Nat),j<=k->T[k]?=some x->ts[k]?=some q->G[q]?=some (.row 2 (x.Ports.map qE.enc) true)
 nd:ts.Nodup
 bq:∀q∈ts,¬base q
 tn:tid∉ts
 d1:tid≠nid/\tid≠aid/\tid∉ps
 d2:∀(k q:Nat),j<=k->ts[k]?=some q->q≠nid/\q≠aid/\q∉ps
theorem TP.next{T:Ags}{base:Nat->Prop}{tid nid aid aid':Nat}{ts ps:List Nat}{j q:Nat}{G H:List qC}(t:TP T tid ts base nid aid ps j G)(hq:ts[j]?=some q)(hl:G.length<=aid')(e:∀i,i<G.length->i≠q->i≠nid->i≠aid->H[i]?=G[i]?):TP T tid ts base nid aid' (ps++[q]) (j+1) H:=by
 have mq:=lMo hq;have ne:∀(k q':Nat),j+1<=k->ts[k]?=some q'->q'≠q:=λk q' hk h e=>by
  subst e;have:=(List.getElem?_inj (qR hq) t.nd).1 (hq.trans h.symm);omega
 refine⟨?_,t.l,λk x q' hk hx hq'=>?_,t.nd,t.bq,t.tn,⟨t.d1.1, ?_, ?_⟩,λk q' hk hq'=>⟨(t.d2 k q' (by omega) hq').1, ?_, ?_⟩⟩
 ·rw[e tid (qR t.a) (λe=>t.tn (e▸mq)) t.d1.1 t.d1.2.1];exact t.a
 ·have hp:=t.p k x q' (by omega) hx hq';have:=t.d2 k q' (by omega) hq';rw[e q' (qR hp) (ne k q' hk hq') this.1 this.2.1];exact hp
 ·have:=qR t.a;omega
 ·intro h;rcases zw.1 h with h | h
  ·exact t.d1.2.2 h
  ·simp only[lMg]at h;exact t.tn (h▸mq)
 ·have hk':k<T.length:=by rw[<-t.l];exact qR hq'
  have hp:=t.p k _ q' (by omega) (gEg hk') hq';have:=qR hp;omega
 ·intro h;rcases zw.1 h with h | h
  ·exact(t.d2 k q' (by omega) hq').2.2 h
  ·simp only[lMg]at h;exact ne k q' hk hq' h
theorem qpB{bid tid n q len:Nat}{el:List AV}{v0 v1 v2 v3:AV}{ps:List qE}(ho:h[bid]?=some (.row 1 [.agg [sQ 5 tid n]] true))(ht:h[tid]?=some (.row 5 el true))(h0:0<n)(he:el[0]?=some (.agg [v0,v1,v2,v3,sQ 2 q len]))
  (hq:h[q]?=some (.row 2 (ps.map qE.enc) true)) (hl:len=ps.length) {p:qE} (hp:ps[0]?=some p) (hK:K p.enc h):SCall Gm 555 [.ptr bid 0 0,(pt 0 0).enc] h K:=by
 have hs:=qR hp;refine sI WL ?_;simp only[WL,qM,go_sem];refine qZ rfl ?_;have hr:(ps.map qE.enc)[0]?=some p.enc:=by rw[gMp,hp];rfl
 simp only[go_sem,ho,pt,zH h0,ht,he,JW (show 0<len by omega),hq,hr];refine lsA ?_;simp only[go_sem];exact hK
theorem qo6(hw:w≠1){bk:List qD}{bid:Nat}{pp:AV}(hP:Pr N a b x y X)(hN:NE w (sQ 1 bid bk.length::pp::[]) base nid h N)(hB:BKh bk bid h)(hv:0<=x.Value/\x.Value<bk.length)(et:zP bk x.Value=t)(ht:zB t=true)(hy:0<y.Ports.length)(hl:N.length<=10000)(hlev:0<=x.Level/\x.Level<=8)
  (hs:t.Agents.all (JF x.Level)=true)
  (hK:∀h',NE w (sQ 1 bid bk.length::pp::[]) base nid h' (ZG N t x.Level b)->KM base h h'->K (.tup []) h'):SCall Gm 1314 [.ptr nid 0 0,iI (a:Nat),iI (b:Nat)] h K:=by
 have la:=hP.la;have lb:=hP.lb;have hbl:=hN.bl;refine sI kT ?_;simp only[kT,qM,go_sem];obtain⟨aid,ps,q,hNA,o1,o2,o3⟩:=hN.rd hP.x;obtain⟨bvs,ta,b1,b2,b3,b4⟩:=hB.at hv.1 hv.2;rw[et]at b3 b4;simp only[o1,zH la,o2,o3,b1,b2,b3,go_sem];have hsz:=Z7 ht;refine Q9 (vs':=[t.enc,iI x.Level]) (Cvs.cons (.agg rfl (w9 b4 λp hp=>by simp at hp)) (Cvs.cons (.refl rfl) Cvs.nil)) (qeE t x.Level (by omega) hlev (λz hz=>QX (JT (JX ht) z hz))) ?_;rw[show Jk t x.Level=(⟨t.Agents.map (lvA x.Level)⟩,true) by unfold Jk;rw[hs];rfl];have hT:(t.Agents.map (lvA x.Level)).length=t.Agents.length:=by simp
 have hT0:∀(k:Nat)(z:qB),t.Agents[k]?=some z->(t.Agents.map (lvA x.Level))[k]?=some (lvA x.Level z):=λk z hz=>by rw[gMp,hz];rfl
 have hTP:∀z∈t.Agents.map (lvA x.Level),0<z.Ports.length:=λz hz=>by
  obtain⟨z0,hz0,rfl⟩:=List.mem_map.1 hz;have:=(zi (JT (JX ht) z0 hz0)).2;unfold lvA;split<;>exact this
 generalize hTT:t.Agents.map (lvA x.Level)=T at hT hT0 hTP|-;have eL:(lay (Qw (⟨T⟩,true)) h.length)=(.tup [.agg [sQ 5 h.length T.length],.bool true],.row 5 (qK (T.map qB.enc) (h.length+1)).1 true::(qK (T.map qB.enc) (h.length+1)).2):=by simp[Qw,lay,qK,qD.layE]
 rw[eL];simp only[go_sem];obtain⟨H0,eH⟩:∃H0,H0=h++qC.row 5 (qK (T.map qB.enc) (h.length+1)).1 true::(qK (T.map qB.enc) (h.length+1)).2:=⟨_,rfl⟩;rw[<-eH];have f1:H0[h.length]?=some (.row 5 (qK (T.map qB.enc) (h.length+1)).1 true):=by rw[eH,gAr (nLr _),nSs];rfl
 have f2:∀i o,(qK (T.map qB.enc) (h.length+1)).2[i]?=some o->H0[h.length+1+i]?=some o:=λi o ho=>by rw[eH,gAr (by omega),show h.length+1+i-h.length=i+1 by omega,List.getElem?_cons_succ];exact ho
 have f3:H0.length=h.length+1+2*T.length:=by rw[eH];simp[Wc];omega
 have f4:∀j,j<h.length->H0[j]?=h[j]?:=λj hj=>by rw[eH,gAl hj]
 clear eH eL;refine qn (e':=.agg [sQ 5 h.length T.length]) rfl gCl rfl rfl ?_;simp only[lSz];obtain⟨H1,eH⟩:∃H1,H1=(H0++[qC.row 1 [.agg [.nils]] true]).set H0.length (.row 1 [.agg [sQ 5 h.length T.length]] true):=⟨_,rfl⟩;rw[<-eH];have g0:H1[H0.length]?=some (.row 1 [.agg [sQ 5 h.length T.length]] true):=by rw[eH,gSs (by simp)]
 have g1:∀j,j<H0.length->H1[j]?=H0[j]?:=λj hj=>by rw[eH,gSn (by omega),gAl hj]
 have g2:H1.length=H0.length+1:=by rw[eH];simp
 clear eH;have hNB:NA w (sQ 1 bid bk.length::pp::[]) base nid aid ps H1 N:=hNA.heap (by rw[g1 _ (by have:=hNA.lt;omega),f4 _ hNA.lt]) (by rw[g1 _ (by have:=hNA.lta;omega),f4 _ hNA.lta]) λq hq=>by rw[g1 _ (by have:=hNA.ltp hq;omega),f4 _ (hNA.ltp hq)]
 have kH:KM base h H1:=⟨⟨by omega,λj hj=>by have:=hbl j hj;rw[g1 _ (by omega),f4 _ (by omega)]⟩,λj es q=>by have:=qR q;rw[g1 _ (by omega),f4 _ this];exact q⟩;have f1':=(g1 _ (show h.length<H0.length by omega)).trans f1;have f2':∀i o,(qK (T.map qB.enc) (h.length+1)).2[i]?=some o->H1[h.length+1+i]?=some o:=λi o ho=>by rw[g1 _ (by have:=qR ho;rw[Wc]at this;omega)];exact f2 i o ho
 clear f1 f2 g1 f4;simp only[hNB.o,go_sem];have eb:IntKind.i64.wrap ((N.length:Int)-1)=((N.length-1:Nat):Int):=by rw[wsA];omega
 have eb2:(N.length:Int)-1=((N.length-1:Nat):Int):=by omega
 simp only[eb];have hpos:=Wg ht;obtain⟨c,r,e1,e2,e3,e4⟩:=Ye (N:=N) (b:=b) (lev:=x.Level) ht (by omega);have hz0:t.Agents[0]?=some t.Agents[0]:=gEg hpos;obtain⟨z0,hz1,hz2⟩:=jd.1 e2;have hz3:=hT0 _ _ hz1;have hz4:(lvA x.Level z0).Ports=z0.Ports:=by unfold lvA;split<;>rfl
 refine qU (qpB (p:=pt (c+1) r) g0 f1' (by omega) (Wd hz3) (f2' _ _ (UT hz3).2) rfl (by rw[hz4];exact hz2) ?_);simp only[go_sem];refine lsA ?_;simp only[g0,go_sem];refine qDV (v:=.slice 5 h.length 1 (T.length-1) false) (by simp[val,bnd,go_sem,show (1:Int)<=(T.length:Int) by omega]) ?_;simp only[go_sem];obtain⟨H2,c1,n2,k2,l2,s2⟩:=NA.ofLay (w:=1) (post:=[]) (base:=Lo h.length) (nid:=H0.length) (aid:=h.length) (h:=H1) (N:=T) g0 f1' f2' hTP (by omega) (.inr (by omega)) (by omega) (λj q _=>Nat.not_lt.2 q) (λj q=>by omega);have hNC:NA w (sQ 1 bid bk.length::pp::[]) base nid aid ps H2 N:=hNB.heap (k2.k _ hNA.lt) (k2.k _ hNA.lta) λq hq=>k2.k _ (hNA.ltp hq);have kC:KM base h H2:=⟨kH.toKeep.trans (k2.up hbl),λj es q=>by have:=qR q;rw[k2.k _ this];exact kH.m _ _ q⟩;have hTP:TP T h.length (psF (h.length+1) T) base nid aid ps 1 H2:=⟨n2.a,n2.l,λk z q _ hz hq=>n2.p k z q hz hq (hTP z (lMo hz)),n2.nd,λq hq qq=>by have:=n2.b3 q hq;have:=hbl _ qq;omega,n2.n3,
  ⟨by have:=hNA.lt;omega,by have:=hNA.lta;omega,λq=>by have:=hNA.ltp q;omega⟩,λk q _ hq=>by
   have b3:=n2.b3 q (lMo hq);exact⟨by have:=hNA.lt;omega,by have:=hNA.lta;omega,λq=>by have:=hNA.ltp q;omega⟩⟩
 generalize psF (h.length+1) T=ts at hTP n2;refine Sem.loop (α:=Nat×List qC) (λq=>q.1+1<=T.length/\(∃aid ps,NA w (sQ 1 bid bk.length::pp::[]) base nid aid ps q.2 (jp N t x.Level q.1)/\TP T h.length ts base nid aid ps (q.1+1) q.2)/\KM base h q.2)
  (λq=>(⟨[(0,.ptr nid 0 0),(2,iI (b:Nat)),(8,iI ((N.length-1:Nat):Int)),(52,.slice 5 h.length 1 (T.length-1) false),(53,iI ((T.length-1:Nat):Int)),(54,iI (q.1:Nat))],[(9,(pt (c+1) r).enc)],q.2⟩:VSt)) (λq=>T.length-q.1) (0,H2) (by kernel_rfl)
  ⟨by simp only;omega,⟨aid,ps,by unfold jp;simpa using hNC,hTP⟩,kC⟩ ((c1 _ _ _).trans csA) ?_
 clear hNC kC hTP n2 k2 l2 s2 c1 hNB kH f1' f2' g0 g2 hNA o1 o2 o3;rintro⟨i,g⟩ ⟨hi,⟨aid,ps,hn,hT1⟩,hk⟩;simp only at hi hn hk hT1;simp only[go_sem];apply qI<;>intro hc<;>simp only[hc,go_sem]
 ·have hlt:i+1<T.length:=by have:=odT hc;omega
  clear hc;have hlt':i+1<t.Agents.length:=by omega
  have es:=qcS (N:=N) (lev:=x.Level) hlt';have hzt:=gEg hlt';have hpp:∀(s:Nat)(p:qE),t.Agents[i+1].Ports[s]?=some p->0<=p.Agent/\p.Agent<=600:=λs p hp=>by
   obtain⟨b',t',e,e',_⟩:=QW ht (i+1) s p (jd.2 ⟨_,hzt,hp⟩) (λq=>q);have:=Jc e';subst e;simp only[pt];omega
  have hp4:=Xp (JT (JX ht) _ (gMm hlt'));generalize t.Agents[i+1]=zt at hzt es hpp hp4;have hz:=hT0 _ _ hzt;have hzp:(lvA x.Level zt).Ports=zt.Ports:=by unfold lvA;split<;>rfl
  have hcz:=qpN (lev:=x.Level) (d:=(N.length:Int)-1) (z:=zt);have hsp:(zF x.Level ((N.length:Int)-1) zt).Ports=(lvA x.Level zt).Ports.map (shP ((N.length:Int)-1)):=by rw[hzp];rfl
  rw[<-hzp]at hpp hp4;generalize lvA x.Level zt=z at hz hzp hpp hcz hsp hp4;obtain⟨q,hq⟩:∃q,ts[i+1]?=some q:=⟨_,gEg (by rw[hT1.l];exact hlt)⟩;have hR:=hT1.p _ _ _ (nLr _) hz hq;have hE:=Qk hz hq;have hvz:pv z q=sQ 2 q z.Ports.length:=Qc (hTP z (lMo hz));simp only[qlB (show i<T.length-1 by omega),hT1.a,hE,go_sem];refine lsA ?_;simp only[hvz,go_sem];refine Sem.loop (λj:Nat=>j<=z.Ports.length/\True) (λj=>(⟨[(0,.ptr nid 0 0),(2,iI (b:Nat)),(8,iI ((N.length-1:Nat):Int)),(52,.slice 5 h.length 1 (T.length-1) false),(53,iI ((T.length-1:Nat):Int)),(54,iI (i:Nat)),(60,iI (z.Ports.length:Nat)),(61,iI (j:Nat))],
   [(9,(pt (c+1) r).enc),(11,encR z q)],g.set q (.row 2 ((wC (shP ((N.length:Int)-1)) z.Ports j).map qE.enc) true)⟩:VSt)) (λj=>z.Ports.length-j) 0 (by kernel_rfl) ⟨nZl _,trivial⟩
   (by rw[Yq,KJ hR];exact csA) ?_
  rintro j ⟨hj,_⟩;simp only[hvz,go_sem];apply qI<;>intro hc<;>simp only[hc,hvz,go_sem]
  ·have hlj:j<z.Ports.length:=by have:=odT hc;omega
   clear hc;have hqq:=hpp j _ (gEg hlj);have hm:((wC (shP ((N.length:Int)-1)) z.Ports j).map qE.enc)[j]?=some (z.Ports[j].enc):=by rw[gMp,Yr hlj];rfl
   have hG:(g.set q (.row 2 ((wC (shP ((N.length:Int)-1)) z.Ports j).map qE.enc) true))[q]?=some (.row 2 ((wC (shP ((N.length:Int)-1)) z.Ports j).map qE.enc) true):=gSs (qR hR);simp only[JW hlj,hG,hm,go_sem];refine qn rfl hG hm Y2 ?_;have ep:(⟨IntKind.i64.wrap (z.Ports[j].Agent+((N.length-1:Nat):Int)),z.Ports[j].Slot⟩:qE)=shP ((N.length:Int)-1) z.Ports[j]:=by
    unfold shP;rw[eb2,wsA]
   rw[ep,<-List.map_set,Yt hlj,List.set_set];simp only[hvz,go_sem];simp only[wuA (n:=j)];refine qb (j+1) ⟨by omega, ?_⟩ (by omega) csA;trivial
  ·have hlj:j=z.Ports.length:=by have:=odF hc;omega
   clear hc;subst hlj;rw[Ys,<-hsp];have dq:=hT1.d2 _ _ (nLr _) hq;have m1:NA w (sQ 1 bid bk.length::pp::[]) base nid aid ps (g.set q (.row 2 ((zF x.Level ((N.length:Int)-1) zt).Ports.map qE.enc) true)) (jp N t x.Level i):=hn.heap (gSn dq.1) (gSn dq.2.1) λr hr=>gSn λe=>dq.2.2 (by rw[e];exact hr);have hbq:=hT1.bq q (lMo hq);have kg:KM base h (g.set q (.row 2 ((zF x.Level ((N.length:Int)-1) zt).Ports.map qE.enc) true)):=hk.trans (KM.set hbq hR);have hG:(g.set q (.row 2 ((zF x.Level ((N.length:Int)-1) zt).Ports.map qE.enc) true))[q]?=some (.row 2 ((zF x.Level ((N.length:Int)-1) zt).Ports.map qE.enc) true):=gSs (qR hR);have eg:∀j,j≠q->(g.set q (.row 2 ((zF x.Level ((N.length:Int)-1) zt).Ports.map qE.enc) true))[j]?=g[j]?:=λj hj=>gSn (Ne.symm hj);have lg:(g.set q (.row 2 ((zF x.Level ((N.length:Int)-1) zt).Ports.map qE.enc) true)).length=g.length:=lLs;generalize g.set q (.row 2 ((zF x.Level ((N.length:Int)-1) zt).Ports.map qE.enc) true)=G at m1 kg hG eg lg|-;have k0:=m1.lt;have k1:=m1.lta;simp only[m1.o,go_sem];have l5:=Ql m1.l;have lS:=qCC (N:=N) (lev:=x.Level) (show i+1<=t.Agents.length by omega);have et2:∀{o:qC},(G++[o])[aid]?=some (.row 5 (zC (jp N t x.Level i) ps) true):=λ{o}=>by rw[gAl k1];exact m1.a
   refine jO (len:=(jp N t x.Level i).length) (x:=encR z q) (w:=5) gCl et2 l5 (by omega) ?_;simp only[lAp,nZa,go_sem];refine qn rfl (by rw[gAl (by simp;omega),gSn (Ne.symm m1.n1),gAl (by omega)];exact m1.o) rfl Xu ?_;simp only[lSz];obtain⟨H,eH⟩:∃H,H=((G++[qC.row 5 [encR z q] true]).set aid .dead++[qC.row 5 (zC (jp N t x.Level i) ps++[encR z q]) true]).set nid (.row w [.agg [sQ 5 (G.length+1) ((jp N t x.Level i).length+1),sQ 1 bid bk.length,pp]] true):=⟨_,rfl⟩;rw[<-eH];have ee:encR z q=encR (zF x.Level ((N.length:Int)-1) zt) q:=(UD hcz).symm;have x1:H[nid]?=some (.row w [.agg [sQ 5 (G.length+1) ((jp N t x.Level i).length+1),sQ 1 bid bk.length,pp]] true):=by rw[eH,gSs (by simp;omega)]
   have x2:H[G.length+1]?=some (.row 5 (zC (jp N t x.Level i) ps++[encR z q]) true):=by rw[eH,gSn (by omega),gAr (by simp)];simp
   have x3:∀j,j<G.length+1->j≠nid->j≠aid->H[j]?=(G++[qC.row 5 [encR z q] true])[j]?:=λj hj n1 n2=>by rw[eH,gSn (Ne.symm n1),gAl (by simp;omega),gSn (Ne.symm n2)]
   have kH:KM base G H:=by
    rw[eH];refine(((KM.app m1.bl).trans (KM.set m1.b2 et2)).trans (KM.app (λj hj=>by have:=m1.bl j hj;simp;omega))).trans (KM.set m1.b1 (rw':=true) (w:=w) (el:=[.agg [.slice 5 aid 0 (jp N t x.Level i).length false,sQ 1 bid bk.length,pp]]) ?_);rw[gAl (by simp;omega),gSn (Ne.symm m1.n1),gAl (by omega)];exact m1.o
   have mm:=(m1.app [qC.row 5 [encR z q] true]).push (x:=zF x.Level ((N.length:Int)-1) zt) (q:=q) (h2:=H) (by rw[gAl (qR hG)];exact hG) hbq dq.1 dq.2.1 dq.2.2 (by simpa using x1) (by rw[<-ee];simpa using x2) (by simpa using x3);rw[<-es]at mm;have tt:=hT1.next (H:=H) (aid':=G.length+1) hq (by omega) λj h1 h2 h3 h4=>by rw[x3 j (by omega) h3 h4,gAl (by omega)];exact eg j h2
   simp only[go_sem,wuA (n:=i)];refine qb (i+1,H) ⟨by simp only;omega,⟨G.length+1,_,by simpa using mm,tt⟩,kg.trans kH⟩ (by simp only;omega) csA
 ·have hlt:i+1=t.Agents.length:=by have:=odF hc;omega
  clear hc;have w0:=qcR (N:=N) (lev:=x.Level) hlt;rw[w0]at hn;have hc8:c+1<t.Agents.length:=by
   obtain⟨b',t',e,e',_⟩:=QW ht 0 0 _ e2 (λq=>q);have:=Jc e';have:=(wO.1 e).1;omega
  have ec:IntKind.i64.wrap (((c+1:Nat):Int)+((N.length-1:Nat):Int))=((N.length+c:Nat):Int):=by rw[wsA];omega
  have b0:Has (jJ N t x.Level) b 0:=by unfold jJ;exact(hP.by' hy).app
  simp only[pt,qE.enc,ec,go_sem];refine qU (Xz (s:=0) (k:=r) (a:=b) (c:=N.length+c) ⟨aid,ps,hn⟩ b0 e3 λg1 m1 j1=>?_);simp only[go_sem];exact hK _ (by rw[e4,qCV (by omega) e3 b0];exact m1) (hk.trans j1.toKM)
end
def z9(ks:List Nat):List (AV×AV):=ks.map λk=>(kI k,.bool true)
section
variable {w:Nat} {post:List AV} {bk:List qD} {bid:Nat} {es:List (AV×AV)} {base:Nat->Prop} {mid nid lid:Nat} {h:List qC} {N:Ags} {K:AV->List qC->Prop} {a b s c k:Nat} {x y:qB} {ks rem:List Nat}
theorem RW.put{e2:List (AV×AV)}(hR:RW bk bid es mid base nid h N)(hm:¬base mid):RW bk bid e2 mid base nid (h.set mid (.map e2)) N:=by
 have e:∀{j:Nat}{o:qC},h[j]?=some o->(∀q,o≠.map q)->(h.set mid (.map e2))[j]?=h[j]?:=λ{j o} q ne=>gSn λe=>ne es (by rw[<-e,hR.m]at q;exact(Option.some.inj q).symm);obtain⟨aid,ps,hN⟩:=hR.n;refine⟨⟨aid,ps,hN.heap (e hN.o (by simp)) (e hN.a (by simp)) λq hq=>?_⟩,gSs (qR hR.m),hR.b.keep (Keep.set hm)⟩;obtain⟨el2,e2⟩:=hN.b4 q hq;exact e e2 (by simp)
theorem Wx(hR:RW bk bid (z9 ks) mid base nid h N)(hm:¬base mid)(hl:h[lid]?=some (.row 1 (rem.map kI) true))(nd:(ks++rem).Nodup)(hn:rem.length<=4)
  (hK:∀h',RW bk bid (z9 (ks++rem)) mid base nid h' N->Keep base h h'->K (.tup []) h'):SCall Gm 1315 [.ptr nid 0 0,sQ 1 lid rem.length] h K:=by
 refine sI kU ?_;simp only[kU,qM,go_sem];refine Sem.loop (α:=Nat×List qC) (λq=>q.1<=rem.length/\RW bk bid (z9 (ks++rem.take q.1)) mid base nid q.2 N/\q.2[lid]?=some (.row 1 (rem.map kI) true)/\Keep base h q.2)
  (λq=>(⟨[(0,.ptr nid 0 0),(6,sQ 1 lid rem.length),(7,iI (rem.length:Nat)),(8,iI (q.1:Nat))],[],q.2⟩:VSt)) (λq=>rem.length-q.1) (0,h) (by kernel_rfl)
  ⟨nZl _,by simpa using hR,hl,Keep.refl⟩ csA ?_
 rintro⟨i,g⟩ ⟨hi,hg,hr,hk⟩;simp only at hi hg hr hk;simp only[go_sem];apply qI<;>intro hc<;>simp only[hc,go_sem]
 ·have hlt:i<rem.length:=by have:=odT hc;omega
  clear hc;have hx:(rem.map kI)[i]?=some (iI ((rem[i]:Nat):Int)):=by rw[gMp,gEg hlt];rfl
  obtain⟨aid,ps,hN⟩:=hg.n;simp only[J8 hlt,hr,hx,hN.o,go_sem];have et:rem.take (i+1)=rem.take i++[rem[i]]:=lTs hlt;have hf:jT (kI rem[i]) (z9 (ks++rem.take i)) 0=some none:=UO (v:=λ_=>.bool true) λq=>by
   have nd2:(ks++rem.take (i+1)).Nodup:=nd.sublist (List.Sublist.append (List.Sublist.refl _) (List.take_sublist _ _));rw[et,<-lAa,List.nodup_append]at nd2;exact nd2.2.2 _ q _ (lMg.2 rfl) rfl
  refine qeC hg.m hf ?_;have e2:z9 (ks++rem.take i)++[(iI ((rem[i]:Nat):Int),.bool true)]=z9 (ks++rem.take (i+1)):=by rw[et,<-lAa];unfold z9;rw[lMa (l₂:=[rem[i]])];rfl
  rw[e2];simp only[go_sem,wuA (n:=i)];refine qb (i+1,_) ⟨hlt,(hg.put hm), ?_,hk.trans (Keep.set hm)⟩ (by simp only;omega) csA;rw[gSn (λe=>by rw[<-e,hg.m]at hr;cases hr)];exact hr
 ·have hlt:i=rem.length:=by have:=odF hc;omega
  clear hc;subst hlt;rw[lTl]at hg;exact hK _ hg hk
end
section
variable {e:Env} {w i:Nat} {el:List AV} {v:AV} {x:Ao} {r:List (Nat×Ao)}
@[go_sem] theorem qrS{a b:AV}(h:v.cells.length=w):fil e w [a,b] 0 (some v) r=jA e w [v,b] r:=by
 show (if v.cells.length=w/\0<2 then _ else _)=_;rw[if_pos ⟨h,by omega⟩];rfl
@[go_sem] theorem qrT{a b:AV}(h:v.cells.length=w):fil e w [a,b] 1 (some v) r=jA e w [a,v] r:=by
 show (if v.cells.length=w/\1<2 then _ else _)=_;rw[if_pos ⟨h,by omega⟩];rfl
@[go_sem] theorem rep2{v:AV}:List.replicate 2 v=[v,v]:=nr rfl
end
section
variable {w:Nat} {post:List AV} {bk:List qD} {bid:Nat} {es:List (AV×AV)} {base:Nat->Prop} {mid nid lid A B:Nat} {h:List qC} {N:Ags} {K:AV->List qC->Prop} {a b s c k:Nat} {x y u v:qB} {ks rem:List Nat} {R:Nat->Bool}
def zX(c:Int)(a b:Nat):List Nat:=if c=7 then [a]else [a,b]
theorem RW.app(hR:RW bk bid es mid base nid h N)(ex:List qC):RW bk bid es mid base nid (h++ex) N:=⟨hR.n.app ex,by rw[gAl (qR hR.m)];exact hR.m,hR.b.keep (Keep.app hR.n.bl)⟩
theorem qkX(h:(ql bk x y).2=0):(ql bk x y).1=(jB (qN x y) (jU bk x y (qN x y))).1:=by
 unfold ql at h|-;split
 ·rename_i q;rw[if_pos q]at h;simp at h
 ·rename_i q;rw[if_neg q]at h;split
  ·rename_i q;rw[if_pos q]at h;simp at h
  ·rename_i q;rw[if_neg q]at h;split
   ·rename_i q;rw[if_pos q]at h;simp at h
   ·rfl
structure RK(R:Nat->Bool)(ks:List Nat):Prop where
 m:∀u,u∈ks↔R u=true
 nd:ks.Nodup
theorem RK.nil:RK (λ_=>false) []:=⟨λu=>by simp,by simp⟩
theorem qcB{n:Nat}:∀{ks:List Nat},ks.Nodup->(∀u∈ks,u<n)->qT (λu=>decide (u∈ks)) n+ks.length=n
 |[],_,_=>by
  have:∀m,qT (λu=>decide (u∈([]:List Nat))) m=m:=λm=>by
   induction m with
   | zero=>rfl
   | succ m ih=>rw[jP,ih];simp
  rw[this];rfl
 | k::ks,nd,h=>by
  rw[List.nodup_cons]at nd;have ih:=qcB (n:=n) nd.2 λu hu=>h u (by simp[hu]);have e:(λu=>decide (u∈k::ks))=λu=>decide (u=k) || decide (u∈ks):=by funext u;simp
  have h1:=Vw (h k (by simp));have h2:=qBT (R:=λu=>decide (u=k)) (P:=λu=>decide (u∈ks)) (λu hu=>by simp at hu;subst hu;simpa using nd.1) (n:=n);rw[e];simp only[lCo];omega
theorem RK.cnt(h:RK R ks){n:Nat}(hr:∀u,R u=true->u<n):qT R n+ks.length=n:=by
 have e:R=λu=>decide (u∈ks):=by
  funext u;cases q:R u with
  | true=>simp[(h.m u).2 q]
  | false=>simp;intro q2;rw[(h.m u).1 q2]at q;cases q
 rw[e];exact qcB h.nd λu hu=>hr u ((h.m u).1 hu)
theorem RK.dead(h:RK R ks)(hA:Act R N a b x y){c:Int}:RK (z8 R c a b) (ks++zX c a b):=by
 have na:a∉ks:=λq=>by have:=(h.m a).1 q;rw[hA.ra]at this;cases this
 have nb:b∉ks:=λq=>by have:=(h.m b).1 q;rw[hA.rb]at this;cases this
 constructor
 ·intro u;unfold z8 wI zX;have:=h.m u;by_cases c7:c=7
  ·simp[c7,this]
  ·simp[c7,this]
 ·unfold zX;rw[List.nodup_append];refine⟨h.nd, ?_,λu hu v hv=>?_⟩
  ·split
   ·simp
   ·simpa using hA.ne
  ·split at hv
   ·simp at hv;subst hv;rintro rfl;exact na hu
   ·simp at hv;rcases hv with rfl | rfl<;>rintro rfl
    ·exact na hu
    ·exact nb hu
theorem qo0{es:List (AV×AV)}(hR:RW bk bid es mid base nid h N)(hl:N.length<=1000000)(he:es.length<=N.length)(hK:K (iI ((N.length:Int)-es.length)) h):SCall Gm 1306 [.ptr nid 0 0] h K:=by
 obtain⟨aid,ps,hN⟩:=hR.n;refine sI XE ?_;simp only[XE,qM,go_sem,hN.o,oBs,qCA hR.m,oMs];have ew:IntKind.i64.wrap (((N.length:Nat):Int)-((es.length:Nat):Int))=((N.length:Nat):Int)-es.length:=wsA;rw[ew];exact hK
theorem s983{h0:List qC}(hc:∀b s m,Can b ⟨s,m,h0⟩ ⟨s,m,h⟩)(hR:RW bk bid (z9 ks) mid base nid h N)(hm:¬base mid)(ok:Hol R N)(hk:RK R ks)(nsz:N.length<=2400)(hbk:ju bk=true)(hA:Act R N a b x y)(a0:a≠0)(b0:b≠0)(hf:zY x.Kind x.Level y.Kind y.Level≠2)
  (hu:N[A]?=some u) (hv:N[B]?=some v) (ho:(zI u v=true/\a=B/\b=A/\x=v/\y=u)\/(zI u v=false/\a=A/\b=B/\x=u/\y=v))
  (hK1:(ql bk x y).2≠0->∀h',RW bk bid (z9 ks) mid base nid h' N->Keep base h h'->K (iI (ql bk x y).2) h') (hK2:(ql bk x y).2=0->600<(qT R N.length:Int)+(ql bk x y).1->∀h',RW bk bid (z9 ks) mid base nid h' N->Keep base h h'->K (iI 4) h')
  (hK3:zW R bk N a b x y->∀h',RW bk bid (z9 (ks++zX (qN x y) a b)) mid base nid h' (zA bk N a b x y)->Keep base h h'->K (iI 0) h'):SCall Gm 983 [.ptr nid 0 0,(⟨(A:Int),(B:Int)⟩:qV).enc] h0 K:=by
 have la:=hA.pr.la;have lb:=hA.pr.lb;have xok:qe x=true:=(ok.k _ _ hA.x hA.ra).1;have yok:qe y=true:=(ok.k _ _ hA.y hA.rb).1;have hcn:=hk.cnt ok.rl;have na:a∉ks:=λq=>by have:=(hk.m a).1 q;rw[hA.ra]at this;cases this
 have nb:b∉ks:=λq=>by have:=(hk.m b).1 q;rw[hA.rb]at this;cases this
 have nd2:(ks++[a,b]).Nodup:=by
  have:=(hk.dead hA (c:=1)).nd;simpa[zX]using this
 have nd1:(ks++[a]).Nodup:=by
  have:=(hk.dead hA (c:=7)).nd;simpa[zX]using this
 have huv:qe u=true/\qe v=true:=by
  rcases ho with⟨_,_,_,e1,e2⟩ | ⟨_,_,_,e1,e2⟩
  ·rw[<-e1,<-e2];exact⟨yok,xok⟩
  ·rw[<-e1,<-e2];exact⟨xok,yok⟩
 have kx:x.Kind≠1:=λe=>a0 ((ok.k _ _ hA.x hA.ra).2.1 e);have ky:y.Kind≠1:=λe=>b0 ((ok.k _ _ hA.y hA.rb).2.1 e);have h7:qN x y=7->0<=x.Value:=λc=>by
  obtain⟨e,_,_⟩:=qBS xok yok kx ky hf (by omega);have k:=(Qz (ka:=x.Kind) (la:=x.Level) (kb:=y.Kind) (lb:=y.Level)).2.2.2.2.2.2.1 (e.trans c);have hv:=qDH xok k.1;unfold wS at hv;rw[zK]at hv;exact hv.1
 refine SCall.runC [] [] (gk _ F983) (by kernel_rfl) rfl (hc _ _ _) ?_;clear hc;simp only[F983,qM,go_sem];refine qZ rfl ?_;simp only[go_sem];refine qU (qoZ hR huv.1 huv.2 hbk hu hv ho h7 λex=>?_);replace hK1:=λq=>hK1 q (h++ex) (hR.app ex) (Keep.app hR.n.bl);replace hK2:=λq r=>hK2 q r (h++ex) (hR.app ex) (Keep.app hR.n.bl);replace hK3:=λG h' r (k:Keep base (h++ex) h')=>hK3 G h' r ((Keep.app hR.n.bl).trans k);replace hR:=hR.app ex;generalize h++ex=h at hR hK1 hK2 hK3|-;unfold QD;by_cases hg:(ql bk x y).2≠0
 ·rw[if_neg hg];simp only[go_sem];simp only[hg,decide_false,go_sem];exact hK1 hg
 replace hg:(ql bk x y).2=0:=by omega
 rw[if_pos hg];simp only[go_sem];refine qU (qo0 hR (by omega) (by simp[z9];omega) ?_);simp only[go_sem];have px:=(⟨(zi xok).2,Xp xok⟩:0<x.Ports.length/\x.Ports.length<=4);have py:=(⟨(zi yok).2,Xp yok⟩:0<y.Ports.length/\y.Ports.length<=4);refine qU (qo1 hR hA.x hA.y px py (λc7=>?_) ?_)
 ·have v1:x.Value<bk.length:=by
   rcases Classical.em ((bk.length:Int)<=x.Value)with q | q
   ·have:=qdA (bk:=bk) c7 q;omega
   ·omega
  have:=Z7 (qEO hbk (h7 c7) v1);exact⟨h7 c7,v1,this.2⟩
 rw[<-qkX hg];have gb:=qc8 (bk:=bk) (x:=x) (y:=y);have el:(z9 ks).length=ks.length:=by simp[z9]
 have ew:IntKind.i64.wrap (((N.length:Nat):Int)-((z9 ks).length:Nat)+(ql bk x y).1)=(qT R N.length:Int)+(ql bk x y).1:=by rw[el,wsA];omega
 simp only[go_sem,ew];apply qI<;>intro hc<;>simp only[hc,go_sem]
 ·exact hK2 hg (by simpa using hc)
 have hfull:(qT R N.length:Int)+(ql bk x y).1<=600:=by simpa using hc
 clear hc;have G:zW R bk N a b x y:=⟨ok,hbk,hA,a0,b0,hf,hg,hfull⟩;have hK:=hK3 G;clear hK1 hK2 hK3;have P:=hA.pr;obtain⟨e,n0,n9⟩:=G.rule;obtain⟨r1,r2,r3,r4,r5,r6,r7,r8⟩:=Qz (ka:=x.Kind) (la:=x.Level) (kb:=y.Kind) (lb:=y.Level);have xz:=Z8 xok;have yz:=Z8 yok;have c17:=G.cls;apply qI<;>intro hc<;>simp only[hc,go_sem]
 ·have c1:qN x y=1:=by simpa using hc
  have p1:x.Ports.length=3:=ji xok (by have:=r1;have:=r2;omega);have p2:y.Ports.length=3:=ji yok (by have:=r1;have:=r2;omega);have w1:=XY P p1 p2;refine qU (KF (s:=1) (k:=1) hR.n (P.ax (by omega)) (P.by' (by omega)) (P.w.peer (P.ax (by omega)) (P.na (by omega))) (P.w.peer (P.by' (by omega)) (P.nb (by omega))) λg n k=>?_);simp only[go_sem];have a2:Has (jf N (pt a 1) (pt b 1)) a 2:=(P.ax (by omega)).same (JD _ _ _);have b2:Has (jf N (pt a 1) (pt b 1)) b 2:=(P.by' (by omega)).same (JD _ _ _);refine qU (KF (s:=2) (k:=2) n a2 b2 (w1.peer a2 (by rintro(q | q | q);exact P.na (by omega) q;omega;omega)) (w1.peer b2 (by rintro(q | q | q);exact P.nb (by omega) q;omega;omega)) λg2 n2 k2=>?_);simp only[go_sem];refine qU (Wx (lid:=g2.length) (ks:=ks) (rem:=[a,b]) (RW.app (hR.km n2 (k.toKM.trans k2.toKM)) [.row 1 [iI (a:Nat),iI (b:Nat)] true]) hm (by rw[gCl];rfl) nd2 (by simp) λh' m' j'=>?_);simp only[go_sem];refine hK _ ?_ ((k.toKM.trans k2.toKM).toKeep.trans ((Keep.app (hR.km n2 (k.toKM.trans k2.toKM)).n.bl).trans j'));have e7:zX (qN x y) a b=[a,b]:=by unfold zX;rw[if_neg (by omega)]
  have ea:zA bk N a b x y=XZ N a b:=by unfold zA;rw[if_pos (by omega)]
  rw[e7,ea];exact m'
 have n1:qN x y≠1:=by simpa using hc
 clear hc;apply qI<;>intro hc<;>simp only[hc,go_sem]
 ·have c2:qN x y=2:=by simpa using hc
  have p1:x.Ports.length=3:=ji xok (by have:=r1;have:=r2;omega);have p2:y.Ports.length=3:=ji yok (by have:=r1;have:=r2;omega);have w1:=XY P p1 p2;refine qU (KF (s:=1) (k:=1) hR.n (P.ax (by omega)) (P.by' (by omega)) (P.w.peer (P.ax (by omega)) (P.na (by omega))) (P.w.peer (P.by' (by omega)) (P.nb (by omega))) λg n k=>?_);simp only[go_sem];have a2:Has (jf N (pt a 1) (pt b 1)) a 2:=(P.ax (by omega)).same (JD _ _ _);have b2:Has (jf N (pt a 1) (pt b 1)) b 2:=(P.by' (by omega)).same (JD _ _ _);refine qU (KF (s:=2) (k:=2) n a2 b2 (w1.peer a2 (by rintro(q | q | q);exact P.na (by omega) q;omega;omega)) (w1.peer b2 (by rintro(q | q | q);exact P.nb (by omega) q;omega;omega)) λg2 n2 k2=>?_);simp only[go_sem];refine qU (Wx (lid:=g2.length) (ks:=ks) (rem:=[a,b]) (RW.app (hR.km n2 (k.toKM.trans k2.toKM)) [.row 1 [iI (a:Nat),iI (b:Nat)] true]) hm (by rw[gCl];rfl) nd2 (by simp) λh' m' j'=>?_);simp only[go_sem];refine hK _ ?_ ((k.toKM.trans k2.toKM).toKeep.trans ((Keep.app (hR.km n2 (k.toKM.trans k2.toKM)).n.bl).trans j'));have e7:zX (qN x y) a b=[a,b]:=by unfold zX;rw[if_neg (by omega)]
  have ea:zA bk N a b x y=XZ N a b:=by unfold zA;rw[if_pos (by omega)]
  rw[e7,ea];exact m'
 have n2:qN x y≠2:=by simpa using hc
 clear hc;apply qI<;>intro hc<;>simp only[hc,go_sem]
 ·have c3:qN x y=3:=by simpa using hc
  refine qU (qo2 (by decide) P hR.n (ji xok (.inr (.inr (.inl (r3 (e.trans c3)))))) (zi yok).2 (by omega) (by omega) λg n k=>?_);simp only[go_sem];refine qU (Wx (lid:=g.length) (ks:=ks) (rem:=[a,b]) (RW.app (hR.km n (k)) [.row 1 [iI (a:Nat),iI (b:Nat)] true]) hm (by rw[gCl];rfl) nd2 (by simp) λh' m' j'=>?_);simp only[go_sem];refine hK _ ?_ ((k).toKeep.trans ((Keep.app (hR.km n (k)).n.bl).trans j'));have e7:zX (qN x y) a b=[a,b]:=by unfold zX;rw[if_neg (by omega)]
  have ea:zA bk N a b x y=Qj N a b x y:=by unfold zA;rw[if_neg (by omega),if_pos c3]
  rw[e7,ea];exact m'
 have n3:qN x y≠3:=by simpa using hc
 clear hc;apply qI<;>intro hc<;>simp only[hc,go_sem]
 ·have c4:qN x y=4:=by simpa using hc
  have y0:=(zi yok).2;refine Sem.loop (α:=Nat×List qC) (λq=>q.1+1<=y.Ports.length/\NE 3 [sQ 1 bid bk.length,.map mid] base nid q.2 (jo b q.1 N)/\KM base h q.2)
   (λq=>(⟨[(0,.ptr nid 0 0),(6,iI (a:Nat)),(7,iI (b:Nat)),(9,iI ((q.1+1:Nat):Int))],[],q.2⟩:VSt)) (λq=>y.Ports.length-q.1) (0,h) (by kernel_rfl)
   ⟨by simp only;omega,hR.n,KM.refl⟩ csA ?_
  rintro⟨i,g⟩ ⟨hi,hn,hk⟩;simp only at hi hn hk;have hg2:(jo b i N).length=N.length+i:=UG;have yz':=yz;unfold qB.sz at yz';obtain⟨y',hy',cy⟩:=(XR (b:=b) (N:=N) (i:=i)).at (a:=b) (x:=y) (by rw[gAl lb];exact hA.y);obtain⟨aid,ps,q,_,o1,o2,o3⟩:=hn.rd hy';have hvy:pv y q=sQ 2 q y.Ports.length:=Qc y0;rw[UD cy]at o3;simp only[o1,zH (show b<(jo b i N).length by omega),o2,o3,hvy,go_sem];apply qI<;>intro hc<;>simp only[hc,go_sem]
  ·have hlt:i+1<y.Ports.length:=by have:=odT hc;omega
   clear hc;refine qU (X1 (n:=1) (by decide) hn (by omega) (by omega) λg1 m1 j1=>?_);simp only[go_sem];have b1:Has (jo b i N++[qS 5 0 0 [] 1]) b (i+1):=(UH (P.by' (by omega))).app;refine qU (Q0 (s:=i+1) (k:=0) m1 b1 (zd (by omega)) (((Yd P (i:=i) (by omega)).add (qS 5 0 0 [] 1)).peerX b1 (by rintro(⟨(q | q),_⟩ | q);exact P.nb (by omega) q.1;omega;omega) (.inr rfl)) λg2 m2 j2=>?_);simp only[go_sem,wuA (n:=i+1)];refine qb (i+1,g2) ⟨by simp only;omega,m2,hk.trans (j1.toKM.trans j2.toKM)⟩ (by simp only;omega) csA
  ·have hlt:i=y.Ports.length-1:=by have:=odF hc;omega
   clear hc;subst hlt;refine qU (Wx (lid:=g.length) (ks:=ks) (rem:=[a,b]) (RW.app (hR.km hn (hk)) [.row 1 [iI (a:Nat),iI (b:Nat)] true]) hm (by rw[gCl];rfl) nd2 (by simp) λh' m' j'=>?_);simp only[go_sem];refine hK _ ?_ ((hk).toKeep.trans ((Keep.app (hR.km hn (hk)).n.bl).trans j'));have e7:zX (qN x y) a b=[a,b]:=by unfold zX;rw[if_neg (by omega)]
   have ea:zA bk N a b x y=jo b (y.Ports.length-1) N:=by unfold zA;rw[if_neg (by omega),if_neg n3,if_pos c4]
   rw[e7,ea];exact m'
 have n4:qN x y≠4:=by simpa using hc
 clear hc;apply qI<;>intro hc<;>simp only[hc,go_sem]
 ·have c5:qN x y=5:=by simpa using hc
  have k5:=r5 (e.trans c5);refine qU (qo4 (by decide) P hR.n (λk8=>⟨Qu yok (.inl k8), ?_⟩) (λk8=>⟨by omega,ji yok (.inr (.inr (.inr (by omega))))⟩) (by omega) (by omega) λg n k=>?_)
  ·have:=ZQ yok;unfold z7 at this;rw[k8]at this;simp at this;omega
  simp only[go_sem];refine qU (Wx (lid:=g.length) (ks:=ks) (rem:=[a,b]) (RW.app (hR.km n (k)) [.row 1 [iI (a:Nat),iI (b:Nat)] true]) hm (by rw[gCl];rfl) nd2 (by simp) λh' m' j'=>?_);simp only[go_sem];refine hK _ ?_ ((k).toKeep.trans ((Keep.app (hR.km n (k)).n.bl).trans j'));have e7:zX (qN x y) a b=[a,b]:=by unfold zX;rw[if_neg (by omega)]
  have ea:zA bk N a b x y=if y.Kind=8 then Xq (opI y.Value (y.Data.getD 0 0) x.Value) N b else Z9 N b x y:=by unfold zA;rw[if_neg (by omega),if_neg n3,if_neg n4,if_pos c5]
  rw[e7,ea];exact m'
 have n5:qN x y≠5:=by simpa using hc
 clear hc;apply qI<;>intro hc<;>simp only[hc,go_sem]
 ·have c6:qN x y=6:=by simpa using hc
  have k6:=r6 (e.trans c6);refine qU (qo5 (by decide) P hR.n (Qu yok (by omega)) (λk11=>⟨by omega,(qDI yok k11).1⟩) (λk11=>?_) (by omega) (by omega) (by omega) λg n k=>?_)
  ·have q:x.Kind=9/\y.Kind=10:=by omega
   have v9:=qDF xok q.1;rw[zK]at v9;exact⟨q.1,(zi xok).2,v9.1,by omega⟩
  simp only[go_sem];refine qU (Wx (lid:=g.length) (ks:=ks) (rem:=[a,b]) (RW.app (hR.km n (k)) [.row 1 [iI (a:Nat),iI (b:Nat)] true]) hm (by rw[gCl];rfl) nd2 (by simp) λh' m' j'=>?_);simp only[go_sem];refine hK _ ?_ ((k).toKeep.trans ((Keep.app (hR.km n (k)).n.bl).trans j'));have e7:zX (qN x y) a b=[a,b]:=by unfold zX;rw[if_neg (by omega)]
  have ea:zA bk N a b x y=if y.Kind=11 then Xv y.Level (J3 x y) N b else ZA y.Level (y.Data.getD x.Value.toNat 0) N a b (x.Ports.length-1):=by unfold zA;rw[if_neg (by omega),if_neg n3,if_neg n4,if_neg n5,if_pos c6]
  rw[e7,ea];exact m'
 have n6:qN x y≠6:=by simpa using hc
 clear hc;apply qI<;>intro hc<;>simp only[hc,go_sem]
 ·have c7:qN x y=7:=by simpa using hc
  obtain⟨k12,v0,v1,t1,t2,t3⟩:=G.t7 c7;refine qU (qo6 (by decide) hA.pe hR.n hR.b.now ⟨v0,v1⟩ rfl t1 (zi yok).2 (by omega) (QX xok) ((qgF t1 (QX xok)).2 (by omega)) λg n k=>?_);simp only[go_sem];refine qU (Wx (lid:=g.length) (ks:=ks) (rem:=[a]) (RW.app (hR.km n k) [.row 1 [iI (a:Nat)] true]) hm (by rw[gCl];rfl) nd1 (by simp) λh' m' j'=>?_);simp only[go_sem];refine hK _ ?_ (k.toKeep.trans ((Keep.app (hR.km n k).n.bl).trans j'));have e7:zX (qN x y) a b=[a]:=by unfold zX;rw[if_pos c7]
  have ea:zA bk N a b x y=ZG N (zP bk x.Value) x.Level b:=by unfold zA;rw[if_neg (by omega),if_neg n3,if_neg n4,if_neg n5,if_neg n6]
  rw[e7,ea];exact m'
 ·have:qN x y≠7:=by simpa using hc
  omega
end
section
variable {w:Nat} {post:List AV} {base:Nat->Prop} {nid lid:Nat} {h:List qC} {N:Ags} {K:AV->List qC->Prop} {R:Nat->Bool}
theorem Keep.lo{n k:Nat}{h h':List qC}(hk:Keep (Lo k) h h')(hn:n<=k):Keep (Lo n) h h':=hk.up λ_ q=>Nat.lt_of_lt_of_le q hn
def Qm(R:Nat->Bool)(ks:List Nat):List (AV×AV):=ks.map λk=>(kI k,iI (qT R k:Nat))
theorem qm7{n:Nat}:(qh R n).Nodup:=List.Nodup.sublist List.filter_sublist List.nodup_range
theorem qCX{z:AV}{ks:List Nat}{v:Nat->AV}{n:Nat}(h:n∈ks):lku z false (kI n) (ks.map λk=>(kI k,v k))=some (v n):=by
 obtain⟨j,e⟩:=qc4 (v:=v) (i:=0) h;unfold lku;rw[e];rfl
theorem qdZ{z:AV}{ks:List Nat}{v:Nat->AV}{n:Nat}(h:n∉ks):lku z false (kI n) (ks.map λk=>(kI k,v k))=some z:=by
 unfold lku;rw[UO (v:=v) (i:=0) h];rfl
theorem Qo(xs:List Int):(∀n,qK (xs.map qQ) n=(xs.map qQ,[]))/\AV.pls (xs.map qQ)=true/\AV.trees (xs.map qQ)=true:=by
 have h2:∀ys:List Int,AV.pls (ys.map qQ)=true:=λys=>by
  induction ys with
  | nil=>rfl
  | cons y ys ih=>simp only[lMc,AV.pls,ih,Bool.and_true];rfl
 have h3:∀ys:List Int,∀n,qK (ys.map qQ) n=(ys.map qQ,[]):=λys=>by
  induction ys with
  | nil=>intro n;rfl
  | cons y ys ih=>intro n;simp only[lMc,qK,ih,lay,qQ];rfl
 exact⟨h3 xs,h2 xs,qa shI.tree _⟩
theorem qnQ(xs:List qE):(∀n,qK (xs.map qE.enc) n=(xs.map qE.enc,[]))/\AV.pls (xs.map qE.enc)=true/\AV.trees (xs.map qE.enc)=true:=by
 have h2:∀ys:List qE,AV.pls (ys.map qE.enc)=true:=λys=>by
  induction ys with
  | nil=>rfl
  | cons y ys ih=>simp only[lMc,AV.pls,ih,Bool.and_true];rfl
 have h3:∀ys:List qE,∀n,qK (ys.map qE.enc) n=(ys.map qE.enc,[]):=λys=>by
  induction ys with
  | nil=>intro n;rfl
  | cons y ys ih=>intro n;simp only[lMc,qK,ih,lay,qE.enc];rfl
 exact⟨h3 xs,h2 xs,qa qE.isSh.tree _⟩
theorem qnA{g:List qC}{x:qB}{p1 p2:Nat}(h1:g[p1]?=some (.row 1 (x.Data.map qQ) true))(h2:g[p2]?=some (.row 2 (x.Ports.map qE.enc) true))(ne:p1≠p2):
  qd [some p1,some p2] g (.agg [iI x.Kind,iI x.Level,iI x.Value,sQ 1 p1 x.Data.length,sQ 2 p2 x.Ports.length]) x.enc:=by
 obtain⟨f1,f2,f3⟩:=Qo x.Data;obtain⟨f4,f5,f6⟩:=qnQ x.Ports;have d:=(Xr (h:=g) f1 f2 f3).row h1 (by simp);have p:=(Xr (h:=g) f4 f5 f6).row h2 (by simp);rw[lMp]at d p;have i3:=((qo.nil (h:=g).scal (a:=iI x.Kind) (λ_=>rfl) rfl rfl).scal (a:=iI x.Level) (λ_=>rfl) rfl rfl).scal (a:=iI x.Value) (λ_=>rfl) rfl rfl;exact((i3.snoc d (by simp)).snoc p (by intro j hj;simp at hj|-;omega)).agg
theorem qnE{i:Nat}(hi:i<(qh R N.length).length):(qc N R).take (i+1)=(qc N R).take i++[qu R (N.getD ((qh R N.length)[i]) hole)]:=by
 unfold qc;rw[lTs (by simpa using hi),List.getElem_map]
theorem s702(hN:NE w post base nid h N)(hl:h[lid]?=some (.row 1 ((qh R N.length).map kI) true))(hp:∀k x,N[k]?=some x->R k=false->∀(s:Nat)(q:qE),x.Ports[s]?=some q->0<=q.Agent/\q.Agent<N.length/\R q.Agent.toNat=false)(hp0:∀k x,N[k]?=some x->R k=false->0<x.Ports.length/\x.sz<=1000)(hln:N.length<=10000)
  (hK:∀h' S oid,Keep (Lo h.length) h h'->(∀j,some j∈S->h.length<=j/\j<h'.length)->none∉S->qd S h' (.agg [.slice 5 oid 0 (qh R N.length).length false]) (qD.enc ⟨qc N R⟩)->K (.agg [.slice 5 oid 0 (qh R N.length).length false]) h'):SCall Gm 702 [.ptr nid 0 0,.slice 1 lid 0 (qh R N.length).length false] h K:=by
 have lo:(qh R N.length).length<=N.length:=XN;refine sI F702 ?_;simp only[F702,qM,go_sem];refine Sem.loop (λi:Nat=>i<=(qh R N.length).length/\True) (λi=>(⟨[(0,.ptr nid 0 0),(1,.slice 1 lid 0 (qh R N.length).length false),(5,.map h.length),(14,.slice 1 lid 0 (qh R N.length).length false),(15,iI ((qh R N.length).length:Nat)),(16,iI (i:Nat))],[(4,.agg [.nils])],h++[.map (Qm R ((qh R N.length).take i))]⟩:VSt)) (λi=>(qh R N.length).length-i) 0 (by kernel_rfl)
  ⟨nZl _,trivial⟩ csA ?_
 rintro i ⟨hi,_⟩;have hl1:∀{o:List qC},(h++o)[lid]?=some (.row 1 ((qh R N.length).map kI) true):=λ{o}=>by rw[gAl (qR hl)];exact hl
 simp only[go_sem];apply qI<;>intro hc<;>simp only[hc,go_sem]
 ·have hlt:i<(qh R N.length).length:=by have:=odT hc;omega
  clear hc;obtain⟨o1,o2,o3⟩:=qDK (gEg hlt);have hx:((qh R N.length).map kI)[i]?=some (iI (((qh R N.length)[i]:Nat):Int)):=by rw[gMp,gEg hlt];rfl
  have et:(qh R N.length).take (i+1)=(qh R N.length).take i++[(qh R N.length)[i]]:=lTs hlt;simp only[J8 hlt,hl1,hx,go_sem];have hf:jT (kI (qh R N.length)[i]) (Qm R ((qh R N.length).take i)) 0=some none:=UO (v:=λk=>iI (qT R k:Nat)) λq=>by
   have nd2:((qh R N.length).take (i+1)).Nodup:=qm7.sublist (List.take_sublist _ _);rw[et,List.nodup_append]at nd2;exact nd2.2.2 _ q _ (lMg.2 rfl) rfl
  refine qeC gCl hf ?_;have e2:Qm R ((qh R N.length).take i)++[(iI (((qh R N.length)[i]:Nat):Int),iI (i:Nat))]=Qm R ((qh R N.length).take (i+1)):=by rw[et];unfold Qm;rw[lMa (l₂:=[(qh R N.length)[i]]),List.map_singleton,o3];rfl
  rw[e2,lSr _ _ (nLr _),nSs,lSz];simp only[go_sem];simp only[wuA (n:=i)];refine qb (i+1) ⟨by omega, ?_⟩ (by omega) csA;trivial
 ·have hlt:i=(qh R N.length).length:=by have:=odF hc;omega
  clear hc;subst hlt;rw[lTl];obtain⟨h1,e1⟩:∃h1,h1=h++[qC.map (Qm R (qh R N.length))]:=⟨_,rfl⟩;rw[<-e1];have hm:h1[h.length]?=some (.map (Qm R (qh R N.length))):=by rw[e1];exact gCl
  have hl2:h1[lid]?=some (.row 1 ((qh R N.length).map kI) true):=by rw[e1];exact hl1
  have hN1:NE w post base nid h1 N:=by rw[e1];exact hN.app _
  have k1:Keep (Lo h.length) h h1:=by rw[e1];exact Keep.app (λ_ q=>q)
  clear e1 hl1;have bl:=hN1.bl;refine Sem.loop (α:=Nat×List qC×Nat) (λq=>q.1<=(qh R N.length).length/\Keep (Lo h1.length) h1 q.2.1/\h1.length<=q.2.2/\∃vs S,q.2.1[q.2.2]?=some (.row 5 vs true)/\qo S q.2.1 vs (((qc N R).take q.1).map qB.enc)/\(∀j,some j∈S->h1.length<=j/\j<q.2.1.length)/\some q.2.2∉S/\none∉S)
   (λq=>(⟨[(0,.ptr nid 0 0),(5,.map h.length),(25,.slice 1 lid 0 (qh R N.length).length false),(26,iI ((qh R N.length).length:Nat)),(27,iI (q.1:Nat))],[(4,.agg [.nils]),(8,.agg [sQ 5 q.2.2 q.1])],q.2.1⟩:VSt)) (λq=>(qh R N.length).length-q.1) (0,h1++[.row 5 [] true],h1.length) (by kernel_rfl)
   ⟨nZl _,Keep.app (λ_ q=>q),nLr _,[],[],by simp,qo.nil,by simp,by simp,by simp⟩
   (Can.ph (WkN.same rfl (WkN.same rfl (WkN.same rfl (WkN.same rfl (WkN.same rfl WkN.nil))))) (WkN.same rfl (WkN.cons rfl (Wk.agg (.cons (Wk.ph (by simp)) .nil)) WkN.nil))) ?_
  rintro⟨i,f,oid⟩ ⟨hi,jk,hoid,vs,S,ho,hO,hS,hnS,hnn⟩;simp only at hi jk hoid ho hO hS hnS;have fl:=jk.l;have fN:=hN1.keep jk;have fm:f[h.length]?=some (.map (Qm R (qh R N.length))):=(jk.k _ (qR hm)).trans hm;have fL:f[lid]?=some (.row 1 ((qh R N.length).map kI) true):=(jk.k _ (qR hl2)).trans hl2;have lpk:((qc N R).take i).length=i:=by rw[lLt,QE];exact nMl hi
  simp only[go_sem];apply qI<;>intro hc<;>simp only[hc,go_sem]
  ·have hlt:i<(qh R N.length).length:=by have:=odT hc;omega
   clear hc;obtain⟨o1,o2,o3⟩:=qDK (gEg hlt);have hkx:((qh R N.length).map kI)[i]?=some (iI (((qh R N.length)[i]:Nat):Int)):=by rw[gMp,gEg hlt];rfl
   have pks:=qnE (N:=N) hlt;generalize (qh R N.length)[i]=k at o1 o2 o3 hkx pks;have hx:=gEg o1;have hxd:N.getD k hole=N[k]:=by rw[lGd,hx];rfl
   have hzx:=(hp0 k _ hx o2).2;have hp0x:=(hp0 k _ hx o2).1;rw[hxd]at pks;generalize N[k]=x at hx hxd hzx hp0x pks;have hpx:=hp k x hx o2;obtain⟨aid,ps,hNA⟩:=fN;obtain⟨q,hq,ha,hr,hvx⟩:=hNA.at hx hp0x;have hzx':=hzx;unfold qB.sz at hzx';simp only[J8 hlt,fL,hkx,hNA.o,zH o1,hNA.a,ha,go_sem];refine Q9 (Cvs.cons (qB7 λ_=>hr) Cvs.nil) (qeD x (by omega)) ?_;simp only[qB.layE,AV.rows,ZJ,ZI,lNa,lAn,lCa,Wr,nZa];simp only[go_sem];refine lsA ?_;simp only[go_sem];have fm2:∀{o:List qC},(f++o)[h.length]?=some (.map (Qm R (qh R N.length))):=λ{o}=>by rw[gAl (qR fm)];exact fm
   refine Sem.loop (λj:Nat=>j<=x.Ports.length/\True) (λj=>(⟨[(0,.ptr nid 0 0),(5,.map h.length),(25,.slice 1 lid 0 (qh R N.length).length false),(26,iI ((qh R N.length).length:Nat)),(27,iI (i:Nat)),(41,iI (x.Ports.length:Nat)),(42,iI (j:Nat))],
    [(4,.agg [.nils]),(8,.agg [sQ 5 oid i]),(11,.agg [iI x.Kind,iI x.Level,iI x.Value,sQ 1 f.length x.Data.length,sQ 2 (f.length+1) x.Ports.length])],f++[.row 1 (x.Data.map qQ) true,.row 2 ((wC (WC R) x.Ports j).map qE.enc) true]⟩:VSt)) (λj=>x.Ports.length-j) 0 (by kernel_rfl) ⟨nZl _,trivial⟩
    (by rw[Yq];exact csA) ?_
   rintro j ⟨hj,_⟩;simp only[go_sem];apply qI<;>intro hc<;>simp only[hc,go_sem]
   ·have hlj:j<x.Ports.length:=by have:=odT hc;omega
    clear hc;have hq:=hpx j _ (gEg hlj);have hm:((wC (WC R) x.Ports j).map qE.enc)[j]?=some (x.Ports[j].enc):=by rw[gMp,Yr hlj];rfl
    have em:x.Ports[j].Agent.toNat∈qh R N.length:=qDL.2 ⟨by omega,hq.2.2⟩;have eu:lku (iI 0) false (iI x.Ports[j].Agent) (Qm R (qh R N.length))=some (iI (qT R x.Ports[j].Agent.toNat:Nat)):=by
     have:=qCX (z:=iI 0) (v:=λk=>iI (qT R k:Nat)) em;unfold kI at this;rw[show ((x.Ports[j].Agent.toNat:Nat):Int)=x.Ports[j].Agent by omega]at this;exact this
    simp only[JW hlj,Q2,hm,Ub fm2,eu,go_sem];refine qn rfl Q2 hm Y2 ?_;have ep:(⟨(qT R x.Ports[j].Agent.toNat:Nat),x.Ports[j].Slot⟩:qE)=WC R x.Ports[j]:=rfl;rw[ep,<-List.map_set,Yt hlj,KN];simp only[go_sem];have:x.Ports.length<=1000:=by omega
    simp only[wuA (n:=j)];refine qb (j+1) ⟨by omega, ?_⟩ (by omega) csA;trivial
   ·have hlj:j=x.Ports.length:=by have:=odF hc;omega
    clear hc;subst hlj;rw[Ys];have lo2:=qR ho;have lvs:vs.length=i:=by have:=hO.cnt;rw[this,lMp];exact lpk
    refine jO (len:=i) (x:=.agg [iI x.Kind,iI x.Level,iI x.Value,sQ 1 f.length x.Data.length,sQ 2 (f.length+1) x.Ports.length]) (w:=5) (by simp) (by rw[gAl (by simp;omega),gAl lo2];exact ho) lvs (by omega) ?_;have eP:x.Ports.map (WC R)=(qu R x).Ports:=rfl;rw[eP];have hX:qd [some f.length,some (f.length+1)] (f++[.row 1 (x.Data.map qQ) true,.row 2 ((qu R x).Ports.map qE.enc) true]) (AV.agg [iI x.Kind,iI x.Level,iI x.Value,sQ 1 f.length x.Data.length,sQ 2 (f.length+1) x.Ports.length]) (qu R x).enc:=by
     have:=qnA (x:=qu R x) (g:=f++[.row 1 (x.Data.map qQ) true,.row 2 ((qu R x).Ports.map qE.enc) true]) (p1:=f.length) (p2:=f.length+1) (by simp[qu]) (by rw[gAr (by omega),Nat.add_sub_cancel_left];rfl) (by omega);simpa[qu]using this
    obtain⟨G,hG,m1,m2,m3,m4,m5,m6,m7⟩:=qe1 hO (λj hj=>(hS j hj).2) ho hnS hX (λj hj=>by simp at hj;simp;omega);have em:((qc N R).take i).map qB.enc++[(qu R x).enc]=((qc N R).take (i+1)).map qB.enc:=by rw[pks];simp
    rw[em]at m1;rw[<-hG];simp only[go_sem];simp only[lAp,nZa,wuA (n:=i),go_sem];refine qb (i+1,G,f.length+3) ⟨hlt,jk.trans ⟨m6,λj hj=>m5 j (by omega) (by omega)⟩,by simp only;omega,_,_,m3,m1,λj hj=>⟨?_,m2 j hj⟩,m4,by simp[hnn]⟩ (by simp only;omega) csA;rcases m7 j hj with q | q
    ·exact(hS j q).1
    ·omega
  ·have hlt:i=(qh R N.length).length:=by have:=odF hc;omega
   clear hc;subst hlt;have ep:(qc N R).take (qh R N.length).length=qc N R:=List.take_of_length_le (by rw[QE];exact nLr _);rw[ep]at hO lpk;have k2:=k1.trans (jk.lo k1.l);have lvs:vs.length=(qh R N.length).length:=by have:=hO.cnt;rw[this,lMp];exact lpk
   have r:=hO.row ho hnS;rw[lMp,lpk]at r;have k3:=k1.l;exact hK f (some oid::S) _ k2 (λj hj=>by
    rcases List.mem_cons.1 hj with q | q
    ·cases q;exact⟨by omega,qR ho⟩
    ·have:=hS j q;exact⟨by omega,this.2⟩) (by simp[hnn]) r.one.agg
end
@[go_sem] theorem qwG{w:Nat}:(AV.map w).cells=[.map w]:=rfl
section
variable {w:Nat} {post:List AV} {bk:List qD} {bid:Nat} {base:Nat->Prop} {nid mid:Nat} {h:List qC} {N:Ags} {K:AV->List qC->Prop} {R:Nat->Bool} {ks:List Nat}
theorem NE.up{b c:Nat->Prop}(hN:NE w post c nid h N)(hb:∀j,b j->c j):NE w post b nid h N:=by
 obtain⟨aid,ps,n⟩:=hN;exact⟨aid,ps,{n with b1:=λq=>n.b1 (hb _ q),b2:=λq=>n.b2 (hb _ q),b3:=λq hq r=>n.b3 q hq (hb _ r),bl:=λj hj=>n.bl j (hb _ hj)}⟩
theorem s982{n:qD}{u:AV}(hc:Cv h (.agg [u]) n.enc)(hz:n.sz<=1048576)(h0:0<n.Agents.length)(hTP:∀z∈n.Agents,0<z.Ports.length)(hK:∀H mid nid,h.length<=nid->nid<H.length->h.length<=mid->mid<H.length->Keep (Lo h.length) h H->
   (∀G,H.length<=G.length->(∀j,h.length<=j->j<H.length->G[j]?=H[j]?)->∃G',(∀b s m,Can b ⟨s,m,G⟩ ⟨s,m,G'⟩)/\NE 3 [sQ 1 bid bk.length,.map mid] (λj=>j<h.length\/(H.length<=j/\j<G.length)) nid G' n.Agents/\G'[mid]?=some (.map [])/\G'.length=G.length/\∀j,j<h.length\/H.length<=j->G'[j]?=G[j]?)->
   K (.ptr nid 0 0) H):SCall Gm 982 [sQ 1 bid bk.length,.agg [u]] h K:=by
 refine sI F982 ?_;simp only[F982,qM,go_sem];refine qZ (by simp only[go_sem]) ?_;simp only[go_sem];refine Q9 (vs':=[n.enc]) (Cvs.cons hc Cvs.nil) (Ul n hz) ?_;have eL:(lay n.enc h.length)=(.agg [sQ 5 h.length n.Agents.length],.row 5 (qK (n.Agents.map qB.enc) (h.length+1)).1 true::(qK (n.Agents.map qB.enc) (h.length+1)).2):=by rw[qD.layE,lAn];rfl
 rw[eL];simp only[go_sem];obtain⟨H0,eH⟩:∃H0,H0=h++qC.row 5 (qK (n.Agents.map qB.enc) (h.length+1)).1 true::(qK (n.Agents.map qB.enc) (h.length+1)).2:=⟨_,rfl⟩;rw[<-eH];have f1:H0[h.length]?=some (.row 5 (qK (n.Agents.map qB.enc) (h.length+1)).1 true):=by rw[eH,gAr (nLr _),nSs];rfl
 have f2:∀i o,(qK (n.Agents.map qB.enc) (h.length+1)).2[i]?=some o->H0[h.length+1+i]?=some o:=λi o ho=>by rw[eH,gAr (by omega),show h.length+1+i-h.length=i+1 by omega,List.getElem?_cons_succ];exact ho
 have f3:H0.length=h.length+1+2*n.Agents.length:=by rw[eH];simp[Wc];omega
 have f4:∀j,j<h.length->H0[j]?=h[j]?:=λj hj=>by rw[eH,gAl hj]
 clear eH eL;refine WX rfl ?_;simp only[go_sem];have g1:∀j,j<H0.length->(H0++[qC.map []]++[qC.row 3 [.agg [sQ 5 h.length n.Agents.length,sQ 1 bid bk.length,.map H0.length]] true])[j]?=H0[j]?:=λj hj=>by rw[gAl (by simp;omega),gAl hj]
 have lH:(H0++[qC.map []]++[qC.row 3 [.agg [sQ 5 h.length n.Agents.length,sQ 1 bid bk.length,.map H0.length]] true]).length=H0.length+2:=by simp
 have gm:(H0++[qC.map []]++[qC.row 3 [.agg [sQ 5 h.length n.Agents.length,sQ 1 bid bk.length,.map H0.length]] true])[H0.length]?=some (.map []):=by
  rw[gAl (by simp)];exact gCl
 have gn:(H0++[qC.map []]++[qC.row 3 [.agg [sQ 5 h.length n.Agents.length,sQ 1 bid bk.length,.map H0.length]] true])[(H0++[qC.map []]).length]?=some (qC.row 3 [.agg [sQ 5 h.length n.Agents.length,sQ 1 bid bk.length,.map H0.length]] true):=gCl;have ln:(H0++[qC.map []]).length=H0.length+1:=by simp
 rw[ln]at gn|-;generalize H0++[qC.map []]++[qC.row 3 [.agg [sQ 5 h.length n.Agents.length,sQ 1 bid bk.length,.map H0.length]] true]=H at g1 lH gm gn|-;refine hK H H0.length (H0.length+1) (by omega) (by omega) (by omega) (by omega) ⟨by omega,λj hj=>by rw[g1 _ (by omega),f4 _ hj]⟩ λG lG eG=>?_;obtain⟨h2,c2,n2,k2,l2,k3⟩:=NA.ofLay (w:=3) (post:=[sQ 1 bid bk.length,.map H0.length]) (base:=λj=>j<h.length\/(H.length<=j/\j<G.length)) (nid:=H0.length+1) (aid:=h.length) (N:=n.Agents) (h:=G) (by rw[eG _ (by omega) (by omega)];exact gn)
  (by rw[eG _ (by omega) (by omega),g1 _ (by omega)];exact f1)
  (λi o hi=>by
   have:=qR hi;rw[Wc]at this;rw[eG _ (by omega) (by omega),g1 _ (by omega)];exact f2 i o hi) hTP h0 (.inr (by omega)) (by omega) (λj q r=>by omega) (λj q=>by omega)
 refine⟨h2,c2,⟨_,_,n2⟩, ?_,l2,λj hj=>k3 _ (by omega)⟩;rw[k3 _ (.inr (by omega)),eG _ (by omega) (by omega)];exact gm
theorem qm8{i:Nat}:(qh R (i+1)).map kI=(qh R i).map kI++if R i then []else [kI i]:=by rw[Uu];split<;>simp
theorem s985(hnE:NE 3 [sQ 1 bid bk.length,.map mid] base nid h N)(hmp:h[mid]?=some (.map (z9 ks)))(hk:∀k,k<N.length->(k∈ks↔R k=true))(hp:∀k x,N[k]?=some x->R k=false->∀(s:Nat)(q:qE),x.Ports[s]?=some q->0<=q.Agent/\q.Agent<N.length/\R q.Agent.toNat=false)(hp0:∀k x,N[k]?=some x->R k=false->0<x.Ports.length/\x.sz<=1000)(hln:N.length<=10000)
  (hK:∀h' S oid,Keep (Lo h.length) h h'->(∀j,some j∈S->h.length<=j/\j<h'.length)->none∉S->qd S h' (.agg [.slice 5 oid 0 (qh R N.length).length false]) (qD.enc ⟨qc N R⟩)->K (.agg [.slice 5 oid 0 (qh R N.length).length false]) h'):SCall Gm 985 [.ptr nid 0 0] h K:=by
 refine sI F985 ?_;obtain⟨aid,ps,hNA⟩:=id hnE;simp only[F985,qM,go_sem,hNA.o];refine Sem.loop (α:=Nat×List qC×Nat) (λq=>q.1<=N.length/\Keep (Lo h.length) h q.2.1/\h.length<=q.2.2/\q.2.1[q.2.2]?=some (.row 1 ((qh R q.1).map kI) true))
  (λq=>(⟨[(0,.ptr nid 0 0),(3,.slice 1 q.2.2 0 (qh R q.1).length false),(10,iI (N.length:Nat)),(11,iI (q.1:Nat))],[(2,.agg [.nils])],q.2.1⟩:VSt)) (λq=>N.length-q.1) (0,h++[.row 1 [] true],h.length) (by kernel_rfl)
  ⟨nZl _,Keep.app (λ_ q=>q),nLr _,by simp[qh]⟩
  (Can.ph (WkN.same rfl (WkN.cons rfl (Wk.ph (by simp)) (WkN.same rfl (WkN.same rfl WkN.nil)))) (WkN.same rfl WkN.nil)) ?_
 rintro⟨i,g,oid⟩ ⟨hi,jk,hoid,ho⟩;simp only at hi jk hoid ho;have gN:=hnE.keep jk;have gm:g[mid]?=some (.map (z9 ks)):=(jk.k _ (qR hmp)).trans hmp;have on:g[nid]?=_:=(jk.k _ hNA.lt).trans hNA.o;simp only[go_sem];apply qI<;>intro hc<;>simp only[hc,go_sem]
 ·have hlt:i<N.length:=by have:=odT hc;omega
  clear hc;have hki:=hk i hlt;have os:=qm8 (R:=R) (i:=i);have cs:=jP (R:=R) (n:=i);have cl:=XN (R:=R) (n:=i);unfold qT at cs cl;by_cases q:R i=true
  ·have eu:lku (.bool false) false (iI (i:Nat)) (z9 ks)=some (.bool true):=qCX (v:=λ_=>.bool true) (hki.2 q);rw[q,if_pos rfl]at os cs;rw[lAn]at os;simp only[on,Ub gm,eu,go_sem];simp only[wuA (n:=i)];exact qb (i+1,g,oid) ⟨hlt,jk,hoid,by simp only;rw[os];exact ho⟩ (by simp only;omega) (Can.sub (by simp[go_sem,cs]) (by simp[go_sem]))
  ·have q:R i=false:=by simpa using q
   have eu:lku (.bool false) false (iI (i:Nat)) (z9 ks)=some (.bool false):=qdZ (v:=λ_=>.bool true) (λe=>by rw[hki.1 e]at q;cases q);rw[q]at os cs;simp only[bFt,if_false]at os cs;simp only[on,Ub gm,eu,go_sem];obtain⟨r1,r2⟩:=Qb (tmp:=.row 1 [iI (i:Nat)] true) ho;obtain⟨q1,q2⟩:=Uw (x:=iI (i:Nat)) (tmp:=.row 1 [iI (i:Nat)] true) jk (λ_ q=>q) (Nat.not_lt.2 hoid) ho;refine jO r2 r1 (by simp) (by omega) ?_;simp only[lAp,nZa,wuA (n:=i),<-cs,go_sem];exact qb (i+1,_,g.length+1) ⟨hlt,q1,by have:=jk.l;simp only;omega,by simp only;rw[os];exact q2⟩ (by simp only;omega) csA
 ·have hlt:i=N.length:=by have:=odF hc;omega
  clear hc;subst hlt;refine qU (s702 gN ho (λk x hx hr=>hp k x hx hr) hp0 hln λh' S oid2 jk2 hS hn hO=>?_);simp only[go_sem];have:=jk.l;exact hK h' S oid2 (jk.trans (jk2.lo jk.l)) (λj hj=>by have:=hS j hj;omega) hn hO
end
def ZT(r:Nat->Nat)(p:qE):qE:=⟨(r p.Agent.toNat:Nat),p.Slot⟩
def jD(r:Nat->Nat)(x:qB):qB:={x with Ports:=x.Ports.map (ZT r)}
theorem qoG{r:Nat->Nat}{a s:Nat}:ZT r (pt a s)=pt (r a) s:=rfl
structure Emb(r:Nat->Nat)(R:Nat->Bool)(N M:Ags):Prop where
 i:∀k,R k=false->M[r k]?=(N[k]?).map (jD r)
 j:∀k l,R k=false->R l=false->r k=r l->k=l
 l:∀k,r (N.length+k)=M.length+k
 z:r 0=0
section
variable {r:Nat->Nat} {R:Nat->Bool} {N M:Ags} {a b c d s t k f n:Nat} {x y:qB} {lab lev v:Int} {X:Nat->Nat->Prop}
theorem Emb.at(h:Emb r R N M)(ha:R a=false):atP M (r a) s=(atP N a s).map (ZT r):=by
 unfold atP;rw[h.i a ha];cases N[a]? with
 | none=>rfl
 | some x=>simp[jD]
theorem Emb.set(h:Emb r R N M)(ha:R a=false){q:qE}:Emb r R (w6 N (pt a s) q) (w6 M (pt (r a) s) (ZT r q)):=by
 refine⟨λk hk=>?_,h.j,λk=>by rw[W3,W3];exact h.l k,h.z⟩;cases hx:N[a]? with
 | none=>
  have hm:=h.i a ha;rw[hx]at hm;rw[VF hx,VF hm];exact h.i k hk
 | some x=>
  have hm:=h.i a ha;rw[hx]at hm;rw[W2 hx,W2 hm];obtain⟨n1,n2⟩:=gSi.1 hx;obtain⟨m1,m2⟩:=gSi.1 hm;by_cases e:k=a
  ·subst e;rw[gSs m1,gSs n1];simp[jD,List.map_set]
  ·rw[gSn (λq=>e (h.j a k ha hk q).symm),gSn (Ne.symm e)];exact h.i k hk
theorem Emb.link(h:Emb r R N M)(ha:R a=false)(hc:R c=false):Emb r R (ze N (pt a s) (pt c k)) (ze M (pt (r a) s) (pt (r c) k)):=
 (h.set ha (q:=pt c k)).set hc (q:=pt a s)
theorem Emb.peer(h:Emb r R N M)(w:W N X)(hX:∀u v,R u=true->X u v)(ha:R a=false)(h1:Has N a s)(x1:¬X a s):∃c k,z6 N (pt a s)=pt c k/\z6 M (pt (r a) s)=pt (r c) k/\R c=false:=by
 obtain⟨c,k,e1,e2,_,e4,_⟩:=w.live h1 x1;have hc:R c=false:=by cases q:R c with | false=>rfl | true=>exact absurd (hX c k q) e4
 exact⟨c,k,e1,Wq (by rw[h.at ha,e2];rfl),hc⟩
theorem Emb.move(h:Emb r R N M)(w:W N X)(hX:∀u v,R u=true->X u v)(ha:R a=false)(h1:Has N a s)(x1:¬X a s)(hc:R c=false):Emb r R (zq N (pt a s) (pt c k)) (zq M (pt (r a) s) (pt (r c) k)):=by
 obtain⟨d,t,e1,e2,hd⟩:=h.peer w hX ha h1 x1;unfold zq;rw[e1,e2];exact h.link hc hd
theorem Emb.join(h:Emb r R N M)(w:W N X)(hX:∀u v,R u=true->X u v)(ha:R a=false)(h1:Has N a s)(x1:¬X a s)(hc:R c=false)(h2:Has N c k)(x2:¬X c k):Emb r R (jf N (pt a s) (pt c k)) (jf M (pt (r a) s) (pt (r c) k)):=by
 obtain⟨d,t,e1,e2,hd⟩:=h.peer w hX ha h1 x1;obtain⟨d',t',f1,f2,hd'⟩:=h.peer w hX hc h2 x2;unfold jf;rw[e1,e2,f1,f2];by_cases e:pt d t=pt c k
 ·have q:=wO.1 e;rw[if_pos e,if_pos (by rw[q.1,q.2])];exact h
 ·rw[if_neg e,if_neg (λq=>e (wO.2 ⟨h.j d c hd hc (wO.1 q).1,(wO.1 q).2⟩))];exact h.link hd hd'
theorem Emb.app(h:Emb r R N M){L:Ags}(hv:∀k,N.length<=k->R k=false):Emb r R (N++L) (M++L.map (jD r)):=by
 refine⟨λk hk=>?_,h.j,λk=>by simp only[lAp,lMp,Nat.add_assoc];exact h.l _,h.z⟩;rcases Nat.lt_or_ge k N.length with q | q
 ·have:=h.i k hk;rw[gEg q]at this;rw[gAl q,gAl (gSi.1 this).1,gEg q,this]
 ·obtain⟨k,rfl⟩:∃j,k=N.length+j:=⟨k-N.length,by omega⟩;rw[h.l,gAr (by omega),gAr (by omega),Nat.add_sub_cancel_left,Nat.add_sub_cancel_left,gMp]
theorem qoF(h:r 0=0){k l v:Int}{e:List Int}{n:Nat}:jD r (qS k l v e n)=qS k l v e n:=by
 simp only[jD,qS,List.map_replicate,ZT];simp[h]
theorem Emb.add(h:Emb r R N M)(hv:∀k,N.length<=k->R k=false){k l v:Int}{e:List Int}{n:Nat}:Emb r R (N++[qS k l v e n]) (M++[qS k l v e n]):=by
 have:=h.app (L:=[qS k l v e n]) hv;simpa[qoF h.z]using this
end
section
variable {r:Nat->Nat} {R:Nat->Bool} {N M:Ags} {a b c d s t k f n:Nat} {x y:qB} {lab lev v:Int} {X:Nat->Nat->Prop}
theorem Y7{x:qB}:(jD r x).Ports.length=x.Ports.length:=by simp[jD]
theorem Act.hv(h:Act R N a b x y){k:Nat}(hk:N.length<=k):R k=false:=by
 cases q:R k with
 | false=>rfl
 | true=>have:=h.rl k q;omega
theorem Emb.l0(h:Emb r R N M):r N.length=M.length:=h.l 0
theorem qlJ(h:Act R N a b x y)(E:Emb r R N M)(hx:x.Ports.length=3)(hy:y.Ports.length=3):Emb r R (XZ N a b) (XZ M (r a) (r b)):=by
 have h':=h.pr;have ne:=h.ne;have n1:=h'.na (q:=2) (by omega);have n2:=h'.nb (q:=2) (by omega);have e1:=E.join h'.w (λu v e=>.inl e) h.ra (h'.ax (k:=1) (by omega)) (h'.na (by omega)) h.rb (h'.by' (k:=1) (by omega)) (h'.nb (by omega));exact e1.join (XY h' hx hy) (λu v e=>.inl (.inl e)) h.ra ((h'.ax (k:=2) (by omega)).same (JD _ _ _)) (by rintro(q | q | q);exact n1 q;omega;omega) h.rb ((h'.by' (k:=2) (by omega)).same (JD _ _ _)) (by rintro(q | q | q);exact n2 q;omega;omega)
theorem qcT(E:Emb r R N M)(hv:∀k,N.length<=k->R k=false)(hc:R c=false)(hd:R d=false):∀{i:Nat},Emb r R (J7 lab c d i N) (J7 lab (r c) (r d) i M)
 | 0=>E
 | i+1=>by
  have ih:=qcT E hv hc hd (i:=i);have hl:N.length<=(J7 lab c d i N).length:=by rw[qcU];omega
  have e:=(ih.add (k:=4) (l:=lab) (v:=0) (e:=[]) (n:=3) λk hk=>hv k (by omega)).link (a:=(J7 lab c d i N).length) (s:=1) (c:=c) (k:=i+1) (hv _ hl) hc;have e2:=e.link (a:=(J7 lab c d i N).length) (s:=2) (c:=d) (k:=i+1) (hv _ hl) hd;rw[ih.l0]at e2;exact e2
theorem qeB(E:Emb r R N M)(h:W N X)(hX:∀u v,R u=true->X u v)(hb:b<=f)(rb:R b=false){f':Nat}(hf':∀k,1<=k->k<=n->r (f+k)=f'+k/\R (f+k)=false)(ho:∀k,1<=k->k<=n->Has N b k/\¬X b k)(hf:∀k,1<=k->k<=n->Has N (f+k) s/\X (f+k) s):
  ∀{i:Nat},i<=n->Emb r R (jz b f s i N) (jz (r b) f' s i M)
 | 0,_=>E
 | i+1,hi=>by
  have ih:=qeB E h hX hb rb hf' ho hf (i:=i) (by omega);have h1:=ho (i+1) (by omega) hi;have h2:=hf' (i+1) (by omega) hi;have e:=ih.move (a:=b) (s:=i+1) (c:=f+(i+1)) (k:=s) (Uj h hb ho hf (i:=i) (by omega)) (λu v q=>.inl ⟨hX u v q,λw=>by have:=(hf' (u-f) (by omega) (by omega)).2;rw[show f+(u-f)=u by omega,q]at this;cases this⟩) rb (h1.1.same Qt) (by rintro(q | q);exact h1.2 q.1;omega) h2.2;rw[h2.1]at e;exact e
theorem qjZ(E:Emb r R N M)(hv:∀k,N.length<=k->R k=false):Emb r R (wJ N y) (wJ M (jD r y)):=by
 unfold wJ;rw[Y7];exact(E.add hv).add λk hk=>hv k (by simp at hk;omega)
theorem qj0(E:Emb r R N M)(hv:∀k,N.length<=k->R k=false){i:Nat}:Emb r R (zG N x y i) (zG M (jD r x) (jD r y) i):=by
 have:=qcT (lab:=x.Level) (qjZ (y:=y) E hv) (λk hk=>hv k (by rw[WU]at hk;omega)) (c:=N.length) (d:=N.length+1) (hv _ (nLr _)) (hv _ (by omega)) (i:=i);rw[E.l0,E.l 1]at this;exact this
theorem qj1(h:Act R N a b x y)(E:Emb r R N M)(hx:x.Ports.length=3)(hy:0<y.Ports.length):Emb r R (Zj N a x y) (Zj M (r a) (jD r x) (jD r y)):=by
 have la:=h.pr.la;have e:=(qj0 (x:=x) (y:=y) E (λk hk=>h.hv hk) (i:=y.Ports.length-1)).move (V7 h.pr hy) (λu v e=>.inl ⟨.inl e,h.rl u e⟩) h.ra (J4 (h.pr.ax (k:=1) (by omega))) (λe=>by rcases e with q | q;exact h.pr.na (by omega) q.1;omega) (c:=N.length) (k:=0) (h.hv (nLr _));rw[E.l0]at e;unfold Zj;rw[Y7];exact e
theorem qj2(h:Act R N a b x y)(E:Emb r R N M)(hx:x.Ports.length=3)(hy:0<y.Ports.length):Emb r R (Ya N a x y) (Ya M (r a) (jD r x) (jD r y)):=by
 have la:=h.pr.la;have e:=(qj1 h E hx hy).move (V9 h.pr hx hy) (λu v e=>.inl ⟨.inl e,h.rl u e⟩) h.ra ((J4 (h.pr.ax (k:=2) (by omega))).same Zk) (λe=>by rcases e with q | q | q;exact h.pr.na (by omega) q.1;omega;omega) (c:=N.length+1) (k:=0) (h.hv (by omega));rw[E.l 1]at e;exact e
theorem qj4(h:Act R N a b x y)(E:Emb r R N M)(hx:x.Ports.length=3)(hy:0<y.Ports.length):Emb r R (Qj N a b x y) (Qj M (r a) (r b) (jD r x) (jD r y)):=by
 have lb:=h.pr.lb;have ne:=h.ne;unfold Qj QN;rw[Y7];refine qeB (n:=y.Ports.length-1) (qj2 h E hx hy) (qB4 h.pr hx hy) (λu v e=>.inl ⟨.inl e,h.rl u e⟩) (by omega) h.rb (λk k1 k2=>⟨by rw[Nat.add_assoc,E.l];omega,h.hv (by omega)⟩) (λk k1 k2=>⟨(J4 (h.pr.by' (by omega))).same Yb, ?_⟩) (λk k1 k2=>⟨?_,.inr (.inl ⟨by omega,rfl⟩)⟩) (nLr _)
 ·rintro(q | q | q)
  ·exact h.pr.nb (by omega) q.1
  ·omega
  ·exact ne q.1.symm
 ·have:=V8 (N:=N) (x:=x) (y:=y) (i:=y.Ports.length-1) (j:=k-1) (s:=0) (by omega) (by omega);rw[show N.length+2+(k-1)=N.length+1+k by omega]at this;exact this.same Yb
theorem qcQ(h:Act R N a b x y)(E:Emb r R N M):∀{i:Nat},i<=y.Ports.length-1->Emb r R (jo b i N) (jo (r b) i M)
 | 0,_=>E
 | i+1,hi=>by
  have ih:=qcQ h E (i:=i) (by omega);have lb:=h.pr.lb;have hl:(jo b i N).length=N.length+i:=UG;have e:=(ih.add (k:=5) (l:=0) (v:=0) (e:=[]) (n:=1) λk hk=>h.hv (by omega)).move (a:=b) (s:=i+1) (c:=(jo b i N).length) (k:=0) ((Yd h.pr (i:=i) (by omega)).add (qS 5 0 0 [] 1)) (λu v e=>.inl ⟨.inl ⟨.inl e,h.rl u e⟩,by have:=h.rl u e;omega⟩) h.rb (UH (h.pr.by' (by omega))).app (by
   rintro(⟨(q | q),_⟩ | q)
   ·exact h.pr.nb (by omega) q.1
   ·omega
   ·omega) (h.hv (by omega))
  rw[ih.l0]at e;exact e
theorem qDJ(h:Act R N a b x y)(E:Emb r R N M)(hy:1<y.Ports.length){k l v:Int}{e:List Int}{n:Nat}:Emb r R (zq (N++[qS k l v e n]) (pt b 1) (pt N.length 0)) (zq (M++[qS k l v e n]) (pt (r b) 1) (pt M.length 0)):=by
 have lb:=h.pr.lb;have n1:=h.pr.nb (q:=1) (by omega);have q:=(E.add (k:=k) (l:=l) (v:=v) (e:=e) (n:=n) λk hk=>h.hv hk).move (a:=b) (s:=1) (c:=N.length) (k:=0) (QI h.pr) (λu v e=>.inl ⟨.inl e,h.rl u e⟩) h.rb (h.pr.by' hy).app (by rintro(q | q);exact n1 q.1;omega) (h.hv (nLr _));rw[E.l0]at q;exact q
theorem qm4(h:Act R N a b x y)(E:Emb r R N M)(hy:y.Ports.length=3):Emb r R (Z9 N b x y) (Z9 M (r b) (jD r x) (jD r y)):=by
 have lb:=h.pr.lb;have q:=(qDJ h E (by omega) (k:=8) (l:=y.Level) (v:=y.Value) (e:=[x.Value]) (n:=2)).move (a:=b) (s:=2) (c:=N.length) (k:=1) (qeY h hy) (λu v e=>.inl ⟨.inl e,h.rl u e⟩) h.rb ((h.pr.by' (by omega)).app.same ZR) (by rintro(q | q | q);exact h.pr.nb (by omega) q.1;omega;omega) (h.hv (nLr _));rw[E.l0]at q;exact q
theorem qa5(h:Act R N a b x y)(E:Emb r R N M):∀{i:Nat},i<=x.Ports.length-1->Emb r R (zf lev v N a i) (zf lev v M (r a) i)
 | 0,_=>E.add λk hk=>h.hv hk
 | i+1,hi=>by
  have ih:=qa5 h E (i:=i) (by omega);have la:=h.pr.la;have hl:(zf lev v N a i).length=N.length+1+i:=Vh;have e0:zU i<=2:=by unfold zU;split<;>omega
  have w1:=((XI h.pr (lev:=lev) (v:=v) (i:=i) (by omega)).add (qS 3 lev 0 [] 3)).link (a:=N.length+i) (s:=zU i) (c:=(zf lev v N a i).length) (k:=0) WP.app (zd (by omega)) (.inl ⟨.inr (.inr ⟨rfl,rfl⟩),by omega⟩) (.inr rfl) (by omega);have n1:=h.pr.na (q:=i+1) (by omega);have q1:=(ih.add (k:=3) (l:=lev) (v:=0) (e:=[]) (n:=3) λk hk=>h.hv (by omega)).link (a:=N.length+i) (s:=zU i) (c:=(zf lev v N a i).length) (k:=0) (h.hv (by omega)) (h.hv (by omega));have q2:=q1.move (a:=a) (s:=i+1) (c:=(zf lev v N a i).length) (k:=1) w1 (λu v e=>⟨.inl ⟨.inl ⟨.inl e,h.rl u e⟩,by have:=h.rl u e;omega⟩,by have:=h.rl u e;omega,by have:=h.rl u e;omega⟩) h.ra ((WQ (h.pr.ax (by omega))).app.same (zo _ _ _)) (by
   rintro⟨⟨(q | q | q),_⟩ | q,_⟩
   ·exact n1 q.1
   ·omega
   ·omega
   ·omega) (h.hv (by omega))
  rw[ih.l0,E.l]at q2;exact q2
theorem qiW(h:Act R N a b x y)(E:Emb r R N M)(hx:0<x.Ports.length)(hy:y.Ports.length=2):Emb r R (ZA lev v N a b (x.Ports.length-1)) (ZA lev v M (r a) (r b) (x.Ports.length-1)):=by
 have la:=h.pr.la;have lb:=h.pr.lb;have ne:=h.ne;have q:=(qa5 h E (lev:=lev) (v:=v) (nLr _)).move (a:=b) (s:=1) (c:=N.length+(x.Ports.length-1)) (k:=zU (x.Ports.length-1)) (XI h.pr (nLr _)) (λu v e=>.inl ⟨.inl e,h.rl u e⟩) h.rb (WQ (h.pr.by' (by omega))) (by rintro(q | q | q);exact h.pr.nb (by omega) q.1;omega;omega) (h.hv (by omega));rw[E.l]at q;exact q
end
section
variable {r:Nat->Nat} {R:Nat->Bool} {bk:List qD} {N M:Ags} {a b c d s k f n:Nat} {x y:qB} {t:qD} {lev v:Int} {X:Nat->Nat->Prop}
theorem X3{L:Ags}{a s:Nat}{q:qE}{k:Nat}(h:k≠a):(w6 L (pt a s) q)[k]?=L[k]?:=by
 cases e:L[a]? with
 | none=>rw[VF e]
 | some x=>rw[W2 e,gSn (Ne.symm h)]
theorem qgG(E:Emb r R N M){p:qE}{b q:Nat}(hp:p=pt (b+1) q):ZT r ⟨p.Agent+((N.length:Int)-1),p.Slot⟩=⟨p.Agent+((M.length:Int)-1),p.Slot⟩:=by
 subst hp;have e:((((b+1:Nat):Int)+((N.length:Int)-1))).toNat=N.length+b:=by omega
 simp only[ZT,pt,e,E.l,qE.mk.injEq,and_true]
 push_cast;omega
theorem qkJ(h:Act R N a b x y)(E:Emb r R N M)(ht:zB t=true){c s:Nat}(hp:atP t.Agents 0 0=some (pt (c+1) s)):Emb r R (w6 (jJ N t lev) (pt (N.length+c) s) (pt b 0)) (w6 (jJ M t lev) (pt (M.length+c) s) (pt (r b) 0)):=by
 have wt:=QW ht;obtain⟨b0,t0,f1,f2,_,_⟩:=wt 0 0 _ hp id;have f3:=wO.1 f1;rw[<-f3.1,<-f3.2]at f2;refine⟨λk hk=>?_,E.j,λk=>?_,E.z⟩
 ·rcases Nat.lt_or_ge k N.length with q | q
  ·have hm:=E.i k hk;rw[gEg q]at hm;have lm:=(gSi.1 hm).1;rw[X3 (by omega),X3 (by omega)];unfold jJ;rw[gAl q,gAl lm,E.i k hk]
  ·obtain⟨k,rfl⟩:∃j,k=N.length+j:=⟨k-N.length,by omega⟩;rw[E.l];have live:∀(s':Nat)(z:qB)(p:qE),t.Agents[k+1]?=some z->z.Ports[s']?=some p->¬(k=c/\s'=s)->∃b' q',p=pt (b'+1) q':=λs' z p hz hs hn=>by
    obtain⟨b',t',rfl,e2,_,e4⟩:=wt (k+1) s' p (jd.2 ⟨z,hz,hs⟩) id;cases b' with
    | succ b'=>exact⟨b',t',rfl⟩
    | zero=>
     obtain⟨z0,hz0,ht0⟩:=jX.1 ⟨_,e2⟩;have:=qD0 ht hz0;obtain rfl:t'=0:=by omega
     rw[e2]at hp;have:=wO.1 (Option.some.inj hp);exact absurd ⟨by omega,this.2⟩ hn
   cases hz:t.Agents[k+1]? with
   | none=>
    have e1:(jJ N t lev)[N.length+k]?=none:=by rw[WW,hz];rfl
    have e2:(jJ M t lev)[M.length+k]?=none:=by rw[WW,hz];rfl
    by_cases e:k=c
    ·subst e;rw[VF e1,VF e2,e1,e2];rfl
    ·rw[X3 (by omega),X3 (by omega),e1,e2];rfl
   | some z=>
    have e1:(jJ N t lev)[N.length+k]?=some (zF lev ((N.length:Int)-1) z):=by rw[WW,hz];rfl
    have e2:(jJ M t lev)[M.length+k]?=some (zF lev ((M.length:Int)-1) z):=by rw[WW,hz];rfl
    by_cases e:k=c
    ·subst e;rw[W2 e1,W2 e2,gSs (gSi.1 e1).1,gSs (gSi.1 e2).1,oMs];simp only[jD,zF,oSi,qB.mk.injEq,true_and,List.map_set,List.map_map];refine List.ext_getElem? λj=>?_;by_cases ej:j=s
     ·subst ej;rcases Nat.lt_or_ge j z.Ports.length with w | w
      ·rw[gSs (by simpa using w),gSs (by simpa using w)];rfl
      ·rw[gEn (by simpa using w),gEn (by simpa using w)]
     ·rw[gSn (Ne.symm ej),gSn (Ne.symm ej),gMp,gMp];cases hs:z.Ports[j]? with
      | none=>rfl
      | some p=>
       obtain⟨b',q',e'⟩:=live j z p hz hs (λq=>ej q.2);simp only[oMs,Function.comp,oSi];exact(qgG E e').symm
    ·rw[X3 (by omega),X3 (by omega),e1,e2,oMs];simp only[jD,zF,oSi,qB.mk.injEq,true_and,List.map_map];refine List.map_congr_left λp hm=>?_;obtain⟨j,hj,ej⟩:=List.getElem_of_mem hm;obtain⟨b',q',e'⟩:=live j z p hz (gSi.2 ⟨hj,ej⟩) (λq=>e q.1);exact(qgG E e').symm
 ·rw[W3,W3];unfold jJ;simp only[lAp,lMp,Nat.add_assoc];exact E.l _
theorem qkG(h:Act R N a b x y)(E:Emb r R N M)(hm:0<M.length)(ht:zB t=true):Emb r R (ZG N t lev b) (ZG M t lev (r b)):=by
 have la:=h.pr.la;obtain⟨c,s,e1,e2,e3,e4⟩:=Ye (N:=N) (b:=b) (lev:=lev) ht (by omega);obtain⟨c',s',f1,f2,f3,f4⟩:=Ye (N:=M) (b:=r b) (lev:=lev) ht hm;rw[e2]at f2;have q:=wO.1 (Option.some.inj f2);obtain rfl:c'=c:=by omega
 obtain rfl:=q.2;rw[e4,f4];have:=(qkJ h E ht e2 (lev:=lev)).set (a:=b) (s:=0) h.rb (q:=pt (N.length+c') s);rw[qoG,E.l]at this;exact this
theorem qg7(h:zW R bk N a b x y)(E:Emb r R N M)(hm:0<M.length):Emb r R (zA bk N a b x y) (zA bk M (r a) (r b) (jD r x) (jD r y)):=by
 obtain⟨e,n0,n9⟩:=h.rule;obtain⟨r1,r2,r3,r4,r5,r6,r7,r8⟩:=Qz (ka:=x.Kind) (la:=x.Level) (kb:=y.Kind) (lb:=y.Level);have hx:=h.kx.1;have hy:=h.ky.1;unfold zA;rw[show qN (jD r x) (jD r y)=qN x y from rfl];split
 ·rename_i c;refine qlJ h.act E ?_ ?_
  ·rcases c with c | c
   ·exact ji hx (.inl (r1 (e.trans c)).1)
   ·exact ji hx (.inr (.inr (.inl (r2 (e.trans c)).1)))
  ·rcases c with c | c
   ·exact ji hy (.inr (.inl (r1 (e.trans c)).2))
   ·exact ji hy (.inr (.inr (.inl (r2 (e.trans c)).2)))
 split
 ·rename_i c;exact qj4 h.act E (ji hx (.inr (.inr (.inl (r3 (e.trans c)))))) (zi hy).2
 split
 ·rw[Y7];exact qcQ h.act E (nLr _)
 split
 ·rename_i c;have k5:=r5 (e.trans c);rw[show (jD r y).Kind=y.Kind from rfl];split
  ·rename_i k8;exact qDJ h.act E (by rw[Qu hy (.inl k8)];omega)
  ·rename_i k8;exact qm4 h.act E (ji hy (.inr (.inr (.inr (by omega)))))
 split
 ·rename_i c;have k6:=r6 (e.trans c);rw[show (jD r y).Kind=y.Kind from rfl];split
  ·rename_i k11;exact qDJ h.act E (by rw[Qu hy (.inr (.inr k11))];omega)
  ·rename_i k11;rw[Y7];exact qiW h.act E (zi hx).2 (Qu hy (.inr (.inl (by omega))))
 ·have c7:qN x y=7:=by have:=h.cls;omega
  obtain⟨_,_,_,t1,_,_⟩:=h.t7 c7;exact qkG h.act E hm t1
end
section
variable {R D D':Nat->Bool} {bk:List qD} {N M:Ags} {a b c d s k f n:Nat} {x y:qB}
theorem qcA{k l:Nat}(hk:R k=false)(hl:R l=false)(h:qT R k=qT R l):k=l:=by
 have f1:=Wl hk (n:=max k l+1) (by omega);have f2:=Wl hl (n:=max k l+1) (by omega);rw[h,f2]at f1;exact(Option.some.inj f1).symm
theorem qi0{k l:Nat}(hk:R k=false)(h:k<l):qT R k<qT R l:=by
 have:=XO (R:=R) (n:=k+1) (m:=l) (by omega);rw[jP,hk]at this;simp at this;omega
theorem qe2(h:∀u,R u=true->u<N.length):Emb (qT R) R N (qc N R):=by
 refine⟨λk hk=>?_,λk l hk hl e=>qcA hk hl e,λk=>by rw[QE];exact Vx h,rfl⟩;rcases Nat.lt_or_ge k N.length with q | q
 ·rw[gEg q,Wm (gEg q) hk];rfl
 ·obtain⟨k,rfl⟩:∃j,k=N.length+j:=⟨k-N.length,by omega⟩;rw[Vx h,gEn (l:=qc N R) (by rw[QE];omega),gEn (l:=N) (by omega)];rfl
theorem qb9(h0:∀k,R k=false->D' (qT R k)=D k)(h1:∀k,R k=true->D k=true):∀k,qT D' (qT R k)=qT D k
 | 0=>rfl
 | k+1=>by
  have ih:=qb9 h0 h1 k;rw[jP,jP (R:=D)];cases hR:R k with
  | true=>rw[h1 k hR];simpa using ih
  | false=>simp only[bFt,if_false];rw[jP,ih,h0 k hR]
theorem qnI(E:Emb (qT R) R N M)(h0:∀k,R k=false->D' (qT R k)=D k)(h1:∀k,R k=true->D k=true):qc N D=qc M D':=by
 have hc:=qb9 h0 h1;have hl:(qc M D').length=(qc N D).length:=by rw[QE,QE,<-E.l0,hc]
 refine List.ext_getElem? λm=>?_;cases e:(qc N D)[m]? with
 | none=>rw[List.getElem?_eq_none_iff]at e;rw[gEn (by omega)]
 | some y=>
  obtain⟨k,x,hx,hk,rfl,rfl⟩:=Uy e;have hR:R k=false:=by
   cases q:R k with
   | false=>rfl
   | true=>rw[h1 k q]at hk;cases hk
  have hm:=E.i k hR;rw[hx]at hm;have:=Wm hm (R:=D') (by rw[h0 k hR];exact hk);rw[hc]at this;rw[this];simp only[qu,jD,oSi,qB.mk.injEq,true_and,List.map_map];refine List.map_congr_left λp _=>?_;simp only[Function.comp,ZT,iTn,hc]
theorem qp4(h:zW R bk N a b x y):qc (zA bk N a b x y) (z8 R (qN x y) a b)=qEE bk (qc N R) (qT R a) (qT R b) (qu R x) (qu R y):=by
 have E:=qg7 h (qe2 h.act.rl) (by
  rw[QE];have:=XO (R:=R) (n:=1) (m:=N.length) h.ok.l0;rw[show qT R 1=1 by rw[jP,h.ok.r0];rfl]at this;omega)
 unfold qEE;refine qnI (R:=R) E (λk hk=>?_) (λk hk=>by unfold z8;rw[hk];rfl);rw[show qN (qu R x) (qu R y)=qN x y from rfl];have e:∀c,R c=false->decide (qT R k=qT R c)=decide (k=c):=λc hc=>by
  by_cases q:k=c
  ·subst q;simp
  ·rw[decide_eq_false q,decide_eq_false λw=>q (qcA hk hc w)]
 unfold z8 wI;rw[hk,e a h.act.ra,e b h.act.rb];rfl
def Wp(R:Nat->Bool)(p:qV):qV:=⟨(qT R p.A.toNat:Nat),(qT R p.B.toNat:Nat)⟩
def zZ(R:Nat->Bool)(N:Ags):Nat->List qV
 | 0=>[]
 | i+1=>zZ R N i++if R (i+1)then []else wj N (i+1)
theorem qe4{p:qV}:∀{i:Nat},p∈zZ R N i->∃k,0<k/\k<=i/\R k=false/\p∈wj N k
 | 0,h=>by cases h
 | i+1,h=>by
  unfold zZ at h;rcases zw.1 h with q | q
  ·obtain⟨k,k0,k1,k2,k3⟩:=qe4 q;exact⟨k,k0,by omega,k2,k3⟩
  ·cases hR:R (i+1)with
   | true=>rw[hR]at q;cases q
   | false=>rw[hR]at q;exact⟨i+1,by omega,by omega,hR,q⟩
theorem Uz{p:qV}{k:Nat}(h:p∈wj N k):∃x q,N[k]?=some x/\x.Kind≠0/\x.Ports[0]?=some q/\q.Slot=0/\(k:Int)<q.Agent/\p=⟨k,q.Agent⟩:=by
 unfold wj at h;split at h
 ·rename_i x hx;split at h
  ·cases h
  ·rename_i hk;split at h
   ·rename_i q hq;split at h
    ·rename_i hc;simp only[List.mem_cons,List.mem_nil_iff,or_false]at h;exact⟨x,q,hx,hk,hq,hc.1,hc.2,h⟩
    ·cases h
   ·cases h
 ·cases h
theorem qe3(h:Hol R N){p:qV}(hp:p∈zZ R N (N.length-1)):∃i j:Nat,p=⟨i,j⟩/\0<i/\i<j/\R i=false/\R j=false/\atP N i 0=some (pt j 0)/\atP N j 0=some (pt i 0):=by
 obtain⟨k,k0,k1,k2,k3⟩:=qe4 hp;obtain⟨x,q,hx,hk,hq,s0,lt,rfl⟩:=Uz k3;have e1:atP N k 0=some q:=jd.2 ⟨x,hx,hq⟩;obtain⟨b,t,rfl,e2,e3,_⟩:=h.w k 0 q e1 (by simp[k2]);have t0:t=0:=by simp[pt]at s0;exact s0
 subst t0;exact⟨k,b,rfl,k0,by simp[pt]at lt;exact lt,k2,by simpa using e3,e1,e2⟩
theorem qnK(h:Hol R N){k:Nat}(hR:R k=false):wj (qc N R) (qT R k)=(wj N k).map (Wp R):=by
 unfold wj;have E:=(qe2 h.rl).i k hR;rw[E];cases hx:N[k]? with
 | none=>rfl
 | some x=>
  simp only[oMs,jD];by_cases k0:x.Kind=0
  ·simp[k0]
  ·rw[if_neg k0,if_neg k0,gMp];cases hq:x.Ports[0]? with
   | none=>rfl
   | some q=>
    obtain⟨b,t,rfl,e2,e3,_⟩:=h.w k 0 q (jd.2 ⟨x,hx,hq⟩) (by simp[hR]);have hb:R b=false:=by simpa using e3
    simp only[oMs,ZT,pt,iTn];by_cases c:t=0/\k<b
    ·have w:=qi0 hR c.2;rw[if_pos (show (t:Int)=0/\((qT R k:Nat):Int)<((qT R b:Nat):Int) by omega),if_pos (show (t:Int)=0/\(k:Int)<(b:Int) by omega)];simp[Wp]
    ·rw[if_neg (show ¬((t:Int)=0/\(k:Int)<(b:Int)) by omega),if_neg]
     ·rfl
     ·rintro⟨q1,q2⟩;refine c ⟨by omega, ?_⟩;rcases Nat.lt_or_ge k b with w | w
      ·exact w
      ·have:=XO (R:=R) w;omega
theorem qe5(h:Hol R N):∀{i:Nat},(zZ R N i).map (Wp R)=zE (qc N R) (qT R (i+1)-1)
 | 0=>by
  rw[show qT R 1=1 by rw[jP,h.r0];rfl];rfl
 | i+1=>by
  have ih:=qe5 h (i:=i);have h1:=XO (R:=R) (n:=1) (m:=i+1) (by omega);rw[show qT R 1=1 by rw[jP,h.r0];rfl]at h1;unfold zZ;rw[lMa,ih,jP (n:=i+1)];cases hR:R (i+1)with
  | true=>simp
  | false=>
   simp only[bFt,if_false];rw[show qT R (i+1)+1-1=(qT R (i+1)-1)+1 by omega];show _=zE (qc N R) (qT R (i+1)-1)++wj (qc N R) (qT R (i+1)-1+1);rw[show qT R (i+1)-1+1=qT R (i+1) by omega,qnK h hR]
theorem Xs(h:Hol R N):(zZ R N (N.length-1)).map (Wp R)=JJ ⟨qc N R⟩:=by
 rw[qe5 h];unfold JJ;have:=h.l0;rw[show N.length-1+1=N.length by omega,QE]
end
section
variable {R:Nat->Bool} {bk:List qD} {N A:Ags} {a b c d s k u:Nat} {x y:qB}
theorem qa8(h:u≠a):atP (A.set a x) u s=atP A u s:=by
 unfold atP;rw[gSn (Ne.symm h)]
theorem Hol.hole(h:Hol R A)(ha:R a=true):Hol R (A.set a hole):=by
 refine⟨λu s q hq hX=>?_,λk z hz hk=>?_,h.r0,λu e=>by rw[lLs];exact h.rl u e,by rw[lLs];exact h.l0,by rw[lLs];exact h.c⟩
 ·rw[qa8 (λe=>hX (by rw[e];exact ha))]at hq;obtain⟨b,t,e1,e2,e3,e4⟩:=h.w u s q hq hX;exact⟨b,t,e1,by rw[qa8 (λe=>e3 (by rw[e];exact ha))];exact e2,e3,e4⟩
 ·rw[gSn (λe=>by rw[<-e,ha]at hk;cases hk)]at hz;exact h.k k z hz hk
theorem qDM(ha:R a=true):qc (A.set a hole) R=qc A R:=by
 unfold qc;rw[lLs];refine List.map_congr_left λk hk=>?_;have hk:=(qDL.1 hk).2;rw[lGd,lGd,gSn (λe=>by rw[<-e,ha]at hk;cases hk)]
theorem V1{c:Int}:z8 R c a b a=true:=by unfold z8 wI;simp
theorem qcG{c:Int}(h:c≠7):z8 R c a b b=true:=by unfold z8 wI;simp[h]
theorem qjB{z:qB}(h:jQ z=jQ hole):z=hole:=by
 obtain⟨k,l,v,d,p⟩:=z;simp only[jQ,Prod.mk.injEq,lNi,List.length_eq_zero_iff]at h;obtain⟨h1,h2,h3,h4,h5⟩:=h;subst h1 h2 h3 h4 h5;rfl
theorem qnH:qc (j9 bk N a b x y) (z8 R (qN x y) a b)=qc (zA bk N a b x y) (z8 R (qN x y) a b):=by
 unfold j9;split
 ·exact qDM V1
 ·rename_i c;rw[qDM (qcG c),qDM V1]
theorem SP.step(h:SP R N)(G:zW R bk N a b x y):SP (z8 R (qN x y) a b) (j9 bk N a b x y):=by
 have la:=G.act.pr.la;have lb:=G.act.pr.lb;have lA:=qaR bk N a b x y;have H:=qEH G;refine⟨?_,λk z hz hk=>?_⟩
 ·unfold j9;split
  ·exact H.hole V1
  ·rename_i c;exact(H.hole V1).hole (qcG c)
 ·have old:∀z,(zA bk N a b x y)[k]?=some z->R k=true->z=hole:=λz hz hk=>by
   obtain⟨w,hw,e⟩:=(WM bk N a b x y).back.at hz;have hlt:=G.act.rl k hk;rw[gAl hlt]at hw;rw[h.z k w hw hk]at e;exact qjB e.symm
  unfold j9 at hz;by_cases ea:k=a
  ·subst ea;split at hz
   ·rw[gSs (by omega)]at hz;exact(Option.some.inj hz).symm
   ·rw[gSn (Ne.symm G.act.ne),gSs (by omega)]at hz;exact(Option.some.inj hz).symm
  ·split at hz
   ·rename_i c;rw[gSn (Ne.symm ea)]at hz;refine old z hz ?_;unfold z8 wI at hk;simpa[ea,c]using hk
   ·rename_i c;by_cases eb:k=b
    ·subst eb;rw[gSs (by simp;omega)]at hz;exact(Option.some.inj hz).symm
    ·rw[gSn (Ne.symm eb),gSn (Ne.symm ea)]at hz;refine old z hz ?_;unfold z8 wI at hk;simpa[ea,eb]using hk
end
def Jb(xs:List Int)(d:Nat):List Int:=(List.range xs.length).map λi=>xs.getD ((d+i)%xs.length) 0
theorem Qy{xs:List Int}{d:Nat}:(Jb xs d).length=xs.length:=by simp[Jb]
theorem qD1{xs:List Int}{d i:Nat}(h:i<xs.length):(Jb xs d)[i]?=some (xs.getD ((d+i)%xs.length) 0):=by simp[Jb,h]
theorem qpF{xs:List Int}{d t m:Nat}:wF (Jb xs d) (t:Int) m=wF xs ((d+t:Nat):Int) m:=by
 unfold wF;by_cases e:xs=[]
 ·subst e;rfl
 ·have h0:0<xs.length:=List.length_pos_iff.2 e;have e2:Jb xs d≠[]:=λq=>by have:=Qy (xs:=xs) (d:=d);rw[q]at this;simp at this;omega
  rw[if_neg e,if_neg e2];simp only[iTn,Qy];have h1:=Nat.mod_lt t h0;rw[qD1 h1,Option.getD_some,lGd,Nat.add_mod_mod]
theorem qpE{xs:List Int}{ps:List qV}{d t:Nat}:JM (Jb xs d) ps (t:Int)=JM xs ps ((d+t:Nat):Int):=by
 unfold JM;rw[qpF]
def agP(L:Ags)(p:Int):qB:=L.getD p.toNat hole
def wL(sch:List Int)(L:Ags)(k:Nat):qV:=Uv ⟨L⟩ (JM sch (JJ ⟨L⟩) (k:Int))
def Zh(bk:List qD)(L:Ags)(p:qV):Int:=
 if (ql bk (agP L p.A) (agP L p.B)).2≠0 then(ql bk (agP L p.A) (agP L p.B)).2 else if 600<(L.length:Int)+(ql bk (agP L p.A) (agP L p.B)).1 then 4 else 0
def VI(bk:List qD)(L:Ags)(p:qV):Ags:=qEE bk L p.A.toNat p.B.toNat (agP L p.A) (agP L p.B)
def jN(bk:List qD)(sch:List Int):Nat->Nat->Ags->Ags×List Int×Bool×Int
 | 0,_,L=>(L,[],decide (JJ ⟨L⟩=[]),0)
 | f+1,k,L=>
  if JJ ⟨L⟩=[]then(L,[],true,0)
  else if Zh bk L (wL sch L k)≠0 then(L,[],false,Zh bk L (wL sch L k))
  else
   let r:=jN bk sch f (k+1) (VI bk L (wL sch L k))
   (r.1,qN (agP L (wL sch L k).A) (agP L (wL sch L k).B)::r.2.1,r.2.2.1,r.2.2.2)
theorem qfY{bk:List qD}{sch:List Int}{d:Nat}:∀{f t:Nat}{L:Ags},jN bk (Jb sch d) f t L=jN bk sch f (d+t) L
 | 0,_,_=>rfl
 | f+1,t,L=>by
  have e:wL (Jb sch d) L t=wL sch L (d+t):=by unfold wL;rw[qpE]
  unfold jN;rw[e,qfY (f:=f) (t:=t+1),Nat.add_assoc]
section
variable {R:Nat->Bool} {N:Ags} {bk:List qD} {sch:List Int} {k:Nat}
theorem qkR{x y:qB}(hs:jr x.Kind x.Level y.Kind y.Level=jr y.Kind y.Level x.Kind x.Level)(h:zY x.Kind x.Level y.Kind y.Level=2):zY y.Kind y.Level x.Kind x.Level≠2:=by
 unfold zY at h|-;rw[hs]at h;split at h
 ·rename_i hp;rw[if_pos hp];split at h
  ·cases h
  ·split at h
   ·rename_i q;rw[if_pos q];decide
   ·cases h
 ·cases h
theorem qaW(h:Hol R N){i:Nat}(hi:R i=false){x:qB}(hx:N[i]?=some x):Jz ⟨qc N R⟩ (qT R i:Nat)=qu R x:=by
 unfold Jz;simp only[iTn];rw[Wm hx hi];rfl
theorem qeG(hsym:∀a b c d:Int,jr a b c d=jr c d a b)(h:Hol R N)(hne:JJ ⟨qc N R⟩≠[]):∃(a b:Nat)(x y:qB),Act R N a b x y/\a≠0/\b≠0/\zY x.Kind x.Level y.Kind y.Level≠2/\
  Uv ⟨N⟩ (JM sch (zZ R N (N.length-1)) (k:Int))=⟨(a:Int),(b:Int)⟩/\wL sch (qc N R) k=⟨(qT R a:Nat),(qT R b:Nat)⟩/\
  agP (qc N R) (qT R a:Nat)=qu R x/\agP (qc N R) (qT R b:Nat)=qu R y:=by
 have hp:=Xs h;have hl:0<(zZ R N (N.length-1)).length:=by
  rcases Nat.eq_zero_or_pos (zZ R N (N.length-1)).length with e | e
  ·rw[<-hp,lEz e]at hne;exact absurd rfl hne
  ·exact e
 obtain⟨PN,hPN⟩:∃PN,PN=zZ R N (N.length-1):=⟨_,rfl⟩;rw[<-hPN]at hp hl|-;have sl:=KI (xs:=sch) (k:=(k:Int)) hl;have es:JM sch PN (k:Int)=PN[wF sch (k:Int) PN.length]:=by unfold JM;rw[gEg sl];rfl
 have es2:JM sch (JJ ⟨qc N R⟩) (k:Int)=Wp R PN[wF sch (k:Int) PN.length]:=by
  unfold JM;rw[<-hp,lMp,gMp,gEg sl];rfl
 have hm:PN[wF sch (k:Int) PN.length]∈zZ R N (N.length-1):=by rw[<-hPN];exact gMm sl
 unfold wL;rw[es,es2];obtain⟨i,j,e1,h0,h1,ri,rj,h2,h3⟩:=qe3 h hm;rw[e1];have li:=Jc h2;have lj:=Jc h3;have gi:N[i]?=some N[i]:=gEg li;have gj:N[j]?=some N[j]:=gEg lj;have ai:Jz ⟨N⟩ (i:Int)=N[i]:=by simp[Jz,gi]
 have aj:Jz ⟨N⟩ (j:Int)=N[j]:=by simp[Jz,gj]
 have bi:=qaW h ri gi;have bj:=qaW h rj gj;have ep:Wp R ⟨(i:Int),(j:Int)⟩=⟨(qT R i:Nat),(qT R j:Nat)⟩:=by simp[Wp]
 have pi:agP (qc N R) (qT R i:Nat)=qu R N[i]:=by unfold agP;rw[iTn,lGd,Wm gi ri];rfl
 have pj:agP (qc N R) (qT R j:Nat)=qu R N[j]:=by unfold agP;rw[iTn,lGd,Wm gj rj];rfl
 rw[ep];unfold Uv;simp only[ai,aj,bi,bj];rw[show zI (qu R N[i]) (qu R N[j])=zI N[i] N[j]from rfl];cases q:zI N[i] N[j]with
 | true=>
  simp only[if_true];exact⟨j,i,N[j],N[i],⟨h.w,gj,gi,by omega,h3,h2,rj,ri,h.rl⟩,by omega,by omega,qkR (hsym _ _ _ _) (by unfold zI at q;simpa using q),rfl,rfl,pj,pi⟩
 | false=>
  simp only[bFt,if_false];exact⟨i,j,N[i],N[j],⟨h.w,gi,gj,by omega,h2,h3,ri,rj,h.rl⟩,by omega,by omega,by unfold zI at q;simpa using q,rfl,rfl,pi,pj⟩
end
section
variable {R:Nat->Bool} {N:Ags} {bk:List qD} {sch:List Int} {k a b:Nat} {x y:qB}
theorem qkZ:ql bk (qu R x) (qu R y)=ql bk x y:=by
 have e:∀c,jU bk (qu R x) (qu R y) c=jU bk x y c:=λc=>by
  unfold jU;rw[show (qu R y).Ports.length=y.Ports.length by simp[qu]];rw[show fieldsOf (qu R x)=fieldsOf x by unfold fieldsOf;simp[qu]];rfl
 unfold ql;rw[e];rfl
theorem qBU(ea:agP (qc N R) (qT R a:Nat)=qu R x)(eb:agP (qc N R) (qT R b:Nat)=qu R y):
  Zh bk (qc N R) ⟨(qT R a:Nat),(qT R b:Nat)⟩=if (ql bk x y).2≠0 then(ql bk x y).2 else if 600<(qT R N.length:Int)+(ql bk x y).1 then 4 else 0:=by
 unfold Zh;simp only[ea,eb,qkZ,QE]
theorem qEF(G:zW R bk N a b x y)(ea:agP (qc N R) (qT R a:Nat)=qu R x)(eb:agP (qc N R) (qT R b:Nat)=qu R y):
  qc (zA bk N a b x y) (z8 R (qN x y) a b)=VI bk (qc N R) ⟨(qT R a:Nat),(qT R b:Nat)⟩:=by
 unfold VI;simp only[ea,eb,iTn];exact qp4 G
theorem qpY(G:zW R bk N a b x y)(ea:agP (qc N R) (qT R a:Nat)=qu R x)(eb:agP (qc N R) (qT R b:Nat)=qu R y):
  qc (j9 bk N a b x y) (z8 R (qN x y) a b)=VI bk (qc N R) ⟨(qT R a:Nat),(qT R b:Nat)⟩:=by
 rw[qnH,qEF G ea eb]
theorem qDO(h:SP R N):∀{i:Nat},zE N i=zZ R N i
 | 0=>rfl
 | i+1=>by
  unfold zE zZ;rw[qDO h (i:=i)];cases hR:R (i+1)with
  | false=>simp
  | true=>
   have:wj N (i+1)=[]:=by
    unfold wj;cases hx:N[i+1]? with
    | none=>rfl
    | some z=>rw[h.z _ z hx hR];rfl
   simp[this]
end
def AllK(N:Ags):Prop:=∀(k:Nat)(z:qB),N[k]?=some z->qe z=true/\(z.Kind=1↔k=0)
theorem AllK.of{n:qD}(h:zB n=true):AllK n.Agents:=λk z hz=>(Hol.of h).k k z hz rfl
section
variable {R:Nat->Bool} {bk:List qD} {N:Ags} {a b:Nat} {x y:qB}
theorem qg8(h:zW R bk N a b x y)(hA:AllK N):AllK (zA bk N a b x y):=by
 intro k z hz;have hs:=WM bk N a b x y;have la:=h.act.pr.la;obtain⟨w,hw,e⟩:=hs.back.at hz;have ek:w.Kind=z.Kind:=congrArg Prod.fst e;rw[<-ek,<-Vc e];rcases Nat.lt_or_ge k N.length with q | q
 ·rw[gAl q]at hw;exact hA _ _ hw
 ·rw[gAr q]at hw;have:=qeF h w (lMo hw);exact⟨this.1,by constructor;(intro k1;exact absurd k1 this.2);(intro k0;omega)⟩
theorem qe7:∀{i:Nat},(zE N i).filter (λp=> !R p.A.toNat)=zZ R N i
 | 0=>rfl
 | i+1=>by
  unfold zE zZ;rw[List.filter_append,qe7 (i:=i)];congr 1;cases hR:R (i+1)with
  | true=>
   rw[if_pos rfl,List.filter_eq_nil_iff];intro p hp;obtain⟨x,q,_,_,_,_,_,rfl⟩:=Uz hp;simp only[iTn,hR];decide
  | false=>
   rw[if_neg (by decide),List.filter_eq_self];intro p hp;obtain⟨x,q,_,_,_,_,_,rfl⟩:=Uz hp;simp only[iTn,hR];decide
theorem qe8{p:qV}:∀{i:Nat},p∈zE N i->0<=p.A
 | 0,h=>by cases h
 | i+1,h=>by
  unfold zE at h;rcases zw.1 h with q | q
  ·exact qe8 q
  ·obtain⟨x,q,_,_,_,_,_,rfl⟩:=Uz q;simp only;omega
end
section
variable {w:Nat} {post:List AV} {bk:List qD} {bid:Nat} {base:Nat->Prop} {nid mid bx rid oid n:Nat} {h:List qC} {N:Ags} {K:AV->List qC->Prop} {R:Nat->Bool} {ks:List Nat} {rest:List AV}
theorem idx0{id n:Nat}(h:0<n):idx 2 (some (sQ 2 id n)) (some (iI 0))=some (.ptr id 0 0):=by simp[idx,inI];omega
theorem s376(hN:NE w post base nid h N)(hA:AllK N)(hl:N.length<=10000)
  (hK:∀h' oid,Keep (Lo h.length) h h'->h.length<=oid->h'[oid]?=some (.row 2 ((zE N (N.length-1)).map qV.enc) true)->K (.slice 2 oid 0 (zE N (N.length-1)).length false) h'):SCall Gm 376 [.ptr nid 0 0] h K:=by
 obtain⟨aid,ps,hNA⟩:=hN;refine sI F376 ?_;simp only[F376,qM,go_sem,hNA.o];refine Sem.loop (α:=Nat×List qC×Nat) (λq=>q.1<=N.length/\Keep (Lo h.length) h q.2.1/\h.length<=q.2.2/\q.2.1[q.2.2]?=some (.row 2 ((zE N (q.1-1)).map qV.enc) true))
  (λq=>(⟨[(10,sQ 5 aid N.length),(11,iI (N.length:Nat)),(12,iI (q.1:Nat)),(3,.slice 2 q.2.2 0 (zE N (q.1-1)).length false)],[],q.2.1⟩:VSt)) (λq=>N.length-q.1) (0,h++[.row 2 [] true],h.length) (by kernel_rfl)
  ⟨nZl _,Keep.app (λ_ q=>q),nLr _,by simp[zE]⟩
  (Can.ph (WkN.same rfl (WkN.same rfl (WkN.same rfl (WkN.cons rfl (Wk.ph (by simp)) WkN.nil)))) WkN.nil) ?_
 rintro⟨i,g,oid⟩ ⟨hi,jk,hoid,ho⟩;simp only at hi jk hoid ho;simp only[go_sem];refine qI ?_ ?_<;>intro hc<;>simp only[hc,go_sem]
 ·have hlt:i<N.length:=by have:=odT hc;omega
  clear hc;have hx:=gEg hlt;obtain⟨ok,hk1⟩:=hA i _ hx;have hp0:=(zi ok).2;have hk0:=qaX ok;obtain⟨q,hq,ha,hr,hv⟩:=hNA.at hx hp0;have ga:g[aid]?=_:=(jk.k _ hNA.lta).trans hNA.a;have gr:g[q]?=_:=(jk.k _ (qR hr)).trans hr;simp only[zH hlt,ga,ha,go_sem];refine lsA ?_;simp only[hv,idx0 hp0,gr,gMp,gEg hp0,oMs,go_sem];refine lsA ?_;simp only[go_sem];have same (hn:¬(N[i].Ports[0].Slot=0/\(i:Int)<N[i].Ports[0].Agent/\N[i].Kind≠1)):zE N (i+1-1)=zE N (i-1):=by
   cases i with
   | zero=>rfl
   | succ i=>
    have h1:N[i+1].Kind≠1:=by intro q;have:=hk1.1 q;omega
    have:¬(N[i+1].Ports[0].Slot=0/\((i+1:Nat):Int)<N[i+1].Ports[0].Agent):=by rintro⟨q1,q2⟩;exact hn ⟨q1,q2,h1⟩
    simp only[Nat.add_sub_cancel,zE,wj,gEg hlt,gEg hp0,if_neg hk0,if_neg this,lAn]
  have more (hn:N[i].Ports[0].Slot=0/\(i:Int)<N[i].Ports[0].Agent/\N[i].Kind≠1):zE N (i+1-1)=zE N (i-1)++[⟨(i:Int),N[i].Ports[0].Agent⟩]:=by
   cases i with
   | zero=>exact absurd (hk1.2 rfl) hn.2.2
   | succ i=>
    simp only[Nat.add_sub_cancel,zE,wj,gEg hlt,gEg hp0,if_neg hk0];rw[if_pos ⟨hn.1,hn.2.1⟩]
  clear hk1 hk0;have pl:=Y1 N (i-1)
  repeat' (first | (first | (refine qk ?_ ?_<;>intro hc<;>simp only[hc,go_sem]) | (refine qI ?_ ?_<;>intro hc<;>simp only[hc,go_sem])))
  case refine_1.refine_1.refine_1=>
   have e:=more ⟨by simp_all,by simp_all,by simp_all⟩;obtain⟨r1,r2⟩:=Qb (tmp:=.row 2 [(⟨(i:Int),N[i].Ports[0].Agent⟩:qV).enc] true) ho;obtain⟨q1,q2⟩:=Uw (x:=(⟨(i:Int),N[i].Ports[0].Agent⟩:qV).enc) (tmp:=.row 2 [(⟨(i:Int),N[i].Ports[0].Agent⟩:qV).enc] true) jk (λ_ q=>q) (Nat.not_lt.2 hoid) ho;refine jO r2 r1 (by simp) (by omega) ?_;have em:(zE N (i-1)).map qV.enc++[(⟨(i:Int),N[i].Ports[0].Agent⟩:qV).enc]=(zE N (i+1-1)).map qV.enc:=by rw[e];simp
   rw[em]at q1 q2;rw[em];simp only[lAp,nZa,wuA (n:=i),go_sem];have el:(zE N (i+1-1)).length=(zE N (i-1)).length+1:=by rw[e];simp
   exact qb (i+1,_,g.length+1) ⟨hlt,q1,by have:=jk.l;simp only;omega,q2⟩ (by simp only;omega) (Can.sub (by simp[go_sem,<-el]) (by simp[go_sem]))
  all_goals
   simp only[wuA (n:=i)];refine qb (i+1,g,oid) ⟨hlt,jk,hoid, ?_⟩ (by simp only;omega) ?_
   ·simp only;rw[same (by simp_all<;>omega)];exact ho
   ·simp only;rw[same (by simp_all<;>omega)];exact csA
 ·have hlt:i=N.length:=by have:=odF hc;omega
  subst hlt;exact hK g oid jk hoid ho
theorem qo9{p:qV}(hb:h[bx]?=some (.row 1 [.ptr rid 0 0] true))(hr:h[rid]?=some (.row 5 [.agg (.ptr nid 0 0::rest)] true))(hR:RW bk bid (z9 ks) mid base nid h N)(hk:RK R ks)(hp:0<=p.A)(hK:K (.bool (R p.A.toNat)) h):SCall Gm 1454 [p.enc,.ptr bx 0 0] h K:=by
 obtain⟨A,B⟩:=p;obtain⟨a,rfl⟩:∃a:Nat,A=a:=⟨A.toNat,by simp only at hp;omega⟩;obtain⟨aid,ps,hNA⟩:=hR.n;have eu:lku (.bool false) false (iI (a:Nat)) (z9 ks)=some (.bool (R a)):=by
  cases q:R a with
  | true=>exact qCX (v:=λ_=>.bool true) ((hk.m a).2 q)
  | false=>exact qdZ (v:=λ_=>.bool true) (λe=>by rw[(hk.m a).1 e]at q;cases q)
 refine sI qAH ?_;simp only[qAH,qM,go_sem,qV.enc];refine qZ rfl ?_;simp only[hb,hr,hNA.o,Ub hR.m,eu,go_sem];exact hK
theorem qpA{f:Nat}{caps:List AV}{p:qV->Bool}{xs:List qV}(ho:h[oid]?=some (.row 2 (xs.map qV.enc) true))(hl:xs.length<=1048576)(hf:∀x∈xs,∀K:AV->List qC->Prop,K (.bool (p x)) h->SCall Gm f ([x.enc]++caps) h K)
  (hK:K (iI (wA p xs 0)) h):SCall Gm 1485 [sQ 2 oid xs.length,.fn f caps] h K:=by
 refine sI qAL ?_;simp only[qAL,Zo,qM,go_sem];refine Sem.loop (λi:Nat=>i<=xs.length/\wA p xs 0=wA p (xs.drop i) i)
  (λi=>(⟨[(0,sQ 2 oid xs.length),(1,.fn f caps),(7,iI (xs.length:Nat)),(8,iI (i:Nat))],[],h⟩:VSt)) (λi=>xs.length-i) 0 (by kernel_rfl) ⟨nZl _,by simp⟩ csA ?_
 rintro i ⟨hi,hI⟩;simp only[go_sem];apply qI<;>intro hc<;>simp only[hc,go_sem]
 ·have hlt:i<xs.length:=by have:=odT hc;omega
  clear hc;simp only[zQ hlt,nZa,ho,gMp,gEg hlt,oMs,go_sem];refine qU (hf xs[i] (gMm hlt) _ ?_);simp only[go_sem];have hd:xs.drop i=xs[i]::xs.drop (i+1):=by simp
  apply qI<;>intro hc<;>simp only[hc,go_sem]
  ·rw[hI,hd]at hK;simp only[wA,hc,if_true]at hK;exact hK
  ·simp only[wuA (n:=i)];refine qb (i+1) ⟨by omega, ?_⟩ (by omega) csA;rw[hI,hd];simp[wA,hc]
 ·have hge:i=xs.length:=by have:=odF hc;omega
  subst hge;rw[hI]at hK;simp[wA]at hK;exact hK
end
section
variable {α:Type} {p:α->Bool}
theorem qdF:∀(xs:List α)(i:Nat),(wA p xs i= -1/\xs.filter (λx=> !p x)=xs)\/∃k,k<xs.length/\wA p xs i=((i+k:Nat):Int)/\(xs.take (k+1)).filter (λx=> !p x)=xs.take k
 |[],i=>.inl ⟨rfl,rfl⟩
 | x::xs,i=>by
  cases h:p x with
  | true=>exact .inr ⟨0,by simp,by simp[wA,h],by simp[h]⟩
  | false=>
   rcases qdF xs (i+1)with⟨e1,e2⟩ | ⟨k,k1,k2,k3⟩
   ·exact .inl ⟨by simp[wA,h,e1],by simp[h,e2]⟩
   ·refine .inr ⟨k+1,by simpa using k1,by simp[wA,h,k2];omega, ?_⟩;rw[List.take_succ_cons,List.filter_cons,h,List.take_succ_cons,k3];rfl
end
section
variable {oid n f:Nat} {h:List qC} {K:AV->List qC->Prop} {caps:List AV} {p:qV->Bool} {xs:List qV}
theorem qlK{j:Nat}(hj:j<xs.length):(xs.take (j+1)).filter (λx=> !p x)=(xs.take j).filter (λx=> !p x)++if p xs[j]then []else [xs[j]]:=by
 rw[lTs hj,List.filter_append];cases h:p xs[j]<;>simp[h]
theorem qnL{a b:qV}:a.enc.put 0 b.enc=some b.enc:=by cases a;cases b;rfl
theorem qo8(ho:h[oid]?=some (.row 2 (xs.map qV.enc) true))(hl:xs.length<=1048576)(hf:∀x∈xs,∀(el:List qV)(K:AV->List qC->Prop),K (.bool (p x)) (h.set oid (.row 2 (el.map qV.enc) true))->SCall Gm f ([x.enc]++caps) (h.set oid (.row 2 (el.map qV.enc) true)) K)
  (hK:K (.slice 2 oid 0 (xs.filter λx=> !p x).length false) (h.set oid (.row 2 ((xs.filter λx=> !p x).map qV.enc) true))):SCall Gm 1453 [sQ 2 oid xs.length,.fn f caps] h K:=by
 have h0:h.set oid (.row 2 (xs.map qV.enc) true)=h:=KJ ho;have lo:=qR ho;refine SCall.cut oid (xs.filter λx=> !p x).length 2 ?_;refine sI qAG ?_;simp only[qAG,qM,go_sem];refine qU (qpA ho hl (λx hx K hK=>by have:=hf x hx xs K;rw[h0]at this;exact this hK) ?_);simp only[go_sem];rcases qdF (p:=p) xs 0 with⟨e1,e2⟩ | ⟨k,k1,k2,k3⟩
 ·simp only[e1,go_sem];refine⟨_,ho, ?_⟩;rw[e2]at hK|-;rw[show (xs.map qV.enc).take xs.length=xs.map qV.enc from List.take_of_length_le (by simp)];exact hK
 ·rw[k2,nZa];simp only[show decide (((k:Nat):Int)= -1)=false from decide_eq_false (by omega),wuA (n:=k),go_sem];refine Sem.loop (α:=Nat×List qV) (λq=>q.1<=xs.length/\q.2.length=xs.length/\q.2.take ((xs.take q.1).filter (λx=> !p x)).length=(xs.take q.1).filter (λx=> !p x)/\q.2.drop q.1=xs.drop q.1/\((xs.take q.1).filter (λx=> !p x)).length<q.1)
   (λq=>(⟨[(0,sQ 2 oid xs.length),(1,.fn f caps),(5,iI (((xs.take q.1).filter (λx=> !p x)).length:Nat)),(6,iI (q.1:Nat))],[],h.set oid (.row 2 (q.2.map qV.enc) true)⟩:VSt)) (λq=>xs.length-q.1) (k+1,xs) (by kernel_rfl)
   ⟨by simp only;omega,rfl,by simp only;rw[k3,lLt,nMl (by omega)],rfl,by simp only;rw[k3,lLt];omega⟩
   (by simp only;rw[h0,k3,lLt,nMl (by omega)];exact csA) ?_
  rintro⟨j,el⟩ ⟨hj,hel,ht,hd,hc0⟩;simp only at hj hel ht hd hc0;have hat:∀el:List qV,(h.set oid (.row 2 (el.map qV.enc) true))[oid]?=some (.row 2 (el.map qV.enc) true):=λel=>gSs lo;simp only[go_sem];apply qI<;>intro hc<;>simp only[hc,go_sem]
  ·have hlt:j<xs.length:=by have:=odT hc;omega
   clear hc;have he:el[j]?=some xs[j]:=by
    have:(el.drop j)[0]?=(xs.drop j)[0]?:=by rw[hd]
    rw[gDr,gDr,nAz,gEg hlt]at this;exact this
   simp only[JW hlt,hat,gMp,he,oMs,go_sem];refine lsA ?_;simp only[go_sem];refine qU (hf xs[j] (gMm hlt) el _ ?_);simp only[go_sem];have ks:=qlK (p:=p) hlt;have hd2:∀(i:Nat)(v:qV),i<j->(el.set i v).drop (j+1)=xs.drop (j+1):=λi v hi=>by
    rw[List.drop_set,if_pos (by omega)];have:(el.drop j).drop 1=(xs.drop j).drop 1:=by rw[hd]
    rwa[List.drop_drop,List.drop_drop]at this
   have hd3:el.drop (j+1)=xs.drop (j+1):=by
    have:(el.drop j).drop 1=(xs.drop j).drop 1:=by rw[hd]
    rwa[List.drop_drop,List.drop_drop]at this
   cases hp:p xs[j]with
   | true=>
    rw[hp,if_pos rfl,lAn]at ks;simp only[go_sem,wuA (n:=j)];exact qb (j+1,el) ⟨by simp only;omega,hel,by simp only;rw[ks];exact ht,hd3,by simp only;rw[ks];omega⟩ (by simp only;omega) (by simp only;rw[ks];exact csA)
   | false=>
    rw[hp]at ks;simp only[bFt,if_false]at ks;have kl:((xs.take (j+1)).filter λx=> !p x).length=((xs.take j).filter λx=> !p x).length+1:=by rw[ks];simp
    simp only[go_sem];generalize hc1:((xs.take j).filter λx=> !p x).length=c at kl ht hc0;simp only[JW (show c<xs.length by omega),go_sem];have hce:(el.map qV.enc)[c]?=some (el[c]'(by omega)).enc:=by rw[gMp,gEg (by omega)];rfl
    refine qn rfl (hat el) hce qnL ?_;rw[<-List.map_set,List.set_set];simp only[go_sem,wuA (n:=c),wuA (n:=j)];refine qb (j+1,el.set c xs[j]) ⟨by simp only;omega,by simpa using hel, ?_,hd2 c _ (by omega),by simp only;omega⟩ (by simp only;omega) (by simp only;rw[kl];exact csA);simp only;rw[kl,ks,lTs (show c<(el.set c xs[j]).length by simp;omega),List.take_set,List.set_eq_of_length_le (by simp;omega),ht];simp
  ·have hge:j=xs.length:=by have:=odF hc;omega
   clear hc;subst hge;rw[lTl]at ht hc0|-;generalize hF:(xs.filter λx=> !p x)=F at ht hc0 hK|-;have e2:((xs.length:Nat):Int).toNat=xs.length:=by omega
   refine qDV (v:=.slice 2 oid F.length (xs.length-F.length) false) (by simp[val,bnd,go_sem,show F.length<=xs.length by omega]) ?_;simp only[go_sem];refine qiZ (hat el) (by simp;omega) (by simp;omega) ?_;simp only[go_sem,List.set_set];refine qDV (v:=sQ 2 oid F.length) (by simp[val,bnd,go_sem,show F.length<=xs.length by omega]) ?_;simp only[go_sem];refine⟨_,gSs lo, ?_⟩;rw[List.set_set];have e3:((el.map qV.enc).take F.length++(List.replicate (xs.length-F.length) (AV.agg [iI 0,iI 0])++(el.map qV.enc).drop (F.length+(xs.length-F.length)))).take F.length=F.map qV.enc:=by
    rw[List.take_append_of_le_length (by simp;omega),List.take_take,Nat.min_self,<-List.map_take,ht]
   rw[e3];exact hK
end
section
variable {Γ:Nat->Option AFn} {g:Nat} {vs:List AV} {h:List qC} {K:AV->List qC->Prop}
theorem SCall.outph{w:Nat}(hs:SCall Γ g vs h λv h'=>∃v' h'',Wk [h'.length] v v'/\WkH [h'.length] (h'++[.row w [] true]) h''/\K v' h''):SCall Γ g vs h K:=λρ hr ar hH hv=>by
 obtain⟨k,r,hr',ρ',v,h',hx,⟨v',h'',w1,w2,hk⟩,g1,g2,g3,g4⟩:=hs ρ hr ar hH hv;have hle:=Ren.ext_le (x:=none) g1.none_at;have hn:∀n∈[h'.length],(ρ'.ext h'.length none) n=some none:=λn hn=>by simp at hn;subst hn;exact Ren.ext_same _ _ _
 have hl:=w2.1;simp only[lAp,lCo,lNi]at hl;refine⟨k,r,hr',_,v',h'',hx,hk,w2.rel hn g1.nil,w1 _ r hn (RelV.mono hle _ _ g2),⟨g3.pres,λi a hi=>?_,g3.fr,λi hi=>?_⟩,by omega⟩
 ·by_cases e:i=h'.length
  ·subst e;rw[Ren.ext_same]at hi;cases hi
  ·rw[Ren.ext_ne _ _ e]at hi;exact g3.new i a hi
 ·rw[Ren.ext_ne _ _ (by omega)];exact g3.base i hi
end
abbrev Prt(b:Nat)(zs:List Nat):Nat->Prop:=λj=>j<b\/j∈zs
abbrev ZL:=List (Nat×List Int)
def wQ(nid:Nat)(Z:ZL):AV:=.agg (.ptr nid 0 0::Z.map λz=>sQ 1 z.1 z.2.length)
structure RZ(rid nid:Nat)(Z:ZL)(h:List qC):Prop where
 o:h[rid]?=some (.row 5 [wQ nid Z] true)
 r:∀z∈Z,h[z.1]?=some (.row 1 (z.2.map qQ) true)
 nd:(Z.map (·.1)).Nodup
abbrev ids(rid:Nat)(Z:ZL):List Nat:=rid::Z.map (·.1)
structure RI(bk:List qD)(bid b rid nid mid:Nat)(ks:List Nat)(R:Nat->Bool)(N:Ags)(Z:ZL)(h:List qC):Prop where
 z:RZ rid nid Z h
 w:NE 3 [sQ 1 bid bk.length,.map mid] (Prt b (ids rid Z)) nid h N
 mp:h[mid]?=some (.map (z9 ks))
 m:¬Prt b (ids rid Z) mid
 bk:BK bk bid (Lo b) h
 hol:Hol R N
 rk:RK R ks
 al:AllK N
 lo:∀j∈ids rid Z,b<=j
theorem BK.up{bk:List qD}{bid:Nat}{P Q:Nat->Prop}{h:List qC}(b:BK bk bid Q h)(hb:∀j,Q j->P j):BK bk bid P h:=λg kg=>b g (kg.up hb)
section
variable {bk:List qD} {bid b rid nid mid:Nat} {ks:List Nat} {R:Nat->Bool} {N:Ags} {Z:ZL} {h h' h0:List qC} {K:AV->List qC->Prop}
theorem RI.rw(hI:RI bk bid b rid nid mid ks R N Z h):RW bk bid (z9 ks) mid (Prt b (ids rid Z)) nid h N:=⟨hI.w,hI.mp,hI.bk.up λ_ q=>.inl q⟩
theorem RZ.keep(hI:RZ rid nid Z h)(e:∀j∈ids rid Z,h'[j]?=h[j]?):RZ rid nid Z h':=
 ⟨(e _ (by simp)).trans hI.o,λz hz=>(e _ (by simp only[List.mem_cons,List.mem_map];exact .inr ⟨z,hz,rfl⟩)).trans (hI.r z hz),hI.nd⟩
theorem RZ.lt(hI:RZ rid nid Z h){j:Nat}(hj:j∈ids rid Z):j<h.length:=by
 rcases List.mem_cons.1 hj with e | e
 ·subst e;exact qR hI.o
 ·obtain⟨z,hz,rfl⟩:=List.mem_map.1 e;exact qR (hI.r z hz)
theorem RI.bl(hI:RI bk bid b rid nid mid ks R N Z h):b<=h.length:=by
 rcases Nat.lt_or_ge h.length b with q | q
 ·have:=hI.w.bl h.length (.inl q);omega
 ·exact q
theorem RI.keep(hI:RI bk bid b rid nid mid ks R N Z h)(k:Keep (Lo h.length) h h'):RI bk bid b rid nid mid ks R N Z h':=
 ⟨hI.z.keep λj hj=>k.k j (hI.z.lt hj),hI.w.keep k,(k.k _ (qR hI.mp)).trans hI.mp,hI.m,hI.bk.keep (k.lo hI.bl),hI.hol,hI.rk,hI.al,hI.lo⟩
theorem RI.len(hI:RI bk bid b rid nid mid ks R N Z h):qT R N.length+ks.length=N.length:=hI.rk.cnt hI.hol.rl
theorem qD6(hc:∀b s m,Can b ⟨s,m,h0⟩ ⟨s,m,h⟩)(el:h0.length=h.length)(hI:RI bk bid b rid nid mid ks R N Z h)(hl:N.length<=10000)
  (hK:∀h' oid,Keep (Lo h.length) h h'->h.length<=oid->h'[oid]?=some (.row 2 ((zZ R N (N.length-1)).map qV.enc) true)->K (.slice 2 oid 0 (zZ R N (N.length-1)).length false) h'):SCall Gm 1273 [.ptr rid 0 0] h0 K:=by
 refine SCall.runC [] [] (gk _ Kx) (by kernel_rfl) rfl (hc _ _ _) ?_;rw[el];clear hc el;have ho:=hI.z.o;unfold wQ at ho;simp only[Kx,qM,go_sem];refine WX rfl ?_;have ho1:(h++[qC.row 1 [.ptr rid 0 0] true])[rid]?=_:=(gAl (qR hI.z.o)).trans ho;have hb1:(h++[qC.row 1 [.ptr rid 0 0] true])[h.length]?=some (.row 1 [.ptr rid 0 0] true):=gCl;have k1:Keep (Lo h.length) h (h++[qC.row 1 [.ptr rid 0 0] true]):=Keep.app λ_ q=>q;simp only[hb1,ho1,go_sem];refine qU (s376 (hI.keep k1).w hI.al hl λh2 oid k2 l2 o2=>?_);simp only[lAp,lCo,lNi,nZa]at l2;have k2':Keep (Lo h.length) h h2:=k1.trans (k2.lo (by simp));simp only[go_sem];have pl:=Y1 N (N.length-1);refine qU (qo8 (p:=λp=>R p.A.toNat) (caps:=[.ptr h.length 0 0]) o2 (by omega) (λx hx el K hK=>?_) ?_)
 ·have kk:∀j,j<h.length+1->(h2.set oid (.row 2 (el.map qV.enc) true))[j]?=(h++[qC.row 1 [.ptr rid 0 0] true])[j]?:=λj hj=>by
   rw[gSn (by omega)];exact k2.k j (by show j<_;simp;omega)
  have kh:Keep (Lo h.length) h (h2.set oid (.row 2 (el.map qV.enc) true)):=⟨by rw[lLs];exact k2'.l,λj hj=>by
   have hj:j<h.length:=hj;rw[kk j (by omega),gAl hj]⟩
  have hI':=hI.keep kh;have hz:=hI'.z.o;unfold wQ at hz;exact qo9 (ks:=ks) (by rw[kk _ (by omega)];exact hb1) hz hI'.rw hI.rk (qe8 hx) hK
 ·rw[qe7];simp only[go_sem];refine hK _ oid (k2'.trans (Keep.set (Nat.not_lt.2 (by omega)))) (by omega) (gSs (qR o2))
end
section
variable {bk:List qD} {bid b rid nid mid:Nat} {ks:List Nat} {R:Nat->Bool} {N:Ags} {Z:ZL} {h h' h0:List qC} {K:AV->List qC->Prop}
def Jr(c:List Int)(x:Int):List Int:=c.set (x-1).toNat (c.getD (x-1).toNat 0+1)
def qY(T:List Int):List Int:=T.foldl Jr (List.replicate 7 0)
theorem qb8{T:List Int}{x:Int}:qY (T++[x])=Jr (qY T) x:=by unfold qY;rw[List.foldl_append];rfl
theorem Zf{T:List Int}:(qY T).length=7:=by
 have:∀(T:List Int)(c:List Int),(T.foldl Jr c).length=c.length:=by
  intro T
  induction T with
  | nil=>intro c;rfl
  | cons x T ih=>intro c;rw[List.foldl_cons,ih];simp[Jr]
 unfold qY;rw[this];rfl
theorem qlC{c:List Int}{x:Int}{m:Int}(h0:0<=m)(h:∀y∈c,0<=y/\y<=m):∀y∈Jr c x,0<=y/\y<=m+1:=by
 intro y hy;unfold Jr at hy;rcases List.mem_or_eq_of_mem_set hy with q | q
 ·have:=h y q;omega
 ·subst q;rw[lGd];cases e:c[(x-1).toNat]? with
  | none=>simp;omega
  | some z=>have:=h z (lMo e);simp;omega
theorem YU{T:List Int}:∀y∈qY T,0<=y/\y<=(T.length:Int):=by
 have:∀(T:List Int)(c:List Int)(m:Int),0<=m->(∀y∈c,0<=y/\y<=m)->∀y∈T.foldl Jr c,0<=y/\y<=m+T.length:=by
  intro T
  induction T with
  | nil=>intro c m _ h y hy;have:=h y hy;simp;omega
  | cons x T ih=>
   intro c m h0 h y hy;have:=ih (Jr c x) (m+1) (by omega) (qlC h0 h) y hy;simp;omega
 intro y hy;have:=this T _ 0 (by omega) (λy hy=>by simp at hy;omega) y hy;omega
theorem qoT{n:qD}{a:Nat}(hc:Cv h (sQ 5 a n.Agents.length) (.lst 5 (n.Agents.map qB.enc) false))(hz:n.sz<=1048576)(ok:zB n=true)(hB:BK bk bid (Lo h.length) h)
  (hK:∀H H' nid mid cid tid uid eid rid,(∀b s m,Can b ⟨s,m,H⟩ ⟨s,m,H'⟩)->H.length=H'.length->Keep (Lo h.length) h H->Keep (Lo h.length) h H'->RI bk bid h.length rid nid mid [] (λ_=>false) n.Agents [(cid,qY []),(tid,[]),(uid,[(n.Agents.length:Int)]),(eid,[])] H'->K (.ptr rid 0 0) H):
  SCall Gm 1272 [sQ 1 bid bk.length,.agg [sQ 5 a n.Agents.length]] h K:=by
 refine SCall.outph (w:=1) (SCall.outph (w:=1) (sI Kw ?_));simp only[Kw,qM,go_sem];refine qZ rfl ?_;simp only[go_sem];refine qU (s982 (.agg rfl (w9 hc λp hp=>by simp at hp)) hz (Wg ok) (λz hz=>(zi (JT (JX ok) z hz)).2) λH mid nid q1 q2 q3 q4 q5 q6=>?_);simp only[go_sem];refine Xi (by decide) ?_;simp only[go_sem];refine WX rfl ?_;simp only[go_sem];have l1:∀{a:qC},(H++[a]).length=H.length+1:=by simp
 have l2:∀{a b:qC},(H++[a]++[b]).length=H.length+2:=by simp
 have l3:∀{a b c:qC},(H++[a]++[b]++[c]).length=H.length+3:=by simp
 rw[l1,l2,l3];obtain⟨H3,e3⟩:∃H3,H3=H++[qC.row 1 (List.replicate 7 (AV.int IntKind.i64 0)) true]++[qC.row 1 [AV.int IntKind.i64 (n.Agents.length:Nat)] true]++[qC.row 5 [AV.agg [.ptr nid 0 0,sQ 1 H.length 7,.nils,sQ 1 (H.length+1) 1,.nils]] true]:=⟨_,rfl⟩;rw[<-e3];have g0:∀j,j<H.length->H3[j]?=H[j]?:=λj hj=>by rw[e3,gAl (by simp;omega),gAl (by simp;omega),gAl hj]
 have g1:H3[H.length]?=some (qC.row 1 (List.replicate 7 (AV.int IntKind.i64 0)) true):=by rw[e3,gAl (by simp),gAl (by simp)];exact gCl
 have g2:H3[H.length+1]?=some (qC.row 1 [AV.int IntKind.i64 (n.Agents.length:Nat)] true):=by rw[e3,gAl (by simp),gAr (by simp)];simp
 have g3:H3[H.length+2]?=some (qC.row 5 [AV.agg [.ptr nid 0 0,sQ 1 H.length 7,.nils,sQ 1 (H.length+1) 1,.nils]] true):=by rw[e3,gAr (by simp)];simp
 have g4:H3.length=H.length+3:=by rw[e3];simp
 clear e3;refine⟨_,(H3++[qC.row 1 [] true]).set (H.length+2) (qC.row 5 [AV.agg [.ptr nid 0 0,sQ 1 H.length 7,sQ 1 (H.length+3) 0,sQ 1 (H.length+1) 1,.nils]] true),.refl _,
  WkH.at' (by rw[gAl (by omega)];exact g3) (.cons (Wk.agg (Wks.same (Wks.same (.cons (Wk.ph (by simp)) (Wks.same (Wks.same .nil)))))) .nil), ?_⟩
 obtain⟨H4,e4⟩:∃H4,H4=(H3++[qC.row 1 [] true]).set (H.length+2) (qC.row 5 [AV.agg [.ptr nid 0 0,sQ 1 H.length 7,sQ 1 (H.length+3) 0,sQ 1 (H.length+1) 1,.nils]] true):=⟨_,rfl⟩;rw[<-e4];have f0:∀j,j<H.length+3->j≠H.length+2->H4[j]?=H3[j]?:=λj hj hn=>by rw[e4,gSn (by omega),gAl (by omega)]
 have f3:H4[H.length+2]?=some (qC.row 5 [AV.agg [.ptr nid 0 0,sQ 1 H.length 7,sQ 1 (H.length+3) 0,sQ 1 (H.length+1) 1,.nils]] true):=by rw[e4,gSs (by simp;omega)]
 have f4:H4.length=H.length+4:=by rw[e4];simp;omega
 have f5:H4[H.length+3]?=some (qC.row 1 [] true):=by rw[e4,gSn (by omega),gAr (by omega),g4,nSs];rfl
 clear e4;refine⟨_,(H4++[qC.row 1 [] true]).set (H.length+2) (qC.row 5 [AV.agg [.ptr nid 0 0,sQ 1 H.length 7,sQ 1 (H.length+3) 0,sQ 1 (H.length+1) 1,sQ 1 (H.length+4) 0]] true),.refl _,
  WkH.at' (by rw[gAl (by omega)];exact f3) (.cons (Wk.agg (Wks.same (Wks.same (Wks.same (Wks.same (.cons (Wk.ph (by simp;omega)) .nil)))))) .nil), ?_⟩
 obtain⟨H5,e5⟩:∃H5,H5=(H4++[qC.row 1 [] true]).set (H.length+2) (qC.row 5 [AV.agg [.ptr nid 0 0,sQ 1 H.length 7,sQ 1 (H.length+3) 0,sQ 1 (H.length+1) 1,sQ 1 (H.length+4) 0]] true):=⟨_,rfl⟩;rw[<-e5];have d0:∀j,j<H.length+4->j≠H.length+2->H5[j]?=H4[j]?:=λj hj hn=>by rw[e5,gSn (by omega),gAl (by omega)]
 have d3:H5[H.length+2]?=some (qC.row 5 [AV.agg [.ptr nid 0 0,sQ 1 H.length 7,sQ 1 (H.length+3) 0,sQ 1 (H.length+1) 1,sQ 1 (H.length+4) 0]] true):=by rw[e5,gSs (by simp;omega)]
 have d4:H5.length=H.length+5:=by rw[e5];simp;omega
 have d5:H5[H.length+4]?=some (qC.row 1 [] true):=by rw[e5,gSn (by omega),gAr (by omega),f4,nSs];rfl
 clear e5;obtain⟨G,c1,n1,m1,lG,kG⟩:=q6 H5 (by omega) (λj _ hj=>by rw[d0 j (by omega) (by omega),f0 j (by omega) (by omega),g0 j hj]);have kH:Keep (Lo h.length) h H5:=⟨by have:=q5.l;omega,λj hj=>by
  have:=q5.l;have hj':j<h.length:=hj;rw[d0 j (by omega) (by omega),f0 j (by omega) (by omega),g0 j (by omega)];exact q5.k j hj⟩
 have kG2:Keep (Lo h.length) h G:=⟨by rw[lG];exact kH.l,λj hj=>(kG j (.inl hj)).trans (kH.k j hj)⟩;have e1:=(kG _ (.inr (nLr H.length))).trans ((d0 _ (by omega) (by omega)).trans ((f0 _ (by omega) (by omega)).trans g1));have e2:=(kG (H.length+1) (.inr (by omega))).trans ((d0 _ (by omega) (by omega)).trans ((f0 _ (by omega) (by omega)).trans g2));have e3:=(kG (H.length+2) (.inr (by omega))).trans d3;have e4:=(kG (H.length+3) (.inr (by omega))).trans ((d0 _ (by omega) (by omega)).trans f5);have e5:=(kG (H.length+4) (.inr (by omega))).trans d5;have hl:=q5.l;refine hK H5 G nid mid H.length (H.length+3) (H.length+1) (H.length+4) (H.length+2) c1 lG.symm kH kG2 ⟨⟨?_,λz hz=>?_, ?_⟩,n1.up λj hj=>?_,m1, ?_,hB.keep kG2,Hol.of ok,RK.nil,AllK.of ok,λj hj=>?_⟩
 ·rw[e3];rfl
 ·simp only[List.mem_cons,List.mem_nil_iff,or_false]at hz;rcases hz with rfl | rfl | rfl | rfl
  ·exact e1
  ·exact e4
  ·exact e2
  ·exact e5
 ·simp
 ·simp only[Prt,ids,lMc,List.map_nil,List.mem_cons,List.mem_nil_iff,or_false]at hj;omega
 ·simp only[Prt,ids,lMc,List.map_nil,List.mem_cons,List.mem_nil_iff,or_false];omega
 ·simp only[ids,lMc,List.map_nil,List.mem_cons,List.mem_nil_iff,or_false]at hj;omega
end
theorem NE.re{w:Nat}{post:List AV}{P P':Nat->Prop}{nid:Nat}{h h':List qC}{N:Ags}(hN:NE w post P nid h N)(hk:∀j,j<h.length->¬P j->h'[j]?=h[j]?)(hl:h.length<=h'.length)(hP:∀j,P' j->P j\/h.length<=j)(bl:∀j,P' j->j<h'.length):NE w post P' nid h' N:=by
 obtain⟨aid,ps,n⟩:=hN;have e:NA w post P nid aid ps h' N:=n.heap (hk _ n.lt n.b1) (hk _ n.lta n.b2) (λq hq=>hk _ (n.ltp hq) (n.b3 q hq)) hl;have np:∀j,j<h.length->¬P j->¬P' j:=λj hj hn q=>(hP j q).elim hn (by omega);exact⟨aid,ps,{e with b1:=np _ n.lt n.b1,b2:=np _ n.lta n.b2,b3:=λq hq=>np _ (n.ltp hq) (n.b3 q hq),bl:=bl}⟩
theorem qeL{α:Type}{a:α}:∀{xs:List α}{i:Nat},xs.Nodup->a∉xs->(xs.set i a).Nodup
 |[],_,_,_=>by simp
 | x::xs,0,h,ha=>by
  rw[List.nodup_cons]at h;simp only[List.mem_cons,not_or]at ha;rw[lSz,List.nodup_cons];exact⟨ha.2,h.2⟩
 | x::xs,i+1,h,ha=>by
  rw[List.nodup_cons]at h;simp only[List.mem_cons,not_or]at ha;rw[List.set_cons_succ,List.nodup_cons];refine⟨λq=>?_,qeL h.2 ha.2⟩;rcases List.mem_or_eq_of_mem_set q with q | q
  ·exact h.1 q
  ·exact ha.1 q.symm
section
variable {bk:List qD} {bid b rid nid mid:Nat} {ks:List Nat} {R:Nat->Bool} {N:Ags} {Z:ZL} {h h':List qC} {K:AV->List qC->Prop} {i id:Nat} {xs ys:List Int} {v:Int}
theorem RZ.ne(hI:RZ rid nid Z h){z:Nat×List Int}(hz:z∈Z):z.1≠rid:=λe=>by
 have h1:=hI.o;have h2:=hI.r z hz;rw[e,h1]at h2;simp at h2
theorem RZ.at_ne(hI:RZ rid nid Z h){j:Nat}{z:Nat×List Int}(hz:Z[i]?=some (id,xs))(hj:Z[j]?=some z)(ne:i≠j):z.1≠id:=λe=>by
 have h1:(Z.map (·.1))[i]?=some id:=by rw[gMp,hz];rfl
 have h2:(Z.map (·.1))[j]?=some id:=by rw[gMp,hj,oMs,e]
 have l1:=qR h1;have l2:=qR h2;exact ne ((List.getElem_inj hI.nd).1 ((gSi.1 h1).2.trans (gSi.1 h2).2.symm))
theorem RI.app(hI:RI bk bid b rid nid mid ks R N Z h)(hz:Z[i]?=some (id,xs)):
  ∀G,G=((h++[qC.row 1 [iI v] true]).set id .dead++[qC.row 1 (xs.map qQ++[iI v]) true]).set rid (.row 5 [wQ nid (Z.set i (h.length+1,xs++[v]))] true)->
  RI bk bid b rid nid mid ks R N (Z.set i (h.length+1,xs++[v])) G/\Keep (Lo b) h G:=by
 intro G hG;have mz:=lMo hz;have li:i<Z.length:=qR hz;have hid:=qR (hI.z.r _ mz);have hrid:=qR hI.z.o;have ne:=hI.z.ne mz;simp only at hid ne;have lG:G.length=h.length+2:=by rw[hG];simp
 have eG:∀j,j<h.length->j≠id->j≠rid->G[j]?=h[j]?:=λj hj j1 j2=>by
  rw[hG,gSn (Ne.symm j2),gAl (by simp;omega),gSn (Ne.symm j1),gAl hj]
 have eN:G[h.length+1]?=some (.row 1 ((xs++[v]).map qQ) true):=by
  rw[hG,gSn (by omega),gAr (by simp)];simp[qQ]
 have eR:G[rid]?=some (.row 5 [wQ nid (Z.set i (h.length+1,xs++[v]))] true):=by rw[hG,gSs (by simp;omega)]
 have mids:∀j,j∈ids rid (Z.set i (h.length+1,xs++[v]))->j∈ids rid Z\/j=h.length+1:=λj hj=>by
  simp only[ids,List.mem_cons,List.map_set]at hj|-;rcases hj with e | hj
  ·exact .inl (.inl e)
  ·rcases List.mem_or_eq_of_mem_set hj with q | q
   ·exact .inl (.inr q)
   ·exact .inr q
 have iid:id∈ids rid Z:=by simp only[ids,List.mem_cons,List.mem_map];exact .inr ⟨_,mz,rfl⟩
 have kb:Keep (Lo b) h G:=⟨by omega,λj hj=>by
  have hj:j<b:=hj;have h1:=hI.lo _ iid;have h2:=hI.lo rid (by simp);have h3:=hI.bl;exact eG j (by omega) (by omega) (by omega)⟩
 refine⟨⟨⟨eR,λz hz'=>?_, ?_⟩,hI.w.re (λj hj hn=>eG j hj (λe=>hn (.inr (e▸iid))) (λe=>hn (.inr (by rw[e];simp)))) (by omega) (λj hj=>?_) (λj hj=>?_), ?_,λq=>?_,hI.bk.keep kb,hI.hol,hI.rk,hI.al,λj hj=>?_⟩,kb⟩
 ·obtain⟨k,hk⟩:=List.getElem?_of_mem hz';rw[gSt]at hk;by_cases e:i=k
  ·rw[if_pos e,if_pos li]at hk;cases hk;exact eN
  ·rw[if_neg e]at hk;have m2:=lMo hk;rw[eG _ (qR (hI.z.r z m2)) (hI.z.at_ne hz hk e) (hI.z.ne m2)];exact hI.z.r z m2
 ·rw[List.map_set];refine qeL hI.z.nd λq=>?_;obtain⟨z,m2,e⟩:=List.mem_map.1 q;have:=qR (hI.z.r z m2);simp only at e this;omega
 ·rcases hj with q | q
  ·exact .inl (.inl q)
  ·rcases mids j q with q | q
   ·exact .inl (.inr q)
   ·exact .inr (by omega)
 ·rcases hj with q | q
  ·have:=hI.bl;omega
  ·rcases mids j q with q | q
   ·have:=hI.z.lt q;omega
   ·omega
 ·have lm:=qR hI.mp;rw[eG mid lm (λe=>hI.m (.inr (e▸iid))) (λe=>hI.m (.inr (by rw[e];simp)))];exact hI.mp
 ·have lm:=qR hI.mp;rcases q with q | q
  ·exact hI.m (.inl q)
  ·rcases mids _ q with q | q
   ·exact hI.m (.inr q)
   ·omega
 ·rcases mids j hj with q | q
  ·exact hI.lo j q
  ·have:=hI.bl;omega
theorem RI.sto(hI:RI bk bid b rid nid mid ks R N Z h)(hz:Z[i]?=some (id,xs))(hl:ys.length=xs.length):
  RI bk bid b rid nid mid ks R N (Z.set i (id,ys)) (h.set id (.row 1 (ys.map qQ) true))/\Keep (Lo b) h (h.set id (.row 1 (ys.map qQ) true)):=by
 have mz:=lMo hz;have li:i<Z.length:=qR hz;have hid:=qR (hI.z.r _ mz);simp only at hid;have ne:=hI.z.ne mz;have iid:id∈ids rid Z:=by simp only[ids,List.mem_cons,List.mem_map];exact .inr ⟨_,mz,rfl⟩
 have ei:(Z.set i (id,ys)).map (·.1)=Z.map (·.1):=by
  rw[List.map_set];refine List.ext_getElem? λk=>?_;rw[gSt];split
  ·rename_i e;subst e;rw[if_pos (by simpa using li),gMp,hz];rfl
  ·rfl
 have ez:wQ nid (Z.set i (id,ys))=wQ nid Z:=by
  unfold wQ;rw[List.map_set];congr 2;refine List.ext_getElem? λk=>?_;rw[gSt];split
  ·rename_i e;subst e;rw[if_pos (by simpa using li),gMp,hz,hl];rfl
  ·rfl
 have kb:Keep (Lo b) h (h.set id (.row 1 (ys.map qQ) true)):=Keep.set (by have:=hI.lo _ iid;exact Nat.not_lt.2 this);have eid:ids rid (Z.set i (id,ys))=ids rid Z:=by unfold ids;rw[ei]
 refine⟨⟨⟨?_,λz hz'=>?_,by rw[ei];exact hI.z.nd⟩,hI.w.re (λj hj hn=>gSn λe=>hn (.inr (by rw[<-e];exact iid))) (by simp) (λj hj=>.inl (by rw[eid]at hj;exact hj)) (λj hj=>by rw[eid]at hj;rw[lLs];exact hI.w.bl j hj), ?_,by rw[eid];exact hI.m,hI.bk.keep kb,hI.hol,hI.rk,hI.al,by rw[eid];exact hI.lo⟩,kb⟩
 ·rw[ez,gSn ne];exact hI.z.o
 ·obtain⟨k,hk⟩:=List.getElem?_of_mem hz';rw[gSt]at hk;by_cases e:i=k
  ·rw[if_pos e,if_pos li]at hk;cases hk;exact gSs hid
  ·rw[if_neg e]at hk;have m2:=lMo hk;rw[gSn (Ne.symm (hI.z.at_ne hz hk e))];exact hI.z.r z m2
 ·rw[gSn (λe=>hI.m (.inr (by rw[<-e];exact iid)))];exact hI.mp
theorem qlO{es:List (AV×AV)}{base:Nat->Prop}(hR:RW bk bid es mid base nid h N)(hl:N.length<=1000000)(he:es.length<=N.length):SCallP Gm 1306 [.ptr nid 0 0] h λv=>v=iI ((N.length:Int)-es.length):=by
 obtain⟨aid,ps,hN⟩:=hR.n;refine SCallP.quiet (gk _ XE) (F:=XE) rfl (by kernel_rfl) (by kernel_rfl) rfl ?_;simp only[XE,qM,go_sem,hN.o,oBs,qCA hR.m,oMs];rw[wsA]
theorem qCM{a:Nat×List Int}{T:List Int}{t:Nat}{Z':ZL}(hI:RZ rid nid (a::(t,T)::Z') h):SCallP Gm 1274 [.ptr rid 0 0] h λv=>v=iI (T.length:Nat):=by
 have ho:=hI.o;unfold wQ at ho;simp only[lMc]at ho;refine SCallP.quiet (gk _ VT) (F:=VT) rfl (by kernel_rfl) (by kernel_rfl) rfl ?_;simp only[VT,qM,go_sem,ho]
end
section
variable {bk:List qD} {bid b rid nid mid cid tid uid eid A B a c:Nat} {ks:List Nat} {R:Nat->Bool} {N:Ags} {Z:ZL} {h h':List qC} {K:AV->List qC->Prop} {T U E:List Int} {x y u v:qB}
def we(bk:List qD)(R:Nat->Bool)(N:Ags)(x y:qB):Int:=if (ql bk x y).2≠0 then(ql bk x y).2 else if 600<(qT R N.length:Int)+(ql bk x y).1 then 4 else 0
theorem RI.same(hI:RI bk bid b rid nid mid ks R N Z h)(hR:RW bk bid (z9 ks) mid (Prt b (ids rid Z)) nid h' N)(k:Keep (Prt b (ids rid Z)) h h'):RI bk bid b rid nid mid ks R N Z h':=
 ⟨hI.z.keep λj hj=>k.k j (.inr hj),hR.n,hR.m,hI.m,hI.bk.keep (k.up λ_ q=>.inl q),hI.hol,hI.rk,hI.al,hI.lo⟩
theorem RI.after(hI:RI bk bid b rid nid mid ks R N Z h)(G:zW R bk N a c x y)(hR:RW bk bid (z9 (ks++zX (qN x y) a c)) mid (Prt b (ids rid Z)) nid h' (zA bk N a c x y))(k:Keep (Prt b (ids rid Z)) h h'):
  RI bk bid b rid nid mid (ks++zX (qN x y) a c) (z8 R (qN x y) a c) (zA bk N a c x y) Z h':=
 ⟨hI.z.keep λj hj=>k.k j (.inr hj),hR.n,hR.m,hI.m,hI.bk.keep (k.up λ_ q=>.inl q),qEH G,hI.rk.dead G.act,qg8 G hI.al,hI.lo⟩
theorem qoU(hI:RI bk bid b rid nid mid ks R N [(cid,qY T),(tid,T),(uid,U),(eid,E)] h)(hbk:ju bk=true)(hA:Act R N a c x y)(a0:a≠0)(c0:c≠0)(hf:zY x.Kind x.Level y.Kind y.Level≠2)(hks:ks.length<=1000)(hT:T.length<=4000)(hU:U.length<=5000)(hE:E.length<=5000)
  (hu:N[A]?=some u) (hv:N[B]?=some v) (ho:(zI u v=true/\a=B/\c=A/\x=v/\y=u)\/(zI u v=false/\a=A/\c=B/\x=u/\y=v))
  (hK1:∀h' e,RI bk bid b rid nid mid ks R N [(cid,qY T),(tid,T),(uid,U),(eid,E)] h'->Keep (Lo b) h h'->we bk R N x y=e->e≠0->K (iI e) h')
  (hK3:zW R bk N a c x y->we bk R N x y=0->∀h' tid' uid' eid' U' E',RI bk bid b rid nid mid (ks++zX (qN x y) a c) (z8 R (qN x y) a c) (zA bk N a c x y) [(cid,qY (T++[qN x y])),(tid',T++[qN x y]),(uid',U'),(eid',E')] h'->
   U'.length=U.length+1->E'.length<=E.length+1->Keep (Lo b) h h'->K (iI 0) h'):SCall Gm 1275 [.ptr rid 0 0,(⟨(A:Int),(B:Int)⟩:qV).enc] h K:=by
 have hcn:=hI.len;have hc6:=hI.hol.c;have hz:=hI.z.o;unfold wQ at hz;simp only[lMc,List.map_nil]at hz;have qx:=hI.al _ _ hA.x;have qy:=hI.al _ _ hA.y;have huv:qe u=true/\qe v=true:=⟨(hI.al _ _ hu).1,(hI.al _ _ hv).1⟩;have eo:Jj u v=qN x y:=by unfold Jj;rcases ho with⟨e,_,_,rfl,rfl⟩ | ⟨e,_,_,rfl,rfl⟩<;>rw[e]<;>rfl
 have lA:=qR hu;have lB:=qR hv;have tl:zW R bk N a c x y->we bk R N x y=0->∀(g:List qC)(s m:qv)(eid':Nat)(E':List Int),get s 0=some (.ptr rid 0 0)->get s 5=some (iI (qN x y))->
   RI bk bid b rid nid mid (ks++zX (qN x y) a c) (z8 R (qN x y) a c) (zA bk N a c x y) [(cid,qY T),(tid,T),(uid,U),(eid',E')] g->E'.length<=E.length+1->Keep (Lo b) h g->
   Ab.R ⟨Gm,h.length,[],[]⟩ [.code ((qG.reg true Kz).seq ((qG.reg true K0).seq ((qG.reg true K2).seq (((qG.reg true K3).seq (qG.cond (Ao.t 102) (qG.reg true K4) qG.skip)).seq ((qG.reg true [qA.mk 0 (some 4) none (AOp.mov (Ao.c (AV.int IntKind.i64 0))) []]).seq qG.ret)))))] ⟨s,m,g⟩ (Jq [jV.t 4] K):=by
  intro G cd g s m eid' E' g0 g5 hJ hE' kb;have hz:=hJ.z.o;unfold wQ at hz;simp only[lMc,List.map_nil]at hz;have hlen:=hJ.len;have hlc:=hJ.hol.c;have c17:=G.cls;have hdl:(zX (qN x y) a c).length<=2:=by unfold zX;split<;>simp
  obtain⟨cn,hcn1⟩:∃cn:Nat,qN x y=((cn+1:Nat):Int):=⟨(qN x y-1).toNat,by omega⟩;have e1:IntKind.i64.wrap (qN x y-1)=(cn:Int):=by rw[wsA];omega
  have l7:=Zf (T:=T);have hcl:cn<(qY T).length:=by omega
  have hrow:g[cid]?=some (.row 1 ((qY T).map qQ) true):=hJ.z.r (cid,qY T) (by simp);have hel:((qY T).map qQ)[cn]?=some (iI ((qY T)[cn])):=by rw[gMp,gEg hcl];rfl
  have hbd:=YU (T:=T) _ (gMm hcl);have e2:IntKind.i64.wrap ((qY T)[cn]+1)=(qY T)[cn]+1:=wsA;simp only[g0,g5,hz,go_sem];simp only[e1,J8 hcl,hrow,hel,e2,go_sem];refine qn rfl hrow hel rfl ?_;have e3:((qY T).map qQ).set cn (AV.int .i64 ((qY T)[cn]+1))=(qY (T++[qN x y])).map qQ:=by
   rw[qb8];unfold Jr;rw[show (qN x y-1).toNat=cn by omega,List.map_set,lGd,gEg hcl];rfl
  rw[e3];obtain⟨hJ2,k2⟩:=hJ.sto (i:=0) (id:=cid) (xs:=qY T) (ys:=qY (T++[qN x y])) rfl (by rw[Zf,Zf]);simp only[lSz]at hJ2;replace kb:=kb.trans k2;generalize g.set cid (.row 1 ((qY (T++[qN x y])).map qQ) true)=g2 at hJ2 kb|-;clear hz hrow hel hbd e2 e3 k2 hJ;have hz2:=hJ2.z.o;unfold wQ at hz2;simp only[lMc,List.map_nil]at hz2;have hrow:g2[tid]?=some (.row 1 (T.map qQ) true):=hJ2.z.r (tid,T) (by simp);have n1:tid≠rid:=hJ2.z.ne (z:=(tid,T)) (by simp);obtain⟨r1,r2⟩:=Qb (tmp:=.row 1 [iI (qN x y)] true) hrow;have lr:=qR hz2;simp only[g0,g5,hz2,go_sem];refine jO (len:=T.length) r2 r1 (by simp) (by omega) ?_;simp only[go_sem];refine qn rfl (by rw[gAl (by simp;omega),gSn n1,gAl lr];exact hz2) rfl rfl ?_;simp only[lSz,lAp,lCo,lNi,nZa];generalize hg:List.set (_++[_]) rid _=g3;obtain⟨hJ3,k3⟩:=hJ2.app (i:=1) (id:=tid) (xs:=T) (v:=qN x y) rfl g3 (by rw[<-hg];simp[wQ,AV.cells]);simp only[lSz,List.set_cons_succ]at hJ3;replace kb:=kb.trans k3;clear hg k3 r1 r2 hz2 hrow n1 lr hJ2;generalize g2.length+1=tid2 at hJ3;have hz3:=hJ3.z.o;unfold wQ at hz3;simp only[lMc,List.map_nil]at hz3;have hrow:g3[uid]?=some (.row 1 (U.map qQ) true):=hJ3.z.r (uid,U) (by simp);have n1:uid≠rid:=hJ3.z.ne (z:=(uid,U)) (by simp);have lr:=qR hz3;simp only[g0,g5,hz3,go_sem];have el:(z9 (ks++zX (qN x y) a c)).length=(ks++zX (qN x y) a c).length:=by simp[z9]
  simp only[lAp]at hlen el;refine Vq (qlO hJ3.rw (by omega) (by omega)) ?_;generalize ((zA bk N a c x y).length:Int)-((z9 (ks++zX (qN x y) a c)).length:Nat)=cv;obtain⟨r1,r2⟩:=Qb (tmp:=.row 1 [iI cv] true) hrow;simp only[go_sem];refine jO (len:=U.length) r2 r1 (by simp) (by omega) ?_;simp only[go_sem];refine qn rfl (by rw[gAl (by simp;omega),gSn n1,gAl lr];exact hz3) rfl rfl ?_;simp only[lSz,lAp,lCo,lNi,nZa];generalize hg:List.set (_++[_]) rid _=g4;obtain⟨hJ4,k4⟩:=hJ3.app (i:=2) (id:=uid) (xs:=U) (v:=cv) rfl g4 (by rw[<-hg];simp[wQ,AV.cells]);simp only[lSz,List.set_cons_succ]at hJ4;replace kb:=kb.trans k4;clear hg k4 r1 r2 hz3 hrow n1 lr hJ3 el;have hz4:=hJ4.z.o;unfold wQ at hz4;simp only[lMc,List.map_nil]at hz4;obtain⟨aid,ps,hNA⟩:=hJ4.w;simp only[g0,g5,hz4,hNA.o,go_sem];simp only[show decide ((2400:Int)<((zA bk N a c x y).length:Nat))=false from decide_eq_false (by omega),go_sem];exact hK3 G cd g4 _ _ _ _ _ hJ4 (by simp) hE' kb
 refine sI Ky ?_;simp only[Ky,qM,go_sem,qV.enc];refine qZ rfl ?_;simp only[hz,go_sem];refine qU (s751 hI.w hu hv huv.1 huv.2 ?_);rw[eo];simp only[go_sem];have hF:∃(F:Nat)(z:qB),N[F]?=some z/\((zI u v&& !decide (qN x y=8))=true->F=B)/\((zI u v&& !decide (qN x y=8))=false->F=A):=by
  cases (zI u v&& !decide (qN x y=8))
  ·exact⟨A,u,hu,λq=>(by cases q),λ_=>rfl⟩
  ·exact⟨B,v,hv,λ_=>rfl,λq=>(by cases q)⟩
 obtain⟨F,z,hFz,hFB,hFA⟩:=hF;obtain⟨aid,ps,q,hNA,o1,o2,o3⟩:=hI.w.rd hFz;have lF:=qR hFz;cases hb:(zI u v&& !decide (qN x y=8))<;>rw[hb]at hFA hFB
 all_goals
  first
   | (obtain rfl:=hFA rfl)
   | (obtain rfl:=hFB rfl)
  simp only[hb,hz,go_sem];simp only[o1,zH lF,o2,o3,go_sem];simp only[hz,go_sem];refine qU (s983 (λ_ _ _=>Can.refl _ _) hI.rw hI.m hI.hol hI.rk (by omega) hbk hA a0 c0 hf hu hv ho (λq h' r k=>?_) (λq q2 h' r k=>?_) λG h' r k=>?_)
  ·simp only[go_sem];simp only[q,decide_false,go_sem];exact hK1 h' _ (hI.same r k) (k.up λ_ q=>.inl q) (by unfold we;rw[if_pos q]) q
  ·simp only[go_sem];simp only[show decide ((4:Int)=0)=false from rfl,go_sem];exact hK1 h' _ (hI.same r k) (k.up λ_ q=>.inl q) (by unfold we;rw[if_neg (by omega),if_pos q2]) (by decide)
  ·have hI1:=hI.after G r k;have kb:Keep (Lo b) h h':=k.up λ_ q=>.inl q;clear r k;simp only[go_sem];have cd:we bk R N x y=0:=by
    have:=G.g;have:=G.full;unfold we;rw[if_neg (by omega),if_neg (by omega)]
   apply qI<;>intro hc
   ·simp only[hc,go_sem];have hz1:=hI1.z.o;unfold wQ at hz1;simp only[lMc,List.map_nil]at hz1;have hrow:h'[eid]?=some (.row 1 (E.map qQ) true):=hI1.z.r (eid,E) (by simp);have n1:eid≠rid:=hI1.z.ne (z:=(eid,E)) (by simp);obtain⟨r1,r2⟩:=Qb (tmp:=.row 1 [iI z.Value] true) hrow;have lr:=qR hz1;simp only[hz1,go_sem];refine jO (len:=E.length) r2 r1 (by simp) (by omega) ?_;simp only[go_sem];refine qn rfl (by rw[gAl (by simp;omega),gSn n1,gAl lr];exact hz1) rfl rfl ?_;simp only[lSz,lAp,lCo,lNi,nZa];generalize hg:List.set (_++[_]) rid _=g1;obtain⟨hJ1,k1⟩:=hI1.app (i:=3) (id:=eid) (xs:=E) (v:=z.Value) rfl g1 (by rw[<-hg];simp[wQ,AV.cells]);simp only[lSz,List.set_cons_succ]at hJ1;rw[qnV];refine(tl G cd g1 _ _ _ _ ?_ ?_ hJ1 (by simp) (kb.trans k1))<;>simp only[go_sem]
   ·rw[qnZ];refine(tl G cd h' _ _ _ _ ?_ ?_ hI1 (by omega) kb)<;>simp only[go_sem]
end
structure qF where
 Id:Int
 Weight:Int
 State:Int
 Code:Int
 Left:Int
 Slices:Int
 Counts:List Int
 Schedule:List Int
 Book:List qD
 Net:qD
def qF.enc(x:qF):AV:=.agg [iI x.Id,iI x.Weight,iI x.State,iI x.Code,iI x.Left,iI x.Slices,lQ x.Counts,lQ x.Schedule,.lst 1 (x.Book.map qD.enc) false,.lst 5 (x.Net.Agents.map qB.enc) false]
theorem qF.isSh:Sh qF.enc 10 (some 10):=⟨λx=>by simp[qF.enc,AV.tree,AV.trees,qa qB.isSh.tree,qa qD.isSh.tree,qa shI.tree],λ_=>rfl,λ_=>rfl,by decide,λx=>by simp[qF.enc]⟩
section
variable {x:qF}
@[go_sem] theorem qF.tr:x.enc.tree=true:=qF.isSh.tree x
@[go_sem] theorem qF.ln:x.enc.cells.length=10:=nr rfl
@[go_sem] theorem qF.all:x.enc.part 0 (some 10)=some x.enc:=nr rfl
@[go_sem] theorem qF.p0:x.enc.part 0 none=some (iI x.Id):=nr rfl
@[go_sem] theorem qF.p1:x.enc.part 1 none=some (iI x.Weight):=nr rfl
@[go_sem] theorem qF.p2:x.enc.part 2 none=some (iI x.State):=nr rfl
@[go_sem] theorem qF.p3:x.enc.part 3 none=some (iI x.Code):=nr rfl
@[go_sem] theorem qF.p4:x.enc.part 4 none=some (iI x.Left):=nr rfl
@[go_sem] theorem qF.p5:x.enc.part 5 none=some (iI x.Slices):=nr rfl
@[go_sem] theorem qF.p6:x.enc.part 6 none=some (lQ x.Counts):=nr rfl
@[go_sem] theorem qF.p7:x.enc.part 7 none=some (lQ x.Schedule):=nr rfl
@[go_sem] theorem qF.p8:x.enc.part 8 none=some (.lst 1 (x.Book.map qD.enc) false):=nr rfl
@[go_sem] theorem qF.p9:x.enc.part 9 none=some (.lst 5 (x.Net.Agents.map qB.enc) false):=nr rfl
@[go_sem] theorem qF.q9_1:x.enc.part 9 (some 1)=some (qD.enc x.Net):=nr rfl
end
def qF.sz(x:qF):Nat:=x.Counts.length+x.Schedule.length+(x.Book.length+qH qD.sz x.Book)+qD.sz x.Net
def qF.bd(x:qF):Prop:=x.Counts.length<=140737488355328/\x.Schedule.length<=140737488355328/\x.Book.length<=140737488355328/\(∀y∈x.Book,qD.bd y)/\qD.bd x.Net
structure qP where
 Quantum:Int
 NextId:Int
 Turn:Int
 Jobs:List qF
def qP.enc(x:qP):AV:=.agg [iI x.Quantum,iI x.NextId,iI x.Turn,.lst 10 (x.Jobs.map qF.enc) false]
theorem qP.isSh:Sh qP.enc 4 (some 4):=⟨λx=>by simp[qP.enc,AV.tree,AV.trees,qa qF.isSh.tree],λ_=>rfl,λ_=>rfl,by decide,λx=>by simp[qP.enc]⟩
section
variable {x:qP}
@[go_sem] theorem qP.tr:x.enc.tree=true:=qP.isSh.tree x
@[go_sem] theorem qP.all:x.enc.part 0 (some 4)=some x.enc:=nr rfl
@[go_sem] theorem qP.p0:x.enc.part 0 none=some (iI x.Quantum):=nr rfl
@[go_sem] theorem qP.p1:x.enc.part 1 none=some (iI x.NextId):=nr rfl
@[go_sem] theorem qP.p2:x.enc.part 2 none=some (iI x.Turn):=nr rfl
@[go_sem] theorem qP.p3:x.enc.part 3 none=some (.lst 10 (x.Jobs.map qF.enc) false):=nr rfl
end
def qP.sz(x:qP):Nat:=(x.Jobs.length+qH qF.sz x.Jobs)
def qP.bd(x:qP):Prop:=x.Jobs.length<=140737488355328/\(∀y∈x.Jobs,qF.bd y)
theorem c959(x:qF)(hb:x.bd)(left:Nat)(hl:left<=1048576):Pure Gm 959 [x.enc,iI left] (iI (wU x.sz left)):=by
 refine pI F959 (by simp[AV.trees,AV.tree,qF.tr]) rfl ?_;simp only[F959,qM,go_sem];refine qZ rfl ?_;simp only[go_sem];unfold qF.bd at hb;refine qL (c338 _ hb.1 _ (by omega)) ?_;simp only[go_sem];apply qI<;>intro hc<;>simp only[hc,go_sem]
 ·have hq:=odT hc;rw[wV]at hq;exact qO rfl (by rw[Jg (by unfold qF.sz;omega)])
 have hq:=odF hc;rw[wV]at hq;rw[wh (by omega)];clear hc;refine qL (c338 _ hb.2.1 _ (by omega)) ?_;simp only[go_sem];apply qI<;>intro hc<;>simp only[hc,go_sem]
 ·have hq:=odT hc;rw[wV]at hq;exact qO rfl (by rw[Jg (by unfold qF.sz;omega)])
 have hq:=odF hc;rw[wV]at hq;rw[wh (by omega)];clear hc;refine qL (c181 _ ⟨hb.2.2.1,hb.2.2.2.1⟩ _ (by omega)) ?_;simp only[go_sem];apply qI<;>intro hc<;>simp only[hc,go_sem]
 ·have hq:=odT hc;rw[wV]at hq;exact qO rfl (by rw[Jg (by unfold qF.sz;omega)])
 have hq:=odF hc;rw[wV]at hq;rw[wh (by omega)];clear hc;refine qL (c182 _ hb.2.2.2.2 _ (by omega)) ?_;simp only[go_sem];apply qI<;>intro hc<;>simp only[hc,go_sem]
 ·have hq:=odT hc;rw[wV]at hq;exact qO rfl (by rw[Jg (by unfold qF.sz;omega)])
 have hq:=odF hc;rw[wV]at hq;rw[wh (by omega)];clear hc;exact qO rfl (by rw[wh (by unfold qF.sz;omega)];unfold qF.sz;first | rfl | (congr 2;omega))
theorem c583(xs:List qF)(hx:xs.length<=140737488355328/\(∀y∈xs,qF.bd y))(left:Nat)(hl:left<=1048576):Pure Gm 583 [.lst 10 (xs.map qF.enc) false,iI left] (iI (wU (xs.length+qH qF.sz xs) left)):=
 qEM qF.isSh (gk _ F583) qF.sz xs (λx hm lf hlf=>c959 x (hx.2 x hm) lf hlf) left hl hx.1
theorem c231(x:qP)(hb:x.bd)(left:Nat)(hl:left<=1048576):Pure Gm 231 [x.enc,iI left] (iI (wU x.sz left)):=by
 refine pI F231 (by simp[AV.trees,AV.tree,qP.tr]) rfl ?_;simp only[F231,qM,go_sem];refine qZ rfl ?_;simp only[go_sem];unfold qP.bd at hb;refine qL (c583 _ ⟨hb.1,hb.2⟩ _ (by omega)) ?_;simp only[go_sem];apply qI<;>intro hc<;>simp only[hc,go_sem]
 ·have hq:=odT hc;rw[wV]at hq;exact qO rfl (by rw[Jg (by unfold qP.sz;omega)])
 have hq:=odF hc;rw[wV]at hq;rw[wh (by omega)];clear hc;exact qO rfl (by rw[wh (by unfold qP.sz;omega)];unfold qP.sz;first | rfl | (congr 2;omega))
theorem c963(x:qF)(hz:x.sz<=1048576):Pure Gm 963 [x.enc] x.enc:=by
 refine pI YI (by simp[AV.trees,AV.tree,qF.tr]) qF.tr ?_;simp only[YI,qM,go_sem];refine qZ rfl ?_;simp only[go_sem];unfold qF.sz at hz;refine qL (c147 _ (by omega)) ?_;simp only[go_sem];refine qL (c147 _ (by omega)) ?_;simp only[go_sem];refine qL (c184 _ (by omega)) ?_;simp only[go_sem];refine qL (c185 _ (by omega)) ?_;simp only[go_sem];refine lsA ?_;simp only[go_sem];exact qO qF.tr rfl
theorem c588(xs:List qF)(hl:xs.length+qH qF.sz xs<=1048576):Pure Gm 588 [.lst 10 (xs.map qF.enc) false] (.lst 10 (xs.map qF.enc) false):=
 KS qF.isSh rfl rfl (by simp) (gk _ F588) xs (λx hm=>c963 x (by have:=zx (f:=qF.sz) hm;omega)) (by omega)
theorem c233(x:qP)(hz:x.sz<=1048576):Pure Gm 233 [x.enc] x.enc:=by
 refine pI YE (by simp[AV.trees,AV.tree,qP.tr]) qP.tr ?_;simp only[YE,qM,go_sem];refine qZ rfl ?_;simp only[go_sem];unfold qP.sz at hz;refine qL (c588 _ (by omega)) ?_;simp only[go_sem];refine lsA ?_;simp only[go_sem];exact qO qP.tr rfl
theorem c967(x:qF)(hz:x.sz<=1073741824):Pure Gm 967 [x.enc,x.enc] (.bool true):=by
 refine pI F967 (by simp[AV.trees,AV.tree,qF.tr]) rfl ?_;simp only[F967,qM,go_sem];refine qZ rfl ?_;simp only[go_sem];refine qZ rfl ?_;simp only[go_sem];unfold qF.sz at hz;refine qL (c86 _ (by omega)) ?_;simp only[go_sem];refine qL (c86 _ (by omega)) ?_;simp only[go_sem];refine qL (c187 _ (by omega)) ?_;simp only[go_sem];refine qL (c188 _ (by omega)) ?_;simp only[go_sem];exact qO rfl rfl
theorem c592(xs:List qF)(hl:xs.length+qH qF.sz xs<=1073741824):Pure Gm 592 [.lst 10 (xs.map qF.enc) false,.lst 10 (xs.map qF.enc) false] (.bool true):=
 UE qF.isSh (gk _ F592) xs (λx hm=>c967 x (by have:=zx (f:=qF.sz) hm;omega)) (by omega)
theorem Vn(x:qP)(hz:x.sz<=1073741824):Pure Gm 235 [x.enc,x.enc] (.bool true):=by
 refine pI F235 (by simp[AV.trees,AV.tree,qP.tr]) rfl ?_;simp only[F235,qM,go_sem];refine qZ rfl ?_;simp only[go_sem];refine qZ rfl ?_;simp only[go_sem];unfold qP.sz at hz;refine qL (c592 _ (by omega)) ?_;simp only[go_sem];exact qO rfl rfl
theorem qF.plx(x:qF):x.enc.pl=true:=by simp[qF.enc,AV.pl,AV.pls,zj (enc:=qQ) (λ_=>rfl),zj qB.plx,zj qD.plx]
theorem qF.cnx(x:qF):x.enc.cn=true:=by simp[qF.enc,AV.cn,AV.cns,ZC (enc:=qQ) (λ_=>rfl),ZC qB.cnx,ZC qD.cnx]
theorem qF.layE(x:qF)(n:Nat):lay x.enc n=(.agg [iI x.Id,iI x.Weight,iI x.State,iI x.Code,iI x.Left,iI x.Slices,sQ 1 (n) x.Counts.length,.slice 1 (n+AV.rows (lQ x.Counts)) 0 x.Schedule.length false,.slice 1 (n+AV.rows (lQ x.Counts)+AV.rows (lQ x.Schedule)) 0 x.Book.length false,.slice 5 (n+AV.rows (lQ x.Counts)+AV.rows (lQ x.Schedule)+AV.rows (.lst 1 (x.Book.map qD.enc) false)) 0 x.Net.Agents.length false],(lay (lQ x.Counts) (n)).2++((lay (lQ x.Schedule) (n+AV.rows (lQ x.Counts))).2++((lay (.lst 1 (x.Book.map qD.enc) false) (n+AV.rows (lQ x.Counts)+AV.rows (lQ x.Schedule))).2++((lay (.lst 5 (x.Net.Agents.map qB.enc) false) (n+AV.rows (lQ x.Counts)+AV.rows (lQ x.Schedule)+AV.rows (.lst 1 (x.Book.map qD.enc) false))).2++[])))):=by
 simp[qF.enc,lay,qK,jC,AV.rows,Nat.add_assoc,Nat.add_comm,Nat.add_left_comm]
theorem qF.rowsE(x:qF):x.enc.rows=AV.rows (lQ x.Counts)+AV.rows (lQ x.Schedule)+AV.rows (.lst 1 (x.Book.map qD.enc) false)+AV.rows (.lst 5 (x.Net.Agents.map qB.enc) false):=by simp[qF.enc,AV.rows,AV.rowss,Nat.add_assoc]
def qF.mrk(x:qF)(k:Int):qF:={Id:=k,Weight:=k+1,State:=k+1+1,Code:=k+1+1+1,Left:=k+1+1+1+1,Slices:=k+1+1+1+1+1,Counts:=mkL mkI ctI x.Counts (k+1+1+1+1+1+1),Schedule:=mkL mkI ctI x.Schedule (k+1+1+1+1+1+1+((qH ctI x.Counts:Nat):Int)),Book:=mkL qD.mrk qD.ct x.Book (k+1+1+1+1+1+1+((qH ctI x.Counts:Nat):Int)+((qH ctI x.Schedule:Nat):Int)),Net:={Agents:=mkL qB.mrk qB.ct x.Net.Agents (k+1+1+1+1+1+1+((qH ctI x.Counts:Nat):Int)+((qH ctI x.Schedule:Nat):Int)+((qH qD.ct x.Book:Nat):Int))}}
def qF.ct(x:qF):Nat:=1+1+1+1+1+1+qH ctI x.Counts+qH ctI x.Schedule+qH qD.ct x.Book+qH qB.ct x.Net.Agents
theorem qF.rowsM(x:qF)(k:Int):(x.mrk k).enc.rows=x.enc.rows:=by simp[qF.rowsE,qF.mrk,AV.rows,WF,Ww,rwI]
theorem KD:∀(xs:List qF)(k:Int),AV.rowss ((mkL qF.mrk qF.ct xs k).map qF.enc)=AV.rowss (xs.map qF.enc):=Ws qF.mrk qF.ct (enc:=qF.enc) qF.rowsM
theorem qF.ctle(x:qF):x.ct<=16+16*x.sz:=by
 have h0:=VJ (c:=ctI) (λ_=>by simp[ctI]) x.Counts;have h1:=VJ (c:=ctI) (λ_=>by simp[ctI]) x.Schedule;have h2:=VK (c:=qD.ct) (z:=qD.sz) qD.ctle x.Book;have h3:=VK (c:=qB.ct) (z:=qB.sz) qB.ctle x.Net.Agents;simp only[qF.ct,qF.sz,qD.sz];omega
theorem qP.plx(x:qP):x.enc.pl=true:=by simp[qP.enc,AV.pl,AV.pls,zj qF.plx]
theorem qP.cnx(x:qP):x.enc.cn=true:=by simp[qP.enc,AV.cn,AV.cns,ZC qF.cnx]
theorem qP.layE(x:qP)(n:Nat):lay x.enc n=(.agg [iI x.Quantum,iI x.NextId,iI x.Turn,sQ 10 (n) x.Jobs.length],(lay (.lst 10 (x.Jobs.map qF.enc) false) (n)).2++[]):=by
 simp[qP.enc,lay,qK,jC,AV.rows,Nat.add_assoc,Nat.add_comm,Nat.add_left_comm]
theorem qP.rowsE(x:qP):x.enc.rows=AV.rows (.lst 10 (x.Jobs.map qF.enc) false):=by simp[qP.enc,AV.rows,AV.rowss,Nat.add_assoc]
def qP.mkV(x:qP)(k:Int):qP:={Quantum:=x.Quantum,NextId:=x.NextId,Turn:=x.Turn,Jobs:=mkL qF.mrk qF.ct x.Jobs (k)}
def qP.ctV(x:qP):Nat:=qH qF.ct x.Jobs
theorem qP.rowsV(x:qP)(k:Int):(x.mkV k).enc.rows=x.enc.rows:=by simp[qP.rowsE,qP.mkV,AV.rows,KD]
theorem qP.ctVle(x:qP):x.ctV<=16*x.sz:=by
 have h0:=VK (c:=qF.ct) (z:=qF.sz) qF.ctle x.Jobs;simp only[qP.ctV,qP.sz];omega
theorem n963(x:qF)(hz:x.sz<=1048576):Fresh Gm 963 [x.enc] x.enc:=by
 refine fI YI (by simp[AV.trees,AV.tree,qF.tr]) (qF.plx x) ?_;simp only[YI,qM,go_sem];refine qZ rfl ?_;simp only[go_sem];unfold qF.sz at hz;refine zk (n147 _ (by omega)) ?_;simp only[go_sem,zn];refine zk (n147 _ (by omega)) ?_;simp only[go_sem,zn];refine zk (n184 _ (by omega)) ?_;simp only[go_sem,zn];refine zk (n185 _ (by omega)) ?_;simp only[go_sem,zn,qD.layE];refine lsA ?_;simp only[go_sem];exact wv (pre:=[]) (post:=[]) (qF.plx x) (by simp[zT,qF.layE,qf,Nat.add_assoc,qD.layE,qD.rowsE]) (by simp[qF.layE,qf,Nat.add_assoc,qD.layE,qD.rowsE])
theorem n588(xs:List qF)(hl:xs.length+qH qF.sz xs<=1048576):Fresh Gm 588 [.lst 10 (xs.map qF.enc) false] (.lst 10 (xs.map qF.enc) false):=
 KR qF.isSh qF.plx rfl rfl (by simp) (gk _ F588) xs (λx hm=>n963 x (by have:=zx (f:=qF.sz) hm;omega)) (by omega)
theorem n233(x:qP)(hz:x.sz<=1048576):Fresh Gm 233 [x.enc] x.enc:=by
 refine fI YE (by simp[AV.trees,AV.tree,qP.tr]) (qP.plx x) ?_;simp only[YE,qM,go_sem];refine qZ rfl ?_;simp only[go_sem];unfold qP.sz at hz;refine zk (n588 _ (by omega)) ?_;simp only[go_sem,zn];refine lsA ?_;simp only[go_sem];exact wv (pre:=[]) (post:=[]) (qP.plx x) (by simp[zT,qP.layE,qf,Nat.add_assoc]) (by simp[qP.layE,qf,Nat.add_assoc])
abbrev jr1(y:qF):Nat:=AV.rows (lQ y.Counts)
abbrev jr2(y:qF):Nat:=AV.rows (lQ y.Schedule)
abbrev jr3(y:qF):Nat:=AV.rows (.lst 1 (y.Book.map qD.enc) false)
abbrev jm(y:qF)(p:Nat)(a b c d e f:Int):AV:=.agg [iI a,iI b,iI c,iI d,iI e,iI f,sQ 1 p y.Counts.length,sQ 1 (p+jr1 y) y.Schedule.length,sQ 1 (p+jr1 y+jr2 y) y.Book.length,sQ 5 (p+jr1 y+jr2 y+jr3 y) y.Net.Agents.length]
theorem k593(xs:List qF)(k:Int)(h0:0<=k)(hk:k+(qH qF.ct xs:Nat)<=4611686018427387904)(hz:xs.length+qH qF.sz xs<=4194304):Mark Gm 593 (.lst 10 (xs.map qF.enc) false) (.lst 10 ((mkL qF.mrk qF.ct xs k).map qF.enc) false) k (k+(qH qF.ct xs:Nat)):=by
 refine Mark.intro (gk _ F593) (by kernel_rfl) rfl (zj qF.plx xs) (zj qF.plx _) (by simp only[AV.rows,jm,jr1,jr2,jr3,KD]) ?_;simp only[F593,qM,zn,go_sem,nZa];refine Sem.loop (λi:Nat=>i<=xs.length) (λi=>(⟨[(0,sQ 10 0 xs.length),(1,iI (k+((qH qF.ct (xs.take i):Nat):Int))),(5,iI (i:Nat))],[],(lay (.lst 10 ((mkL qF.mrk qF.ct (xs.take i) k++xs.drop i).map qF.enc) false) 0).2⟩:VSt)) (λi=>xs.length-i) 0 (by kernel_rfl) (nZl _) (by simp only[List.take_zero,mkL,lNa,List.drop_zero,qH,Int.ofNat_zero,Int.natCast_zero,Int.add_zero];exact csA) ?_;intro i hi;simp only[go_sem,nZa];apply qI<;>intro hc<;>simp only[hc,go_sem,nZa]
 ·have hlt:i<xs.length:=by have:=odT hc;omega
  have hct:=WJ qF.ct hlt;have hcl:=WI qF.ct xs (i+1);have hrow:=qF.rowsM;rw[lDc hlt,Zs];have hsz:qF.sz xs[i]<=qH qF.sz xs:=zx (f:=qF.sz) (gMm hlt);obtain⟨K,hK⟩:∃K:Int,K=k+((qH qF.ct (xs.take i):Nat):Int):=⟨_,rfl⟩;have hend:k+((qH qF.ct (xs.take (i+1)):Nat):Int)=K+((qF.ct xs[i]:Nat):Int):=by rw[hct,hK];omega
  have hKb:0<=K/\K+((qF.ct xs[i]:Nat):Int)<=4611686018427387904:=by rw[<-hend];omega
  have hmk:(mkL qF.mrk qF.ct (xs.take (i+1)) k++xs.drop (i+1))=mkL qF.mrk qF.ct (xs.take i) k++qF.mrk xs[i] K::xs.drop (i+1):=by rw[Yv qF.mrk qF.ct hlt,<-hK,lAa];rfl
  have hrx:=hrow xs[i] K;rw[<-hK];obtain⟨y,hy⟩:∃y,y=xs[i]:=⟨_,rfl⟩;rw[<-hy]at hmk hend hKb hrx hsz|-;have hcy:qF.ct y=1+1+1+1+1+1+qH ctI y.Counts+qH ctI y.Schedule+qH qD.ct y.Book+qH qB.ct y.Net.Agents:=rfl;rw[hcy]at hend hKb;simp only[qF.sz,qD.sz]at hsz;have hA:(qK ((mkL qF.mrk qF.ct (xs.take i) k).map qF.enc) 1).1.length=i:=by rw[jK,lMp,wz];simp;omega
  have hoA:=jC ((mkL qF.mrk qF.ct (xs.take i) k).map qF.enc) 1;have e2:=Zs (enc:=qF.enc) (w:=10) (c:=false) (A:=mkL qF.mrk qF.ct (xs.take i) k) (B:=xs.drop (i+1)) (z:=qF.mrk y K);rw[hrx]at e2;rw[qF.layE]at e2|-;obtain⟨p,hp⟩:∃p,p=1+AV.rowss ((mkL qF.mrk qF.ct (xs.take i) k).map qF.enc):=⟨_,rfl⟩;rw[<-hp]at e2|-;generalize (qK ((xs.drop (i+1)).map qF.enc) (p+y.enc.rows)).1=vB at e2|-;generalize (qK ((xs.drop (i+1)).map qF.enc) (p+y.enc.rows)).2=oB at e2|-;generalize (qK ((mkL qF.mrk qF.ct (xs.take i) k).map qF.enc) 1).1=vA at e2 hA|-;generalize (qK ((mkL qF.mrk qF.ct (xs.take i) k).map qF.enc) 1).2=oA at e2 hoA|-;simp only[jm,jr1,jr2,jr3,zV hA,jM hA,zQ hlt,lSz,go_sem,nZa];refine qn (e':=jm y p K y.Weight y.State y.Code y.Left y.Slices) (by rfl) (by rfl) (zV hA) (by rfl) ?_;simp only[jm,jr1,jr2,jr3,zV hA,jM hA,zQ hlt,lSz,go_sem,nZa];rw[wsA (n:=K+1)]
  try simp only[jm,jr1,jr2,jr3,zV hA,jM hA,zQ hlt,lSz,go_sem,nZa]
  refine qn (e':=jm y p K (K+1) y.State y.Code y.Left y.Slices) (by rfl) (by rfl) (zV hA) (by rfl) ?_;simp only[jm,jr1,jr2,jr3,zV hA,jM hA,zQ hlt,lSz,go_sem,nZa];rw[wsA (n:=K+1+1)]
  try simp only[jm,jr1,jr2,jr3,zV hA,jM hA,zQ hlt,lSz,go_sem,nZa]
  refine qn (e':=jm y p K (K+1) (K+1+1) y.Code y.Left y.Slices) (by rfl) (by rfl) (zV hA) (by rfl) ?_;simp only[jm,jr1,jr2,jr3,zV hA,jM hA,zQ hlt,lSz,go_sem,nZa];rw[wsA (n:=K+1+1+1)]
  try simp only[jm,jr1,jr2,jr3,zV hA,jM hA,zQ hlt,lSz,go_sem,nZa]
  refine qn (e':=jm y p K (K+1) (K+1+1) (K+1+1+1) y.Left y.Slices) (by rfl) (by rfl) (zV hA) (by rfl) ?_;simp only[jm,jr1,jr2,jr3,zV hA,jM hA,zQ hlt,lSz,go_sem,nZa];rw[wsA (n:=K+1+1+1+1)]
  try simp only[jm,jr1,jr2,jr3,zV hA,jM hA,zQ hlt,lSz,go_sem,nZa]
  refine qn (e':=jm y p K (K+1) (K+1+1) (K+1+1+1) (K+1+1+1+1) y.Slices) (by rfl) (by rfl) (zV hA) (by rfl) ?_;simp only[jm,jr1,jr2,jr3,zV hA,jM hA,zQ hlt,lSz,go_sem,nZa];rw[wsA (n:=K+1+1+1+1+1)]
  try simp only[jm,jr1,jr2,jr3,zV hA,jM hA,zQ hlt,lSz,go_sem,nZa]
  refine qn (e':=jm y p K (K+1) (K+1+1) (K+1+1+1) (K+1+1+1+1) (K+1+1+1+1+1)) (by rfl) (by rfl) (zV hA) (by rfl) ?_;simp only[jm,jr1,jr2,jr3,zV hA,jM hA,zQ hlt,lSz,go_sem,nZa];rw[wsA (n:=K+1+1+1+1+1+1)]
  try simp only[jm,jr1,jr2,jr3,zV hA,jM hA,zQ hlt,lSz,go_sem,nZa]
  refine Qh (n:=p) (pre:=.row 10 (vA++jm y p K (K+1) (K+1+1) (K+1+1+1) (K+1+1+1+1) (K+1+1+1+1+1)::vB) true::(oA++[])) (post:=((lay (lQ y.Schedule) (p+jr1 y)).2++((lay (.lst 1 (y.Book.map qD.enc) false) (p+jr1 y+jr2 y)).2++((lay (.lst 5 (y.Net.Agents.map qB.enc) false) (p+jr1 y+jr2 y+jr3 y)).2++[])))++oB) (t:=(lQ y.Counts)) (t':=(lQ (mkL mkI ctI y.Counts (K+1+1+1+1+1+1)))) (k90 y.Counts (K+1+1+1+1+1+1) (by omega) (by omega) (by omega)) ?_ ?_ (by rw[zn,lMp]) ?_
  ·first | rfl | (simp only[lCo,lAp,lNi,hoA,qf,AV.rows,jm,jr1,jr2,jr3,WF,Ww,rwI]<;>omega)
  ·first | rfl | (simp only[jm,jr1,jr2,jr3,lAa,lNa,lAn,lCa];done)
  simp only[jm,jr1,jr2,jr3,zV hA,jM hA,zQ hlt,lSz,lCa,go_sem,nZa];refine Qh (n:=p+jr1 y) (pre:=.row 10 (vA++jm y p K (K+1) (K+1+1) (K+1+1+1) (K+1+1+1+1) (K+1+1+1+1+1)::vB) true::(oA++((lay (lQ (mkL mkI ctI y.Counts (K+1+1+1+1+1+1))) (p)).2))) (post:=((lay (.lst 1 (y.Book.map qD.enc) false) (p+jr1 y+jr2 y)).2++((lay (.lst 5 (y.Net.Agents.map qB.enc) false) (p+jr1 y+jr2 y+jr3 y)).2++[]))++oB) (t:=(lQ y.Schedule)) (t':=(.lst 1 ((mkL mkI ctI y.Schedule (K+1+1+1+1+1+1+((qH ctI y.Counts:Nat):Int))).map qQ) false)) (k90 y.Schedule (K+1+1+1+1+1+1+((qH ctI y.Counts:Nat):Int)) (by omega) (by omega) (by omega)) ?_ ?_ (by rw[zn,lMp]) ?_
  ·first | rfl | (simp only[lCo,lAp,lNi,hoA,qf,AV.rows,jm,jr1,jr2,jr3,WF,Ww,rwI]<;>omega)
  ·first | rfl | (simp only[jm,jr1,jr2,jr3,lAa,lNa,lAn,lCa];done)
  simp only[jm,jr1,jr2,jr3,zV hA,jM hA,zQ hlt,lSz,lCa,go_sem,nZa];refine Qh (n:=p+jr1 y+jr2 y) (pre:=.row 10 (vA++jm y p K (K+1) (K+1+1) (K+1+1+1) (K+1+1+1+1) (K+1+1+1+1+1)::vB) true::(oA++((lay (lQ (mkL mkI ctI y.Counts (K+1+1+1+1+1+1))) (p)).2++(lay (.lst 1 ((mkL mkI ctI y.Schedule (K+1+1+1+1+1+1+((qH ctI y.Counts:Nat):Int))).map qQ) false) (p+jr1 y)).2))) (post:=((lay (.lst 5 (y.Net.Agents.map qB.enc) false) (p+jr1 y+jr2 y+jr3 y)).2++[])++oB) (t:=(.lst 1 (y.Book.map qD.enc) false)) (t':=(.lst 1 ((mkL qD.mrk qD.ct y.Book (K+1+1+1+1+1+1+((qH ctI y.Counts:Nat):Int)+((qH ctI y.Schedule:Nat):Int))).map qD.enc) false)) (k225 y.Book (K+1+1+1+1+1+1+((qH ctI y.Counts:Nat):Int)+((qH ctI y.Schedule:Nat):Int)) (by omega) (by omega) (by omega)) ?_ ?_ (by rw[zn,lMp]) ?_
  ·first | rfl | (simp only[lCo,lAp,lNi,hoA,qf,AV.rows,jm,jr1,jr2,jr3,WF,Ww,rwI]<;>omega)
  ·first | rfl | (simp only[jm,jr1,jr2,jr3,lAa,lNa,lAn,lCa];done)
  simp only[jm,jr1,jr2,jr3,zV hA,jM hA,zQ hlt,lSz,lCa,go_sem,nZa];refine Qh (n:=p+jr1 y+jr2 y+jr3 y) (pre:=.row 10 (vA++jm y p K (K+1) (K+1+1) (K+1+1+1) (K+1+1+1+1) (K+1+1+1+1+1)::vB) true::(oA++((lay (lQ (mkL mkI ctI y.Counts (K+1+1+1+1+1+1))) (p)).2++(lay (.lst 1 ((mkL mkI ctI y.Schedule (K+1+1+1+1+1+1+((qH ctI y.Counts:Nat):Int))).map qQ) false) (p+jr1 y)).2++(lay (.lst 1 ((mkL qD.mrk qD.ct y.Book (K+1+1+1+1+1+1+((qH ctI y.Counts:Nat):Int)+((qH ctI y.Schedule:Nat):Int))).map qD.enc) false) (p+jr1 y+jr2 y)).2))) (post:=([])++oB) (t:=(.lst 5 (y.Net.Agents.map qB.enc) false)) (t':=(.lst 5 ((mkL qB.mrk qB.ct y.Net.Agents (K+1+1+1+1+1+1+((qH ctI y.Counts:Nat):Int)+((qH ctI y.Schedule:Nat):Int)+((qH qD.ct y.Book:Nat):Int))).map qB.enc) false)) (k524 y.Net.Agents (K+1+1+1+1+1+1+((qH ctI y.Counts:Nat):Int)+((qH ctI y.Schedule:Nat):Int)+((qH qD.ct y.Book:Nat):Int)) (by omega) (by omega) (by omega)) ?_ ?_ (by rw[zn,lMp]) ?_
  ·first | rfl | (simp only[lCo,lAp,lNi,hoA,qf,AV.rows,jm,jr1,jr2,jr3,WF,Ww,rwI]<;>omega)
  ·first | rfl | (simp only[jm,jr1,jr2,jr3,lAa,lNa,lAn,lCa];done)
  simp only[jm,jr1,jr2,jr3,zV hA,jM hA,zQ hlt,lSz,lCa,go_sem,nZa];simp only[wuA (n:=i)];refine qb (i+1) (by omega) (by omega) ?_;have e3:K+1+1+1+1+1+1+((qH ctI y.Counts:Nat):Int)+((qH ctI y.Schedule:Nat):Int)+((qH qD.ct y.Book:Nat):Int)+((qH qB.ct y.Net.Agents:Nat):Int)=k+((qH qF.ct (xs.take (i+1)):Nat):Int):=by first | (rw[hend];done) | (rw[hend];omega)
  rw[e3];rw[hmk,e2];simp only[jm,jr1,jr2,jr3,qF.mrk,wz,AV.rows,lAa,lNa,lAn,lCa,WF,Ww,rwI];exact csA
 ·have hge:i=xs.length:=by have:=odF hc;omega
  subst hge;refine XT (by rw[lTl]) ?_;rw[lTl,List.drop_length,lAn]
theorem k236(x:qP)(k:Int)(h0:0<=k)(hk:k+(x.ctV:Nat)<=4611686018427387904)(hz:x.sz<=4194304):Mark Gm 236 x.enc (x.mkV k).enc k (k+(x.ctV:Nat)):=by
 refine Mark.intro (gk _ F236) (by kernel_rfl) rfl (qP.plx x) (qP.plx _) (qP.rowsV x k) ?_;rw[qP.layE,qP.layE];simp only[F236,qM,go_sem,nZa];refine qZ rfl ?_;simp only[go_sem,nZa];unfold qP.ctV at hk;simp only[qP.sz]at hz;refine Qh (n:=0) (pre:=[]) (post:=[]) (t:=(.lst 10 (x.Jobs.map qF.enc) false)) (t':=(.lst 10 ((mkL qF.mrk qF.ct x.Jobs (k)).map qF.enc) false)) (k593 x.Jobs (k) (by omega) (by omega) (by omega)) ?_ ?_ (by rw[zn,lMp]) ?_
 ·first | rfl | (simp only[lAp,lNi,qf,AV.rows,KD]<;>omega)
 ·first | rfl | (simp only[lAa,lNa,lAn];done)
 simp only[lAa,lNa,lAn,go_sem,nZa];refine XT (by first | rfl | (simp only[qP.ctV]<;>omega)) ?_;simp only[qP.mkV,AV.rows,nZa,lAa,lNa,lAn,KD]
theorem q594(xs:List qF)(k:Int)(h0:0<=k)(hk:k+(qH qF.ct xs:Nat)<=4611686018427387904)(hz:xs.length+qH qF.sz xs<=4194304):Pure Gm 594 [(.lst 10 ((mkL qF.mrk qF.ct xs k).map qF.enc) false),iI k] (iI (k+(qH qF.ct xs:Nat))):=by
 refine pI F594 (by simp[AV.trees,AV.tree,qa qF.isSh.tree]) rfl ?_;simp only[F594,qM,go_sem,nZa];refine Sem.loop (λi:Nat=>i<=xs.length) (λi=>(⟨[(0,(.lst 10 ((mkL qF.mrk qF.ct xs k).map qF.enc) false)),(1,iI (k+((qH qF.ct (xs.take i):Nat):Int))),(5,iI (i:Nat))],[],[]⟩:VSt)) (λi=>xs.length-i) 0 (by kernel_rfl) (nZl _) (by simp only[List.take_zero,qH,Int.ofNat_zero,Int.natCast_zero,Int.add_zero];exact csA) ?_;intro i hi;simp only[wz,go_sem,nZa];apply qI<;>intro hc<;>simp only[hc,go_sem,nZa]
 ·have hlt:i<xs.length:=by have:=odT hc;omega
  have hct:=WJ qF.ct hlt;have hcl:=WI qF.ct xs (i+1);have hget:=Yu qF.mrk qF.ct hlt k;have hsz:qF.sz xs[i]<=qH qF.sz xs:=zx (f:=qF.sz) (gMm hlt);obtain⟨K,hK⟩:∃K:Int,K=k+((qH qF.ct (xs.take i):Nat):Int):=⟨_,rfl⟩;have hend:k+((qH qF.ct (xs.take (i+1)):Nat):Int)=K+((qF.ct xs[i]:Nat):Int):=by rw[hct,hK];omega
  have hKb:0<=K/\K+((qF.ct xs[i]:Nat):Int)<=4611686018427387904:=by rw[<-hend];omega
  rw[<-hK]at hget|-;obtain⟨y,hy⟩:∃y,y=xs[i]:=⟨_,rfl⟩;rw[<-hy]at hget hend hKb hsz;have hcy:qF.ct y=1+1+1+1+1+1+qH ctI y.Counts+qH ctI y.Schedule+qH qD.ct y.Book+qH qB.ct y.Net.Agents:=rfl;rw[hcy]at hend hKb;simp only[qF.sz,qD.sz]at hsz;simp only[gMp,hget,oMs,go_sem,nZa]
  try simp only[gMp,hget,oMs,qF.mrk,go_sem,nZa]
  rw[wsA (n:=K+1)]
  try simp only[gMp,hget,oMs,qF.mrk,go_sem,nZa]
  try simp only[gMp,hget,oMs,qF.mrk,go_sem,nZa]
  rw[wsA (n:=K+1+1)]
  try simp only[gMp,hget,oMs,qF.mrk,go_sem,nZa]
  try simp only[gMp,hget,oMs,qF.mrk,go_sem,nZa]
  rw[wsA (n:=K+1+1+1)]
  try simp only[gMp,hget,oMs,qF.mrk,go_sem,nZa]
  try simp only[gMp,hget,oMs,qF.mrk,go_sem,nZa]
  rw[wsA (n:=K+1+1+1+1)]
  try simp only[gMp,hget,oMs,qF.mrk,go_sem,nZa]
  try simp only[gMp,hget,oMs,qF.mrk,go_sem,nZa]
  rw[wsA (n:=K+1+1+1+1+1)]
  try simp only[gMp,hget,oMs,qF.mrk,go_sem,nZa]
  try simp only[gMp,hget,oMs,qF.mrk,go_sem,nZa]
  rw[wsA (n:=K+1+1+1+1+1+1)]
  try simp only[gMp,hget,oMs,qF.mrk,go_sem,nZa]
  try simp only[gMp,hget,oMs,qF.mrk,go_sem,nZa]
  refine qL (q92 y.Counts (K+1+1+1+1+1+1) (by omega) (by omega) (by omega)) ?_;simp only[gMp,hget,oMs,qF.mrk,go_sem,nZa];rw[show decide (K+1+1+1+1+1+1+((qH ctI y.Counts:Nat):Int)<0)=false from decide_eq_false (by omega)];simp only[gMp,hget,oMs,qF.mrk,go_sem,nZa]
  try simp only[gMp,hget,oMs,qF.mrk,go_sem,nZa]
  refine qL (q92 y.Schedule (K+1+1+1+1+1+1+((qH ctI y.Counts:Nat):Int)) (by omega) (by omega) (by omega)) ?_;simp only[gMp,hget,oMs,qF.mrk,go_sem,nZa];rw[show decide (K+1+1+1+1+1+1+((qH ctI y.Counts:Nat):Int)+((qH ctI y.Schedule:Nat):Int)<0)=false from decide_eq_false (by omega)];simp only[gMp,hget,oMs,qF.mrk,go_sem,nZa]
  try simp only[gMp,hget,oMs,qF.mrk,go_sem,nZa]
  refine qL (q230 y.Book (K+1+1+1+1+1+1+((qH ctI y.Counts:Nat):Int)+((qH ctI y.Schedule:Nat):Int)) (by omega) (by omega) (by omega)) ?_;simp only[gMp,hget,oMs,qF.mrk,go_sem,nZa];rw[show decide (K+1+1+1+1+1+1+((qH ctI y.Counts:Nat):Int)+((qH ctI y.Schedule:Nat):Int)+((qH qD.ct y.Book:Nat):Int)<0)=false from decide_eq_false (by omega)];simp only[gMp,hget,oMs,qF.mrk,go_sem,nZa]
  try simp only[gMp,hget,oMs,qF.mrk,go_sem,nZa]
  refine qL (q525 y.Net.Agents (K+1+1+1+1+1+1+((qH ctI y.Counts:Nat):Int)+((qH ctI y.Schedule:Nat):Int)+((qH qD.ct y.Book:Nat):Int)) (by omega) (by omega) (by omega)) ?_;simp only[gMp,hget,oMs,qF.mrk,go_sem,nZa];rw[show decide (K+1+1+1+1+1+1+((qH ctI y.Counts:Nat):Int)+((qH ctI y.Schedule:Nat):Int)+((qH qD.ct y.Book:Nat):Int)+((qH qB.ct y.Net.Agents:Nat):Int)<0)=false from decide_eq_false (by omega)];simp only[gMp,hget,oMs,qF.mrk,go_sem,nZa];simp only[wuA (n:=i)];refine qb (i+1) (by omega) (by omega) ?_;have e3:K+1+1+1+1+1+1+((qH ctI y.Counts:Nat):Int)+((qH ctI y.Schedule:Nat):Int)+((qH qD.ct y.Book:Nat):Int)+((qH qB.ct y.Net.Agents:Nat):Int)=k+((qH qF.ct (xs.take (i+1)):Nat):Int):=by first | (rw[hend];done) | (rw[hend];omega)
  rw[e3];exact csA
 ·have hge:i=xs.length:=by have:=odF hc;omega
  subst hge;refine qO rfl ?_;rw[lTl]
theorem q237(x:qP)(k:Int)(h0:0<=k)(hk:k+(x.ctV:Nat)<=4611686018427387904)(hz:x.sz<=4194304):Pure Gm 237 [(x.mkV k).enc,iI k] (iI (k+(x.ctV:Nat))):=by
 refine pI F237 (by simp[AV.trees,AV.tree,qP.tr]) rfl ?_;simp only[F237,qM,go_sem,nZa];refine qZ rfl ?_;simp only[go_sem,nZa];unfold qP.ctV at hk;simp only[qP.sz]at hz;refine qL (q594 x.Jobs (k) (by omega) (by omega) (by omega)) ?_;simp only[go_sem,nZa]
 try (rw[show decide (k+((qH qF.ct x.Jobs:Nat):Int)<0)=false from decide_eq_false (by omega)];simp only[go_sem,nZa])
 refine qO rfl ?_
 first | rfl | (simp only[qP.ctV,AV.int.injEq,true_and]<;>omega)
theorem qeH{R:Nat->Bool}{N:Ags}{sch:List Int}{k:Nat}(hsym:∀a b c d:Int,jr a b c d=jr c d a b)(h:Hol R N)(hne:JJ ⟨qc N R⟩≠[]):∃(a b A B:Nat)(x y u v:qB),Act R N a b x y/\a≠0/\b≠0/\zY x.Kind x.Level y.Kind y.Level≠2/\
  JM sch (zZ R N (N.length-1)) (k:Int)=⟨(A:Int),(B:Int)⟩/\N[A]?=some u/\N[B]?=some v/\((zI u v=true/\a=B/\b=A/\x=v/\y=u)\/(zI u v=false/\a=A/\b=B/\x=u/\y=v))/\
  wL sch (qc N R) k=⟨(qT R a:Nat),(qT R b:Nat)⟩/\agP (qc N R) (qT R a:Nat)=qu R x/\agP (qc N R) (qT R b:Nat)=qu R y:=by
 have hp:=Xs h;obtain⟨a,b,x,y,h1,h2,h3,h4,h5,h6,h7,h8⟩:=qeG (sch:=sch) (k:=k) hsym h hne;have hl:0<(zZ R N (N.length-1)).length:=by
  rcases Nat.eq_zero_or_pos (zZ R N (N.length-1)).length with e | e
  ·rw[<-hp,lEz e]at hne;exact absurd rfl hne
  ·exact e
 have sl:=KI (xs:=sch) (k:=(k:Int)) hl;have es:JM sch (zZ R N (N.length-1)) (k:Int)=(zZ R N (N.length-1))[wF sch (k:Int) (zZ R N (N.length-1)).length]:=by unfold JM;rw[gEg sl];rfl
 obtain⟨i,j,e1,i0,ij,ri,rj,p2,p3⟩:=qe3 h (gMm sl);rw[es,e1]at h5;have li:=Jc p2;have lj:=Jc p3;have gi:N[i]?=some N[i]:=gEg li;have gj:N[j]?=some N[j]:=gEg lj;have ai:Jz ⟨N⟩ (i:Int)=N[i]:=by simp[Jz,gi]
 have aj:Jz ⟨N⟩ (j:Int)=N[j]:=by simp[Jz,gj]
 unfold Uv at h5;simp only[ai,aj]at h5;refine⟨a,b,i,j,x,y,N[i],N[j],h1,h2,h3,h4,by rw[es,e1],gi,gj, ?_,h6,h7,h8⟩;cases q:zI N[i] N[j]with
 | true=>
  rw[q,if_pos rfl]at h5;simp only[qV.mk.injEq]at h5;obtain rfl:a=j:=by omega
  obtain rfl:b=i:=by omega
  have hx:=h1.x;rw[gj]at hx;cases hx;have hy:=h1.y;rw[gi]at hy;cases hy;exact .inl ⟨rfl,rfl,rfl,rfl,rfl⟩
 | false=>
  rw[q,if_neg (by decide)]at h5;simp only[qV.mk.injEq]at h5;obtain rfl:a=i:=by omega
  obtain rfl:b=j:=by omega
  have hx:=h1.x;rw[gi]at hx;cases hx;have hy:=h1.y;rw[gj]at hy;cases hy;exact .inr ⟨rfl,rfl,rfl,rfl,rfl⟩
def jc(i0 i1 i2 i3 i4 i5:Int)(vc vs vb vn:AV):AV:=.agg [iI i0,iI i1,iI i2,iI i3,iI i4,iI i5,vc,vs,vb,vn]
def qdK(j:qF)(cj sj bj aj:Nat):AV:=jc j.Id j.Weight j.State j.Code j.Left j.Slices (sQ 1 cj j.Counts.length) (sQ 1 sj j.Schedule.length) (sQ 1 bj j.Book.length) (sQ 5 aj j.Net.Agents.length)
section
variable {S Sb Sn Sc Ss:List (Option Nat)} {h h':List qC} {v vc vs vb vn:AV} {j:qF} {cj sj bj aj:Nat}
theorem qd.job(x:qd S h v j.enc)(hn:none∉S):∃cj sj bj aj Sb Sn,S=some cj::some sj::(Sb++Sn)/\v=qdK j cj sj bj aj/\h[cj]?=some (.row 1 (j.Counts.map qQ) true)/\h[sj]?=some (.row 1 (j.Schedule.map qQ) true)/\
  qd Sb h (sQ 1 bj j.Book.length) (.lst 1 (j.Book.map qD.enc) false)/\qd Sn h (sQ 5 aj j.Net.Agents.length) (.lst 5 (j.Net.Agents.map qB.enc) false):=by
 obtain⟨ws,rfl,y⟩:=x.aggs;have hc:=y.cnt
 match ws,hc with
 |[a0,a1,a2,a3,a4,a5,a6,a7,a8,a9],_=>
  obtain⟨Z0,S0,q0,x0,y0⟩:=y.uncons;obtain⟨Z1,S1,q1,x1,y1⟩:=y0.uncons;obtain⟨Z2,S2,q2,x2,y2⟩:=y1.uncons;obtain⟨Z3,S3,q3,x3,y3⟩:=y2.uncons;obtain⟨Z4,S4,q4,x4,y4⟩:=y3.uncons;obtain⟨Z5,S5,q5,x5,y5⟩:=y4.uncons;obtain⟨e0,z0⟩:=x0.int;obtain⟨e1,z1⟩:=x1.int;obtain⟨e2,z2⟩:=x2.int;obtain⟨e3,z3⟩:=x3.int;obtain⟨e4,z4⟩:=x4.int;obtain⟨e5,z5⟩:=x5.int;obtain⟨S6,T6,q6,x6,y6⟩:=y5.uncons;obtain⟨S7,T7,q7,x7,y7⟩:=y6.uncons;obtain⟨S8,T8,q8,x8,y8⟩:=y7.uncons;obtain⟨S9,T9,q9,x9,y9⟩:=y8.uncons;have l9:=lEz y9.len;rw[q0,q1,q2,q3,q4,q5,z0,z1,z2,z3,z4,z5,q6,q7,q8,q9,l9]at hn|-;simp only[lNa,lAn,zw,not_or]at hn|-;obtain⟨c1,w1,T1,rfl,f1,r1,o1⟩:=x6.lst hn.1;obtain⟨c2,w2,T2,rfl,f2,r2,o2⟩:=x7.lst hn.2.1;obtain⟨c3,w3,T3,rfl,f3,r3,o3⟩:=x8.lst hn.2.2.1;obtain⟨c4,w4,T4,rfl,f4,r4,o4⟩:=x9.lst hn.2.2.2;obtain⟨g1,rfl⟩:=o1.ints;obtain⟨g2,rfl⟩:=o2.ints;rw[lMp]at f1 f2 f3 f4;rw[f3]at x8;rw[f4]at x9;exact⟨c1,c2,c3,c4,some c3::T3,some c4::T4,by simp,by rw[e0,e1,e2,e3,e4,e5,f1,f2,f3,f4];rfl,by rw[r1,g1],by rw[r2,g2],x8,x9⟩
theorem UR(hc:qd Sc h vc (lQ j.Counts))(hs:qd Ss h vs (lQ j.Schedule))(hb:qd Sb h vb (.lst 1 (j.Book.map qD.enc) false))(hn:qd Sn h vn (.lst 5 (j.Net.Agents.map qB.enc) false))
  (d1:∀i,some i∈Sc->some i∉Ss) (d2:∀i,some i∈Sc++Ss->some i∉Sb) (d3:∀i,some i∈Sc++Ss++Sb->some i∉Sn):qd (Sc++Ss++Sb++Sn) h (jc j.Id j.Weight j.State j.Code j.Left j.Slices vc vs vb vn) j.enc:=by
 have i6:=(((((qo.nil (h:=h).scal (a:=iI j.Id) (λ_=>rfl) rfl rfl).scal (a:=iI j.Weight) (λ_=>rfl) rfl rfl).scal (a:=iI j.State) (λ_=>rfl) rfl rfl).scal (a:=iI j.Code) (λ_=>rfl) rfl rfl).scal (a:=iI j.Left) (λ_=>rfl) rfl rfl).scal (a:=iI j.Slices) (λ_=>rfl) rfl rfl;have:=((((i6.snoc hc (by simp)).snoc hs (by simpa using d1)).snoc hb (by simpa using d2)).snoc hn (by simpa using d3)).agg;unfold jc qF.enc;simpa using this
theorem qhO{bk:List qD}{bid n:Nat}(x:qd S h (sQ 1 bid n) (.lst 1 (bk.map qD.enc) false))(hn:none∉S):BKh bk bid h:=by
 obtain⟨id,bvs,S',rfl,e,hr,y⟩:=x.lst hn;simp only[AV.slice.injEq,true_and,and_true]at e;obtain⟨rfl,_⟩:=e;refine⟨bvs,hr,by rw[y.cnt,lMp],λi m hm=>?_⟩;obtain⟨v,S1,q1,q2,q3⟩:=y.at (t:=m.enc) (by rw[gMp,hm];rfl);have n1:none∉S1:=λq=>hn (List.mem_cons_of_mem _ (q3 _ q));obtain⟨ws,rfl,z⟩:=qd.aggs (ts:=[.lst 5 (m.Agents.map qB.enc) false]) q2;have hc:=z.cnt
 match ws,hc with
 |[a0],_=>
  obtain⟨S3,T3,rfl,x3,y3⟩:=z.uncons;have n3:none∉S3:=λq=>n1 (List.mem_append_left _ q);obtain⟨id3,w3,S4,_,rfl,hr3,_⟩:=x3.lst n3;rw[lMp]at*;exact⟨id3,q1,x3.cv n3 (by have:=qD.cnx m;simpa[qD.enc,AV.cn,AV.cns]using this)⟩
theorem qhP{bk:List qD}{bid n b:Nat}(x:qd S h (sQ 1 bid n) (.lst 1 (bk.map qD.enc) false))(hn:none∉S)(hb:∀i,some i∈S->i<b):BK bk bid (Lo b) h:=λg kg=>
 qhO (x.heap λi hi=>kg.k i (hb i hi)) hn
end
theorem n965(x:qF)(hz:x.sz<=1048576):Fresh Gm 965 [x.enc] x.enc:=by
 refine fI F965 (by simp[AV.trees,AV.tree,qF.tr]) (qF.plx x) ?_;simp only[F965,qM,go_sem];refine qZ rfl ?_;simp only[qF.enc];simp only[go_sem];unfold qF.sz at hz;have hb:∀n∈x.Book,n.sz<=1048576:=λn hn=>by have:=zx (f:=qD.sz) hn;omega
 refine zk (Uk _ (by omega)) ?_;simp only[go_sem,zn];refine zk (Uk _ (by omega)) ?_;simp only[go_sem,zn];refine zk (n797 _ ⟨by omega,hb⟩) ?_;simp only[go_sem,zn];refine zk (Ul _ (by omega)) ?_;simp only[go_sem,zn,qD.layE];refine lsA ?_;simp only[go_sem];exact wv (t:=x.enc) (pre:=[]) (post:=[]) (qF.plx x) (by simp[zT,qF.layE,qf,Nat.add_assoc,qD.layE,qD.rowsE]) (by simp[qF.layE,qf,Nat.add_assoc,qD.layE,qD.rowsE])
theorem n590(q:qP)(hz:q.sz<=1048576):Fresh Gm 590 [q.enc] q.enc:=by
 unfold qP.sz at hz;refine fI F590 (by simp[AV.trees,AV.tree,qP.tr]) (qP.plx q) ?_;simp only[F590,qM,go_sem];refine qZ rfl ?_;simp only[qP.enc];simp only[go_sem];refine Sem.loop (λi:Nat=>i<=q.Jobs.length) (λi=>(⟨[(11,iI (i:Nat)),(10,iI (q.Jobs.length:Nat)),(9,.lst 10 (q.Jobs.map qF.enc) false)],[(1,.agg [iI q.Quantum,iI q.NextId,iI q.Turn,sQ 10 0 i]),(2,.agg [iI 0,iI 0,iI 0,.nils])],.row 10 (qK ((q.Jobs.take i).map qF.enc) 1).1 true::(qK ((q.Jobs.take i).map qF.enc) 1).2⟩:VSt)) (λi=>q.Jobs.length-i) 0 (by kernel_rfl) (nZl _)
  (Can.renum [none] rfl ⟨.ph,trivial⟩ ⟨⟨_,rfl,.tree rfl⟩,⟨_,rfl,.tree rfl⟩,⟨_,rfl,.tree (by simp[AV.tree,qa qF.isSh.tree])⟩,trivial⟩ ⟨⟨_,rfl,.agg rfl (VR2s.cons (.tree rfl) (VR2s.cons (.tree rfl) (VR2s.cons (.tree rfl) (VR2s.cons (.ph rfl) VR2s.nil)))).2⟩,⟨_,rfl,.tree rfl⟩,trivial⟩) ?_
 rintro i hi;simp only[go_sem];apply qI<;>intro hc<;>simp only[hc,go_sem]
 ·have hlt:i<q.Jobs.length:=by have:=odT hc;omega
  have hsz:qF.sz q.Jobs[i]<=qH qF.sz q.Jobs:=zx (f:=qF.sz) (gMm hlt);simp only[gMp,gEg hlt,oMs,go_sem];refine lsA ?_;simp only[go_sem];refine zk (n965 q.Jobs[i] (by omega)) ?_;simp only[go_sem];refine Vl (by rw[ZK (qF.plx _)];rfl) ?_;simp only[go_sem];have hA:(qK ((q.Jobs.take i).map qF.enc) 1).1.length=i:=by rw[jK];simp;omega
  refine jO (len:=i) (el:=(qK ((q.Jobs.take i).map qF.enc) 1).1) Zr rfl hA (by omega) ?_;simp only[go_sem];simp only[wuA (n:=i)];refine qb (i+1) (by omega) (by omega) ?_;have e:(q.Jobs.take (i+1)).map qF.enc=(q.Jobs.take i).map qF.enc++[qF.enc q.Jobs[i]]:=by
   rw[lTs hlt,lMa];rfl
  refine Can.push (w:=10) (ps:=[]) (A:=(q.Jobs.take i).map qF.enc) (t:=q.Jobs[i].enc) (b:=0) rfl (zj qF.plx _) (qF.plx _) rfl rfl ?_ ?_
   ⟨⟨_,rfl,.tree rfl⟩,⟨_,rfl,.tree rfl⟩,⟨_,rfl,.tree (by simp[AV.tree,qa qF.isSh.tree])⟩,trivial⟩ ⟨⟨_,rfl,.agg rfl (VR2s.cons (.tree rfl) (VR2s.cons (.tree rfl) (VR2s.cons (.tree rfl) (VR2s.cons (.slice (U9.trans ?_)) VR2s.nil)))).2⟩,⟨_,rfl,.tree rfl⟩,trivial⟩
  ·simp only[qK,jC,lCa,lNa,lSz,lAa,nZa,Nat.add_comm 1]
  ·rw[e];simp only[qK,lNa,nZa]
  ·simp only[lAp,lCo,lNi,jC,qf];congr 2;omega
 ·obtain rfl:i=q.Jobs.length:=by have:=odF hc;omega
  simp only[lTl];refine lsA ?_;simp only[go_sem];exact wv (t:=q.enc) (pre:=[]) (post:=[]) (qP.plx q) (by simp[zT,qP.layE]) (by simp[qP.layE,lay])
def wc(xs:List Int):Bool:=xs.all (λn=>inI n 0 1000000000)&&decide ((xs.length:Int)=7)
def qj(xs:List Int):Int:=xs.foldl (· + ·) 0
theorem qEJ{xs:List Int}{v:Int}:qj (xs++[v])=qj xs+v:=by simp[qj]
theorem qEI{xs:List Int}(h:∀v∈xs,0<=v/\v<=1000000000):0<=qj xs/\qj xs<=1000000000*xs.length:=by
 have key:∀(n:Nat),n<=xs.length->0<=qj (xs.take n)/\qj (xs.take n)<=1000000000*n:=by
  intro n
  induction n with
  | zero=>intro _;simp[qj]
  | succ n ih=>
   intro hn;have:=ih (by omega);have hv:=h _ (gMm (show n<xs.length by omega));rw[lTs (by omega),qEJ];omega
 have:=key xs.length (nLr _);rwa[lTl]at this
theorem Zg{xs:List Int}(h:wc xs=true):(∀v∈xs,0<=v/\v<=1000000000)/\xs.length=7:=by
 unfold wc at h;simp only[bAt,dTe,lAt]at h;exact⟨λv hv=>zK.1 (h.1 v hv),by omega⟩
theorem Vv{xs:List Int}(h:wc xs=true):0<=qj xs/\qj xs<=7000000000:=by
 have h1:=Zg h;have:=qEI h1.1;omega
theorem qhT{xs:List Int}(hl:xs.length<=1048576):Pure Gm 1056 [lQ xs] (.bool (wc xs)):=by
 refine pI Ka (by simp[AV.trees,AV.tree,qa shI.tree]) rfl ?_;simp only[Ka,qM,go_sem];refine Sem.loop (λi:Nat=>i<=xs.length/\wc xs=((xs.drop i).all (λn=>inI n 0 1000000000)&&decide ((xs.length:Int)=7))) (λi=>(⟨[(0,lQ xs),(3,iI (i:Nat))],[],[]⟩:VSt)) (λi=>xs.length-i) 0 (by kernel_rfl) ⟨nZl _,by simp[wc]⟩ csA ?_;rintro i ⟨hi,hI⟩;simp only[go_sem];apply qI<;>intro hc<;>simp only[hc,go_sem]
 ·have hlt:i<xs.length:=by have:=odT hc;omega
  simp only[gMp,gEg hlt,oMs,go_sem];simp only[qQ];simp only[go_sem];refine qL JB ?_;simp only[go_sem];apply qI<;>intro hc<;>simp only[hc,go_sem]
  ·refine qO rfl ?_;rw[hI,wu hlt,lAc];simp_all
  ·simp only[wuA (n:=i)];refine qb (i+1) ⟨by omega, ?_⟩ (by omega) csA;rw[hI,wu hlt,lAc];simp_all
 ·obtain rfl:i=xs.length:=by have:=odF hc;omega
  refine qO rfl ?_;rw[hI];simp
theorem Vm{xs:List Int}(h:wc xs=true):Pure Gm 1263 [lQ xs] (iI (qj xs)):=by
 obtain⟨hv,h7⟩:=Zg h;refine pI Kn (by simp[AV.trees,AV.tree,qa shI.tree]) rfl ?_;simp only[Kn,qM,go_sem];refine Sem.loop (λi:Nat=>i<=xs.length/\True) (λi=>(⟨[(0,lQ xs),(3,iI (qj (xs.take i))),(4,iI (i:Nat))],[],[]⟩:VSt)) (λi=>xs.length-i) 0 (by kernel_rfl) ⟨nZl _,trivial⟩ (Can.sub (by simp[go_sem];rfl) (by simp[go_sem])) ?_;rintro i ⟨hi,_⟩;simp only[go_sem];apply qI<;>intro hc<;>simp only[hc,go_sem]
 ·have hlt:i<xs.length:=by have:=odT hc;omega
  simp only[gMp,gEg hlt,oMs,go_sem];simp only[qQ];have b1:=qEI (xs:=xs.take i) λv hm=>hv v (List.mem_of_mem_take hm);have b2:=hv _ (gMm hlt);have b3:(xs.take i).length<=7:=by simp;omega
  have ew:IntKind.i64.wrap (qj (xs.take i)+xs[i])=qj (xs.take (i+1)):=by rw[lTs hlt,qEJ,wsA]
  simp only[ew,go_sem];simp only[wuA (n:=i)];exact qb (i+1) ⟨by omega,trivial⟩ (by omega) csA
 ·obtain rfl:i=xs.length:=by have:=odF hc;omega
  refine qO rfl ?_;rw[lTl]
def Qs(j:qF):Int:=if j.State=1 then qj j.Counts else qj j.Counts+1
theorem qh4{j:qF}(h:wc j.Counts=true):Pure Gm 1264 [.ept j.enc 0] (iI (Qs j)):=by
 have hb:=Vv h;refine pJ Ko ?_;simp only[Ko,qM,go_sem];apply qI<;>intro hc<;>simp only[hc,go_sem]
 ·refine qL (Vm h) ?_;simp only[go_sem];exact qO rfl (by unfold Qs;rw[if_pos (by simpa using hc)])
 ·refine qL (Vm h) ?_;have e:IntKind.i64.wrap (qj j.Counts+1)=qj j.Counts+1:=wsA;simp only[e,go_sem];exact qO rfl (by unfold Qs;rw[if_neg (by simpa using hc)])
theorem qh5{n:qD}:Pure Gm 1265 [.ept n.enc 0] (.bool (decide ((n.Agents.length:Int)=0))):=by
 refine pJ Kp ?_;simp only[Kp,qM,go_sem];exact qO rfl rfl
def Jf(j:qF):Bool:=inI j.Weight 1 4&&inI j.State 1 4&&inI j.Left 0 4000&&wc j.Counts&& !(decide (4000<qj j.Counts+j.Left))&&inI j.Slices 0 (Qs j)&&inI j.Code 0 14&&decide (decide (j.State=3)= !decide (j.Code=0))&&
 (if j.State=1 then wm j.Schedule&&ju j.Book&&zB j.Net else decide (j.Schedule.length=0)&&decide (j.Book.length=0)&&(if j.State=2 then zB j.Net else decide ((j.Net.Agents.length:Int)=0)))
theorem c960{j:qF}(hz:j.sz<=1048576):Pure Gm 960 [.ept j.enc 0] (.bool (Jf j)):=by
 refine pJ F960 ?_;simp only[F960,qM,go_sem];unfold qF.sz at hz;have conv:Cvs (only [] []) [.ept j.enc 9] [.ept j.Net.enc 0]:=Cvs.cons (.sub qF.tr (qF.q9_1) (by rw[qD.ln];decide)) Cvs.nil
 have wsum:wc j.Counts=true->inI j.Left 0 4000=true->IntKind.i64.wrap (qj j.Counts+j.Left)=qj j.Counts+j.Left:=λh1 h2=>by
  have:=Vv h1;have:=zK.1 h2;exact wsA
 repeat' (first
  | (apply qk<;>intro hc<;>simp only[hc,go_sem])
  | (apply qI<;>intro hc<;>simp only[hc,go_sem])
  | (refine qL JB ?_;simp only[go_sem])
  | (refine qL (qhT (by omega)) ?_;simp only[go_sem])
  | (refine qL (Vm (by simp_all)) ?_;simp only[go_sem];simp only[wsum (by simp_all) (by simp_all)])
  | (refine qL (qh4 (by simp_all)) ?_;simp only[go_sem])
  | (refine qL (c412 (by omega)) ?_;simp only[go_sem])
  | (refine qL (c598 (by omega)) ?_;simp only[go_sem])
  | (refine qbW conv (c318 (by omega)) ?_;simp only[go_sem])
  | (refine qbW conv qh5 ?_;simp only[go_sem])
  | refine qO rfl ?_)
 all_goals try (simp_all[Jf];done)
 ·have hs:¬j.State=1:=by simp_all
  have hb:¬j.Book.length=0:=by have:=odT hc;omega
  unfold Jf;rw[if_neg hs];simp only[hb,decide_false,Bool.and_false,Bool.false_and]
 ·have hs:¬j.State=1:=by simp_all
  have hb:¬j.Schedule.length=0:=by
   have h0:decide ((0:Int)<j.Schedule.length)=true:=by rw[hc];rfl
   have:=odT h0;omega
  unfold Jf;rw[if_neg hs];simp only[hb,decide_false,Bool.and_false,Bool.false_and]
def J9(nid:Int):Int->List qF->Bool
 | _,[]=>true
 | last,j::js=>inI j.Id (last+1) (nid-1)&&Jf j&&J9 nid j.Id js
def Qr(a b:Int):Int:=if b<a then a else b
def wl(q:qP):Bool:=inI q.Quantum 1 50&&inI q.NextId 1 1000000000&& !(decide ((6:Int)<q.Jobs.length))&&inI q.Turn 0 (Qr 0 ((q.Jobs.length:Int)-1))&&J9 q.NextId 0 q.Jobs
theorem qcI{nid last:Int}{xs:List qF}{i:Nat}(h:i<xs.length):J9 nid last (xs.drop i)=(inI xs[i].Id (last+1) (nid-1)&&Jf xs[i]&&J9 nid xs[i].Id (xs.drop (i+1))):=by
 rw[lDc h];rfl
theorem qdN{q:qP}(h:q.sz<=1048576):q.Jobs.length<=1048576/\∀j∈q.Jobs,j.sz<=1048576:=by
 unfold qP.sz at h;exact⟨by omega,λj hj=>by have:=zx (f:=qF.sz) hj;omega⟩
theorem c584{q:qP}(hz:q.sz<=1048576):Pure Gm 584 [.ept q.enc 0] (.bool (wl q)):=by
 obtain⟨hl,hj⟩:=qdN hz;refine pJ F584 ?_;simp only[F584,qM,go_sem];have e1:IntKind.i64.wrap ((q.Jobs.length:Int)-1)=(q.Jobs.length:Int)-1:=wsA
 repeat' (first
  | (apply qk<;>intro hc<;>simp only[hc,go_sem])
  | (apply qI<;>intro hc<;>simp only[hc,go_sem])
  | (refine qL JB ?_;simp only[go_sem])
  | (simp only[e1];refine qL c856 ?_;simp only[go_sem])
  | refine qO rfl ?_)
 all_goals try (simp_all[wl,Qr];done)
 have f1:inI q.Quantum 1 50=true:=by simp_all
 have f2:inI q.NextId 1 1000000000=true:=by simp_all
 have f3:decide ((6:Int)<q.Jobs.length)=false:=by simp_all
 have f4:inI q.Turn 0 (Qr 0 ((q.Jobs.length:Int)-1))=true:=by simp_all[Qr]
 have key:wl q=J9 q.NextId 0 q.Jobs:=by simp[wl,f1,f2,f3,f4]
 have n1:=zK.1 f2;rw[key];clear f1 f2 f3 f4 key hc e1;refine Sem.loop (α:=Nat×Int) (λz=>z.1<=q.Jobs.length/\0<=z.2/\z.2<=1000000000/\J9 q.NextId 0 q.Jobs=J9 q.NextId z.2 (q.Jobs.drop z.1)) (λz=>(⟨[(0,.ept q.enc 0),(3,iI z.2),(4,iI (z.1:Nat))],[],[]⟩:VSt)) (λz=>q.Jobs.length-z.1) (0,0) (by kernel_rfl) ⟨nZl _,by simp only;omega,by simp only;omega,rfl⟩ csA ?_;rintro⟨i,last⟩ ⟨hi,l0,l1,hI⟩;simp only at hi l0 l1 hI;simp only[go_sem];apply qI<;>intro hc<;>simp only[hc,go_sem]
 ·have hlt:i<q.Jobs.length:=by have:=odT hc;omega
  rw[qcI hlt]at hI;have w1:IntKind.i64.wrap (last+1)=last+1:=wsA;have w2:IntKind.i64.wrap (q.NextId-1)=q.NextId-1:=wsA;have hx:q.Jobs[i]?=some q.Jobs[i]:=gEg hlt;have hjz:=hj _ (gMm hlt);generalize q.Jobs[i]=j at hI hjz hx|-;simp only[gMp,hx,oMs,w1,w2,go_sem];refine qL JB ?_;simp only[go_sem];apply qk<;>intro hc<;>simp only[hc,go_sem]
  ·simp only[gMp,hx,oMs,go_sem];refine qL (c960 hjz) ?_;simp only[go_sem];apply qI<;>intro hc2<;>simp only[hc2,go_sem]
   ·exact qO rfl (by rw[hI];simp_all)
   ·simp only[gMp,hx,oMs,go_sem];simp only[wuA (n:=i)];have hin:inI j.Id (last+1) (q.NextId-1)=true:=by simpa using hc
    have:=zK.1 hin;exact qb (i+1,j.Id) ⟨hlt,by simp only;omega,by simp only;omega,by rw[hI];simp_all⟩ (by simp only;omega) csA
  ·exact qO rfl (by rw[hI];simp_all)
 ·obtain rfl:i=q.Jobs.length:=by have:=odF hc;omega
  exact qO rfl (by rw[hI,List.drop_length];rfl)
def Za(js:List qF)(t k:Nat):Nat->Int
 | 0=> -1
 | m+1=>if (js[(t+k)%js.length]?).any (λj=>decide (j.State=1))then(((t+k)%js.length:Nat):Int)else Za js t (k+1) m
def jt(q:qP):Int:=Za q.Jobs q.Turn.toNat 0 q.Jobs.length
theorem qnU{q:qP}(ok:wl q=true):q.Jobs.length<=6/\0<=q.Turn/\q.Turn<=5/\(q.Jobs≠[]->q.Turn<q.Jobs.length):=by
 unfold wl Qr at ok;simp only[bAt,zK,bNt,decide_eq_false_iff_not]at ok;obtain⟨⟨⟨_,h1⟩,h2⟩,_⟩:=ok;split at h2
 ·rename_i c;have:q.Jobs.length=0:=by omega
  refine⟨by omega,by omega,by omega,λe=>absurd (lEz this) e⟩
 ·exact⟨by omega,by omega,by omega,λ_=>by omega⟩
theorem qiH{n:Int}:Pure Gm 1451 [iI n] (.bool (!inI n 0 1000000000)):=by
 refine pJ qAE ?_;simp only[qAE,qM,go_sem]
 repeat' (first
  | (apply qk<;>intro hc<;>simp only[hc,go_sem])
  | (apply qI<;>intro hc<;>simp only[hc,go_sem])
  | refine qO rfl ?_)
 all_goals ((simp only[inI,AV.bool.injEq];rw[Bool.eq_iff_iff];simp at*;try omega))
theorem qbP{xs:List Int}(hl:xs.length<=1048576):Pure Gm 1269 [lQ xs] (.bool (wc xs)):=by
 refine pI Kt (by simp[AV.trees,AV.tree,qa shI.tree]) rfl ?_;simp only[Kt,qM,go_sem]
 (first | apply qk | apply qI)<;>intro hc<;>simp only[hc,go_sem]
 ·refine qL (Vo (f:=.fn 1451 []) (λn=> !inI n 0 1000000000) rfl xs (λx _=>⟨1451,[],rfl,qiH⟩) hl) ?_;simp only[go_sem];refine qO rfl ?_;rw[XG];simp_all[wc]
 ·refine qO rfl ?_;simp_all[wc]
theorem qbQ{xs:List Int}(h:wc xs=true):Pure Gm 1270 [lQ xs] (iI (qj xs)):=by
 obtain⟨hv,h7⟩:=Zg h;refine pI Ku (by simp[AV.trees,AV.tree,qa shI.tree]) rfl ?_;simp only[Ku,qM,go_sem];refine qL (qbP (by omega)) ?_;simp only[h,go_sem];refine Sem.loop (λi:Nat=>i<=xs.length/\True) (λi=>(⟨[(3,iI (qj (xs.take i))),(9,lQ xs),(10,iI (xs.length:Nat)),(11,iI (i:Nat))],[],[]⟩:VSt)) (λi=>xs.length-i) 0 (by kernel_rfl) ⟨nZl _,trivial⟩ (Can.sub (by simp[go_sem];rfl) (by simp[go_sem])) ?_;rintro i ⟨hi,_⟩;simp only[go_sem];apply qI<;>intro hc<;>simp only[hc,go_sem]
 ·have hlt:i<xs.length:=by have:=odT hc;omega
  simp only[gMp,gEg hlt,oMs,go_sem];simp only[qQ];have b1:=qEI (xs:=xs.take i) λv hm=>hv v (List.mem_of_mem_take hm);have b2:=hv _ (gMm hlt);have b3:(xs.take i).length<=7:=by simp;omega
  have ew:IntKind.i64.wrap (qj (xs.take i)+xs[i])=qj (xs.take (i+1)):=by rw[lTs hlt,qEJ,wsA]
  simp only[ew,go_sem];simp only[wuA (n:=i)];exact qb (i+1) ⟨by omega,trivial⟩ (by omega) csA
 ·obtain rfl:i=xs.length:=by have:=odF hc;omega
  refine qO rfl ?_;rw[lTl]
theorem qiI{n:qD}:Pure Gm 1452 [n.enc] (.bool (decide ((n.Agents.length:Int)=0))):=by
 refine pI qAF (by simp[AV.trees,AV.tree,qD.tr]) rfl ?_;simp only[qAF,qM,go_sem];refine qZ rfl ?_;simp only[go_sem];exact qO rfl rfl
def WS(j:qF):Bool:=if j.State=1 then wm j.Schedule&&ju j.Book&&zB j.Net else decide (j.Schedule.length=0)&&decide (j.Book.length=0)&&(if j.State=2 then zB j.Net else decide ((j.Net.Agents.length:Int)=0))
theorem qh6{j:qF}(hz:j.sz<=1048576):Pure Gm 1271 [j.enc] (.bool (WS j)):=by
 refine pI Kv (by simp[AV.trees,AV.tree,qF.tr]) rfl ?_;simp only[Kv,qM,go_sem];refine qZ rfl ?_;simp only[go_sem];unfold qF.sz at hz;have hb:∀n∈j.Book,n.sz<=1048576:=λn hn=>by have:=zx (f:=qD.sz) hn;omega
 have w:IntKind.i64.wrap ((j.Schedule.length:Int)+(j.Book.length:Int))=(j.Schedule.length:Int)+(j.Book.length:Int):=wsA
 repeat' (first
  | (apply qk<;>intro hc<;>simp only[hc,w,go_sem])
  | (apply qI<;>intro hc<;>simp only[hc,w,go_sem])
  | (refine qL (c406 (by omega)) ?_;simp only[go_sem])
  | (refine qL (c505 (by omega) hb) ?_;simp only[go_sem])
  | (refine qL (c319 (by omega)) ?_;simp only[go_sem])
  | (refine qL qiI ?_;simp only[go_sem])
  | refine qO rfl ?_)
 all_goals try (simp_all[WS];done)
 ·rename_i h1;have hs:=odF h1;have hq:=odT hc;unfold WS;rw[if_neg hs];by_cases e:j.Schedule.length=0
  ·have e2:¬j.Book.length=0:=by omega
   simp only[e2,decide_false,Bool.and_false,Bool.false_and]
  ·simp only[e,decide_false,Bool.and_false,Bool.false_and]
 ·rename_i h1 h2;have hs:=odF h1;have hq:=odF h2;have e1:j.Schedule.length=0:=by omega
  have e2:j.Book.length=0:=by omega
  unfold WS;rw[if_neg hs,if_pos (odT hc)];simp only[e1,e2,decide_true,Bool.true_and]
 ·rename_i h1 h2;have hs:=odF h1;have hq:=odF h2;have e1:j.Schedule.length=0:=by omega
  have e2:j.Book.length=0:=by omega
  unfold WS;rw[if_neg hs,if_neg (odF hc)];simp only[e1,e2,decide_true,Bool.true_and]
theorem qdL(j:qF):Jf j=(inI j.Weight 1 4&&inI j.State 1 4&&inI j.Left 0 4000&&wc j.Counts&& !(decide (4000<qj j.Counts+j.Left))&&inI j.Slices 0 (Qs j)&&inI j.Code 0 14&&decide (decide (j.State=3)= !decide (j.Code=0))&&WS j):=rfl
theorem c964{j:qF}(hz:j.sz<=1048576):Pure Gm 964 [j.enc] (.bool (Jf j)):=by
 refine pI F964 (by simp[AV.trees,AV.tree,qF.tr]) rfl ?_;simp only[F964,qM,go_sem];refine qZ rfl ?_;simp only[go_sem];have hz':=hz;unfold qF.sz at hz'
 repeat' (first
  | (refine qk ?_ ?_<;>intro hc<;>simp only[hc,go_sem])
  | (refine qI ?_ ?_<;>intro hc<;>simp only[hc,go_sem])
  | (refine jx (vs':=[iI 4000,.lst 1 ([j.Left].map qQ) false]) (Cvs.cons (.refl rfl) (Cvs.cons (Cv.row rfl rfl rfl (by decide)) Cvs.nil)) (YS (by simp)) rfl ?_;simp only[go_sem])
  | (refine qL (qbP (by omega)) ?_;simp only[go_sem])
  | refine qO rfl ?_)
 case refine_1.refine_1.refine_1.refine_1.refine_1.refine_2=>
  rename_i g1 g2 g3 g4 g5;have hcnt:wc j.Counts=true:=by simpa using hc
  have hs:=Vv hcnt;have l1:inI j.Left 0 4000=true:=by simpa using g5
  have hl:=zK.1 l1;have k1:inI j.Weight 1 4=true:=by rw[zK];have:=odF g1;have:=odF g2;omega
  have k2:inI j.State 1 4=true:=by rw[zK];have:=odF g3;have:=odF g4;omega
  have key:Jf j=(!(decide (4000<qj j.Counts+j.Left))&&inI j.Slices 0 (Qs j)&&inI j.Code 0 14&&decide (decide (j.State=3)= !decide (j.Code=0))&&WS j):=by rw[qdL,hcnt,l1,k1,k2];simp
  rw[key];clear key g1 g2 g3 g4 g5 hc;refine qL (qbQ hcnt) ?_;simp only[go_sem];refine qL Vp ?_;simp only[go_sem];have w1:IntKind.i64.wrap (qj j.Counts+j.Left)=qj j.Counts+j.Left:=wsA;have w2:IntKind.i64.wrap (qj j.Counts+if (!decide (j.State=1))=true then 1 else 0)=Qs j:=by
   unfold Qs;by_cases e:j.State=1
   ·simp only[e,decide_true,Bool.not_true,bFt,if_false,if_true];rw[wsA];omega
   ·simp only[e,decide_false,Bool.not_false,if_true,if_false];rw[wsA]
  rw[w1,w2]
  repeat' (first
   | (refine qk ?_ ?_<;>intro hc<;>simp only[hc,go_sem])
   | (refine qI ?_ ?_<;>intro hc<;>simp only[hc,go_sem])
   | (refine jx (vs':=[iI (Qs j),.lst 1 ([j.Slices].map qQ) false]) (Cvs.cons (.refl rfl) (Cvs.cons (Cv.row rfl rfl rfl (by decide)) Cvs.nil)) (YS (by simp)) rfl ?_;simp only[go_sem])
   | (refine jx (vs':=[iI 14,.lst 1 ([j.Code].map qQ) false]) (Cvs.cons (.refl rfl) (Cvs.cons (Cv.row rfl rfl rfl (by decide)) Cvs.nil)) (YS (by simp)) rfl ?_;simp only[go_sem])
   | (refine qL (qh6 hz) ?_;simp only[go_sem])
   | refine qO rfl ?_)
  all_goals (simp_all;done)
 all_goals (cases e:Jf j with
  | false=>rfl
  | true=>(exfalso;rw[qdL]at e;simp only[bAt,zK]at e;simp[inI]at hc;first | omega | simp_all))
def QA(js:List qF)(i:Nat):Int:=if i=0 then 0 else(js[i-1]?).elim 0 (·.Id)
theorem c589{q:qP}(hz:q.sz<=1048576):Pure Gm 589 [q.enc] (.bool (wl q)):=by
  obtain⟨hl,hj⟩:=qdN hz;refine pI F589 (by simp[AV.trees,AV.tree,qP.tr]) rfl ?_;simp only[F589,qM,go_sem];refine qZ rfl ?_;simp only[go_sem];have e1:IntKind.i64.wrap ((q.Jobs.length:Int)-1)=(q.Jobs.length:Int)-1:=wsA
  repeat' (first
    | (refine qk ?_ ?_<;>intro hc<;>simp only[hc,go_sem])
    | (refine qI ?_ ?_<;>intro hc<;>simp only[hc,go_sem])
    | refine qO rfl ?_)
  case refine_1.refine_1.refine_1.refine_1.refine_2=>
    rename_i g1 g2 g3 g4;have n1:1<=q.NextId/\q.NextId<=1000000000:=by have:=odF g3;have:=odF g4;omega
    have f1:inI q.Quantum 1 50=true:=by rw[zK];have:=odF g1;have:=odF g2;omega
    have f2:inI q.NextId 1 1000000000=true:=by rw[zK];exact n1
    have em:max ((q.Jobs.length:Int)-1) 0=Qr 0 ((q.Jobs.length:Int)-1):=by unfold Qr;split<;>omega
    have key:wl q=(inI q.Turn 0 (Qr 0 ((q.Jobs.length:Int)-1))&&J9 q.NextId 0 q.Jobs):=by unfold wl;rw[f1,f2,hc];simp
    rw[key,e1,em];clear key g1 g2 g3 g4 hc e1 em f1 f2;refine jx (vs':=[iI (Qr 0 ((q.Jobs.length:Int)-1)),.lst 1 ([q.Turn].map qQ) false]) (Cvs.cons (.refl rfl) (Cvs.cons (Cv.row rfl rfl rfl (by decide)) Cvs.nil)) (YS (by simp)) rfl ?_;simp only[go_sem];refine qI ?_ ?_<;>intro hc<;>simp only[hc,go_sem]
    · exact qO rfl (by simp at hc;simp[hc])
    have hc':inI q.Turn 0 (Qr 0 ((q.Jobs.length:Int)-1))=true:=by simpa using hc
    rw[hc',Bool.true_and];clear hc hc';refine Sem.loop (λi:Nat=>i<=q.Jobs.length/\0<=QA q.Jobs i/\J9 q.NextId 0 q.Jobs=J9 q.NextId (QA q.Jobs i) (q.Jobs.drop i)) (λi=>(⟨[(40,.lst 10 (q.Jobs.map qF.enc) false),(41,iI (q.Jobs.length:Nat)),(42,iI (i:Nat))],[(1,q.enc)],[.row 1 [iI q.Turn] true]⟩:VSt)) (λi=>q.Jobs.length-i) 0 (by kernel_rfl) ⟨nZl _,by simp[QA],rfl⟩ csA ?_;rintro i ⟨hi,l0,hI⟩;simp only[go_sem];refine qI ?_ ?_<;>intro hc<;>simp only[hc,go_sem]
    · have hlt:i<q.Jobs.length:=by have:=odT hc;omega
      rw[qcI hlt]at hI;have hx:q.Jobs[i]?=some q.Jobs[i]:=gEg hlt;have hjz:=hj _ (gMm hlt);have hlast:QA q.Jobs (i+1)=q.Jobs[i].Id:=by unfold QA;rw[if_neg (by omega),Nat.add_sub_cancel,hx];rfl
      generalize q.Jobs[i]=j at hI hjz hx hlast|-;simp only[gMp,hx,oMs,go_sem];refine lsA ?_;simp only[go_sem];have w:0<i->IntKind.i64.wrap ((i:Int)-1)=((i-1:Nat):Int):=λh=>by rw[wsA];omega
      have hp:0<i->∃p,q.Jobs[i-1]?=some p/\QA q.Jobs i=p.Id:=λh=>by
        have h1:i-1<q.Jobs.length:=by omega
        exact⟨q.Jobs[i-1],gEg h1,by unfold QA;rw[if_neg (by omega),gEg h1];rfl⟩
      repeat' (first
        | (refine qk ?_ ?_<;>intro hc<;>simp only[hc,go_sem])
        | (refine qI ?_ ?_<;>intro hc<;>simp only[hc,go_sem])
        | (refine qL (c964 hjz) ?_;simp only[go_sem])
        | (have h0:0<i:=by have:=odT hc;omega
           obtain⟨p,hp1,hp2⟩:=hp h0;rw[w h0];simp only[go_sem];simp only[gMp,hp1,oMs,go_sem])
        | refine qO rfl ?_)
      all_goals try (rw[hI];cases e1:inI j.Id (QA q.Jobs i+1) (q.NextId-1)with
        | false=>simp
        | true=>(rw[zK]at e1;first | (simp_all;done) | (simp at*;omega)))
      all_goals
        have hok:Jf j=true:=by simpa using hc
        have l2:0<=j.Id:=by
          have h1:decide (j.Id<1)=false:=by assumption
          have:=odF h1;omega
      all_goals simp only[wuA (n:=i)]
      all_goals refine qb (i+1) ⟨hlt,by rw[hlast];exact l2, ?_⟩ (by omega) csA
      · rename_i g1 g2 g3 g4;have:=odF g2;have:=odF g4;have e1:inI j.Id (QA q.Jobs i+1) (q.NextId-1)=true:=by rw[zK,hp2];omega
        rw[hI,e1,hok,hlast];rfl
      · rename_i g1 g2 g3;have:=odF g1;have:=odF g2;have h0:i=0:=by
          have h1:decide ((0:Int)<(i:Int))=false:=g3;have:=odF h1;omega
        have e0:QA q.Jobs i=0:=by unfold QA;rw[if_pos h0]
        have e1:inI j.Id (QA q.Jobs i+1) (q.NextId-1)=true:=by rw[zK,e0];omega
        rw[hI,e1,hok,hlast];rfl
    · obtain rfl:i=q.Jobs.length:=by have:=odF hc;omega
      exact qO rfl (by rw[hI,List.drop_length];rfl)
  all_goals (cases e:wl q with
    | false=>rfl
    | true=>(exfalso;unfold wl at e;simp only[bAt,zK]at e;simp at hc;first | omega | simp_all))
def JR(C X:List Int)(i:Nat):List Int:=C.mapIdx λk c=>if k<i then c+X.getD k 0 else c
def zu(C X:List Int):List Int:=C.mapIdx λk c=>c+X.getD k 0
theorem qaS{C X:List Int}:JR C X 0=C:=by
 unfold JR;refine List.ext_getElem? λk=>?_;rw[List.getElem?_mapIdx];cases C[k]?<;>simp
theorem qaU{C X:List Int}{n:Nat}(h:C.length<=n):JR C X n=zu C X:=by
 unfold JR zu;refine List.ext_getElem? λk=>?_;rw[List.getElem?_mapIdx,List.getElem?_mapIdx];cases e:C[k]? with
 | none=>rfl
 | some c=>have:=qR e;simp only[oMs];rw[if_pos (by omega)]
theorem WN{C X:List Int}:(zu C X).length=C.length:=by simp[zu]
theorem qaT{C X:List Int}{i:Nat}(h:i<C.length):(JR C X i)[i]?=some C[i]:=by
 unfold JR;rw[List.getElem?_mapIdx,gEg h];simp
theorem qaV{C X:List Int}{i:Nat}(h:i<C.length)(hx:i<X.length):(JR C X i).set i (C[i]+X[i])=JR C X (i+1):=by
 refine List.ext_getElem? λk=>?_;unfold JR;rw[gSt,List.getElem?_mapIdx,List.getElem?_mapIdx,List.length_mapIdx];by_cases e:i=k
 ·subst e;rw[if_pos rfl,if_pos h,gEg h];simp[hx]
 ·rw[if_neg e];cases C[k]? with
  | none=>rfl
  | some c=>simp only[oMs];congr 1;by_cases q:k<i<;>simp[q]<;>omega
def j8(j:qF)(st cd:Int)(n:Ags):qF:={j with State:=st,Code:=cd,Schedule:=[],Book:=[],Net:=⟨n⟩}
def w7(j:qF)(most:Nat):qF:=
 let r:=jN j.Book j.Schedule most (qj j.Counts).toNat j.Net.Agents;let k:qF:={j with Slices:=j.Slices+1,Left:=j.Left-r.2.1.length,Counts:=zu j.Counts (qY r.2.1)}
 if r.2.2.2≠0 then j8 k 3 r.2.2.2 []else if r.2.2.1 then j8 k 2 0 r.1 else if j.Left-r.2.1.length=0 then j8 k 3 12 []else{k with Net:=⟨r.1⟩}
section
variable {h:List qC} {K:AV->List qC->Prop} {jid k:Nat} {vs:List AV} {i0 i1 i2 i3 i4 i5 st cd:Int} {vc vq vb vn u:AV}
theorem qD7(ho:h[jid]?=some (.row 10 vs true))(hv:vs[k]?=some (jc i0 i1 i2 i3 i4 i5 vc vq vb vn))(hK:K (.tup []) (h.set jid (.row 10 (vs.set k (jc i0 i1 st cd i4 i5 vc .nils .nils u)) true))):
  SCall Gm 1276 [.ptr jid k 0,iI st,iI cd,.agg [u]] h K:=by
 have lj:=qR ho;have lk:=qR hv;refine sI K5 ?_;simp only[K5,qM,go_sem];refine qZ rfl ?_;simp only[go_sem];unfold jc at hv hK;refine qn rfl ho hv rfl ?_;simp only[go_sem];refine qn rfl (gSs lj) (gSs lk) rfl ?_;simp only[List.set_set,go_sem];refine qn rfl (gSs lj) (gSs lk) rfl ?_;simp only[List.set_set,go_sem];refine qn rfl (gSs lj) (gSs lk) rfl ?_;simp only[List.set_set,go_sem];refine qn rfl (gSs lj) (gSs lk) rfl ?_;simp only[List.set_set,go_sem];exact hK
end
theorem qDN{N:Ags}{X:Nat->Nat->Prop}(h:W N X)(hX:∀u v,¬X u v):qc N (λ_=>false)=N:=by
 have hc:∀n,qT (λ_=>false) n=n:=λn=>by
  induction n with
  | zero=>rfl
  | succ n ih=>rw[jP,ih];rfl
 refine List.ext_getElem? λk=>?_;rcases Nat.lt_or_ge k N.length with q | q
 ·have e:=Wm (R:=λ_=>false) (gEg q) rfl;rw[hc]at e;rw[e,gEg q];congr 1;unfold qu;have:N[k].Ports.map (λp=>(⟨(qT (λ_=>false) p.Agent.toNat:Nat),p.Slot⟩:qE))=N[k].Ports:=by
   refine List.ext_getElem? λs=>?_;rw[gMp];cases hp:N[k].Ports[s]? with
   | none=>rfl
   | some p=>
    obtain⟨b,t,rfl,_⟩:=h k s p (jd.2 ⟨_,gEg q,hp⟩) (hX _ _);simp[hc,pt]
  rw[this]
 ·rw[gEn (by rw[QE,hc];omega),gEn (by omega)]
def J0(T:List Int)(r:Ags×List Int×Bool×Int):Ags×List Int×Bool×Int:=(r.1,T++r.2.1,r.2.2.1,r.2.2.2)
def JI(bk:List qD)(sch:List Int)(bj b rid most B0:Nat)(RES:Ags×List Int×Bool×Int)(h g:List qC)(pid np:Nat)(code:Int)(t:Nat):Prop:=
 ∃N R ks nid mid cid tid uid eid T U E,RI bk bj b rid nid mid ks R N [(cid,qY T),(tid,T),(uid,U),(eid,E)] g/\Keep (Lo b) h g/\g[pid]?=some (.row 2 ((zZ R N (N.length-1)).map qV.enc) true)/\np=(zZ R N (N.length-1)).length/\
  T.length=t/\t<=most/\ks.length<=2*t/\U.length<=t+1/\E.length<=t/\((code=0/\J0 T (jN bk sch (most-t) (B0+t) (qc N R))=RES)\/(code≠0/\(qc N R,T,false,code)=RES))
@[go_sem] theorem qqL:wg qAW=10:=by rfl
@[go_sem] theorem qqR:wg qAX=19:=by rfl
@[go_sem] theorem qqS:wg qA3=26:=by rfl
@[go_sem] theorem qqT:wg qA4=39:=by rfl
@[go_sem] theorem qqU:wg VU=53:=by rfl
@[go_sem] theorem qqV:wg VV=60:=by rfl
@[go_sem] theorem qqW:wg VW=69:=by rfl
@[go_sem] theorem qqX:wg qA5=76:=by rfl
@[go_sem] theorem qqY:wg qA6=79:=by rfl
@[go_sem] theorem qqM:wg qAY=101:=by rfl
@[go_sem] theorem qqN:wg qAZ=106:=by rfl
@[go_sem] theorem qqO:wg qA0=109:=by rfl
@[go_sem] theorem qqP:wg qA1=117:=by rfl
@[go_sem] theorem qqQ:wg qA2=90:=by rfl
section
variable {h:List qC} {K:AV->List qC->Prop} {jid k most:Nat} {vs:List AV} {v:AV} {j:qF} {S:List (Option Nat)}
def JV(j:qF):Prop:=wm j.Schedule=true/\ju j.Book=true/\zB j.Net=true/\wc j.Counts=true/\0<=j.Left/\j.Left<=4000/\0<=j.Slices/\qj j.Counts+j.Left<=4000/\0<=qj j.Counts/\1<=j.Weight/\j.Weight<=4/\j.Slices<=qj j.Counts
theorem qlH(ok:Jf j=true)(hw:j.State=1):JV j:=by
 unfold Jf Qs at ok;simp only[hw,if_true,bAt,zK,bNt,decide_eq_false_iff_not]at ok;have:=Vv ok.1.1.1.1.1.2;obtain⟨⟨⟨⟨⟨⟨⟨⟨a1,a2⟩,a3⟩,a4⟩,a5⟩,a6⟩,a7⟩,a8⟩,⟨a9,a10⟩,a11⟩:=ok;exact⟨a9,a10,a11,a4,by omega,by omega,by omega,by omega,by omega,by omega,by omega,by omega⟩
structure RT(n bj b rid nid mid:Nat)(ks:List Nat)(N:Ags)(Z:ZL)(h:List qC):Prop where
 z:RZ rid nid Z h
 w:NE 3 [sQ 1 bj n,.map mid] (Prt b (ids rid Z)) nid h N
 mp:h[mid]?=some (.map (z9 ks))
 lo:∀j∈ids rid Z,b<=j
 hm:b<=mid
theorem RI.rt{bk:List qD}{bid b rid nid mid:Nat}{ks:List Nat}{R:Nat->Bool}{N:Ags}{Z:ZL}(hI:RI bk bid b rid nid mid ks R N Z h):RT bk.length bid b rid nid mid ks N Z h:=
 ⟨hI.z,hI.w,hI.mp,hI.lo,by rcases Nat.lt_or_ge mid b with q | q;exact absurd (.inl q) hI.m;exact q⟩
theorem RT.set{n bj b rid nid mid i:Nat}{ks:List Nat}{N:Ags}{Z:ZL}{o:qC}(hT:RT n bj b rid nid mid ks N Z h)(hi:i<b):RT n bj b rid nid mid ks N Z (h.set i o):=
 ⟨hT.z.keep λj hj=>gSn (by have:=hT.lo j hj;omega),hT.w.re (λj hj hn=>gSn λe=>hn (.inl (by omega))) (by simp) (λj hj=>.inl hj) (λj hj=>by rw[lLs];exact hT.w.bl j hj),
  by rw[gSn (by have:=hT.hm;omega)];exact hT.mp,hT.lo,hT.hm⟩
theorem Hol.ports{R:Nat->Bool}{N:Ags}(h:Hol R N):∀k x,N[k]?=some x->R k=false->∀(s:Nat)(q:qE),x.Ports[s]?=some q->0<=q.Agent/\q.Agent<N.length/\R q.Agent.toNat=false:=λk x hx hk s q hq=>by
 obtain⟨b,t,rfl,e2,e3,_⟩:=h.w k s q (jd.2 ⟨x,hx,hq⟩) (by simp[hk]);have:=Jc e2;simp only[pt,iTn];exact⟨by omega,by omega,by simpa using e3⟩
theorem qd.netc{S:List (Option Nat)}{u:AV}{n:qD}(x:qd S h (.agg [u]) n.enc):qd S h u (.lst 5 (n.Agents.map qB.enc) false):=by
 obtain⟨ws,e,y⟩:=qd.aggs (ts:=[.lst 5 (n.Agents.map qB.enc) false]) x;cases e;obtain⟨S1,S2,rfl,y1,y2⟩:=y.uncons;have l:=lEz y2.len;rw[l,lAn];exact y1
theorem qfX{bk:List qD}{sch:List Int}{f k:Nat}{L:Ags}(h:JJ ⟨L⟩=[]):jN bk sch f k L=(L,[],true,0):=by
 cases f with
 | zero=>unfold jN;simp[h]
 | succ f=>unfold jN;rw[if_pos h]
abbrev jS(j:qF)(cj sj bj aj:Nat)(l s:Int):AV:=jc j.Id j.Weight j.State j.Code l s (sQ 1 cj j.Counts.length) (sQ 1 sj j.Schedule.length) (sQ 1 bj j.Book.length) (sQ 5 aj j.Net.Agents.length)
theorem s966(ho:h[jid]?=some (.row 10 vs true))(hv:vs[k]?=some v)(hj:qd S h v j.enc)(hn:none∉S)(hS:∀i,some i∈S->i<h.length/\i≠jid)(kj:JV j)(hm:most<=200)(hml:(most:Int)<=j.Left)
  (hK:∀h' v' S',h'[jid]?=some (.row 10 (vs.set k v') true)->qd S' h' v' (w7 j most).enc->((w7 j most).State=1->none∉S')->(∀i,some i∈S'->i<h'.length/\(some i∈S\/h.length<=i))->h.length<=h'.length->(∀i,i<h.length->i≠jid->some i∉S->h'[i]?=h[i]?)->K (.tup []) h'):
  SCall Gm 966 [.ptr jid k 0,iI (most:Nat)] h K:=by
 obtain⟨cj,sj,bj,aj,Sb,Sn,rfl,rfl,hcj,hsj,hb,hnn⟩:=hj.job hn;obtain⟨ksch,kbk,knet,kcnt,l0,l4,sl0,bud,sm0,w1,w4,slm⟩:=kj;have hsz:=Z7 knet;have lj:=qR ho;have lk:=qR hv;have nb:none∉Sb:=λq=>hn (by simp[q]);have nn:none∉Sn:=λq=>hn (by simp[q]);have hbk:BK j.Book bj (Lo h.length) h:=qhP hb nb λi hi=>(hS i (by simp[hi])).1;have hca:Cv h (sQ 5 aj j.Net.Agents.length) (.lst 5 (j.Net.Agents.map qB.enc) false):=hnn.cv nn (by have:=qD.cnx j.Net;simpa[qD.enc,AV.cn,AV.cns]using this);have hcell:=hv;unfold qdK jc at hcell;obtain⟨RES,hRES⟩:∃RES,RES=jN j.Book j.Schedule most (qj j.Counts).toNat j.Net.Agents:=⟨_,rfl⟩;refine SCall.run [] [53] (gk _ F966) (by kernel_rfl) rfl ?_;simp only[F966,qM,bPl,go_sem];simp only[ho,hcell,bPl,go_sem];refine qU (qoT (n:=j.Net) hca (by omega) knet hbk λH H' nid mid cid tid uid eid rid hcan eH k1 k2 hI=>?_);have oH:H[jid]?=_:=(k1.k jid lj).trans ho;have cH:H[cj]?=_:=(k1.k cj (hS cj (by simp)).1).trans hcj;simp only[bPl,go_sem];simp only[oH,hcell,bPl,go_sem];refine jx (Cvs.cons (Cv.row cH (by simp) (qa shI.tree _) (by decide)) Cvs.nil) (qbQ kcnt) rfl ?_;simp only[bPl,go_sem];refine qU (qD6 hcan eH hI (by omega) λg pid kg lg og=>?_);simp only[bPl,go_sem];have tl:∀(g:List qC)(s:qv)(pid np:Nat)(code:Int)(t:Nat),get s 0=some (.ptr jid k 0)->get s 4=some (.ptr rid 0 0)->get s 6=some (iI code)->get s 7=some (sQ 2 pid np)->
   JI j.Book j.Schedule bj h.length rid most (qj j.Counts).toNat RES h g pid np code t->(np=0\/most<=t\/code≠0)->
   Sem ⟨Gm,h.length,[],[53]⟩ [.code (.reg true VU),.code ((qG.reg true VV).seq (((qG.reg true VW).seq (qG.blk 2 qAV)).seq (qG.blk 4 ((qG.reg true [qA.mk 0 (some 99) none (AOp.mov (Ao.t 6)) [],qA.mk 1 (some 100) none (AOp.bin BinOp.neq (Ao.t 99) (Ao.c (AV.int IntKind.i64 0))) [],qA.mk 2 (some 98) none (AOp.mov (Ao.t 100)) []]).seq qAU))))] ⟨s,[],g⟩ (Jq [] K):=by
  intro g s pid np code t g0 g4 g6 g7 hJ hcond;obtain⟨N,R,ks,nid2,mid2,cid2,tid2,uid2,eid2,T,U,E,hI2,kg2,op,rfl,rfl,hT,hks,hU,hE,hres⟩:=hJ;have oG:g[jid]?=_:=(kg2.k jid lj).trans ho;have rt:=hI2.rt;have hlN:=hI2.len;have hlc:=hI2.hol.c;have lg:=kg2.l;have hcjl:=(hS cj (by simp)).1;have hcjn:=(hS cj (by simp)).2;refine Sem.reg (by kernel_rfl) ?_;have e1:IntKind.i64.wrap (j.Slices+1)=j.Slices+1:=wsA;simp only[g0,oG,hcell,e1,bPl,go_sem];refine qn (e':=jS j cj sj bj aj j.Left (j.Slices+1)) rfl oG hcell rfl ?_;obtain⟨gA,hgA⟩:∃gA,gA=g.set jid (.row 10 (vs.set k (jS j cj sj bj aj j.Left (j.Slices+1))) true):=⟨_,rfl⟩;have eA:gA[jid]?=some (.row 10 (vs.set k (jS j cj sj bj aj j.Left (j.Slices+1))) true):=by rw[hgA,gSs (by omega)]
  have rtA:RT j.Book.length bj h.length rid nid2 mid2 ks N [(cid2,qY T),(tid2,T),(uid2,U),(eid2,E)] gA:=by rw[hgA];exact rt.set lj
  have kA:∀i,i≠jid->gA[i]?=g[i]?:=λi hi=>by rw[hgA,gSn (Ne.symm hi)]
  have lA:gA.length=g.length:=by rw[hgA,lLs]
  have cA:∀x,(vs.set k x)[k]?=some x:=λx=>gSs lk;rw[<-hgA];unfold jS jc at eA;simp only[g0,g4,bPl,go_sem];simp only[eA,cA,g0,g4,bPl,go_sem];refine Vq (qCM rtA.z) ?_;have e2:IntKind.i64.wrap (j.Left-(T.length:Nat))=j.Left-(T.length:Nat):=wsA;simp only[e2,bPl,go_sem];refine qn (e':=jS j cj sj bj aj (j.Left-(T.length:Nat)) (j.Slices+1)) rfl eA (cA _) rfl ?_;rw[List.set_set];obtain⟨gB,hgB⟩:∃gB,gB=gA.set jid (.row 10 (vs.set k (jS j cj sj bj aj (j.Left-(T.length:Nat)) (j.Slices+1))) true):=⟨_,rfl⟩;have eB:gB[jid]?=some (.row 10 (vs.set k (jS j cj sj bj aj (j.Left-(T.length:Nat)) (j.Slices+1))) true):=by rw[hgB,gSs (by omega)]
  have rtB:RT j.Book.length bj h.length rid nid2 mid2 ks N [(cid2,qY T),(tid2,T),(uid2,U),(eid2,E)] gB:=by rw[hgB];exact rtA.set lj
  have kB:∀i,i≠jid->gB[i]?=g[i]?:=λi hi=>by rw[hgB,gSn (Ne.symm hi)];exact kA i hi
  have lB:gB.length=g.length:=by rw[hgB,lLs,lA]
  rw[<-hgB];clear hgB hgA eA rtA kA lA e1 e2 oG rt;have hz:=rtB.z.o;unfold wQ at hz;simp only[lMc,List.map_nil]at hz;unfold jS jc at eB;simp only[g0,g4,bPl,go_sem];simp only[hz,g0,g4,bPl,go_sem];have l7:=Zf (T:=T);have c7:=(Zg kcnt).2;have hcB:gB[cj]?=some (.row 1 (j.Counts.map qQ) true):=(kB cj hcjn).trans ((kg2.k cj hcjl).trans hcj);have hcC:gB[cid2]?=some (.row 1 ((qY T).map qQ) true):=rtB.z.r (cid2,qY T) (by simp);have hcc:cid2≠cj:=by have:=rtB.lo cid2 (by simp[ids]);omega
  have h0G:gB.set cj (.row 1 ((JR j.Counts (qY T) 0).map qQ) true)=gB:=by rw[qaS];exact KJ hcB
  refine Sem.loop (λi:Nat=>i<=(qY T).length/\True) (λi=>(⟨[(0,.ptr jid k 0),(4,.ptr rid 0 0),(6,iI code),(7,.slice 2 pid 0 (zZ R N (N.length-1)).length false),(72,.slice 1 cid2 0 (qY T).length false),(73,iI ((qY T).length:Nat)),(74,iI (i:Nat))],[],gB.set cj (.row 1 ((JR j.Counts (qY T) i).map qQ) true)⟩:VSt)) (λi=>(qY T).length-i) 0 (by kernel_rfl) ⟨nZl _,trivial⟩
   (by rw[h0G];exact Can.sub (by simp[go_sem,g0,g4,g6,g7]) (by simp[go_sem])) ?_
  rintro i ⟨hi,_⟩;have eJ:∀r,(gB.set cj r)[jid]?=gB[jid]?:=λr=>gSn hcjn;have eC:∀r,(gB.set cj r)[cid2]?=gB[cid2]?:=λr=>gSn (Ne.symm hcc);have eS:∀r,(gB.set cj r)[cj]?=some r:=λr=>gSs (by omega);simp only[bPl,go_sem];apply qI<;>intro hc<;>simp only[hc,bPl,go_sem]
  ·have hlt:i<(qY T).length:=by have:=odT hc;omega
   clear hc;have hx:((qY T).map qQ)[i]?=some (iI ((qY T)[i])):=by rw[gMp,gEg hlt];rfl
   have hlc2:i<j.Counts.length:=by omega
   have hy:((JR j.Counts (qY T) i).map qQ)[i]?=some (iI (j.Counts[i])):=by rw[gMp,qaT hlc2];rfl
   have hb1:=YU (T:=T) _ (gMm hlt);have hb2:=(Zg kcnt).1 _ (gMm hlc2);have ew:IntKind.i64.wrap (j.Counts[i]+(qY T)[i])=j.Counts[i]+(qY T)[i]:=wsA;simp only[J8 hlt,eC,hcC,hx,bPl,go_sem];simp only[eJ,eB,cA,bPl,go_sem];simp only[J8 hlc2,eS,hy,ew,bPl,go_sem];refine qn rfl (eS _) hy rfl ?_;rw[List.set_set,show (AV.int .i64 (j.Counts[i]+(qY T)[i]))=qQ (j.Counts[i]+(qY T)[i])from rfl,<-List.map_set,qaV hlc2 hlt];simp only[bPl,go_sem];simp only[wuA (n:=i)];exact qb (i+1) ⟨by omega,trivial⟩ (by omega) csA
  ·have hlt:i=(qY T).length:=by have:=odF hc;omega
   clear hc;subst hlt;rw[qaU (by omega)];obtain⟨G,hG⟩:∃G,G=gB.set cj (.row 1 ((zu j.Counts (qY T)).map qQ) true):=⟨_,rfl⟩;have rtG:RT j.Book.length bj h.length rid nid2 mid2 ks N [(cid2,qY T),(tid2,T),(uid2,U),(eid2,E)] G:=by rw[hG];exact rtB.set hcjl
   have G1:G[jid]?=some (.row 10 (vs.set k (jS j cj sj bj aj (j.Left-(T.length:Nat)) (j.Slices+1))) true):=by rw[hG,eJ];exact eB
   have G2:G[cj]?=some (.row 1 ((zu j.Counts (qY T)).map qQ) true):=by rw[hG];exact eS _
   have G3:∀i,i<h.length->i≠jid->i≠cj->G[i]?=h[i]?:=λi h1 h2 h3=>by rw[hG,gSn (Ne.symm h3),kB i h2];exact kg2.k i h1
   have G4:G.length=g.length:=by rw[hG,lLs,lB]
   rw[<-hG];clear hG eJ eC eS rtB eB kB lB hcB hcC h0G hz;have ndS:=hj.d;have dcj:∀i,some i∈Sb++Sn->i≠cj/\i≠sj:=λi hi=>⟨λe=>WT (a:=[some cj]) (b:=some sj::(Sb++Sn)) ndS (j:=i) (by rw[e];simp) (List.mem_cons_of_mem _ hi),λe=>WT (a:=[some cj,some sj]) (b:=Sb++Sn) ndS (j:=i) (by rw[e];simp) hi⟩;have nsc:sj≠cj:=λe=>WT (a:=[some cj]) (b:=some sj::(Sb++Sn)) ndS (j:=cj) (by simp) (by rw[e];simp);have fin:∀(G2:List qC)(x:AV)(S2:List (Option Nat)),Keep (Lo G.length) G G2->qd S2 G2 x (w7 j most).enc->((w7 j most).State=1->none∉S2)->(∀i,some i∈S2->i<G2.length/\(some i∈some cj::some sj::(Sb++Sn)\/h.length<=i))->K (.tup []) (G2.set jid (.row 10 (vs.set k x) true)):=λG2 x S2 kk o1 o2 o3=>by
    have l2:=kk.l;refine hK _ x S2 (gSs (by omega)) (o1.heap λi hi=>gSn ?_) o2 (λi hi=>by rw[lLs];exact o3 i hi) (by rw[lLs];omega) (λi h1 h2 h3=>?_)
    ·rintro rfl;rcases(o3 _ hi).2 with q | q
     ·exact(hS _ q).2 rfl
     ·omega
    ·rw[gSn (Ne.symm h2),kk.k i (by show i<_;omega)];exact G3 i h1 h2 λe=>h3 (by rw[e];simp)
   obtain⟨f1,f2,f3⟩:=Qo (zu j.Counts (qY T));have oC:∀G2:List qC,Keep (Lo G.length) G G2->qd [some cj] G2 (sQ 1 cj j.Counts.length) (lQ (zu j.Counts (qY T))):=λG2' kk=>by
    have:=(Xr (h:=G2') f1 f2 f3).row ((kk.k cj (by show cj<_;omega)).trans G2) (by simp);rwa[lMp,WN]at this
   have nl:∀{w:Nat}{G2:List qC},qd [none] G2 .nils (.lst w [] false):=qd.nils (c:=false);unfold w7 at fin;rw[<-hRES]at fin;rcases hres with⟨rfl,hcr⟩ | ⟨hc0,hcr⟩
   ·simp only[show decide ((0:Int)=0)=true from rfl,bPl,go_sem];have hk9:∀k,k<N.length->(k∈ks↔R k=true):=λk _=>hI2.rk.m k;have hp9:∀k x,N[k]?=some x->R k=false->0<x.Ports.length/\x.sz<=1000:=λk x hx _=>by
     have:=(hI2.al k x hx).1;exact⟨(zi this).2,nLt (Z8 this) (by decide)⟩
    have hzG:=rtG.z.o;unfold wQ at hzG;simp only[lMc,List.map_nil]at hzG;by_cases hp:(zZ R N (N.length-1)).length=0
    ·have hn0:JJ ⟨qc N R⟩=[]:=by
      rw[<-Xs hI2.hol,lEz hp];rfl
     rw[<-hcr,qfX hn0]at fin;simp only[J0,lAn,ne_eq,not_true_eq_false,if_false,if_true]at fin;simp only[hp,show decide (((0:Nat):Int)=0)=true from rfl,bPl,go_sem];simp only[hzG,bPl,go_sem];refine qU (s985 rtG.w rtG.mp hk9 hI2.hol.ports hp9 (by omega) λh' S9 oid k9 hS9 n9 o9=>?_);simp only[bPl,go_sem];refine qU (qD7 (u:=.slice 5 oid 0 (qh R N.length).length false) ((k9.k jid (by show jid<_;omega)).trans G1) (cA _) ?_);rw[List.set_set];simp only[bPl,go_sem];refine fin h' _ _ k9 (UR (j:=j8 {j with Slices:=j.Slices+1,Left:=j.Left-T.length,Counts:=zu j.Counts (qY T)} 2 0 (qc N R)) (oC h' k9) (nl (w:=1)) (nl (w:=1)) o9.netc (by simp) (by simp) (λi hi q=>?_)) (λq=>by simp[j8]at q) (λi hi=>?_)
     ·have:=hS9 i q;simp at hi;omega
     ·simp only[lCa,lNa,List.mem_cons,oSi,reduceCtorEq,false_or]at hi;rcases hi with rfl | hi
      ·have:=k9.l;exact⟨by omega,.inl (by simp)⟩
      ·have:=hS9 i hi;exact⟨this.2,.inr (by omega)⟩
    ·have hmt:most-T.length=0:=by
      rcases hcond with q | q | q
      ·exact absurd q hp
      ·omega
      ·exact absurd rfl q
     have hn0:JJ ⟨qc N R⟩≠[]:=λq=>by
      have:=Xs hI2.hol;rw[q]at this;have:=congrArg List.length this;simp only[lMp,lNi]at this;omega
     rw[hmt]at hcr;unfold jN at hcr;rw[decide_eq_false hn0]at hcr;rw[<-hcr]at fin;simp only[J0,lAn,ne_eq,not_true_eq_false,if_false,bFt]at fin;simp only[show decide (((zZ R N (N.length-1)).length:Int)=0)=false from decide_eq_false (by omega),bPl,go_sem];have G1':=G1;unfold jS jc at G1';simp only[G1',cA,bPl,go_sem];by_cases hl:j.Left-(T.length:Nat)=0
     ·rw[if_pos hl]at fin;simp only[hl,show decide ((0:Int)=0)=true from rfl,bPl,go_sem];refine qU (qD7 (u:=.nils) G1 (cA _) ?_);rw[List.set_set];simp only[bPl,go_sem];refine fin G _ _ Keep.refl (UR (j:=j8 {j with Slices:=j.Slices+1,Left:=j.Left-T.length,Counts:=zu j.Counts (qY T)} 3 12 []) (oC G Keep.refl) (nl (w:=1)) (nl (w:=1)) (nl (w:=5)) (by simp) (by simp) (by simp)) (λq=>by simp[j8]at q) (λi hi=>?_);simp only[lCa,lNa,List.mem_cons,oSi,reduceCtorEq,List.mem_nil_iff,or_false,false_or]at hi;subst hi;exact⟨by omega,.inl (by simp)⟩
     ·rw[if_neg hl]at fin;simp only[decide_eq_false hl,bPl,go_sem];simp only[hzG,bPl,go_sem];refine qU (s985 rtG.w rtG.mp hk9 hI2.hol.ports hp9 (by omega) λh' S9 oid k9 hS9 n9 o9=>?_);simp only[bPl,go_sem];refine qn (e':=jc j.Id j.Weight j.State j.Code (j.Left-(T.length:Nat)) (j.Slices+1) (sQ 1 cj j.Counts.length) (sQ 1 sj j.Schedule.length) (sQ 1 bj j.Book.length) (.slice 5 oid 0 (qh R N.length).length false)) rfl ((k9.k jid (by show jid<_;omega)).trans G1) (cA _) rfl ?_;rw[List.set_set];simp only[bPl,go_sem];have l9:=k9.l;obtain⟨s1,s2,s3⟩:=Qo j.Schedule;have hsS:=hS sj (by simp);have oS:qd [some sj] h' (sQ 1 sj j.Schedule.length) (lQ j.Schedule):=by
       have:=(Xr (h:=h') s1 s2 s3).row ((k9.k sj (by show sj<_;omega)).trans ((G3 sj hsS.1 hsS.2 nsc).trans hsj)) (by simp);rwa[lMp]at this
      have oB:qd Sb h' (sQ 1 bj j.Book.length) (.lst 1 (j.Book.map qD.enc) false):=hb.heap λi hi=>by
       have q:=hS i (by simp[hi]);exact(k9.k i (by show i<_;omega)).trans (G3 i q.1 q.2 (dcj i (by simp[hi])).1)
      refine fin h' _ _ k9 (UR (j:={j with Slices:=j.Slices+1,Left:=j.Left-T.length,Counts:=zu j.Counts (qY T),Net:=⟨qc N R⟩}) (oC h' k9) oS oB o9.netc (λi hi q=>?_) (λi hi q=>?_) (λi hi q=>?_)) (λ_=>?_) (λi hi=>?_)
      ·simp at hi q;omega
      ·have:=dcj i (by simp[q]);simp at hi;omega
      ·have h1:=hS9 i q;have h2:i<h.length:=by
        simp only[lCa,lNa,List.mem_cons,oSi]at hi;rcases hi with rfl | rfl | hi
        ·exact hcjl
        ·exact hsS.1
        ·exact(hS i (by simp[hi])).1
       omega
      ·simp only[lCa,lNa,List.mem_cons,zw,reduceCtorEq,false_or,not_or];exact⟨nb,n9⟩
      ·simp only[lCa,lNa,List.mem_cons,zw,oSi]at hi;rcases hi with rfl | rfl | hi | hi
       ·exact⟨by omega,.inl (by simp)⟩
       ·exact⟨by omega,.inl (by simp)⟩
       ·have q:=hS i (by simp[hi]);exact⟨by omega,.inl (by simp[hi])⟩
       ·have:=hS9 i hi;exact⟨this.2,.inr (by omega)⟩
   ·rw[<-hcr]at fin;simp only[hc0,decide_false,Bool.not_false,ne_eq,not_false_eq_true,if_true]at fin;simp only[hc0,decide_false,bPl,go_sem];refine qU (qD7 (u:=.nils) G1 (cA _) ?_);rw[List.set_set];simp only[bPl,go_sem];refine fin G _ _ Keep.refl (UR (j:=j8 {j with Slices:=j.Slices+1,Left:=j.Left-T.length,Counts:=zu j.Counts (qY T)} 3 code []) (oC G Keep.refl) (nl (w:=1)) (nl (w:=1)) (nl (w:=5)) (by simp) (by simp) (by simp)) (λq=>by simp[j8]at q) (λi hi=>?_);simp only[lCa,lNa,List.mem_cons,oSi,reduceCtorEq,List.mem_nil_iff,or_false,false_or]at hi;subst hi;exact⟨by omega,.inl (by simp)⟩
 refine Sem.loop (α:=List qC×Nat×Nat×Int×Nat) (λq=>JI j.Book j.Schedule bj h.length rid most (qj j.Counts).toNat RES h q.1 q.2.1 q.2.2.1 q.2.2.2.1 q.2.2.2.2)
  (λq=>(⟨[(0,.ptr jid k 0),(1,iI (most:Nat)),(4,.ptr rid 0 0),(5,iI (qj j.Counts)),(6,iI q.2.2.2.1),(7,sQ 2 q.2.1 q.2.2.1)],[],q.1⟩:VSt)) (λq=>(most-q.2.2.2.2)+if q.2.2.2.1=0 then 1 else 0) (g,pid,(zZ (λ_=>false) j.Net.Agents (j.Net.Agents.length-1)).length,0,0) (by kernel_rfl)
  ⟨_,_,_,_,_,_,_,_,_,_,_,_,hI.keep kg,k2.trans (kg.lo k2.l),og,rfl,rfl,nZl _,by simp,by simp,by simp,.inl ⟨rfl, ?_⟩⟩ csA ?_
 ·rw[hRES,qDN (QW knet) (λ_ _=>id)];simp[J0]
 rintro⟨g2,pid2,np,code,t⟩ hJ;simp only at hJ;have hJ0:=hJ;obtain⟨N,R,ks,nid2,mid2,cid2,tid2,uid2,eid2,T,U,E,hI2,kg2,op,rfl,rfl,hT,hks,hU,hE,hres⟩:=hJ;simp only[bPl,go_sem];by_cases h0:(zZ R N (N.length-1)).length=0
 ·simp only[h0,show decide ((0:Int)<((0:Nat):Int))=false from rfl,bPl,go_sem];rw[h0]at hJ0;refine tl g2 _ pid2 0 code _ ?_ ?_ ?_ ?_ hJ0 (.inl rfl)<;>simp only[go_sem]
 have h1:0<(zZ R N (N.length-1)).length:=by omega
 simp only[show decide ((0:Int)<((zZ R N (N.length-1)).length:Nat))=true from decide_eq_true (by omega),bPl,go_sem];refine Vq (qCM hI2.z) ?_;simp only[bPl,go_sem];by_cases h2:T.length<most
 ·simp only[show decide (((T.length:Nat):Int)<(most:Nat))=true from decide_eq_true (by omega),bPl,go_sem];by_cases h3:code=0
  ·simp only[h3,show decide ((0:Int)=0)=true from rfl,bPl,go_sem];subst h3;obtain⟨_,hcr⟩:=hres.resolve_right (λq=>q.1 rfl);have oG:g2[jid]?=_:=(kg2.k jid lj).trans ho;have sG:g2[sj]?=_:=(kg2.k sj (hS sj (by simp)).1).trans hsj;have hlN:=hI2.len;have hlc:=hI2.hol.c;have hne:JJ ⟨qc N R⟩≠[]:=λq=>by
    have:=Xs hI2.hol;rw[q]at this;have:=congrArg List.length this;simp only[lMp,lNi]at this;omega
   obtain⟨a,c,A,B,x,y,u,v,hA,a0,c0,hf,hsel,hu,hv2,hor,hnx,ea,ec⟩:=qeH (sch:=j.Schedule) (k:=(qj j.Counts).toNat+T.length) (λ_ _ _ _=>U0) hI2.hol hne;simp only[oG,hcell,bPl,go_sem];refine Vq (qCM hI2.z) ?_;simp only[bPl,go_sem];have e1:IntKind.i64.wrap (qj j.Counts+(T.length:Nat))=(((qj j.Counts).toNat+T.length:Nat):Int):=by rw[wsA];omega
   simp only[e1];refine jx (Cvs.cons (Cv.row sG (by simp) (qa shI.tree _) (by decide)) (Cvs.cons (Cv.row op (by simp) (qa qV.isSh.tree _) (by decide)) (Cvs.cons (.refl rfl) Cvs.nil))) (c750 (xs:=j.Schedule) (ps:=zZ R N (N.length-1)) (k:=(((qj j.Counts).toNat+T.length:Nat):Int)) (by omega) ksch h1) rfl ?_;rw[hsel];simp only[bPl,go_sem];have ecp:Zh j.Book (qc N R) (wL j.Schedule (qc N R) ((qj j.Counts).toNat+T.length))=we j.Book R N x y:=by rw[hnx];exact qBU ea ec
   obtain⟨f,hf1⟩:∃f,most-T.length=f+1:=⟨most-T.length-1,by omega⟩;rw[hf1]at hcr;unfold jN at hcr;rw[if_neg hne,ecp]at hcr;refine qU (qoU hI2 kbk hA a0 c0 hf (by omega) (by omega) (by omega) (by omega) hu hv2 hor (λh' e r kk hcd he=>?_) (λG cd h' tid' uid' eid' U' E' r lU lE kk=>?_))
   ·simp only[bPl,go_sem];refine qU (qD6 (λ_ _ _=>Can.refl _ _) rfl r (by omega) λg3 pid3 kg3 lg3 og3=>?_);simp only[bPl,go_sem];rw[hcd,if_pos he]at hcr;refine qb (g3,pid3,_,e,T.length) ⟨N,R,ks,_,_,_,_,_,_,T,U,E,r.keep kg3,(kg2.trans kk).trans (kg3.lo (nLt kg2.l kk.l)),og3,rfl,rfl,by omega,hks,hU,hE,.inr ⟨he, ?_⟩⟩ (by simp only;rw[if_neg he,if_pos trivial];omega) csA;rw[<-hcr];simp[J0]
   ·simp only[bPl,go_sem];have lN:=r.len;have lc:=r.hol.c;have hdl:(zX (qN x y) a c).length<=2:=by unfold zX;split<;>simp
    simp only[lAp]at lN;refine qU (qD6 (λ_ _ _=>Can.refl _ _) rfl r (by omega) λg3 pid3 kg3 lg3 og3=>?_);simp only[bPl,go_sem];rw[cd,if_neg (λq=>q rfl)]at hcr;refine qb (g3,pid3,_,0,T.length+1) ⟨_,_,_,_,_,_,_,_,_,_,_,_,r.keep kg3,(kg2.trans kk).trans (kg3.lo (nLt kg2.l kk.l)),og3,rfl,by simp,by simp only;omega,by simp;omega,by simp only;omega,by simp only;omega,.inl ⟨rfl, ?_⟩⟩ (by simp only;omega) csA;rw[<-hcr,qEF G ea ec,hnx,show most-(T.length+1)=f by omega,Nat.add_assoc];simp only[J0,ea,ec,lAa,lCa,lNa];rw[show qN (qu R x) (qu R y)=qN x y from rfl]
  ·simp only[show decide (code=0)=false from decide_eq_false h3,bPl,go_sem];refine tl g2 _ pid2 _ code _ ?_ ?_ ?_ ?_ hJ0 (.inr (.inr h3))<;>simp only[go_sem]
 ·simp only[show decide (((T.length:Nat):Int)<(most:Nat))=false from decide_eq_false (by omega),bPl,go_sem];refine tl g2 _ pid2 _ code _ ?_ ?_ ?_ ?_ hJ0 (.inr (.inl (by omega)))<;>simp only[go_sem]
end
theorem qmI(L:Ags)(h:zB ⟨L⟩=true):qc L (λ_=>false)=L:=qDN (QW h) λ_ _=>id
theorem qp2{bk:List qD}{sch:List Int}{k:Nat}{L:Ags}(hb:ju bk=true)(h:zB ⟨L⟩=true)(hp:JJ ⟨L⟩≠[])(hc:Zh bk L (wL sch L k)=0):zB ⟨VI bk L (wL sch L k)⟩=true/\
  1<=qN (agP L (wL sch L k).A) (agP L (wL sch L k).B)/\qN (agP L (wL sch L k).A) (agP L (wL sch L k).B)<=7:=by
 have hh:Hol (λ_=>false) L:=Hol.of h;have e:=qmI L h;obtain⟨a,b,x,y,hA,a0,b0,hf,_,h6,ea,eb⟩:=qeG (sch:=sch) (k:=k) (λ_ _ _ _=>U0) hh (by rw[e];exact hp);rw[e]at h6 ea eb;rw[h6]at hc|-;have hcd:=qBU (bk:=bk) (R:=λ_=>false) (N:=L) (a:=a) (b:=b) (x:=x) (y:=y) (by rw[e];exact ea) (by rw[e];exact eb);rw[e,hc]at hcd;have hg:(ql bk x y).2=0:=by
  by_cases q:(ql bk x y).2=0
  ·exact q
  ·rw[if_pos q]at hcd;exact absurd hcd.symm q
 rw[if_neg (by omega)]at hcd;have hfull:(qT (λ_=>false) L.length:Int)+(ql bk x y).1<=600:=by
  by_cases q:600<(qT (λ_=>false) L.length:Int)+(ql bk x y).1
  ·rw[if_pos q]at hcd;cases hcd
  ·omega
 have G:zW (λ_=>false) bk L a b x y:=⟨hh,hb,hA,a0,b0,hf,hg,hfull⟩;have hs:=qEF G (by rw[e];exact ea) (by rw[e];exact eb);rw[e]at hs;refine⟨by rw[<-hs];exact qp3 (qEH G), ?_⟩;simp only[ea,eb];exact G.cls
theorem qD3{bk:List qD}{sch:List Int}(hb:ju bk=true):∀{f k:Nat}{L:Ags},zB ⟨L⟩=true->
  zB ⟨(jN bk sch f k L).1⟩=true/\(∀c∈(jN bk sch f k L).2.1,1<=c/\c<=7)/\(jN bk sch f k L).2.1.length<=f/\((jN bk sch f k L).2.2.1=false->(jN bk sch f k L).2.2.2=0->(jN bk sch f k L).2.1.length=f)
 | 0,k,L,h=>by unfold jN;exact⟨h,by simp,by simp,λ_ _=>rfl⟩
 | f+1,k,L,h=>by
  unfold jN;by_cases hp:JJ ⟨L⟩=[]
  ·rw[if_pos hp];exact⟨h,by simp,by simp,λq=>by cases q⟩
  ·rw[if_neg hp];by_cases hc:Zh bk L (wL sch L k)=0
   ·rw[if_neg (λq=>q hc)];obtain⟨s1,s2,s3⟩:=qp2 hb h hp hc;obtain⟨r1,r2,r3,r4⟩:=qD3 hb (f:=f) (k:=k+1) s1;refine⟨r1,λc hcm=>?_,by simp;omega,λq1 q2=>by simp only[lCo];rw[r4 q1 q2]⟩;rcases List.mem_cons.1 hcm with q | q
    ·subst q;exact⟨s2,s3⟩
    ·exact r2 c q
   ·rw[if_pos hc];exact⟨h,by simp,by simp,λ_ q=>absurd q hc⟩
theorem ZZ{x:Int}{xs:List Int}:qj (x::xs)=x+qj xs:=by
 have:∀(xs:List Int)(a:Int),xs.foldl (· + ·) a=a+xs.foldl (· + ·) 0:=by
  intro xs
  induction xs with
  | nil=>intro a;simp
  | cons y ys ih=>intro a;simp only[List.foldl_cons];rw[ih (a+y),ih (0+y)];omega
 unfold qj;simp only[List.foldl_cons];rw[this];omega
theorem qgO:∀{c:List Int}{i:Nat}{v:Int},i<c.length->qj (c.set i v)=qj c-c.getD i 0+v
 |[],_,_,h=>by simp at h
 | x::c,0,v,_=>by rw[lSz,ZZ,ZZ];simp;omega
 | x::c,i+1,v,h=>by
  rw[List.set_cons_succ,ZZ,ZZ,qgO (c:=c) (by simpa using h)];simp;omega
theorem qp7{T:List Int}(h:∀c∈T,1<=c/\c<=7):qj (qY T)=(T.length:Int):=by
 have key:∀(T:List Int)(c:List Int),c.length=7->(∀x∈T,1<=x/\x<=7)->qj (T.foldl Jr c)=qj c+T.length:=by
  intro T
  induction T with
  | nil=>intro c _ _;simp
  | cons x T ih=>
   intro c hc hx;have:=hx x (by simp);rw[List.foldl_cons,ih _ (by simp[Jr,hc]) λy hy=>hx y (by simp[hy])];unfold Jr;rw[qgO (by omega)];simp only[lCo];omega
 have h0:=key T (List.replicate 7 0) (by simp) h;rw[show qj (List.replicate 7 0)=0 from rfl,Int.zero_add]at h0;exact h0
theorem qgN:∀{C X:List Int},C.length=X.length->qj (zu C X)=qj C+qj X
 |[],[],_=>rfl
 |[],_::_,h=>by simp at h
 | _::_,[],h=>by simp at h
 | c::C,x::X,h=>by
  have e:zu (c::C) (x::X)=(c+x)::zu C X:=by
   unfold zu;rw[List.mapIdx_cons];simp
  rw[e,ZZ,ZZ,ZZ,qgN (by simpa using h)];omega
theorem qdV:∀{C:List Int}{c:Int},(∀x∈C,0<=x)->c∈C->c<=qj C
 |[],_,_,h=>by cases h
 | x::C,c,h0,h=>by
  have hs:0<=qj C:=by
   have:∀D:List Int,(∀x∈D,0<=x)->0<=qj D:=by
    intro D
    induction D with
    | nil=>intro _;simp[qj]
    | cons y D ih=>intro hy;rw[ZZ];have:=ih λz hz=>hy z (by simp[hz]);have:=hy y (by simp);omega
   exact this C λz hz=>h0 z (by simp[hz])
  rw[ZZ];rcases List.mem_cons.1 h with rfl | h
  ·omega
  ·have:=qdV (C:=C) (λz hz=>h0 z (by simp[hz])) h;have:=h0 x (by simp);omega
theorem qpS{j:qF}{most:Nat}(hj:JV j)(hm:most<=200)(hml:(most:Int)<=j.Left)(h1:j.Left≠0->0<most)(hs:j.State=1)(hw:(w7 j most).State=1):JV (w7 j most):=by
 obtain⟨k1,k2,k3,k4,l0,l4,s0,bud,sm0,w1,w4,slm⟩:=hj;obtain⟨r1,r2,r3,r4⟩:=qD3 (sch:=j.Schedule) k2 (f:=most) (k:=(qj j.Counts).toNat) (L:=j.Net.Agents) k3;unfold w7 at hw|-;generalize jN j.Book j.Schedule most (qj j.Counts).toNat j.Net.Agents=r at r1 r2 r3 r4 hw|-;simp only at hw|-;by_cases c1:r.2.2.2≠0
 ·rw[if_pos c1]at hw;simp[j8]at hw
 ·rw[if_neg c1]at hw|-;by_cases c2:r.2.2.1=true
  ·rw[if_pos c2]at hw;simp[j8]at hw
  ·rw[if_neg c2]at hw|-;by_cases c3:j.Left-(r.2.1.length:Nat)=0
   ·rw[if_pos c3]at hw;simp[j8]at hw
   ·rw[if_neg c3];have hlen:=r4 (by simpa using c2) (by simpa using c1);have c4:=Zg k4;have hpos:0<most:=by
     rcases Nat.eq_zero_or_pos most with e | e
     ·rcases Int.lt_or_le j.Left 1 with q | q
      ·have:j.Left=0:=by omega
       rw[this]at c3;omega
      ·exact h1 (by omega)
     ·exact e
    have hsum:qj (zu j.Counts (qY r.2.1))=qj j.Counts+r.2.1.length:=by rw[qgN (by rw[Zf];exact c4.2),qp7 r2]
    refine⟨k1,k2,r1, ?_,by simp only;omega,by simp only;omega,by simp only;omega,by simp only;omega,by simp only;omega,w1,w4,by simp only;omega⟩;simp only;unfold wc;rw[bAt,lAt];refine⟨λz hz=>?_,by simp[WN,c4.2]⟩;obtain⟨i,hi⟩:=List.getElem?_of_mem hz;unfold zu at hi;rw[List.getElem?_mapIdx,oMi]at hi;obtain⟨c,hc,rfl⟩:=hi;have hcm:=lMo hc;have b1:=c4.1 c hcm;have b2:=qdV (C:=j.Counts) (λx hx=>(c4.1 x hx).1) hcm;have b3:0<=(qY r.2.1).getD i 0/\(qY r.2.1).getD i 0<=(r.2.1.length:Int):=by
     rw[lGd];cases e:(qY r.2.1)[i]? with
     | none=>simp
     | some v=>exact YU v (lMo e)
    rw[zK];omega
section
variable {S:List (Option Nat)} {h h':List qC} {v t:AV} {vs ts:List AV}
theorem qd.head{j:qF}(x:qd S h v j.enc):∃vc vq vb vn,v=jc j.Id j.Weight j.State j.Code j.Left j.Slices vc vq vb vn:=by
 obtain⟨ws,rfl,y⟩:=x.aggs;have hc:=y.cnt
 match ws,hc with
 |[a0,a1,a2,a3,a4,a5,a6,a7,a8,a9],_=>
  obtain⟨Z0,S0,q0,x0,y0⟩:=y.uncons;obtain⟨Z1,S1,q1,x1,y1⟩:=y0.uncons;obtain⟨Z2,S2,q2,x2,y2⟩:=y1.uncons;obtain⟨Z3,S3,q3,x3,y3⟩:=y2.uncons;obtain⟨Z4,S4,q4,x4,y4⟩:=y3.uncons;obtain⟨Z5,S5,q5,x5,y5⟩:=y4.uncons;obtain⟨e0,z0⟩:=x0.int;obtain⟨e1,z1⟩:=x1.int;obtain⟨e2,z2⟩:=x2.int;obtain⟨e3,z3⟩:=x3.int;obtain⟨e4,z4⟩:=x4.int;obtain⟨e5,z5⟩:=x5.int;exact⟨a6,a7,a8,a9,by rw[e0,e1,e2,e3,e4,e5];rfl⟩
theorem qo.parts:∀{ts vs:List AV}{S:List (Option Nat)},qo S h vs ts->∃SS:List (List (Option Nat)),S=SS.flatten/\SS.length=ts.length/\∀(k:Nat)(t:AV),ts[k]?=some t->∃v Sk,vs[k]?=some v/\SS[k]?=some Sk/\qd Sk h v t
 |[],vs,S,x=>by
  have l:=x.len;simp only[AV.rowss]at l;exact⟨[],lEz l,rfl,λk t hk=>by simp at hk⟩
 | t::ts,vs,S,x=>by
  have:=x.cnt;cases vs with
  | nil=>simp at this
  | cons v vs=>
   obtain⟨S1,S2,rfl,y1,y2⟩:=x.uncons;obtain⟨SS,rfl,l,hs⟩:=y2.parts;refine⟨S1::SS,by simp,by simp[l],λk t' hk=>?_⟩;cases k with
   | zero=>simp only[List.getElem?_cons_zero,oSi]at hk;subst hk;exact⟨v,S1,rfl,rfl,y1⟩
   | succ k=>exact hs k t' (by simpa using hk)
theorem qc5:∀{SS:List (List (Option Nat))}{k l:Nat}{A B:List (Option Nat)}{i:Nat},zb SS.flatten=true->k≠l->SS[k]?=some A->SS[l]?=some B->some i∈A->some i∉B
 |[],_,_,_,_,_,_,_,h,_,_=>by simp at h
 | S::SS,k,l,A,B,i,hd,ne,hk,hl,hA=>λhB=>by
  have hm:∀{m:Nat}{C:List (Option Nat)},SS[m]?=some C->some i∈C->some i∈SS.flatten:=λ{m C} hC hi=>List.mem_flatten.2 ⟨C,lMo hC,hi⟩;rw[List.flatten_cons]at hd;cases k with
  | zero=>
   cases l with
   | zero=>exact ne rfl
   | succ l=>
    simp only[List.getElem?_cons_zero,oSi,List.getElem?_cons_succ]at hk hl;subst hk;exact WT hd hA (hm hl hB)
  | succ k=>
   cases l with
   | zero=>
    simp only[List.getElem?_cons_zero,oSi,List.getElem?_cons_succ]at hk hl;subst hl;exact WT hd hB (hm hk hA)
   | succ l=>
    simp only[List.getElem?_cons_succ]at hk hl;have:=V4 (n:=S.length) hd;rw[List.drop_left]at this;exact qc5 this (by omega) hk hl hA hB
theorem qo.join:∀{ts vs:List AV}{SS:List (List (Option Nat))},vs.length=ts.length->SS.length=ts.length->(∀(k:Nat)(t:AV),ts[k]?=some t->∃v Sk,vs[k]?=some v/\SS[k]?=some Sk/\qd Sk h v t)->
  (∀(k l:Nat)(A B:List (Option Nat))(i:Nat),k≠l->SS[k]?=some A->SS[l]?=some B->some i∈A->some i∉B)->qo SS.flatten h vs ts
 |[],[],[],_,_,_,_=>qo.nil
 |[],_::_,_,e,_,_,_=>by simp at e
 |[],_,_::_,_,e,_,_=>by simp at e
 | _::_,[],_,e,_,_,_=>by simp at e
 | _::_,_,[],_,e,_,_=>by simp at e
 | t::ts,v::vs,A::SS,e1,e2,hs,hd=>by
  obtain⟨v',A',q1,q2,q3⟩:=hs 0 t rfl;simp only[List.getElem?_cons_zero,oSi]at q1 q2;subst q1 q2;have ih:=qo.join (ts:=ts) (vs:=vs) (SS:=SS) (by simpa using e1) (by simpa using e2) (λk t' hk=>by
   have:=hs (k+1) t' (by simpa using hk);simpa using this) λk l A B i ne hk hl=>hd (k+1) (l+1) A B i (by omega) (by simpa using hk) (by simpa using hl)
  have:=q3.one.app ih λi hi hj=>by
   obtain⟨B,hB,hiB⟩:=List.mem_flatten.1 hj;obtain⟨l,hl⟩:=List.getElem?_of_mem hB;exact hd 0 (l+1) _ B i (by omega) rfl (by simpa using hl) hi hiB
  simpa using this
end
structure QM(Z:List (Option Nat)->Prop)(qid jid:Nat)(vs:List AV)(SS:List (List (Option Nat)))(q:qP)(h:List qC):Prop where
 o:h[qid]?=some (.row 4 [.agg [iI q.Quantum,iI q.NextId,iI q.Turn,sQ 10 jid q.Jobs.length]] true)
 r:h[jid]?=some (.row 10 vs true)
 lv:vs.length=q.Jobs.length
 ls:SS.length=q.Jobs.length
 j:∀(k:Nat)(j:qF),q.Jobs[k]?=some j->∃v S,vs[k]?=some v/\SS[k]?=some S/\qd S h v j.enc/\(j.State=1->Z S)
 d:∀(k l:Nat)(A B:List (Option Nat))(i:Nat),k≠l->SS[k]?=some A->SS[l]?=some B->some i∈A->some i∉B
 n:∀(k:Nat)(S:List (Option Nat)),SS[k]?=some S->∀i,some i∈S->i<h.length/\i≠qid/\i≠jid
 ne:qid≠jid
structure QV(q:qP):Prop where
 l:q.Jobs.length<=6
 t0:0<=q.Turn
 t5:q.Turn<=5
 q1:1<=q.Quantum
 q5:q.Quantum<=50
 j:∀j∈q.Jobs,j.State=1->JV j
theorem qgW{js:List qF}{t:Nat}:∀{m k:Nat},js≠[]->Za js t k m= -1\/∃(at_:Nat)(j:qF),Za js t k m=(at_:Int)/\js[at_]?=some j/\j.State=1
 | 0,_,_=>.inl rfl
 | m+1,k,h=>by
  unfold Za;split
  ·rename_i hc;have hl:(t+k)%js.length<js.length:=Nat.mod_lt _ (List.length_pos_iff.2 h);rw[gEg hl,Option.any_some]at hc;exact .inr ⟨_,_,rfl,gEg hl,by simpa using hc⟩
  ·exact qgW h
theorem X7{q:qP}:jt q= -1\/∃(at_:Nat)(j:qF),jt q=(at_:Int)/\q.Jobs[at_]?=some j/\j.State=1:=by
 unfold jt;by_cases e:q.Jobs=[]
 ·rw[e];exact .inl rfl
 ·exact qgW e
abbrev NoN:List (Option Nat)->Prop:=λS=>none∉S
section
variable {Z:List (Option Nat)->Prop} {qid jid:Nat} {vs:List AV} {SS:List (List (Option Nat))} {q:qP} {h:List qC} {K:AV->List qC->Prop}
theorem s597(hQ:QM Z qid jid vs SS q h)(ok:QV q)(hK:K (iI (jt q)) h):SCall Gm 597 [.ptr qid 0 0] h K:=by
 have hl:=ok.l;have t0:=ok.t0;have t5:=ok.t5;refine sI F597 ?_;simp only[F597,qM,go_sem,hQ.o];refine Sem.loop (λk:Nat=>k<=q.Jobs.length/\jt q=Za q.Jobs q.Turn.toNat k (q.Jobs.length-k)) (λk=>(⟨[(0,.ptr qid 0 0),(9,iI (q.Jobs.length:Nat)),(10,iI (k:Nat))],[],h⟩:VSt)) (λk=>q.Jobs.length-k) 0 (by kernel_rfl) ⟨nZl _,rfl⟩ csA ?_;rintro k ⟨hk,hI⟩;simp only[go_sem];apply qI<;>intro hc<;>simp only[hc,go_sem]
 ·have hlt:k<q.Jobs.length:=by have:=odT hc;omega
  have w1:IntKind.i64.wrap (q.Turn+(k:Int))=((q.Turn.toNat+k:Nat):Int):=by rw[wsA];omega
  have hn:¬((q.Jobs.length:Nat):Int)=0:=by omega
  have hm:(q.Turn.toNat+k)%q.Jobs.length<q.Jobs.length:=Nat.mod_lt _ (by omega);have w2:(((q.Turn.toNat+k:Nat):Int)).tmod ((q.Jobs.length:Nat):Int)=(((q.Turn.toNat+k)%q.Jobs.length:Nat):Int):=(Int.ofNat_tmod _ _).symm;rw[show q.Jobs.length-k=(q.Jobs.length-(k+1))+1 by omega]at hI;unfold Za at hI;have hx:=gEg hm;rw[hx,Option.any_some]at hI;simp only[hQ.o,go_sem];rw[if_neg hn,w1,w2];generalize (q.Turn.toNat+k)%q.Jobs.length=p at hm hI hx|-;obtain⟨v,S,v1,_,v3,_⟩:=hQ.j p _ hx;obtain⟨vc,vq,vb,vn,rfl⟩:=v3.head;unfold jc at v1;simp only[go_sem];simp only[hQ.o,go_sem];simp only[zQ hm,nZa,hQ.r,v1,go_sem];apply qI<;>intro hc<;>simp only[hc,go_sem]
  ·rw[hI,if_pos hc]at hK;exact hK
  ·simp only[wuA (n:=k)];exact qb (k+1) ⟨hlt,by rw[hI,if_neg (by simpa using hc)]⟩ (by omega) csA
 ·obtain rfl:k=q.Jobs.length:=by have:=odF hc;omega
  rw[hI,nSs]at hK;exact hK
end
def ZN(q:qP)(j:qF):Nat:=(min (q.Quantum*j.Weight) j.Left).toNat
def Jl(q:qP):qP:=match q.Jobs[(jt q).toNat]? with
 | some j=>{q with Jobs:=q.Jobs.set (jt q).toNat (w7 j (ZN q j)),Turn:=((((jt q).toNat+1)%q.Jobs.length:Nat):Int)}
 | none=>q
theorem qC5{q:qP}{j:qF}(hq:QV q)(hj:JV j):ZN q j<=200/\(ZN q j:Int)<=j.Left/\(j.Left≠0->0<ZN q j)/\(ZN q j:Int)=min (q.Quantum*j.Weight) j.Left:=by
 obtain⟨k1,k2,k3,k4,l0,l4,s0,bud,sm0,w1,w4,slm⟩:=hj;have h1:=hq.q1;have h5:=hq.q5;have m1:1<=q.Quantum*j.Weight:=Int.le_trans (by omega) (Int.mul_le_mul h1 w1 (by omega) (by omega));have m2:q.Quantum*j.Weight<=200:=Int.le_trans (Int.mul_le_mul h5 w4 (by omega) (by omega)) (by omega);unfold ZN;generalize q.Quantum*j.Weight=m at m1 m2;omega
theorem qEG{q:qP}(hq:QV q)(ht:0<=jt q):QV (Jl q):=by
 rcases X7 (q:=q)with e | ⟨t,j,e,hj,hs⟩
 ·omega
 ·unfold Jl;rw[e,iTn,hj];have lt:=qR hj;have hm:=Nat.mod_lt (t+1) (show 0<q.Jobs.length by omega);have hl:=hq.l;have jv:=hq.j j (lMo hj) hs;obtain⟨b1,b2,b3,_⟩:=qC5 hq jv;refine⟨by simpa using hq.l,by simp only;omega,by simp only;omega,hq.q1,hq.q5,λj' hj' hw=>?_⟩;rcases List.mem_or_eq_of_mem_set hj' with q1 | q1
  ·exact hq.j j' q1 hw
  ·subst q1;exact qpS jv b1 b2 b3 hs hw
section
variable {Z:List (Option Nat)->Prop} {qid jid:Nat} {vs:List AV} {SS:List (List (Option Nat))} {q:qP} {h:List qC} {K:AV->List qC->Prop}
theorem QM.slice{h':List qC}{t:Nat}{j j':qF}{S S':List (Option Nat)}{v':AV}(hQ:QM Z qid jid vs SS q h)(hj:q.Jobs[t]?=some j)(hS:SS[t]?=some S)(h1:h'[jid]?=some (.row 10 (vs.set t v') true))(h2:qd S' h' v' j'.enc)(h3:j'.State=1->Z S')
  (h4:∀i,some i∈S'->i<h'.length/\(some i∈S\/h.length<=i)) (h5:h.length<=h'.length) (h6:∀i,i<h.length->i≠jid->some i∉S->h'[i]?=h[i]?):QM Z qid jid (vs.set t v') (SS.set t S') {q with Jobs:=q.Jobs.set t j'} h':=by
 have lt:=qR hj;have lq:=qR hQ.o;have lr:=qR hQ.r;have old:∀(k:Nat)(A:List (Option Nat)),k≠t->SS[k]?=some A->∀i,some i∈A->i<h.length/\i≠jid/\some i∉S:=λk A hk hA i hi=>by
  have:=hQ.n k A hA i hi;exact⟨this.1,this.2.2,hQ.d k t A S i hk hA hS hi⟩
 refine⟨?_,h1,by simp[hQ.lv],by simp[hQ.ls],λk jj hk=>?_,λk l A B i ne hA hB hi hj2=>?_,λk A hA i hi=>?_,hQ.ne⟩
 ·rw[h6 qid lq hQ.ne (λe=>(hQ.n t S hS qid e).2.1 rfl)];simpa using hQ.o
 ·simp only at hk;rw[gSt]at hk;by_cases e:t=k
  ·subst e;rw[if_pos rfl,if_pos lt]at hk;cases hk;exact⟨v',S',by rw[gSs (by rw[hQ.lv];exact lt)],by rw[gSs (by rw[hQ.ls];exact lt)],h2,h3⟩
  ·rw[if_neg e]at hk;obtain⟨v,A,q1,q2,q3,q4⟩:=hQ.j k jj hk;refine⟨v,A,by rw[gSn e];exact q1,by rw[gSn e];exact q2,q3.heap λi hi=>?_,q4⟩;obtain⟨o1,o2,o3⟩:=old k A (Ne.symm e) q2 i hi;exact h6 i o1 o2 o3
 ·rw[gSt]at hA hB;by_cases e1:t=k
  ·rw[if_pos e1,if_pos (by rw[hQ.ls];exact lt)]at hA;cases hA;rw[if_neg (by omega)]at hB;have o:=old l B (by omega) hB i hj2;rcases(h4 i hi).2 with q1 | q1
   ·exact o.2.2 q1
   ·omega
  ·rw[if_neg e1]at hA;by_cases e2:t=l
   ·rw[if_pos e2,if_pos (by rw[hQ.ls];exact lt)]at hB;cases hB;have o:=old k A (by omega) hA i hi;rcases(h4 i hj2).2 with q1 | q1
    ·exact o.2.2 q1
    ·omega
   ·rw[if_neg e2]at hB;exact hQ.d k l A B i ne hA hB hi hj2
 ·rw[gSt]at hA;by_cases e:t=k
  ·rw[if_pos e,if_pos (by rw[hQ.ls];exact lt)]at hA;cases hA;obtain⟨o1,o2⟩:=h4 i hi;rcases o2 with q1 | q1
   ·have:=hQ.n t S hS i q1;exact⟨o1,this.2⟩
   ·exact⟨o1,by omega,by omega⟩
  ·rw[if_neg e]at hA;have:=hQ.n k A hA i hi;exact⟨by omega,this.2⟩
theorem s591(hQ:QM NoN qid jid vs SS q h)(ok:QV q)(hK1:jt q= -1->K (iI (-1)) h)(hK2:0<=jt q->∀h' vs' SS',QM NoN qid jid vs' SS' (Jl q) h'->K (iI (jt q)) h'):SCall Gm 591 [.ptr qid 0 0] h K:=by
 have hl:=ok.l;refine sI F591 ?_;simp only[F591,qM,go_sem];refine qU (s597 hQ ok ?_);simp only[go_sem];rcases X7 (q:=q)with e | ⟨t,j,e,hj,hs⟩
 ·rw[e];simp only[show decide ((-1:Int)<0)=true from rfl,go_sem];exact hK1 e
 ·replace hK2:=hK2 (by omega);have jv:=ok.j j (lMo hj) hs;obtain⟨b1,b2,b3,b4⟩:=qC5 ok jv;have lt:=qR hj;obtain⟨v,S,v1,v2,v3,v4⟩:=hQ.j t j hj;obtain⟨vc,vq,vb,vn,ev⟩:=v3.head;have v1':=v1;rw[ev]at v1';unfold jc at v1';have est:Jl q={q with Jobs:=q.Jobs.set t (w7 j (ZN q j)),Turn:=(((t+1)%q.Jobs.length:Nat):Int)}:=by unfold Jl;rw[e,iTn,hj]
  rw[est]at hK2;rw[e]at hK2|-;obtain⟨k1,k2,k3,k4,l0,l4,s0,bud,sm0,w1,w4,slm⟩:=jv;have h1:=ok.q1;have h5:=ok.q5;have m1:1<=q.Quantum*j.Weight:=Int.le_trans (by omega) (Int.mul_le_mul h1 w1 (by omega) (by omega));have m2:q.Quantum*j.Weight<=200:=Int.le_trans (Int.mul_le_mul h5 w4 (by omega) (by omega)) (by omega);have ew:IntKind.i64.wrap (q.Quantum*j.Weight)=q.Quantum*j.Weight:=wsA;simp only[show decide (((t:Nat):Int)<0)=false from decide_eq_false (by omega),hQ.o,zQ lt,nZa,go_sem];simp only[hQ.o,hQ.r,v1',ew,go_sem];rw[<-b4];refine qU (s966 hQ.r v1 v3 (v4 hs) (λi hi=>by have:=hQ.n t S v2 i hi;exact⟨this.1,this.2.2⟩) ⟨k1,k2,k3,k4,l0,l4,s0,bud,sm0,w1,w4,slm⟩ b1 b2 λh' v' S' r1 r2 r3 r4 r5 r6=>?_);have hQ2:=hQ.slice hj v2 r1 r2 r3 r4 r5 r6;have o2:=hQ2.o;simp only[lLs]at o2;have hn:¬((q.Jobs.length:Nat):Int)=0:=by omega
  have w2:(((t+1:Nat):Int)).tmod ((q.Jobs.length:Nat):Int)=(((t+1)%q.Jobs.length:Nat):Int):=(Int.ofNat_tmod _ _).symm;simp only[go_sem];simp only[o2,wuA (n:=t),go_sem];rw[if_neg hn,w2];simp only[go_sem];refine qn rfl o2 rfl rfl ?_;simp only[go_sem];have lq:=qR o2;refine hK2 _ _ _ ⟨?_,by rw[gSn hQ2.ne];exact hQ2.r,hQ2.lv,hQ2.ls,λk jj hk=>?_,hQ2.d,λk A hA i hi=>by rw[lLs];exact hQ2.n k A hA i hi,hQ2.ne⟩
  ·rw[gSs lq];simp[AV.cells]
  ·obtain⟨w,A,q1,q2,q3,q4⟩:=hQ2.j k jj hk;exact⟨w,A,q1,q2,q3.heap λi hi=>gSn (Ne.symm (hQ2.n k A q2 i hi).2.1),q4⟩
end
end Go.Ab
