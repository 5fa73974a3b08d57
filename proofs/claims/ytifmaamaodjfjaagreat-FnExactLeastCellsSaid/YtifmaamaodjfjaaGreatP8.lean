/- Texts Mh7 .. Mi18: the abstract machine, its laws and contracts of functions: lemmas for the statement. No condition. -/
import Derived.Test.YtifmaamaodjfjaaGreatP7
set_option linter.unusedSimpArgs false
set_option linter.unusedVariables false
namespace Go.Ab
open Go
set_option maxRecDepth 10000
set_option maxHeartbeats 4000000
section
variable {w mid cid k:Nat} {post cs:List AV} {ow ow' ow1 ow2:Nat->Nat} {h h' h1 h2 h3:List qA} {m:qG} {rv v v' dv wv:AV} {c c' x y:qF} {P:List qE} {O:Nat->Bool} {xid yid:Nat}
theorem XX{w id n:Nat}{cl:Bool}{k:IntKind}(h:0<n):idx w (some (.slice w id 0 n cl)) (some (.int k 0))=some (.ptr id 0 0):=XY (by omega) (by omega)
theorem qBT{w id n:Nat}{cl:Bool}{k:IntKind}(h:1<n):idx w (some (.slice w id 0 n cl)) (some (.int k 1))=some (.ptr id 1 0):=XY (by omega) (by omega)
theorem MH.upf{S:Nat->Prop}(M:MH w mid post ow h m)(u:Up S h h')(hs:∀j,S j->ow j=0):MH w mid post ow h' m:=M.heap u.1 λj hj h0=>by
 rw[gEg hj];exact u.at (gEg hj) λq=>h0 (hs j q)
theorem Fo.upf{S:Nat->Prop}(f:Fo ow h ow1 h1)(u:Up S h1 h2)(hs:∀j,S j->h.length<=j):Fo ow h ow1 h2:=⟨nLt f.l u.1,λj hj q=>by
 obtain⟨a,b⟩:=f.k j hj q;refine⟨a, ?_⟩;rw[<-b];have hl:=nLl hj f.l;rw[gEg hl];exact u.at (gEg hl) λq=>by have:=hs j q;omega⟩
theorem Ls0.fo{w:Nat}{el:List AV}{n:Nat}(x:Ls0 (λj=>ow j=0/\n<=j) w h v el)(f:Fo ow h ow' h'):Ls0 (λj=>ow' j=0/\n<=j) w h' v el:=x.elim .inl λy=>.inr (y.mono λj hj q=>⟨⟨(f.k j hj q.1).1,q.2⟩,(f.k j hj q.1).2⟩)
theorem qFE{i:Nat}:(chA m x y i).1.R=m.R:=by
 induction i with
 | zero=>rfl
 | succ i ih=>rw[chA];exact ih
theorem qFH{apps:List Int}{i:Nat}:(chB x y apps m i).R=m.R:=by
 induction i with
 | zero=>rfl
 | succ i ih=>rw[chB];exact ih
theorem Bx.words(b:Bx ow h xid x):∃dv wv,h[xid]?=some (.row 5 [cE x dv wv] true)/\LsW (λj=>ow j=0) 1 h dv (x.D.map qQ)/\LsW (λj=>ow j=0) 2 h wv (x.W.map qE.enc):=b.ex
theorem qp5(M:MH w mid post ow h m)(bx:Bx ow h xid x)(by_:Bx ow h yid y)(mm:MM m (x.W++y.W++P) O)(hf:1+x.W.length<=nF m.C)(hyw:y.W.length=1)(hr:zi (w9 x y))(hl:zt 3 y.L=true)(hxw:x.W.length<=1000)
  (hD:if y.K=10 then 0<=x.V/\x.V<y.D.length else y.D.length=2) (hrx:m.R.length<=1000000-1000):
  SCall Gm 1283 [.ptr mid 0 0,.ptr xid 0 0,.ptr yid 0 0] h (λv h'=>∃ow',MH w mid post ow' h' (chM m x y).1/\Fo ow h ow' h'/\Ls0 (λj=>ow' j=0) 4 h' v ((chM m x y).2.map qn.enc)):=by
 have mm':MM m (x.W++(y.W.getD 0 w0::P)) O:=by
  have e:=Z3 hyw;rw[e]at mm;simpa using mm
 have I:=qAW mm' hr;have hdl:0<y.D.length:=by split at hD<;>omega
 obtain⟨⟨dvy,wvy,y1,y2,y3⟩,yo⟩:=id by_;obtain⟨⟨dvx,wvx,x1,x2,x3⟩,xo⟩:=id bx;obtain⟨yd,q1,rfl,q3⟩:∃id,ow id=0/\dvy=sQ 1 id y.D.length/\h[id]?=some (.row 1 (y.D.map qQ) true):=by
  rcases y2 with⟨_,q⟩ | ⟨j,j1,j2,j3⟩
  ·have:=congrArg List.length q;rw[lMp,lNi]at this;omega
  ·exact⟨j,j1,by rw[j2,lMp],j3⟩
 refine sI Us ?_;have hd0:=gEg hdl;simp only[Us,qM,go_sem,y1,XX hdl,q3,gMp,hd0,oMs,qQ];have hgo:∃D,chD x y=D:=⟨_,rfl⟩;obtain⟨D,hDD⟩:=hgo;have hcd:(y.K=10->∀k:Nat,x.V=k->y.D[k]?=some D)/\(y.K≠10->x.V=0->y.D[1]?=some D)/\(y.K≠10->x.V≠0->y.D[0]=D):=by
  rw[<-hDD];unfold chD;refine⟨λa k b=>?_,λa b=>?_,λa b=>?_⟩
  ·rw[iP a]at hD;rw[iP a,b,iTn,lGd,gEg (by omega)];rfl
  ·rw[iN a]at hD;rw[iN a,iP b,lGd,gEg (by omega)];rfl
  ·rw[iN a,iN b,lGd,hd0];rfl
 by_cases k10:y.K=10
 case' pos=>
  rw[iP k10]at hD;obtain⟨k,hk⟩:=eOz hD.1;have hkl:k<y.D.length:=by omega
  have e1:decide (y.K=10)=true:=dEt k10;simp only[e1,go_sem,y1,x1,hk,qW hkl,nZa,q3,gMp,hcd.1 k10 k hk,oMs,qQ];clear hk hkl
 case' neg=>
  rw[iN k10]at hD;have e1:decide (y.K=10)=false:=dEf k10;simp only[e1,go_sem,x1];by_cases k0:x.V=0
  case' pos=>
   have e2:decide (x.V=0)=true:=dEt k0;simp only[e2,go_sem,y1,qBT (show 1<y.D.length by omega),q3,gMp,hcd.2.1 k10 k0,oMs,qQ]
  case' neg=>
   have e2:decide (x.V=0)=false:=dEf k0;simp only[e2,go_sem,y1,hcd.2.2 k10 k0]
 all_goals
  subst hDD;obtain⟨r,ks0,hr0,I0⟩:=I 0 (by omega);obtain⟨kr,dr,k1,k2,k3,k4,k5⟩:=wF mm' (by omega);obtain rfl:kr=r:=by omega
  refine qj (SCall.mono (X1 M k1 ⟨dr,k2⟩ (w9 x y) rfl rfl) ?_);rintro _ h1 ⟨rfl,ow1,M1,F1⟩;simp only[go_sem];refine Sem.loop (λa:Nat×(Nat->Nat)×AV×List qA=>a.1<=x.W.length/\MH w mid post a.2.1 a.2.2.2 (chA m x y a.1).1/\Fo ow h a.2.1 a.2.2.2/\Ls0 (λj=>a.2.1 j=0/\h.length<=j) 1 a.2.2.2 a.2.2.1 ((chA m x y a.1).2.map qQ))
   (λa=>(⟨[(0,.ptr mid 0 0),(1,.ptr xid 0 0),(2,.ptr yid 0 0),(6,.nils),(8,iI (kr:Nat)),(9,a.2.2.1),(10,iI (a.1:Nat))],[],a.2.2.2⟩:VSt)) (λa=>x.W.length-a.1)
   (0,ow1,.lst 1 [] true,h1) (by kernel_rfl) ⟨nZl _,M1,F1,.inl ⟨rfl,rfl⟩⟩ csA ?_
  clear M1 F1 x1 x2 x3 y1 y2 y3 k5;rintro⟨i,ow2,v,h2⟩ ⟨hi,M2,F2,L2⟩;simp only at hi M2 F2 L2;obtain⟨⟨dvx,wvx,x1,x2,x3⟩,xo⟩:=bx.fo F2;obtain⟨⟨dvy,wvy,y1,y2,y3⟩,yo⟩:=by_.fo F2;have hxl:=x3.len;rw[lMp]at hxl;simp only[go_sem,x1,hxl];by_cases hlt:i<x.W.length
  case pos=>
   have e:decide ((i:Int)<(x.W.length:Nat))=true:=dEt (by omega);simp only[e,go_sem,y1];obtain⟨r',ks,hr',J⟩:=I i (by omega);obtain⟨ka,da,a1,a2,a3,a4,a5⟩:=wF J.mm (by have:=J.nf;omega);refine qj (SCall.mono (X1 M2 a1 ⟨da,a2⟩ (j6 y) rfl rfl) ?_);rintro _ h3 ⟨rfl,ow3,M3,F3⟩;have L3:=L2.fo F3;have e2:chA m x y (i+1)=(qR (chA m x y i).1 (j6 y),(chA m x y i).2++[(ka:Int)]):=by rw[chA,a1]
   simp only[go_sem];have hal:(chA m x y i).2.length=i:=by rw[J.ap,lMp];exact J.len
   refine qAG (L3.app _) ends (by rw[lMp];omega) λh4 u4 w4 l4=>?_;simp only[go_sem,wuA (n:=i)];have MA:=M3.app [qA.row 1 [AV.int .i64 (ka:Nat)] true];have FA:=(F2.trans F3).trans (Fo.app (h:=h3) (ow:=ow3) [qA.row 1 [AV.int .i64 (ka:Nat)] true]);have hF:=(F2.trans F3).l;refine qd (i+1,ow3,.slice 1 (h3++[qA.row 1 [AV.int .i64 (ka:Nat)] true]).length 0 (((chA m x y i).2.map qQ).length+1) false,h4) ⟨by simp only;omega, ?_, ?_, ?_⟩ (by simp only;omega) csA
   ·simp only[e2];exact MA.upf u4 λj q=>q.1.1
   ·exact FA.upf u4 λj q=>q.1.2
   ·refine .inr (.inr ⟨(h3++[qA.row 1 [AV.int .i64 (ka:Nat)] true]).length,⟨MA.b,by simp;omega⟩, ?_, ?_⟩)
    ·simp[e2]
    ·simp only[e2,lMa];exact w4
  case neg=>
   have e:decide ((i:Int)<(x.W.length:Nat))=false:=dEf (by omega);simp only[e,go_sem];obtain rfl:i=x.W.length:=by omega
   obtain⟨r',ks,hr',J⟩:=I x.W.length hf;obtain rfl:r'=kr:=by omega
   have hal:(chA m x y x.W.length).2.length=x.W.length:=by rw[J.ap,lMp];exact J.len
   obtain⟨y0,ey⟩:∃a,y.W=[a]:=⟨_,Z3 hyw⟩;simp only[L2.len,hal,go_sem];by_cases hn:x.W.length=0
   case pos=>
    have e3:decide ((x.W.length:Int)=0)=true:=dEt (by omega);rw[ey]at y3;obtain⟨wy,wy1,rfl,wy3⟩:=y3.one;simp only[e3,go_sem,y1,J9,wy3];refine qI QR ?_;simp only[go_sem];have ew:x.W=[]:=lEz hn;have ec:chM m x y=(qR m (w9 x y),[⟨y.W.getD 0 w0,awI m.F⟩]):=iP ew;rw[ec];rw[hn]at M2;refine⟨ow2,M2.app _,F2.trans (Fo.app _),.inr (.inr ⟨h2.length,M2.b,rfl, ?_⟩)⟩;rw[ends,ey,hr0];rfl
   case neg=>
    have e3:decide ((x.W.length:Int)=0)=false:=dEf (by omega);simp only[e3,go_sem];obtain⟨ida,⟨o1,o2⟩,rfl,o3⟩:∃id,(ow2 id=0/\h.length<=id)/\v=sQ 1 id x.W.length/\h2[id]?=some (.row 1 ((chA m x y x.W.length).2.map qQ) true):=by
     rcases L2 with⟨_,q⟩ | ⟨_,q⟩ | ⟨j,j1,j2,j3⟩
     ·have:=congrArg List.length q;rw[lMp,lNi]at this;omega
     ·have:=congrArg List.length q;rw[lMp,lNi]at this;omega
     ·exact⟨j,j1,by rw[j2,lMp,hal],j3⟩
    have ec:chM m x y=(wk (chB x y (chA m x y x.W.length).2 (chA m x y x.W.length).1 x.W.length) m.F ((chA m x y x.W.length).2.getD 0 0),[]):=iN λq=>hn (by rw[q];rfl);have CB:=qFF rfl (by omega) hl J;have hap:=J.ap;have hkl:=J.len;have hrx2:∀i,(chB x y (chA m x y x.W.length).2 (chA m x y x.W.length).1 i).R.length<=1000000-1000:=λi=>by rw[qFH,qFE];exact hrx
    rw[ec];clear ec I J I0 hal;generalize (chA m x y x.W.length).2=ap at*;generalize (chA m x y x.W.length).1=m2 at*;subst hap;refine Sem.loop (λa:Nat×(Nat->Nat)×List qA=>a.1<=x.W.length/\MH w mid post a.2.1 a.2.2 (chB x y (ks.map λk:Nat=>(k:Int)) m2 a.1)/\Fo ow h a.2.1 a.2.2/\a.2.1 ida=0/\a.2.2[ida]?=some (.row 1 ((ks.map λk:Nat=>(k:Int)).map qQ) true))
     (λa=>(⟨[(0,.ptr mid 0 0),(1,.ptr xid 0 0),(2,.ptr yid 0 0),(6,.nils),(8,iI (r':Nat)),(9,sQ 1 ida x.W.length),(11,iI (a.1:Nat))],[],a.2.2⟩:VSt)) (λa=>x.W.length-a.1)
     (0,ow2,h2) (by kernel_rfl) ⟨nZl _,M2,F2,o1,o3⟩ csA ?_
    clear M2 F2 o1 o3 x1 x2 x3 y1 y2 y3;rintro⟨i,ow2,h2⟩ ⟨hi,M2,F2,o1,o3⟩;simp only at hi M2 F2 o1 o3;obtain⟨⟨dvx,wvx,x1,x2,x3⟩,xo⟩:=bx.fo F2;obtain⟨⟨dvy,wvy,y1,y2,y3⟩,yo⟩:=by_.fo F2;simp only[go_sem];by_cases hlt:i<x.W.length
    case neg=>
     have e:decide ((i:Int)<(x.W.length:Nat))=false:=dEf (by omega);obtain rfl:i=x.W.length:=by omega
     have h0k:0<ks.length:=by omega
     have hk0:=gEg h0k;simp only[e,go_sem,XX (show 0<x.W.length by omega),o3,gMp,hk0,oMs,qQ];refine qj (SCall.mono (Vq M2 (by have:=hrx2 x.W.length;omega)) ?_);rintro _ h3 ⟨ow3,M3,F3⟩;simp only[go_sem];refine⟨ow3, ?_,F2.trans F3,.inl ⟨rfl,rfl⟩⟩;have e0:(ks.map λk:Nat=>(k:Int)).getD 0 0=(ks[0]:Nat):=by
      rw[lGd,gMp,hk0];rfl
     rw[hr',e0];exact M3
    case pos=>
     have e:decide ((i:Int)<(x.W.length:Nat))=true:=dEt (by omega);rw[ey]at y3;obtain⟨wy,wy1,rfl,wy3⟩:=y3.one;simp only[e,go_sem,y1,J9,wy3];refine lsA ?_;simp only[go_sem,wuA (n:=i)];have hki:=gEg (show i<ks.length by omega);have hxi:=gEg hlt;obtain⟨nx,hnx⟩:∃nx,nxW y (ks.map λk:Nat=>(k:Int)) i=nx:=⟨_,rfl⟩;by_cases q:i+1<x.W.length
     case' pos=>
      have e4:decide (((i+1:Nat):Int)<(x.W.length:Nat))=true:=dEt (by omega);have hk1:=gEg (show i+1<ks.length by omega);simp only[e4,go_sem,wuA (n:=i),qW q,nZa,o3,gMp,hk1,oMs,qQ];refine qI QR ?_;simp only[go_sem];refine lsA ?_;have e5:awI (ks[i+1]:Nat)=nx:=by
       rw[<-hnx];unfold nxW;rw[gMp,hk1];rfl
      rw[e5]
     case' neg=>
      have e4:decide (((i+1:Nat):Int)<(x.W.length:Nat))=false:=dEf (by omega);have e5:y0=nx:=by
       rw[<-hnx];unfold nxW;rw[gMp,gEn (by omega),ey];rfl
      simp only[e4,go_sem];rw[e5]
     all_goals
      obtain⟨wx,wx1,wx2,wx3⟩:∃id,ow2 id=0/\wvx=sQ 2 id x.W.length/\h2[id]?=some (.row 2 (x.W.map qE.enc) true):=by
       rcases x3 with⟨_,q⟩ | ⟨j,j1,j2,j3⟩
       ·have:=congrArg List.length q;rw[lMp,lNi]at this;omega
       ·exact⟨j,j1,by rw[j2,lMp],j3⟩
      subst wx2;obtain⟨cid,cs,rv,M2⟩:=M2;obtain⟨a0,_,_,hcells,_⟩:=CB i (by omega);have hcell:=hcells ks[i] (by rw[lDc (show i<ks.length by omega)];exact .head _);obtain⟨dv,wv,v1,v2,v3⟩:=M2.words hcell;have hk:=zP hcell;simp only[go_sem,M2.o,x1,qW hlt,qW hk,nZa,o3,wx3,gMp,hki,hxi,oMs,qQ];have M2a:=M2.app [qA.row 2 [x.W[i].enc,nx.enc] true];refine M2a.stoW v1 rfl ?_;obtain⟨M7,f7⟩:=M2a.setWv (ws:=[x.W[i],nx]) (wv':=sQ 2 h2.length 2) hcell v1 (v2.app _) (id:=h2.length) (MH.b ⟨_,_,_,M2⟩) ends rfl;have F7:=f7.new (ow:=ow2) λj e=>by omega
      obtain⟨o3',o1'⟩:=F7.at o3 o1;simp only[go_sem,wuA (n:=i)];refine qd (i+1,_,_) ⟨by simp only;omega, ?_,F2.trans F7,o1',o3'⟩ (by simp only;omega) csA;have eb:chB x y (ks.map λk:Nat=>(k:Int)) m2 (i+1)=qr (chB x y (ks.map λk:Nat=>(k:Int)) m2 i) (ks[i]:Nat) [x.W[i],nx]:=by
       rw[chB,hnx,lGd,gMp,hki,lGd,hxi];rfl
      simp only[eb];rw[jv hcell];exact MH.intro M7
end
section
variable {w mid cid k:Nat} {post cs:List AV} {ow ow' ow1 ow2:Nat->Nat} {h h' h1 h2 h3:List qA} {m:qG} {rv v v' dv wv:AV} {c c':qF} {P:List qE} {O:Nat->Bool} {x y a b:qE} {ws:List qE}
theorem qKI(M:MH w mid post ow h m)(hc:m.C[k]?=some c):SCall Gm 1288 [.ptr mid 0 0,iI (k:Nat)] h (λ_ h'=>∃ow',MH w mid post ow' h' (qS m k)/\Fo ow h ow' h'/\h'.length=h.length/\∀j,j<h.length->ow j=k+3->ow' j=0/\h'[j]?=h[j]?):=by
 obtain⟨cid,cs,rv,M⟩:=M;have hk:=zP hc;refine sI W2 ?_;simp only[W2,qM,go_sem,M.o,qW hk,nZa];refine M.sto5 hc rfl ⟨_,rfl⟩ ?_;have M1:=M.setC (k:=k) (c':=zS m.F) (λ_=>False) hc (λ_ t=>t.elim) CV.free;have f1:=M.setC_fo (k:=k) (T:=λ_=>False) (v':=.agg [iI 0,iI 0,iI m.F,.nils,.nils]) (λ_ t=>t.elim);simp only[go_sem];refine M1.stoF _ ?_;have M2:=M1.setF (k:Int);simp only[go_sem];refine⟨_,⟨cid,_,rv,by rw[qS,iTn];exact M2⟩,f1.trans M1.setF_fo,by simp,λj hj q=>⟨by rw[JQ (λt=>t),iP q], ?_⟩⟩;rw[sne λe=>by subst e;rw[M.m1]at q;omega,sne λe=>by subst e;rw[M.c1]at q;omega]
theorem ZN(M:MH w mid post ow h m)(hf:m.F=(k:Nat))(hc:m.C[k]?=some c){T:Nat->Prop}(hT:∀j,T j->j<h.length/\ow j=0)(hv:CV T h v c'):SCall Gm 863 [.ptr mid 0 0,v] h (λr h'=>r=iI (k:Nat)/\∃ow',MH w mid post ow' h' (qR m c')/\FoT T ow h ow' h'/\h'.length=h.length):=by
 obtain⟨cid,cs,rv,M⟩:=M;have hk:=zP hc;obtain⟨dv',wv',rfl,u2,u3⟩:=id hv;refine sI F863 ?_;simp only[F863,qM,go_sem];refine qa rfl ?_;obtain⟨v0,v1,dv,wv,rfl,v2,v3⟩:=M.e k c hc;simp only[go_sem,M.o,hf,qW hk,nZa,M.c,v1];refine M.stoF _ ?_;have M1:=M.setF c.V;have hv1:CV T (h.set mid (.row w [mE {m with F:=c.V} cid rv post] true)) (cE c' dv' wv') c':=hv.mono λj hj t=>⟨t,sne λe=>by subst e;have:=(hT j t).2;rw[M.m1]at this;cases this⟩;have hl1:∀o,(h.set mid o).length=h.length:=λo=>by simp
 have M2:=M1.setC (k:=k) (c':=c') (v':=cE c' dv' wv') T hc (λj t=>⟨by rw[hl1];exact(hT j t).1,.inl (hT j t).2⟩) hv1;simp only[go_sem,M1.o,qW hk,nZa];refine M1.sto5 hc rfl ⟨_,rfl⟩ ?_;simp only[go_sem];have et:qR m c'={m with F:=c.V,C:=m.C.set k c'}:=by rw[qR,hf,iTn,JF hc]
 refine⟨trivial,_,⟨cid,_,rv,by rw[et];exact M2⟩,⟨by simp,λj hj q n=>⟨by rw[JQ n,iN (by omega)];exact q, ?_⟩⟩,by simp⟩;rw[sne (λe=>by subst e;rw[M.c1]at q;omega),sne (λe=>by subst e;rw[M.m1]at q;omega)]
theorem QS{a:Int}:Pure Gm 1458 [iI a] (awI a).enc:=by
 refine pJ Kj ?_;simp only[Kj,qM,go_sem];refine lsA ?_;simp only[go_sem];exact qN rfl rfl
theorem qjM{a:Int}:Pure Gm 1521 [iI a] (vwI a).enc:=by
 refine pJ Kv ?_;simp only[Kv,qM,go_sem];refine lsA ?_;simp only[go_sem];exact qN rfl rfl
theorem qC3(M:MH w mid post ow h m)(hf:m.F=(k:Nat))(hc:m.C[k]?=some c):SCall Gm 1457 [.ptr mid 0 0] h (λr h'=>r=(vwI (k:Nat)).enc/\∃ow',MH w mid post ow' h' (qR m (qX []))/\Fo ow h ow' h'/\h'.length=h.length):=by
 refine sI Ki ?_;simp only[Ki,qM,go_sem];refine qj (SCall.mono (ZN M hf hc (c':=qX []) (v:=cE (qX []) .nils .nils) (T:=λ_=>False) (λ_ t=>t.elim) ⟨.nils,.nils,rfl,.inl ⟨rfl,rfl⟩,.inl ⟨rfl,rfl⟩⟩) ?_);rintro r h' ⟨rfl,ow',M',f,l⟩;simp only[go_sem];refine qI qjM ?_;simp only[go_sem];refine lsA ?_;simp only[go_sem];exact⟨trivial,ow',M',f.fo λ_ _ _ t=>t,l⟩
theorem Vr{a b:Int}(M:MH w mid post ow h m)(hl:m.R.length<=1000000):SCall Gm 1295 [.ptr mid 0 0,iI a,iI b] h (λ_ h'=>∃ow',MH w mid post ow' h' (wk m a b)/\Fo ow h ow' h'):=by
 obtain⟨cid,cs,rv,M⟩:=M;refine sI KA ?_;simp only[KA,qM,go_sem,M.o];have M1:=M.app [qA.row 2 [AV.agg [iI (min a b),iI (max a b)]] true];refine wc M1.r ends (by rw[lMp];omega) λh3 u3 v3 l3=>?_;have hm:=u3.at M1.o (λq=>by have:=q.1;rw[M.m1]at this;omega);simp only[go_sem];have e1:(m.R.map qL.enc)++[AV.agg [iI (min a b),iI (max a b)]]=((m.R++[(⟨min a b,max a b⟩:qL)]).map qL.enc):=by
  rw[lMa];rfl
 rw[e1]at v3;refine X8 hm (m.R++[(⟨min a b,max a b⟩:qL)]) rfl ?_;simp only[go_sem];obtain⟨M2,f2⟩:=M1.redx (u3.w λj _ q=>q.1) (nLr _) v3 (rv':=.slice 2 (h++[qA.row 2 [AV.agg [iI (min a b),iI (max a b)]] true]).length 0 (m.R.length+1) false) (by simp);have f3:=(Fo.app (ow:=ow) (h:=h) _).trans f2;exact⟨_,⟨cid,cs,_,M2⟩,f3⟩
theorem qKK(M:MH w mid post ow h m)(hP:MM m (x::P) O):SCall Gm 1294 [.ptr mid 0 0,x.enc] h (λr h'=>r=(flw (nV m.C) m x).2.enc/\∃ow',MH w mid post ow' h' (flw (nV m.C) m x).1/\Fo ow h ow' h'):=by
 refine sI U9 ?_;simp only[U9,qM,go_sem];refine qa rfl ?_;simp only[go_sem];generalize hR:flw (nV m.C) m x=R;refine Sem.loop (λa:qG×qE×(Nat->Nat)×List qA=>MH w mid post a.2.2.1 a.2.2.2 a.1/\MM a.1 (a.2.1::P) O/\flw (nV a.1.C) a.1 a.2.1=R/\Fo ow h a.2.2.1 a.2.2.2) (λa=>(⟨[(0,.ptr mid 0 0)],[(3,a.2.1.enc),(4,.agg [iI 0,iI 0])],a.2.2.2⟩:VSt)) (λa=>nV a.1.C) (m,x,ow,h) (by kernel_rfl) ⟨M,hP,hR,Fo.refl⟩ csA ?_;rintro⟨m1,x1,ow1,h1⟩ ⟨M1,P1,R1,f1⟩;simp only at M1 P1 R1 f1;simp only[go_sem];have done:R1=R1->flw (nV m1.C) m1 x1=(m1,x1)->x1.enc=R.2.enc/\∃ow',MH w mid post ow' h1 R.1/\Fo ow h ow' h1:=λ_ q=>by
  rw[R1]at q;subst q;exact⟨rfl,ow1,M1,f1⟩
 rcases qGS P1 with⟨ht,hf⟩ | ⟨k,rfl,⟨hc,hf⟩ | ⟨y,hc,hf,hP1,hn⟩⟩
 ·have e:decide (x1.T=2)=false:=dEf (by omega);simp only[e,go_sem];refine lsA ?_;simp only[go_sem];exact done rfl (hf _)
 ·obtain⟨cid,cs,rv,M1⟩:=M1;have hk:=zP hc;obtain⟨dv,wv,v1,v2,v3⟩:=M1.words hc;have hlen:=v3.len;have e:decide ((vW k).T=2)=true:=rfl;simp only[e,go_sem,M1.o,show (vW k).I=(k:Int)from rfl,qW hk,nZa,M1.c,v1,hlen];have e2:decide ((0:Int)<((qX []).W.length:Nat))=false:=rfl;simp only[e2,go_sem];refine lsA ?_;simp only[go_sem];exact done rfl (hf _)
 ·have M1':=M1;obtain⟨cid,cs,rv,M1⟩:=M1;have hk:=zP hc;obtain⟨dv,wv,v1,v2,v3⟩:=M1.words hc;have hlen:=v3.len;obtain⟨id,i1,rfl,i3⟩:=v3.one;have e:decide ((vW k).T=2)=true:=rfl;have e2:decide ((0:Int)<((1:Nat):Int))=true:=rfl;simp only[e,go_sem,M1.o,show (vW k).I=(k:Int)from rfl,qW hk,nZa,M1.c,v1,Int.natCast_one,show decide ((0:Int)<1)=true from rfl,J9,i3];refine lsA ?_;simp only[go_sem,show (vW k).I=(k:Int)from rfl];refine qj (SCall.mono (qKI M1' hc) ?_);rintro r h2 ⟨ow2,M2,f2,l2,-⟩;simp only[go_sem];refine lsA ?_;simp only[go_sem];refine qd (qS m1 (k:Int),y,ow2,h2) ⟨M2,hP1, ?_,f1.trans f2⟩ (by simp only;omega) csA;rw[<-hn,hf]at R1;exact R1
theorem s976(M:MH w mid post ow h m)(hP:MM m (a::b::P) O)(hl:m.R.length<=1000000):SCall Gm 976 [.ptr mid 0 0,a.enc,b.enc] h (λ_ h'=>∃ow',MH w mid post ow' h' (wA m a b)/\Fo ow h ow' h'):=by
 refine sI F976 ?_;simp only[F976,qM,go_sem];refine qa rfl ?_;simp only[go_sem];refine qa rfl ?_;simp only[go_sem];refine qj (SCall.mono (qKK M hP) ?_);obtain⟨g1,g2⟩:=Zg (nV m.C) hP (nLr _);have hL:wA m a b=wA m a b:=rfl
 conv at hL=>rhs;unfold wA
 simp only at hL;generalize wA m a b=L at hL|-;generalize flw (nV m.C) m a=r at g1 g2 hL|-;obtain⟨m1,a1⟩:=r;have g3:MM m1 (b::a1::P) O:=MI.perm g1 (List.Perm.swap _ _ _);obtain⟨k1,k2⟩:=Zg (nV m1.C) g3 (nLr _);simp only at g1 g2 k1 k2 hL|-;rintro r h1 ⟨rfl,ow1,M1,f1⟩;simp only[go_sem];refine lsA ?_;simp only[go_sem];refine qj (SCall.mono (qKK M1 g3) ?_);generalize flw (nV m1.C) m1 b=s at k1 k2 hL|-;obtain⟨m2,b1⟩:=s;simp only at k1 k2 hL|-;rintro r h2 ⟨rfl,ow2,M2,f2⟩;simp only[go_sem];refine lsA ?_;simp only[go_sem];have k3:MM m2 (a1::b1::P) O:=MI.perm k1 (List.Perm.swap _ _ _);have hrx:m2.R=m.R:=by rw[k2.rx,g2.rx]
 have ha:a1.T=1\/∃k:Nat,a1=vW k/\m2.C[k]?=some (qX []):=by
  rcases g2.stop with q | ⟨k,q1,q2⟩
  ·exact .inl q
  ·exact .inr ⟨k,q1,k2.keep k _ q2 (.inr rfl)⟩
 have hb:=k2.stop;by_cases q1:a1.T=1
 ·have e1:decide (a1.T=1)=true:=dEt q1;simp only[e1,go_sem];by_cases q2:b1.T=1
  ·have e2:decide (b1.T=1)=true:=dEt q2;simp only[e2,go_sem];refine qj (SCall.mono (Vr M2 (by rw[hrx];exact hl)) ?_);rintro r h3 ⟨ow3,M3,f3⟩;simp only[go_sem];rw[iP ⟨q1,q2⟩]at hL;exact⟨ow3,by rw[hL];exact M3,(f1.trans f2).trans f3⟩
  ·have e2:decide (b1.T=1)=false:=dEf q2;simp only[e2,go_sem];rw[iN (λq=>q2 q.2)]at hL;have n3:¬a1=b1:=λq=>q2 (by rw[<-q];exact q1);have e3:decide (a1=b1)=false:=dEf n3;have e4:decide (a1.T=2)=false:=dEf (by omega);simp only[e3,e4,go_sem];rw[iN n3,iN (by omega)]at hL;obtain⟨k,rfl,hck⟩:∃k:Nat,b1=vW k/\m2.C[k]?=some (qX []):=by
    rcases hb with q | q
    ·exact absurd q q2
    ·exact q
   rw[UK,jv hck]at hL;obtain⟨cid,cs,rv,M2'⟩:=M2;obtain⟨dv,wv,v1,v2,v3⟩:=M2'.words hck;have hk:=zP hck;simp only[M2'.o,show (vW k).I=(k:Int)from rfl,qW hk,nZa,go_sem];have M3:=M2'.app [qA.row 2 [a1.enc] true];refine M3.stoW v1 rfl ?_;simp only[go_sem];obtain⟨M4,f4⟩:=M3.setWv (ws:=[a1]) hck v1 (v2.app _) (id:=h2.length) (by have:=MH.b ⟨_,_,_,M2'⟩;exact this) ends rfl;refine⟨_,⟨cid,_,rv,by rw[hL];exact M4⟩,(f1.trans f2).trans (f4.new λj e=>by omega)⟩
 ·have e1:decide (a1.T=1)=false:=dEf q1;simp only[e1,go_sem];rw[iN (λq=>q1 q.1)]at hL;obtain⟨k,rfl,hck⟩:∃k:Nat,a1=vW k/\m2.C[k]?=some (qX []):=by
   rcases ha with q | q
   ·exact absurd q q1
   ·exact q
  by_cases n3:vW k=b1
  ·have e3:decide (vW k=b1)=true:=dEt n3;simp only[e3,go_sem];rw[iP n3]at hL;refine qj (SCall.mono (qKI M2 hck) ?_);rintro r h3 ⟨ow3,M3,f3,-⟩;simp only[go_sem];exact⟨ow3,by rw[hL];exact M3,(f1.trans f2).trans f3⟩
  ·have e3:decide (vW k=b1)=false:=dEf n3;have e4:decide ((vW k).T=2)=true:=rfl;simp only[e3,e4,go_sem];rw[iN n3,iP (show (vW k).T=2 from rfl),UK,jv hck]at hL;obtain⟨cid,cs,rv,M2'⟩:=M2;obtain⟨dv,wv,v1,v2,v3⟩:=M2'.words hck;have hk:=zP hck;simp only[M2'.o,show (vW k).I=(k:Int)from rfl,qW hk,nZa,go_sem];have M3:=M2'.app [qA.row 2 [b1.enc] true];refine M3.stoW v1 rfl ?_;simp only[go_sem];obtain⟨M4,f4⟩:=M3.setWv (ws:=[b1]) hck v1 (v2.app _) (id:=h2.length) (by have:=MH.b ⟨_,_,_,M2'⟩;exact this) ends rfl;refine⟨_,⟨cid,_,rv,by rw[hL];exact M4⟩,(f1.trans f2).trans (f4.new λj e=>by omega)⟩
theorem Vt(M:MH w mid post ow h m)(hf:m.F=(k:Nat))(hc:∃d,m.C[k]?=some d)(c:qF)(h1:c.D=[])(h2:c.W=[]):SCall Gm 863 [.ptr mid 0 0,cE c .nils .nils] h (λr h'=>r=iI (k:Nat)/\∃ow',MH w mid post ow' h' (qR m c)/\Fo ow h ow' h'):=by
 obtain⟨d,hc⟩:=hc;refine SCall.mono (ZN M hf hc (c':=c) (T:=λ_=>False) (λ_ t=>t.elim) ⟨.nils,.nils,rfl,.inl ⟨rfl,by rw[h1];rfl⟩,.inl ⟨rfl,by rw[h2];rfl⟩⟩) ?_;rintro r h' ⟨e,ow',a,b,_⟩;exact⟨e,ow',a,b.fo λ_ _ _ t=>t⟩
end
section
variable {w mid cid k:Nat} {post cs:List AV} {ow ow' ow1 ow2:Nat->Nat} {h h' h1 h2 h3:List qA} {m:qG} {rv v v' dv wv:AV} {c c' x y:qF} {P:List qE} {O:Nat->Bool} {n:Nat}
theorem LsW.fo{w:Nat}{el:List AV}(x:LsW (λj=>ow j=0/\n<=j) w h v el)(f:Fo ow h ow' h'):LsW (λj=>ow' j=0/\n<=j) w h' v el:=x.mono λj hj q=>⟨⟨(f.k j hj q.1).1,q.2⟩,(f.k j hj q.1).2⟩
theorem LsW.fo0{w:Nat}{el:List AV}(x:LsW (λj=>ow j=0) w h v el)(f:Fo ow h ow' h'):LsW (λj=>ow' j=0) w h' v el:=x.mono λj hj q=>f.k j hj q
theorem LsW.full{w:Nat}{el:List AV}{Q:Nat->Prop}(x:LsW Q w h v el)(h0:0<el.length):∃id,Q id/\v=sQ w id el.length/\h[id]?=some (.row w el true):=by
 rcases x with⟨_,q⟩ | x
 ·rw[q]at h0;cases h0
 ·exact x
theorem XP{i:Nat}{a:qE}(h:y.W[i]?=some a):zq m y (i+1)=QW (zq m y i) a:=by
 unfold zq;rw[tA1,h,Option.toList_some,List.foldl_append];rfl
theorem qp9(M:MH w mid post ow h m)(cy:LsW (λj=>ow j=0) 2 h wv (y.W.map qE.enc))(mm:MM m (y.W++P) O)(hf:y.W.length<=nF m.C)(hyw:y.W.length<=1000):
  SCall Gm 1291 [.ptr mid 0 0,cE y dv wv] h (λv h'=>∃ow',MH w mid post ow' h' (zq m y y.W.length).1/\Fo ow h ow' h'/\LsW (λj=>ow' j=0) 4 h' v ((zq m y y.W.length).2.map qn.enc)):=by
 refine sI Uz ?_;have hcl:=cy.len;rw[lMp]at hcl;simp only[Uz,qM,go_sem];refine qa rfl ?_;simp only[go_sem,hcl];refine Sem.loop (λa:Nat×(Nat->Nat)×AV×List qA=>a.1<=y.W.length/\MH w mid post a.2.1 a.2.2.2 (zq m y a.1).1/\Fo ow h a.2.1 a.2.2.2/\LsW (λj=>a.2.1 j=0/\h.length<=j) 4 a.2.2.2 a.2.2.1 ((zq m y a.1).2.map qn.enc))
  (λa=>(⟨[(0,.ptr mid 0 0),(4,.nils),(5,a.2.2.1),(9,wv),(10,iI (y.W.length:Nat)),(11,iI (a.1:Nat))],[],a.2.2.2⟩:VSt)) (λa=>y.W.length-a.1)
  (0,ow,.nils,h) (by kernel_rfl) ⟨nZl _,M,Fo.refl,.inl ⟨rfl,rfl⟩⟩ csA ?_
 rintro⟨i,ow2,v,h2⟩ ⟨hi,M2,F2,L2⟩;simp only at hi M2 F2 L2;simp only[go_sem];by_cases hlt:i<y.W.length
 case neg=>
  have e:decide ((i:Int)<(y.W.length:Nat))=false:=dEf (by omega);obtain rfl:i=y.W.length:=by omega
  simp only[e,go_sem];exact⟨ow2,M2,F2,L2.mono λj _ q=>⟨q.1,rfl⟩⟩
 have e:decide ((i:Int)<(y.W.length:Nat))=true:=dEt (by omega);have hyi:=gEg hlt;generalize y.W[i]=yw at hyi;obtain⟨E1,E2,E3⟩:=qBH mm hf i (by omega);obtain⟨ka,da,a1,a2,a3,a4,a5⟩:=wF E1 (by omega);obtain⟨idy,y1,y2,y3⟩:=(cy.fo0 F2).full (by rw[lMp];omega);rw[lMp]at y2;subst y2;simp only[e,go_sem,qW hlt,nZa,y3,gMp,hyi,oMs];refine lsA ?_;simp only[go_sem];refine qj (SCall.mono (Vt M2 a1 ⟨da,a2⟩ ⟨5,0,0,[],[]⟩ rfl rfl) ?_);rintro _ h3 ⟨rfl,ow3,M3,F3⟩;have L3:=L2.fo F3;simp only[go_sem];refine qI QS ?_;simp only[go_sem];have e2:zq m y (i+1)=(qR (zq m y i).1 ⟨5,0,0,[],[]⟩,(zq m y i).2++[⟨yw,awI (ka:Nat)⟩]):=by rw[XP hyi,QW,a1]
 have hal:(zq m y i).2.length<=1000:=by
  have:∀i,i<=y.W.length->(zq m y i).2.length=i:=by
   intro i
   induction i with
   | zero=>intro _;rfl
   | succ i ih=>
    intro hi;rw[XP (gEg (show i<y.W.length by omega)),QW];simp[ih (by omega)]
  rw[this i (by omega)];omega
 refine wc (L3.app _) ends (by rw[lMp];omega) λh4 u4 w4 l4=>?_;simp only[go_sem,wuA (n:=i)];have MA:=M3.app [qA.row 4 [AV.agg [iI yw.T,iI yw.I,iI (awI (ka:Nat)).T,iI (awI (ka:Nat)).I]] true];have FA:=(F2.trans F3).trans (Fo.app (h:=h3) (ow:=ow3) [qA.row 4 [AV.agg [iI yw.T,iI yw.I,iI (awI (ka:Nat)).T,iI (awI (ka:Nat)).I]] true]);have hF:=(F2.trans F3).l;refine qd (i+1,ow3,.slice 4 (h3++[qA.row 4 [AV.agg [iI yw.T,iI yw.I,iI (awI (ka:Nat)).T,iI (awI (ka:Nat)).I]] true]).length 0 (((zq m y i).2.map qn.enc).length+1) false,h4) ⟨by simp only;omega, ?_, ?_, ?_⟩ (by simp only;omega) csA
 ·simp only[e2];exact MA.upf u4 λj q=>q.1.1
 ·exact FA.upf u4 λj q=>q.1.2
 ·refine .inr ⟨(h3++[qA.row 4 [AV.agg [iI yw.T,iI yw.I,iI (awI (ka:Nat)).T,iI (awI (ka:Nat)).I]] true]).length,⟨MA.b,by simp;omega⟩, ?_, ?_⟩
  ·simp[e2]
  ·simp only[e2,lMa];exact w4
end
section
variable {w mid cid k:Nat} {post cs:List AV} {ow ow' ow1 ow2:Nat->Nat} {h h' h1 h2 h3:List qA} {m:qG} {rv v v' dv wv dvx wvx dvy wvy:AV} {c c' x y:qF} {P:List qE} {O:Nat->Bool} {n:Nat}
theorem qqA(M:MH w mid post ow h m)(dy:LsW (λj=>ow j=0) 1 h dvy (y.D.map qQ))(cy:LsW (λj=>ow j=0) 2 h wvy (y.W.map qE.enc))(hf:m.F=(k:Nat))(hc:∃d,m.C[k]?=some d)
  (hy:y.K=7/\y.W.length=2\/y.K=8/\y.W.length=1/\y.D.length=1):
  SCall Gm 1292 [.ptr mid 0 0,cE x dvx wvx,cE y dvy wvy] h (λv h'=>∃ow',MH w mid post ow' h' (ju m x y).1/\Fo ow h ow' h'/\LsW (λj=>ow' j=0) 4 h' v ((ju m x y).2.map qn.enc)):=by
 refine sI U0 ?_;simp only[U0,qM,go_sem];refine qa rfl ?_;simp only[go_sem];refine qa rfl ?_;simp only[go_sem];refine lsA ?_;simp only[go_sem];rcases hy with⟨k7,hw⟩ | ⟨k8,hw,hd⟩
 ·obtain⟨y0,y1,ey⟩:∃a b,y.W=[a,b]:=by
   match h:y.W,hw with
   |[a,b],_=>exact⟨a,b,rfl⟩
  rw[ey]at cy;obtain⟨idy,q1,rfl,q3⟩:=cy.two;have e:decide (y.K=7)=true:=dEt k7;simp only[e,go_sem,Q1,WS,q3];refine lsA ?_;have q4:=jC (o:=[qA.row 2 [y1.enc] true]) (jC (o:=[qA.row 1 [AV.int .i64 x.V] true]) q3);have hl:=qZ q3;have eo:opC x y=⟨8,y.L,y.V,[x.V],[y1]⟩:=by unfold opC;rw[iP k7,ey];rfl
  have MA:=(M.app [qA.row 1 [AV.int .i64 x.V] true]).app [qA.row 2 [y1.enc] true];have o0:ow h.length=0:=M.b;have o1:ow (h.length+1)=0:=by have:=(M.app [qA.row 1 [AV.int .i64 x.V] true]).b;simpa using this
  simp only[go_sem,Q1,q4];refine XH (SCall.mono (ZN MA hf hc.choose_spec (c':=⟨8,y.L,y.V,[x.V],[y1]⟩) (v:=cE ⟨8,y.L,y.V,[x.V],[y1]⟩ (sQ 1 h.length 1) (.slice 2 (h++[qA.row 1 [AV.int .i64 x.V] true]).length 0 1 false)) (T:=λj=>j=h.length\/j=h.length+1) (λj t=>by rcases t with t | t<;>rw[t]<;>simp[o0,o1]) ?_) ?_)
  ·exact⟨_,_,rfl,.inr ⟨h.length,.inl rfl,rfl,jC ends⟩,.inr ⟨(h++[qA.row 1 [AV.int .i64 x.V] true]).length,.inr (by simp),rfl,ends⟩⟩
  rintro r h1 ⟨rfl,ow1,M1,f1,_⟩;rw[<-eo]at M1;have F1:Fo ow h ow1 h1:=⟨by have:=f1.l;simp at this;omega,λj hj q=>by
   obtain⟨a,b⟩:=f1.k j (by simp;omega) q (by omega);refine⟨a,b.trans ?_⟩;rw[gAl (by simp;omega),gAl hj]⟩
  obtain⟨q5,q6⟩:=F1.at q3 q1;refine⟨⟨J6 (id:=idy) (j:=0) (k:=0) (v:=y0.enc) (by simp only[go_sem]) (by simp only[go_sem]) (by rw[q5];rfl) (by unfold qE.enc;exact trivial),trivial⟩, ?_⟩;simp only[go_sem];refine qI QS ?_;simp only[go_sem];have eM:ju m x y=(qR m (opC x y),[⟨y0,awI (k:Nat)⟩]):=by unfold ju;rw[ey,hf];rfl
  rw[eM];exact⟨ow1,M1.app _,F1.trans (Fo.app _),.inr ⟨h1.length,M1.b,rfl,ends⟩⟩
 ·obtain⟨y0,ey⟩:∃a,y.W=[a]:=⟨_,Z3 hw⟩;obtain⟨d0,ed⟩:∃a,y.D=[a]:=by
   match h:y.D,hd with
   |[a],_=>exact⟨a,rfl⟩
  rw[ey]at cy;rw[ed]at dy;obtain⟨idy,q1,rfl,q3⟩:=cy.one;obtain⟨idd,p1,rfl,p3⟩:=dy.one;have e:decide (y.K=7)=false:=dEf (by omega);simp only[e,go_sem,J9,p3,qQ];refine qI qiO ?_;have eo:opC x y=⟨6,0,opI y.V d0 x.V,[],[]⟩:=by unfold opC;rw[iN (by omega),ed];rfl
  simp only[go_sem,jm,J9,q3,List.set_cons_succ,lSz];refine XH (SCall.mono (Vt M hf hc ⟨6,0,opI y.V d0 x.V,[],[]⟩ rfl rfl) ?_);rintro r h1 ⟨rfl,ow1,M1,F1⟩;rw[<-eo]at M1;obtain⟨q5,q6⟩:=F1.at q3 q1;refine⟨⟨J6 (id:=idy) (j:=0) (k:=0) (v:=y0.enc) (by simp only[go_sem]) (by simp only[go_sem]) (by rw[q5];rfl) (by unfold qE.enc;exact trivial),trivial⟩, ?_⟩;simp only[go_sem];refine qI QS ?_;simp only[go_sem];have eM:ju m x y=(qR m (opC x y),[⟨y0,awI (k:Nat)⟩]):=by unfold ju;rw[ey,hf];rfl
  rw[eM];exact⟨ow1,M1.app _,F1.trans (Fo.app _),.inr ⟨h1.length,M1.b,rfl,ends⟩⟩
end
section
variable {h:List qA} {dv pv:AV} {x:qB}
theorem s864(d1:Cv h dv (lQ x.D))(p1:QB (some pv)=some (iI (x.P.length:Nat)))(hp:0<x.P.length)(hp2:x.P.length<=1000)(hd:x.D.length<=1000000):
  SCall Gm 864 [.agg [iI x.K,iI x.L,iI x.V,dv,pv]] h (λv h'=>Up (λ_=>False) h h'/\CV (λj=>h.length<=j) h' v ⟨x.K,x.L,x.V,x.D,List.replicate (x.P.length-1) w0⟩):=by
 refine sI F864 ?_;simp only[F864,qM,go_sem];refine qa rfl ?_;have ew:IntKind.i64.wrap ((x.P.length:Int)-1)=((x.P.length-1:Nat):Int):=by rw[wsA];omega
 simp only[go_sem,p1,ew];refine XG (vs':=[lQ x.D]) (Cvs.cons d1 .nil) (VJ x.D (by omega)) ?_;rw[Zk];simp only[go_sem];refine Jc (by unfold LIM;omega) ?_;simp only[go_sem];refine lsA ?_;simp only[go_sem];refine⟨(Up.app _).trans (Up.app _) (λj _ q=>q),_,_,rfl,.inr ⟨h.length,nLr _,by rw[lMp],jC ends⟩,.inr ⟨(h++[qA.row 1 (x.D.map qQ) true]).length,by simp,by simp, ?_⟩⟩;rw[ends,List.map_replicate];rfl
end
section
variable {w mid cid k s:Nat} {post cs:List AV} {ow:Nat->Nat} {h h':List qA} {m:qG} {rv dv:AV} {c:qF} {x:qE}
theorem MO.setWel{id:Nat}(M:MO w mid post ow h m cid cs rv)(hc:m.C[k]?=some c)(hk:cs[k]?=some (cE c dv (sQ 2 id c.W.length)))(hd:LsW (λj=>ow j=k+3) 1 h dv (c.D.map qQ))(hid:ow id=k+3)(hrow:h[id]?=some (.row 2 (c.W.map qE.enc) true)):
  ∃ow',MO w mid post ow' (h.set id (.row 2 ((c.W.set s x).map qE.enc) true)) {m with C:=m.C.set k {c with W:=c.W.set s x}} cid cs rv/\Fo ow h ow' (h.set id (.row 2 ((c.W.set s x).map qE.enc) true)):=by
 have ecs:cs.set k (cE c dv (sQ 2 id c.W.length))=cs:=by
  refine List.ext_getElem? λj=>?_;by_cases e:j=k
  ·subst e;rw[gSs (qZ hk),hk]
  ·rw[gSn (Ne.symm e)]
 have hne:cid≠id:=λe=>by subst e;rw[M.c1]at hid;omega
 have M1:=M.cell (h':=h.set id (.row 2 ((c.W.set s x).map qE.enc) true)) (v':=cE c dv (sQ 2 id c.W.length)) (c':={c with W:=c.W.set s x}) (λj=>ow j=k+3) hc (by rw[ecs,sne hne];exact M.c) (by simp) (λj hj h0 hcj hn=>sne λe=>hn (by rw[e];exact hid)) (λj t=>⟨by rw[lLs];exact M.b j (by omega),.inr (.inr t)⟩) ⟨dv,_,rfl,hd.imp (λq=>q) (λ⟨d,a1,a2,a3⟩=>⟨d,a1,a2,by rw[sne λe=>by subst e;rw[hrow]at a3;cases a3];exact a3⟩),.inr ⟨id,hid,by simp,gSs (qZ hrow)⟩⟩;rw[ecs]at M1;exact⟨_,M1,qCL (λj hj h0 _=>sne λe=>by subst e;omega) (by simp) (λj t _=>t)⟩
theorem s866{tid a n:Nat}{kl:List Nat}(M:MH w mid post ow h m)(hc:m.C[k]?=some c)(hs:s<c.W.length)(hcl:c.W.length<=1000000)(hk:kl[a]?=some k)(ht:h[tid]?=some (.row 1 (kl.map λk:Nat=>AV.int .i64 (k:Nat)) true))(ot:ow tid=0):
  SCall Gm 866 [.ptr mid 0 0,(pt a (s+1)).enc,x.enc,sQ 1 tid kl.length] h (λ_ h'=>∃ow',MH w mid post ow' h' (qr m (k:Int) (c.W.set s x))/\Fo ow h ow' h'):=by
 obtain⟨cid,cs,rv,M⟩:=M;have hkl:=zP hc;obtain⟨dv,wv,v1,v2,v3⟩:=M.words hc;obtain⟨id,i1,rfl,i3⟩:=v3.full (by rw[lMp];omega);rw[lMp]at v1;refine sI W4 ?_;simp only[W4,qM,go_sem];refine qa rfl ?_;simp only[go_sem];refine qa rfl ?_;have e:decide ((pt a (s+1)).S=0)=false:=dEf (by simp only[pt];omega);have ew:IntKind.i64.wrap ((pt a (s+1)).S-1)=(s:Nat):=by rw[jn (by simp only[pt];omega) (by simp only[pt];omega)];simp only[pt];omega
 simp only[go_sem,e,M.o,show (pt a (s+1)).N=(a:Int)from rfl,qW (qZ hk),ht,gMp,hk,oMs,qW hkl,nZa,M.c,v1,ew,qW hs];refine zx rfl i3 (by rw[gMp,gEg hs];rfl) (Zr (k:=2) rfl rfl ⟨λ_=>⟨_,rfl⟩,λ_=>⟨_,rfl⟩⟩ (by decide)) ?_;obtain⟨ow',M1,F1⟩:=M.setWel (s:=s) (x:=x) hc v1 v2 i1 i3;simp only[go_sem];rw[jv hc];rw[List.map_set]at M1 F1;exact⟨ow',MH.intro M1,F1⟩
end
section
variable {w mid cid k:Nat} {post cs:List AV} {ow ow' ow1 ow2:Nat->Nat} {h h' h1 h2 h3:List qA} {m:qG} {rv v v' dv wv:AV} {c c' x y:qF}
theorem qKN{id i:Nat}{el:List AV}(ho:h[id]?=some (.row 5 el true))(he:el[i]?=some (cE c dv wv))(d1:LsW (λ_=>True) 1 h dv (c.D.map qQ))(w1:LsW (λ_=>True) 2 h wv (c.W.map qE.enc))(hd:c.D.length<=1000000)(hw:c.W.length<=1000000):SCall Gm 924 [.ptr id i 0] h (λv h'=>Up (λ_=>False) h h'/\CV (λj=>h.length<=j) h' v c):=by
 refine sI F924 ?_;simp only[F924,qM,go_sem,ho,he];refine XG (vs':=[lQ c.D]) (Cvs.cons (d1.cv (qb shI.tree _) (by decide)) .nil) (VK c.D (by omega)) ?_;rw[Zk];simp only[go_sem];have el2:Els (h++[qA.row 1 (c.D.map qQ) true]) 2 wv (c.W.map qE.enc):=by
  rcases w1 with⟨rfl,q⟩ | ⟨j,_,rfl,q3⟩
  ·rw[q];exact⟨trivial,rfl⟩
  ·exact Els.row (jC q3) rfl
 refine qEE (ys:=c.W.map qE.enc) el2 (by rw[lMp];omega) ?_;simp only[go_sem];refine lsA ?_;simp only[go_sem];refine⟨(Up.app _).trans (Up.app _) (λj _ q=>q),_,_,rfl,.inr ⟨h.length,nLr _,by rw[lMp],jC ends⟩,.inr ⟨_, ?_,by rw[lMp],ends⟩⟩;simp
end
section
variable {w mid cid k:Nat} {post cs:List AV} {ow ow' ow1 ow2:Nat->Nat} {h h' h1 h2 h3:List qA} {m:qG} {rv v v' dv wv:AV} {c c' x y:qF}
theorem qlI{s:qp}:fil (toE s) 5 [AV.agg [AV.int IntKind.i64 0,AV.int IntKind.i64 0,AV.int IntKind.i64 0,AV.nils,AV.nils]] 0 (some (cE c dv wv)) []=some [cE c dv wv]:=rfl
structure MC(ow:Nat->Nat)(h:List qA)(m:qG)(cid:Nat)(cs:List AV)(rv:AV):Prop where
 c:h[cid]?=some (.row 5 cs true)
 l:cs.length=m.C.length
 e:∀(k:Nat)(c:qF),m.C[k]?=some c->∃v,cs[k]?=some v/\CV (λj=>ow j=k+3) h v c
 r:LsW (λj=>ow j=2) 2 h rv (m.R.map qL.enc)
 c1:ow cid=1
 b:∀j,ow j≠0->j<h.length
theorem MC.mo(M:MC ow h m cid cs rv)(ho:h[mid]?=some (.row w [mE m cid rv post] true))(h0:ow mid=0):MO w mid post (λj=>if j=mid then 1 else ow j) h m cid cs rv where
 o:=ho
 c:=M.c
 l:=M.l
 e:=λk d hd=>by
  obtain⟨u,u1,u2⟩:=M.e k d hd;exact⟨u,u1,u2.mono λj _ q=>⟨by rw[iN (λe=>by subst e;omega)];exact q,rfl⟩⟩
 r:=M.r.mono λj _ q=>⟨by rw[iN (λe=>by subst e;omega)];exact q,rfl⟩
 m1:=iP rfl
 c1:=by rw[iN (λe=>by subst e;have:=M.c1;omega)];exact M.c1
 ne:=λe=>by subst e;have:=M.c1;omega
 b:=λj hj=>by
  by_cases e:j=mid
  ·rw[e];exact qZ ho
  ·rw[iN e]at hj;exact M.b j hj
theorem MC.heap(M:MC ow h m cid cs rv)(hlen:h.length<=h'.length)(hh:∀j,j<h.length->ow j≠0->h'[j]?=h[j]?):MC ow h' m cid cs rv where
 c:=by rw[hh cid (qZ M.c) (by rw[M.c1];decide)];exact M.c
 l:=M.l
 e:=λk d hd=>by
  obtain⟨u,u1,u2⟩:=M.e k d hd;exact⟨u,u1,u2.mono λj hj q=>⟨q,hh j hj (by omega)⟩⟩
 r:=M.r.mono λj hj q=>⟨q,hh j hj (by omega)⟩
 c1:=M.c1
 b:=λj hj=>nLl (M.b j hj) hlen
theorem Up.eq{S:Nat->Prop}{j:Nat}(u:Up S h h1)(hj:j<h.length)(n:¬S j):h1[j]?=h[j]?:=by
 rw[gEg hj];exact u.at (gEg hj) n
def owN(ow:Nat->Nat)(lo hi id k:Nat)(j:Nat):Nat:=if j=id then 1 else if lo<=j/\j<hi then k+3 else if ow j=1 then 0 else ow j
end
section
variable {w mid cid k s b:Nat} {post cs:List AV} {ow:Nat->Nat} {h h':List qA} {m:qG} {rv dv:AV} {c:qF} {x:qE} {lev:Int} {n:qD} {P:List qE} {O:Nat->Bool} {ks vs:List Nat}
theorem MO.stoWe{E:Ev}{l:List qC}{fs:List Fr1}{s' l':qp}{Q:qi->VSt->Prop}{id:Nat}(M:MO w mid post ow h m cid cs rv)(hc:m.C[k]?=some c)(hs:s<c.W.length)(v1:cs[k]?=some (cE c dv (sQ 2 id c.W.length)))
  (v2:LsW (λj=>ow j=k+3) 1 h dv (c.D.map qQ)) (i1:ow id=k+3) (i3:h[id]?=some (.row 2 (c.W.map qE.enc) true))
  (hr:∀ow' h',MH w mid post ow' h' (qr m (k:Int) (c.W.set s x))->Fo ow h ow' h'->R E (.ops l::fs) ⟨s',l',h'⟩ Q):Sto E 2 (some (.ptr id s 0)) (some x.enc) l fs ⟨s',l',h⟩ Q:=by
 refine zx rfl i3 (by rw[gMp,gEg hs];rfl) (Zr (k:=2) rfl rfl ⟨λ_=>⟨_,rfl⟩,λ_=>⟨_,rfl⟩⟩ (by decide)) ?_;obtain⟨ow',M1,F1⟩:=M.setWel (s:=s) (x:=x) hc v1 v2 i1 i3;rw[List.map_set]at M1 F1;refine hr ow' _ ?_ F1;rw[jv hc];exact MH.intro M1
theorem FoT.up{T:Nat->Prop}{ow':Nat->Nat}{h1 h2:List qA}(u:Up (λ_=>False) h h1)(f:FoT T ow h1 ow' h2)(n:∀j,T j->h.length<=j):Fo ow h ow' h2:=⟨nLt u.1 f.l,λj hj q=>by
 obtain⟨a,b⟩:=f.k j (nLl hj u.1) q λt=>by have:=n j t;omega
 exact⟨a,b.trans (u.eq hj id)⟩⟩
theorem Wv{N:List qB}{T:qH->qE}{D:qH->Bool}{i:Nat}{x:qB}{Mv:qG}(M:MH w mid post ow h (ovM Mv (gkw ks (dW N T D))))(nd:ks.Nodup)(hk:ks[i]?=some k)(hc:Mv.C[k]?=some c)(hx:N[i+1]?=some x)(hs:s+1<x.P.length):
  ∃cid cs rv dv id,h[mid]?=some (.row w [mE (ovM Mv (gkw ks (dW N T D))) cid rv post] true)/\h[cid]?=some (.row 5 cs true)/\cs[k]?=some (cE c dv (sQ 2 id (x.P.length-1)))/\k<(ovM Mv (gkw ks (dW N T D))).C.length/\
   ∀(E:Ev)(l:List qC)(fs:List Fr1)(s' l':qp)(Q:qi->VSt->Prop),(∀ow' h',MH w mid post ow' h' (ovM Mv (gkw ks (dW N T (zk D (pt (i+1) (s+1))))))->Fo ow h ow' h'->R E (.ops l::fs) ⟨s',l',h'⟩ Q)->Sto E 2 (some (.ptr id s 0)) (some (T (pt (i+1) (s+1))).enc) l fs ⟨s',l',h⟩ Q:=by
 obtain⟨cid,cs,rv,M⟩:=M;have hat:=qCG (f:=dW N T D) nd hk hc;have hl:=qF7 (T:=T) (D:=D) hx;obtain⟨dv,wv,v1,v2,v3⟩:=M.words hat;obtain⟨id,i1,rfl,i3⟩:=v3.full (by rw[lMp];simp only;omega);rw[lMp]at v1;refine⟨cid,cs,rv,dv,id,M.o,M.c,by rw[<-hl];exact v1,zP hat,λE l fs s' l' Q hr=>?_⟩;refine M.stoWe hat (s:=s) (by simp only;omega) v1 v2 i1 i3 λow' h' M' F'=>hr ow' h' ?_ F';have:=qJQ (T:=T) (D:=D) nd hk hc hx hs;rw[<-this];exact M'
theorem MH.b'{j:Nat}(M:MH w mid post ow h m)(q:ow j≠0):j<h.length:=by
 obtain⟨cid,cs,rv,M⟩:=M;exact M.b j q
def ZS(N:List qB)(b:Nat)(ks:List Nat):qE:=if (qK N (pt 0 0)).S=0 then aW (atF b ks (qK N (pt 0 0)).N.toNat)else aW b
theorem qAJ{a s c t:Nat}:bef (pt a s) (pt c t)=true↔a<c\/(a=c/\s<t):=by
 simp only[bef,pt,Bool.or_eq_true,bAt,dTe];omega
structure PlcI(N:List qB)(rt:Bool)(lev:Int)(m:qG)(V:Nat->qG)(ks vs:List Nat)(T:qH->qE)(e Rw:qE):Prop where
 kl:ks.length=N.length-1
 nd:ks.Nodup
 at':∀i,i<=N.length-1->(tkA lev N m i).2=nI2 (ks.take i)
 a:∀i,i<N.length-1->∃(f:Nat)(d:qF),(tkA lev N m i).1.F=(f:Int)/\(tkA lev N m i).1.C[f]?=some d
 v0:(tkA lev N m (N.length-1)).1=V 0
 cell:∀q i k x,q<=jO N rt->ks[i]?=some k->N[i+1]?=some x->(V q).C[k]?=some (agC lev x)
 var:∀q (f:Nat->List qE),q<jO N rt->∃v:Nat,vs[q]?=some v/\(V q).F=(v:Int)/\(∃d,(ovM (V q) (gkw ks f)).C[v]?=some d)/\qR (ovM (V q) (gkw ks f)) (qX [])=ovM (V (q+1)) (gkw ks f)
 rx:(V (jO N rt)).R=m.R
 t1:∀(p:qH)(a k:Nat),p∈qO N->0<p.S->qK N p=pt (a+1) 0->ks[a]?=some k->T p=aW k
 t2:∀(i:Nat)(w:zN)(v:Nat),((qq N).filter (qv rt))[i]?=some w->vs[i]?=some v->(0<w.A.S->T w.A=vW v)/\T w.B=vW v/\(w.A=pt 0 0->Rw=vW v)
 te:∀c t:Nat,qK N (pt 0 0)=pt (c+1) (t+1)->(rt=false->e.T≠0/\T (pt (c+1) (t+1))=e/\Rw=e)/\(rt=true->e.T=0)
 r0:∀c k:Nat,qK N (pt 0 0)=pt (c+1) 0->ks[c]?=some k->Rw=aW k
theorem qKG{rt:Bool}{V:Nat->qG}{T:qH->qE}{ew Rw:qE}(M:MH w mid post ow h m)(hz:n.sz<=1048576)(ok:qk n=true)(hl:0<=lev/\lev<=8)(X:PlcI n.G rt lev m V ks vs T ew Rw)(hrx:m.R.length+n.G.length<=1000000):
  SCall Gm 1176 [.ptr mid 0 0,.ept n.enc 0,iI lev,ew.enc] h (λv h'=>v=Rw.enc/\∃ow',MH w mid post ow' h' (jF (ovM (V (jO n.G rt)) (gkw ks (fW n.G T))) (zX n.G b ks))/\Fo ow h ow' h'):=by
 have hkl:=X.kl;have hn:=jf ok;refine sI Ud ?_;simp only[Ud,qM,go_sem];refine qa rfl ?_;simp only[go_sem];have hnz:n.G.length<=1048576:=by unfold qD.sz at hz;omega
 refine Sem.loop (λa:Nat×(Nat->Nat)×AV×List qA=>a.1+1<=n.G.length/\MH w mid post a.2.1 a.2.2.2 (tkA lev n.G m a.1).1/\Fo ow h a.2.1 a.2.2.2/\LsW (λj=>a.2.1 j=0/\h.length<=j) 1 a.2.2.2 a.2.2.1 ((-1::(tkA lev n.G m a.1).2).map qQ))
  (λa=>(⟨[(0,.ptr mid 0 0),(1,.ept n.enc 0),(2,iI lev),(9,a.2.2.1),(10,iI (a.1+1:Nat))],[(7,ew.enc),(8,.agg [iI 0,iI 0])],a.2.2.2⟩:VSt)) (λa=>n.G.length-a.1)
  (0,ow,sQ 1 h.length 1,h++[.row 1 [iI (-1)] true]) (by kernel_rfl) ⟨by simp only;omega,M.app _,Fo.app _,.inr ⟨h.length,⟨M.b,nLr _⟩,rfl,ends⟩⟩ csA ?_
 rintro⟨i,ow2,v,h2⟩ ⟨hi,M2,F2,L2⟩;simp only at hi M2 F2 L2;simp only[go_sem];by_cases hlt:i+1<n.G.length
 case neg=>
  have e:decide (((i+1:Nat):Int)<(n.G.length:Nat))=false:=dEf (by omega);obtain rfl:i=n.G.length-1:=by omega
  simp only[e,go_sem];rw[X.at' _ (nLr _),tOl (by omega)]at L2;rw[X.v0]at M2;obtain⟨tid,⟨t1,t2⟩,rfl,t3⟩:=L2.full (by simp);have el:((-1::nI2 ks).map qQ).length=n.G.length:=by simp[nI2];omega
  rw[el];refine lsA ?_;simp only[go_sem];refine qI (c569 hz ok) ?_;simp only[go_sem];have hwl:=W1 hz;refine Sem.loop (λa:Nat×(Nat->Nat)×qE×List qA=>a.1<=(qq n.G).length/\MH w mid post a.2.1 a.2.2.2 (ovM (V (((qq n.G).take a.1).countP (qv rt))) (gkw ks (dW n.G T (onW ((qq n.G).take a.1)))))/\Fo ow h a.2.1 a.2.2.2/\a.2.2.2[tid]?=some (.row 1 ((-1::nI2 ks).map qQ) true)/\a.2.1 tid=0/\(onW ((qq n.G).take a.1) (pt 0 0)=true->a.2.2.1=Rw))
   (λa=>(⟨[(0,.ptr mid 0 0),(1,.ept n.enc 0),(9,sQ 1 tid n.G.length),(15,.lst 4 ((qq n.G).map zN.enc) false),(16,iI (a.1:Nat))],[(14,a.2.2.1.enc),(7,ew.enc),(8,.agg [iI 0,iI 0])],a.2.2.2⟩:VSt)) (λa=>(qq n.G).length-a.1)
   (0,ow2,w0,h2) (by kernel_rfl) ⟨nZl _, ?_,F2,t3,t1,λz=>by cases z⟩ (Can.sub (by simp[go_sem]) (by simp[go_sem];rfl)) ?_
  ·simp only[List.take_zero,List.countP_nil,qI3];rw[qCH (lev:=lev) X.nd (by omega) λj k x h1 h2=>X.cell 0 j k x (nZl _) h1 h2];exact M2
  rintro⟨j,ow3,r,h3⟩ ⟨hj,M3,F3,r3,o3,z3⟩;simp only at hj M3 F3 r3 o3 z3;simp only[go_sem];by_cases hjl:j<(qq n.G).length
  case neg=>
   have e2:decide ((j:Int)<((qq n.G).length:Nat))=false:=dEf (by omega);simp only[e2,go_sem];have hW:=wR ok;have epr:dW n.G T (onW (qq n.G))=fW n.G T:=qA7 λa s h1 _ _=>qI2 hW (jB.2 ⟨a,s,rfl,h1⟩);have enn:(qq n.G).countP (qv rt)=jO n.G rt:=rfl;obtain rfl:j=(qq n.G).length:=by omega
   rw[lTl]at M3 z3;rw[epr,enn]at M3;have hr:=z3 (qI2 hW (jB.2 ⟨0,0,rfl,by obtain⟨_,_,_,e,_⟩:=Jy ok;exact⟨_,e⟩⟩));have hr:=hr.symm;subst hr;refine qI (c742 hz λx hx h0=>by obtain⟨k,hk⟩:=List.getElem?_of_mem hx;exact(Je (Jd ok hk)).2) ?_;simp only[go_sem];generalize hM:ovM (V (jO n.G rt)) (gkw ks (fW n.G T))=MV at*;have hrx2:MV.R=m.R:=by rw[<-hM];exact X.rx
   have hpl:=ZI n.G (n.G.length-1);have hpt:(zX n.G b ks).length=(qu n.G (n.G.length-1)).length:=by simp[zX]
   refine Sem.loop (λa:Nat×(Nat->Nat)×List qA=>a.1<=(qu n.G (n.G.length-1)).length/\MH w mid post a.2.1 a.2.2 (jF MV ((zX n.G b ks).take a.1))/\Fo ow h a.2.1 a.2.2/\a.2.2[tid]?=some (.row 1 ((-1::nI2 ks).map qQ) true)/\a.2.1 tid=0)
    (λa=>(⟨[(0,.ptr mid 0 0),(9,sQ 1 tid n.G.length),(21,.lst 2 ((qu n.G (n.G.length-1)).map qL.enc) false),(22,iI (a.1:Nat))],[(14,(Rw).enc),(8,.agg [iI 0,iI 0])],a.2.2⟩:VSt)) (λa=>(qu n.G (n.G.length-1)).length-a.1)
    (0,ow3,h3) (by kernel_rfl) ⟨nZl _,M3,F3,r3,o3⟩ csA ?_
   rintro⟨i,ow4,h4⟩ ⟨hi,M4,F4,r4,o4⟩;simp only at hi M4 F4 r4 o4;simp only[go_sem];by_cases hil:i<(qu n.G (n.G.length-1)).length
   case neg=>
    have e3:decide ((i:Int)<((qu n.G (n.G.length-1)).length:Nat))=false:=dEf (by omega);simp only[e3,go_sem];refine lsA ?_;simp only[go_sem];rw[tOl (by omega)]at M4;exact⟨trivial,ow4,M4,F4⟩
   have e3:decide ((i:Int)<((qu n.G (n.G.length-1)).length:Nat))=true:=dEt (by omega);have hx:=gEg hil;generalize (qu n.G (n.G.length-1))[i]=p at hx;obtain⟨a,c,rfl,ha,hc⟩:=Va ok (lMo hx);have ha2:=gEg (show a<ks.length by omega);generalize ks[a]=ka at ha2;have hc2:=gEg (show c<ks.length by omega);generalize ks[c]=kc at hc2;have a2:((-1::nI2 ks).map qQ)[a+1]?=some (iI (ka:Nat)):=by simp[nI2,ha2,qQ]
   have c2:((-1::nI2 ks).map qQ)[c+1]?=some (iI (kc:Nat)):=by simp[nI2,hc2,qQ]
   have et:(zX n.G b ks).take (i+1)=(zX n.G b ks).take i++[(ka,kc)]:=by
    rw[tA1,zX,gMp,hx];simp only[oMs,Option.toList_some,iTn,J1 ha2,J1 hc2]
   simp only[e3,gMp,hx,oMs,go_sem,qW ha,qW hc,nZa,r4,a2,c2];refine qj (SCall.mono (Vq M4 (by rw[Wo,lLt,hrx2];omega)) ?_);rintro _ h5 ⟨ow5,M5,F5⟩;simp only[go_sem,wuA (n:=i)];rw[<-Xw,<-et]at M5;exact qd (i+1,ow5,h5) ⟨by simp only;omega,M5,F4.trans F5,(F5.at r4 o4).1,(F5.at r4 o4).2⟩ (by simp only;omega) csA
  have e2:decide ((j:Int)<((qq n.G).length:Nat))=true:=dEt (by omega);have hx:=gEg hjl;generalize (qq n.G)[j]=x at hx;have et:(qq n.G).take (j+1)=(qq n.G).take j++[x]:=by rw[tA1,hx];rfl
  have ec:=qA2 (p:=qv rt) hx;obtain⟨x1,x2,x3⟩:=qDH.1 (lMo hx);have hW:=wR ok;obtain⟨q1,q2,q3⟩:=zu hW x1;rw[<-x2]at q1 q2 q3;obtain⟨A,B⟩:=x;simp only at x1 x2 x3 q1 q2 q3 ec;obtain⟨a,s,rfl,hs⟩:=jB.1 x1;obtain⟨c,t,rfl,ht⟩:=jB.1 q1;obtain⟨y,y1,y2⟩:=jI.1 hs;obtain⟨z,z1,z2⟩:=jI.1 ht;obtain⟨c,rfl⟩:∃c',c=c'+1:=by
   refine⟨c-1, ?_⟩;have h1:=qAJ.1 x3;by_cases h0:c=0
   ·subst h0;have:=Jh ok z1;omega
   ·omega
  have hk:∀(i:Nat)(x:qB),n.G[i+1]?=some x->∃k,ks[i]?=some k/\((-1::nI2 ks).map qQ)[i+1]?=some (iI (k:Nat))/\∀q,q<=jO n.G rt->(V q).C[k]?=some (agC lev x):=λi x h1=>by
   have h2:=qZ h1;have h3:=gEg (show i<ks.length by omega);refine⟨_,h3,by simp[nI2,h3,qQ],λq hq=>?_⟩;exact X.cell q i _ x hq h3 h1
  have hpl:∀(i:Nat)(x:qB),n.G[i]?=some x->x.P.length<=1048576:=λi x h1=>by
   have h2:x.sz<=1048576:=by have:=jr (f:=qB.sz) (lMo h1);unfold qD.sz at hz;omega
   unfold qB.sz at h2;omega
  have hzl:=hpl _ z z1;have hyl:=hpl _ y y1;have hcl:=qZ z1;have hal:=qZ y1;obtain⟨kc,c1,c2,c3⟩:=hk c z z1;have nzI:∀k:Nat,¬((k:Int)+1=0):=λk=>by omega
  have nz:∀k:Nat,decide (((k+1:Nat):Int)=0)=false:=λk=>dEf (by omega);have pz:∀k:Nat,decide (0<((k+1:Nat):Int))=true:=λk=>dEt (by omega);have z0:decide (((0:Nat):Int)=0)=true:=rfl;have z1':decide (0<((0:Nat):Int))=false:=rfl;have sw:∀t:Nat,t<1048576->IntKind.i64.wrap (((t+1:Nat):Int)-1)=(t:Nat):=λt ht=>by rw[wsA];omega
  simp only[e2,gMp,hx,oMs,go_sem];refine lsA ?_;simp only[gMp,hx,oMs,go_sem];refine lsA ?_;simp only[go_sem];refine lsA ?_;simp only[go_sem];refine lsA ?_;simp only[go_sem];have hA:=x1;have hB:=q1;have eo:onW ((qq n.G).take (j+1))=zk (zk (onW ((qq n.G).take j)) (pt a s)) (pt (c+1) t):=by rw[et,qI4]
  have hvn:((qq n.G).take j).countP (qv rt)<=jO n.G rt:=List.Sublist.countP_le (List.take_sublist _ _);have e0:∀a:Nat,onW ((qq n.G).take j) (pt 0 0)=zk (zk (onW ((qq n.G).take j)) (pt (a+1) s)) (pt (c+1) t) (pt 0 0):=λa=>by
   have h1:pt 0 0≠pt (a+1) s:=λq=>by have:=(QE.1 q).1;omega
   have h2:pt 0 0≠pt (c+1) t:=λq=>by have:=(QE.1 q).1;omega
   simp[zk,h1,h2]
  generalize hD:onW ((qq n.G).take j)=D at*;generalize hq:((qq n.G).take j).countP (qv rt)=q at*;rcases a with _ | a
  ·have hs0:s=0:=by have:=Jh ok y1;omega
   subst hs0;rcases t with _ | t
   ·simp only[nz,pz,z0,z1',go_sem,qW hcl,nZa,r3,c2];refine lsA ?_;simp only[go_sem,wuA (n:=j)];have ec2:((qq n.G).take (j+1)).countP (qv rt)=q:=by rw[ec];simp[qv,pt,nzI]
    refine qd (j+1,ow3,aW kc,h3) ⟨by simp only;omega, ?_,F3,r3,o3,λ_=>?_⟩ (by simp only;omega) (Can.sub (by simp[go_sem]) (by simp[go_sem];rfl))
    ·simp only[eo,ec2];rw[WL (.inr rfl),WL (.inl rfl)];exact M3
    ·exact(X.r0 c kc x2.symm c1).symm
   ·simp only[nz,pz,z0,z1',go_sem,qW hcl,nZa,r3,c2];refine lsA ?_;obtain⟨te0,te1⟩:=X.te c t x2.symm;rcases Bool.eq_false_or_eq_true rt with hrt | hrt
    case inr=>
     obtain⟨tg,hTc,hR⟩:=te0 hrt;have tg:decide (ew.T=0)=false:=dEf tg;obtain⟨cid,cs,rv,dv,id,s1,s2,s3,s4,st⟩:=Wv M3 X.nd c1 (c3 q hvn) z1 z2;rw[hTc]at st;simp only[tg,nz,pz,z0,z1',go_sem,s1,s2,s3,qW hcl,r3,c2,nZa,qW s4,sw t (by omega),qW (show t<z.P.length-1 by omega)];refine st _ _ _ _ _ _ λow4 h4 M4 F4=>?_;simp only[go_sem,wuA (n:=j)];have ec2:((qq n.G).take (j+1)).countP (qv rt)=q:=by rw[ec];simp[qv,pt,hrt]
     refine qd (j+1,ow4,ew,h4) ⟨by simp only;omega, ?_,F3.trans F4,(F4.at r3 o3).1,(F4.at r3 o3).2,λ_=>hR.symm⟩ (by simp only;omega) csA;simp only[eo,ec2];rw[qA8 (.inl rfl)];exact M4
    case inl=>
     have tg:decide (ew.T=0)=true:=dEt (te1 hrt);have ei:qv rt ⟨pt 0 0,pt (c+1) (t+1)⟩=true:=by
      have:0<(t:Int)+1:=by omega
      simp[qv,pt,hrt,this]
     have hi1:((qq n.G).filter (qv rt))[q]?=some ⟨pt 0 0,pt (c+1) (t+1)⟩:=by rw[<-hq];exact qBL hx ei
     have hqn:q<jO n.G rt:=by have:=qZ hi1;rw[<-List.countP_eq_length_filter]at this;exact this
     obtain⟨v,v1,v2,⟨d,v3⟩,v4⟩:=X.var q (dW n.G T D) hqn;obtain⟨_,hTc,hR⟩:=X.t2 q _ v hi1 v1;simp only at hTc hR;simp only[tg,go_sem];refine qj (SCall.mono (Vs M3 v2 v3) ?_);rintro _ h4 ⟨rfl,ow4,M4,F4,l4⟩;rw[v4]at M4;obtain⟨r4,o4⟩:=F4.at r3 o3;simp only[go_sem];refine lsA ?_;obtain⟨cid,cs,rv,dv,id,s1,s2,s3,s4,st⟩:=Wv M4 X.nd c1 (c3 (q+1) hqn) z1 z2;rw[hTc]at st;simp only[nz,pz,z0,z1',go_sem,s1,s2,s3,qW hcl,r4,c2,nZa,qW s4,sw t (by omega),qW (show t<z.P.length-1 by omega)];refine st _ _ _ _ _ _ λow5 h5 M5 F5=>?_;obtain⟨r5,o5⟩:=F5.at r4 o4;simp only[go_sem,wuA (n:=j)];have ec2:((qq n.G).take (j+1)).countP (qv rt)=q+1:=by rw[ec,iP ei]
     refine qd (j+1,ow5,vW v,h5) ⟨by simp only;omega, ?_,(F3.trans F4).trans F5,r5,o5,λ_=>(hR trivial).symm⟩ (by simp only;omega) (Can.sub (by simp[go_sem]) (by simp[go_sem];rfl));simp only[eo,ec2];rw[qA8 (.inl rfl)];exact M5
  obtain⟨ka,a1,a2,a3⟩:=hk a y y1;rcases s with _ | s
  ·rcases t with _ | t
   ·simp only[nz,pz,z0,z1',go_sem,qW hcl,qW hal,nZa,r3,c2,a2];simp only[go_sem,wuA (n:=j)];have ec2:((qq n.G).take (j+1)).countP (qv rt)=q:=by rw[ec];simp[qv,pt,nzI]
    refine qd (j+1,ow3,r,h3) ⟨by simp only;omega, ?_,F3,r3,o3,λz=>z3 ?_⟩ (by simp only;omega) csA
    ·simp only[eo,ec2];rw[WL (.inr rfl),WL (.inr rfl)];exact M3
    ·simp only[eo]at z;rw[e0 a];exact z
   ·simp only[nz,pz,z0,z1',go_sem,qW hcl,qW hal,nZa,r3,c2,a2];refine lsA ?_;have hTc:T (pt (c+1) (t+1))=aW ka:=by
     exact X.t1 _ a ka q1 (by simp only[pt];omega) q2 a1
    obtain⟨cid,cs,rv,dv,id,s1,s2,s3,s4,st⟩:=Wv M3 X.nd c1 (c3 q hvn) z1 z2;rw[hTc]at st;simp only[nz,pz,z0,z1',go_sem,s1,s2,s3,qW hcl,r3,c2,nZa,qW s4,sw t (by omega),qW (show t<z.P.length-1 by omega)];refine st _ _ _ _ _ _ λow4 h4 M4 F4=>?_;simp only[go_sem,wuA (n:=j)];have ec2:((qq n.G).take (j+1)).countP (qv rt)=q:=by rw[ec];simp[qv,pt,nzI]
    refine qd (j+1,ow4,r,h4) ⟨by simp only;omega, ?_,F3.trans F4,(F4.at r3 o3).1,(F4.at r3 o3).2,λz=>z3 ?_⟩ (by simp only;omega) csA
    ·simp only[eo,ec2];rw[qA8 (.inr rfl)];exact M4
    ·simp only[eo]at z;rw[e0 a];exact z
  ·rcases t with _ | t
   ·simp only[nz,pz,z0,z1',go_sem,qW hcl,qW hal,nZa,r3,c2,a2];refine lsA ?_;have hTa:T (pt (a+1) (s+1))=aW kc:=by
     exact X.t1 _ c kc hA (by simp only[pt];omega) x2.symm c1
    obtain⟨cid,cs,rv,dv,id,s1,s2,s3,s4,st⟩:=Wv M3 X.nd a1 (a3 q hvn) y1 y2;rw[hTa]at st;simp only[nz,pz,z0,z1',go_sem,s1,s2,s3,qW hal,r3,a2,nZa,qW s4,sw s (by omega),qW (show s<y.P.length-1 by omega)];refine st _ _ _ _ _ _ λow4 h4 M4 F4=>?_;simp only[nz,pz,z0,z1',go_sem,wuA (n:=j)];have ec2:((qq n.G).take (j+1)).countP (qv rt)=q:=by rw[ec];simp[qv,pt,nzI]
    refine qd (j+1,ow4,r,h4) ⟨by simp only;omega, ?_,F3.trans F4,(F4.at r3 o3).1,(F4.at r3 o3).2,λz=>z3 ?_⟩ (by simp only;omega) csA
    ·simp only[eo,ec2];rw[WL (.inr rfl)];exact M4
    ·simp only[eo]at z;rw[e0 a];exact z
   ·simp only[nz,pz,z0,z1',go_sem,qW hcl,qW hal,nZa,r3,c2,a2];have ei:qv rt ⟨pt (a+1) (s+1),pt (c+1) (t+1)⟩=true:=by simp only[qv,pt,bAt,Bool.or_eq_true,dTe];omega
    have hi1:((qq n.G).filter (qv rt))[q]?=some ⟨pt (a+1) (s+1),pt (c+1) (t+1)⟩:=by rw[<-hq];exact qBL hx ei
    have hqn:q<jO n.G rt:=by have:=qZ hi1;rw[<-List.countP_eq_length_filter]at this;exact this
    obtain⟨v,v1,v2,⟨d,v3⟩,v4⟩:=X.var q (dW n.G T D) hqn;obtain⟨hTa,hTc,_⟩:=X.t2 q _ v hi1 v1;have hTa:=hTa (by simp only[pt];omega);simp only at hTa hTc;refine qj (SCall.mono (Vs M3 v2 v3) ?_);rintro _ h4 ⟨rfl,ow4,M4,F4,l4⟩;rw[v4]at M4;obtain⟨r4,o4⟩:=F4.at r3 o3;simp only[go_sem];refine lsA ?_;simp only[go_sem];refine lsA ?_;obtain⟨cid,cs,rv,dv,id,s1,s2,s3,s4,st⟩:=Wv M4 X.nd a1 (a3 (q+1) hqn) y1 y2;rw[hTa]at st;simp only[nz,pz,z0,z1',go_sem,s1,s2,s3,qW hal,r4,a2,nZa,qW s4,sw s (by omega),qW (show s<y.P.length-1 by omega)];refine st _ _ _ _ _ _ λow5 h5 M5 F5=>?_;obtain⟨r5,o5⟩:=F5.at r4 o4;clear st s1 s2 s3 s4;obtain⟨cid,cs,rv,dv,id,s1,s2,s3,s4,st⟩:=Wv M5 X.nd c1 (c3 (q+1) hqn) z1 z2;rw[hTc]at st;simp only[nz,pz,z0,z1',go_sem,s1,s2,s3,qW hcl,r5,c2,nZa,qW s4,sw t (by omega),qW (show t<z.P.length-1 by omega)];refine st _ _ _ _ _ _ λow6 h6 M6 F6=>?_;simp only[nz,pz,z0,z1',go_sem,wuA (n:=j)];have ec2:((qq n.G).take (j+1)).countP (qv rt)=q+1:=by rw[ec,iP ei]
    refine qd (j+1,ow6,r,h6) ⟨by simp only;omega, ?_,((F3.trans F4).trans F5).trans F6,(F6.at r5 o5).1,(F6.at r5 o5).2,λz=>z3 ?_⟩ (by simp only;omega) csA
    ·simp only[eo,ec2];exact M6
    ·simp only[eo]at z;rw[e0 a];exact z
 have e:decide (((i+1:Nat):Int)<(n.G.length:Nat))=true:=dEt (by omega);have hx:=gEg hlt;generalize n.G[i+1]=x at hx;have ox:=Jd ok hx;have hxz:x.sz<=1048576:=by have:=jr (f:=qB.sz) (lMo hx);unfold qD.sz at hz;omega
 unfold qB.sz at hxz;have hpp:=(Je ox).2;obtain⟨hx8,hx0⟩:=Jw ox;obtain⟨f,d,a1,a2⟩:=X.a i (by omega);simp only[e,gMp,hx,oMs,go_sem];refine J3 (VK x.D (by omega)) ?_;rw[Zk];simp only[go_sem];refine lsA ?_;simp only[go_sem];refine qI qAK ?_;simp only[go_sem];have hw:IntKind.i64.wrap (x.L+lev)=x.L+lev:=wsA;apply qU<;>intro hlv<;>simp only[hlv,go_sem]
 all_goals
  refine Sem.loop (λa:Nat×AV×List qA=>a.1+1<=x.P.length/\Up (λ_=>False) (h2++[qA.row 1 (x.D.map qQ) true]) a.2.2/\LsW (λj=>h2.length+1<=j) 2 a.2.2 a.2.1 ((List.replicate a.1 w0).map qE.enc))
   (λa=>(⟨[(0,.ptr mid 0 0),(1,.ept n.enc 0),(2,iI lev),(9,v),(10,iI (i+1:Nat)),(11,.ept x.enc 0),(13,iI (a.1+1:Nat))],[(12,cE (agC lev x) (sQ 1 h2.length x.D.length) a.2.1),(7,ew.enc),(8,.agg [iI 0,iI 0])],a.2.2⟩:VSt)) (λa=>x.P.length-a.1)
   (0,.nils,h2++[qA.row 1 (x.D.map qQ) true]) (by kernel_rfl) ⟨by simp only;omega,Up.refl,.inl ⟨rfl,rfl⟩⟩ (Can.sub (by simp[go_sem]) (by simp[go_sem,cE,agC,hlv,hw])) ?_
  rintro⟨j,wv,h3⟩ ⟨hj,U3,W3⟩;simp only at hj U3 W3;have hU3:=U3.1;rw[lAp,List.length_singleton]at hU3;simp only[go_sem];by_cases hjl:j+1<x.P.length
  case pos=>
   have e2:decide (((j+1:Nat):Int)<(x.P.length:Nat))=true:=dEt (by omega);simp only[e2,go_sem];refine wc (W3.app _) ends (by rw[lMp,lLr];omega) λh4 u4 w4 l4=>?_;simp only[go_sem];refine VB rfl (qAP rfl) ?_;simp only[go_sem,wuA (n:=j+1)];refine qd (j+1,.slice 2 (h3++[qA.row 2 [AV.agg [AV.int IntKind.i64 0,AV.int IntKind.i64 0]] true]).length 0 ((List.replicate j w0).length+1) false,h4) ⟨by simp only;omega, ?_,.inr ⟨(h3++[qA.row 2 [AV.agg [AV.int IntKind.i64 0,AV.int IntKind.i64 0]] true]).length, ?_,by simp, ?_⟩⟩ (by simp only;omega) csA
   ·refine(U3.trans (Up.app _ (S:=λ_=>False)) (λ_ _ q=>q)).trans u4 λq hq z=>?_;simp only[lAp,List.length_singleton]at hq;have:=z.1;omega
   ·simp;omega
   ·simp only[List.replicate_succ',lMa];exact w4
  have e2:decide (((j+1:Nat):Int)<(x.P.length:Nat))=false:=dEf (by omega);simp only[e2,go_sem];have M3:MH w mid post ow2 h3 (tkA lev n.G m i).1:=(M2.app [qA.row 1 (x.D.map qQ) true]).upf U3 λ_ q=>q.elim;have hb:=λj q=>M2.b' (j:=j) q;have U2:Up (λ_=>False) h2 h3:=(Up.app _).trans U3 λ_ _ q=>q;refine qj (SCall.mono (Ws M3 a1 a2 (c':=agC lev x) (T:=λq=>h2.length<=q/\q<h3.length) (λq z=>⟨z.2,Classical.byContradiction λy=>by have:=hb q y;omega⟩) ⟨_,_,rfl,.inr ⟨h2.length,⟨nLr _,by omega⟩,by rw[lMp];rfl,U3.at ends id⟩, ?_⟩) ?_)
  ·have e3:j=x.P.length-1:=by omega
   subst e3;exact W3.mono λq h5 z=>⟨⟨by omega,h5⟩,rfl⟩
  rintro _ h5 ⟨rfl,ow5,M5,F5,l5⟩;have F6:Fo ow2 h2 ow5 h5:=F5.up U2 λq z=>z.1;have L5:=L2.fo F6;simp only[go_sem];have e4:tkA lev n.G m (i+1)=(qR (tkA lev n.G m i).1 (agC lev x),(tkA lev n.G m i).2++[(f:Int)]):=by rw[tkA,hx];simp only[a1]
  have l6:((-1:Int)::(tkA lev n.G m i).2).length=i+1:=by rw[X.at' i (by omega)];simp[nI2];omega
  refine wc (L5.app _) ends (by rw[lMp];omega) λh6 u6 w6 l7=>?_;simp only[go_sem,wuA (n:=i+1)];refine qd (i+1,ow5,.slice 1 (h5++[qA.row 1 [AV.int .i64 (f:Nat)] true]).length 0 (((-1::(tkA lev n.G m i).2).map qQ).length+1) false,h6) ⟨by simp only;omega, ?_, ?_,.inr ⟨(h5++[qA.row 1 [AV.int .i64 (f:Nat)] true]).length,⟨(M5.app _).b,by simp;have:=(F2.trans F6).l;omega⟩, ?_, ?_⟩⟩ (by simp only;omega) csA
  ·simp only[e4];exact(M5.app _).upf u6 λj q=>q.1.1
  ·exact((F2.trans F6).trans (Fo.app _)).upf u6 λj q=>q.1.2
  ·simp[e4]
  ·simp only[e4];rw[<-lCa,lMa];exact w6
theorem qK8{N:List qB}{i:Nat}:∀{j:Nat},i<=j->(tkA lev N m i).2<+:(tkA lev N m j).2
 | 0,h=>by
  obtain rfl:i=0:=by omega
  exact List.prefix_refl _
 | j+1,h=>by
  by_cases e:i=j+1
  ·rw[e];exact List.prefix_refl _
  ·refine(qK8 (j:=j) (by omega)).trans ?_;rw[tkA];split
   ·exact List.prefix_append _ _
   ·exact List.prefix_refl _
theorem qmC:qv false=j9:=by
 funext x;unfold qv j9;cases decide (0<x.A.S)<;>cases decide (0<x.B.S)<;>simp
theorem qq7{N:List qB}:(qq N).filter (qv false)=qf N/\jO N false=(qf N).length:=by
 rw[jO,qmC];exact⟨rfl,List.countP_eq_length_filter⟩
theorem qp3(M:MH w mid post ow h m)(hz:n.sz<=1048576)(ok:qk n=true)(hl:0<=lev/\lev<=8)(mm:MM m (aW b::P) O)(hC:∀(i:Nat)(x:qB),n.G[i+1]?=some x->qx x.K=true/\∀ws:List qE,ws.length=x.P.length-1->zi {agC lev x with W:=ws})
  (hf:n.G.length-1+(qf n.G).length<=nF m.C) (X:Z9 n lev m b P O ks vs) (hrx:m.R.length+n.G.length<=1000000):
  SCall Gm 1176 [.ptr mid 0 0,.ept n.enc 0,iI lev,(aW b).enc] h (λv h'=>v=(ZS n.G b ks).enc/\∃ow',MH w mid post ow' h' (jF (ovM (tkV (tkA lev n.G m (n.G.length-1)).1 (qf n.G).length).1 (gkw ks (fW n.G (tW n.G b ks vs)))) (zX n.G b ks))/\Fo ow h ow' h'):=by
 obtain⟨I,J,-⟩:=X;have hn:=jf ok;have hW:=wR ok;obtain⟨v1,v2⟩:=qq7 (N:=n.G);have hcell:∀(i:Nat)(x:qB),n.G[i+1]?=some x->qx x.K=true:=λi x hx=>(hC i x hx).1;have T:=Zy (b:=b) (ks:=ks) hW J.len;have key:PlcI n.G false lev m (λq=>(tkV (tkA lev n.G m (n.G.length-1)).1 q).1) ks vs (tW n.G b ks vs) (aW b) (ZS n.G b ks):=by
  refine⟨I.len,I.nd,λi hi=>?_,λi hi=>?_,rfl,λq i k x hq hk hx=>?_,λq f hq=>?_, ?_,λp a k hp h0 h1 h2=>?_,λi w v h1 h2=>?_,λc t h=>⟨λ_=>⟨show (1:Int)≠0 by decide, ?_, ?_⟩,λq=>by cases q⟩,λc k h1 h2=>?_⟩
  ·obtain⟨ks',K⟩:=YB (lev:=lev) mm hcell i (by omega) (by omega);have e:=List.prefix_iff_eq_take.1 (qK8 (lev:=lev) (N:=n.G) (m:=m) (j:=n.G.length-1) hi);rw[I.at',K.at']at e;rw[K.at',e,nI2,nI2,nI2,lMp,K.len,List.map_take]
  ·obtain⟨ks',K⟩:=YB (lev:=lev) mm hcell i (by omega) (by omega);obtain⟨f,d,a1,a2,a3,a4,a5⟩:=wF K.mm (by have:=K.nf;omega);exact⟨f,d,a1,a2⟩
  ·rw[v2]at hq;exact qLA I.mm (by have:=I.nf;omega) (I.cell i k x hk hx) (JZ (hcell i x hx))
  ·rw[v2]at hq;exact qLB (f:=f) I.mm J (by have:=I.nf;omega) hq
  ·simp only[v2];exact J.rx.trans I.rx
  ·rw[T.t1 p hp h0 (by rw[h1];rfl),h1,show (pt (a+1) 0).N.toNat=a+1 from rfl,J1 h2]
  ·rw[v1]at h1;obtain⟨t1,t2⟩:=T.t2 i w v h1 h2;exact⟨λ_=>t1,t2,λq=>by have:=(Jr.1 (lMo h1)).2.2.2.1;rw[q]at this;exact absurd this (by decide)⟩
  ·have P:=zu hW (p:=pt 0 0) (jB.2 ⟨0,0,rfl,by obtain⟨_,_,_,e,_⟩:=Jy ok;exact⟨_,e⟩⟩);have q2:=P.pp;have q1:=P.m;rw[h]at q1 q2;rw[T.t1 _ q1 (by simp only[pt];omega) (by rw[q2];rfl),q2];rfl
  ·unfold ZS;rw[h,iN (by simp only[pt];omega)]
  ·unfold ZS;rw[h1,iP (show (pt (c+1) 0).S=0 from rfl),show (pt (c+1) 0).N.toNat=c+1 from rfl,J1 h2]
 have:=qKG (b:=b) M hz ok hl key hrx;simp only[v2]at this;exact this
end
set_option maxHeartbeats 2000000
structure Ord(x y:qF):Prop where
 ox:qg (qY x)=true
 oy:qg (qY y)=true
 kx:qx x.K=true
 ky:qx y.K=true
 f:zr x.K x.L y.K y.L≠2
 h8:qe x y≠8
section
variable {x y:qF}
theorem qHJ{k:Int}(h:qx k=true):k≠1:=by rintro rfl;cases h
theorem agp{c:qF}:(qY c).P.length=c.W.length+1:=by simp[qY]
theorem Ord.rule(o:Ord x y):zL x.K x.L y.K y.L=qe x y/\qe x y≠0/\¬(x.K=9/\y.K=10/\(y.D.length:Int)<=x.V):=qj0 (x:=qY x) (y:=qY y) o.ox o.oy (qHJ o.kx) (qHJ o.ky) o.f o.h8
theorem Ord.cls(o:Ord x y):1<=qe x y/\qe x y<=7:=by
 obtain⟨e,n0,_⟩:=o.rule;have:=(Zt (ka:=x.K) (la:=x.L) (kb:=y.K) (lb:=y.L)).2.2.2.2.2.2.2;omega
theorem Ord.wl(o:Ord x y):x.W.length<=3/\y.W.length<=3:=by
 have h1:=wT o.ox;have h2:=wT o.oy;rw[agp]at h1 h2;omega
theorem Ord.f12(o:Ord x y)(c:qe x y=1\/qe x y=2):x.W.length=2/\y.W.length=2:=by
 obtain⟨e,n0,n9⟩:=o.rule;obtain⟨r1,r2,_⟩:=Zt (ka:=x.K) (la:=x.L) (kb:=y.K) (lb:=y.L);have hk:(x.K=2/\y.K=3)\/(x.K=4/\y.K=4):=c.elim (λc=>.inl (r1 (e.trans c))) (λc=>.inr (r2 (e.trans c)));have h1:=VX o.ox (show x.K=2\/x.K=3\/x.K=4\/x.K=7 by omega);have h2:=VX o.oy (show y.K=2\/y.K=3\/y.K=4\/y.K=7 by omega);rw[agp]at h1 h2;omega
theorem Ord.f3(o:Ord x y)(c:qe x y=3):x.W.length=2/\inI x.L 0 8=true:=by
 obtain⟨e,n0,n9⟩:=o.rule;obtain⟨r1,r2,r3,_⟩:=Zt (ka:=x.K) (la:=x.L) (kb:=y.K) (lb:=y.L);have hk:=r3 (e.trans c);have h1:=VX o.ox (show x.K=2\/x.K=3\/x.K=4\/x.K=7 by omega);rw[agp]at h1;exact⟨by omega,VW o.ox (show jK x.K=true by rw[hk];rfl)⟩
theorem Ord.f4(o:Ord x y)(c:qe x y=4):x.W=[]:=by
 obtain⟨e,n0,n9⟩:=o.rule;obtain⟨r1,r2,r3,r4,_⟩:=Zt (ka:=x.K) (la:=x.L) (kb:=y.K) (lb:=y.L);have hk:=r4 (e.trans c);have h1:=qCF o.ox (show x.K=5\/x.K=6\/x.K=12 by omega);rw[agp]at h1;exact lEz (by omega)
theorem Ord.f5(o:Ord x y)(c:qe x y=5):x.W=[]/\(y.K=7/\y.W.length=2\/y.K=8/\y.W.length=1/\y.D.length=1)/\inI x.V (-2147483648) 2147483647=true:=by
 obtain⟨e,n0,n9⟩:=o.rule;obtain⟨r1,r2,r3,r4,r5,_⟩:=Zt (ka:=x.K) (la:=x.L) (kb:=y.K) (lb:=y.L);obtain⟨k6,k78⟩:=r5 (e.trans c);have h1:=qCF o.ox (show x.K=5\/x.K=6\/x.K=12 by omega);rw[agp]at h1;refine⟨lEz (by omega), ?_,qoF o.ox k6⟩;rcases k78 with k | k
 ·have h2:=VX o.oy (show y.K=2\/y.K=3\/y.K=4\/y.K=7 by omega);rw[agp]at h2;exact .inl ⟨k,by omega⟩
 ·have h2:=qIZ o.oy (show y.K=8\/y.K=10\/y.K=11 by omega);rw[agp]at h2;have h3:=Zo o.oy;unfold z8 at h3;simp[qY,k]at h3;exact .inr ⟨k,by omega,by omega⟩
theorem Ord.f6(o:Ord x y)(c:qe x y=6):y.W.length=1/\zi (w9 x y)/\zt 3 y.L=true/\(if y.K=10 then 0<=x.V/\x.V<y.D.length else y.D.length=2):=by
 obtain⟨e,n0,n9⟩:=o.rule;obtain⟨r1,r2,r3,r4,r5,r6,_⟩:=Zt (ka:=x.K) (la:=x.L) (kb:=y.K) (lb:=y.L);have hk:=r6 (e.trans c);have h2:=qIZ o.oy (show y.K=8\/y.K=10\/y.K=11 by omega);rw[agp]at h2;have l:=VW o.oy (show jK y.K=true by rcases hk with⟨_,q⟩ | ⟨_,q⟩<;>rw[q]<;>rfl);have rf:∀v,ji v=true->zi ⟨12,y.L,v,[],[]⟩:=λv hv=>.inl ⟨rfl,qoH l hv⟩;have l3:zt 3 y.L=true:=by unfold zt;rw[iP (by decide)];exact l
 rcases hk with⟨k6,k11⟩ | ⟨k9,k10⟩
 ·obtain⟨d1,d2⟩:=qoJ o.oy k11;have d1':y.D.length=2:=d1;have d2':y.D.all ji=true:=d2;refine⟨by omega,rf _ ?_,l3,by rw[iN (by omega)];exact d1⟩;unfold chD;rw[iN (by omega)];split<;>exact qEC d2' (by omega)
 ·have v9:=qoC o.ox k9;rw[Jq]at v9;have v9':0<=x.V/\x.V<=3:=v9;have d2':y.D.all ji=true:=qoD o.oy k10;refine⟨by omega,rf _ ?_,l3,by rw[iP k10];omega⟩;unfold chD;rw[iP k10];exact qEC d2' (by omega)
theorem Ord.f7(o:Ord x y)(c:qe x y=7):x.W=[]/\0<=x.V:=by
 obtain⟨e,n0,n9⟩:=o.rule;obtain⟨r1,r2,r3,r4,r5,r6,r7,_⟩:=Zt (ka:=x.K) (la:=x.L) (kb:=y.K) (lb:=y.L);have hk:=r7 (e.trans c);have h1:=qCF o.ox (show x.K=5\/x.K=6\/x.K=12 by omega);rw[agp]at h1;have hv:=qoI o.ox (show x.K=12 from hk.1);unfold ji at hv;rw[Jq]at hv;exact⟨lEz (by omega),hv.1⟩
end
def XQ(t:qD)(lev:Int)(m:qG)(b:Nat):qG:=
 let s:=tkA lev t.G m (t.G.length-1);let u:=tkV s.1 (qf t.G).length;let ks:=s.2.map Int.toNat
 jF (ovM u.1 (gkw ks (fW t.G (tW t.G b ks (u.2.map Int.toNat))))) (zX t.G b ks++jl t.G b ks)
def zW(bk:List qD)(m:qG)(a b:Nat)(x y:qF):qG×List qn:=
 if qe x y=7 then(XQ (qt bk x.V) x.L (qS m a) b,[])
 else if qe x y=1\/qe x y=2 then(qS (qS m a) b,[⟨x.W.getD 0 w0,y.W.getD 0 w0⟩,⟨x.W.getD 1 w0,y.W.getD 1 w0⟩])
 else if qe x y=3 then wL (qS (qS m a) b) x y
 else if qe x y=4 then zq (qS (qS m a) b) y y.W.length
 else if qe x y=5 then ju (qS (qS m a) b) x y
 else if qe x y=6 then chM (qS (qS m a) b) x y
 else(qS (qS m a) b,[])
section
variable {bk:List qD} {m:qG} {a b:Nat} {x y:qF} {P:List qE} {O:Nat->Bool} {t:qD} {lev:Int}
theorem qCB{ks:List Nat}:(nI2 ks).map Int.toNat=ks:=by simp[nI2,List.map_map,Function.comp_def]
theorem qq6:qv false=j9:=by
 funext x;simp[qv,j9,Bool.and_comm]
theorem qLO{N:List qB}:jO N false=(qf N).length:=by
 unfold jO qf;rw[qq6,List.countP_eq_length_filter]
theorem Z9.mem{ks vs:List Nat}(X:Z9 t lev m b P O ks vs):XQ t lev m b=jF (ovM (tkV (tkA lev t.G m (t.G.length-1)).1 (qf t.G).length).1 (gkw ks (fW t.G (tW t.G b ks vs)))) (zX t.G b ks++jl t.G b ks):=by
 unfold XQ;simp only[X.i.at',X.j.at',qCB]
theorem qpM{c:qF}(h:m.C[b]?=some c)(n:a≠b):(qS m a).C[b]?=some c:=by
 unfold qS;simp only[iTn];rw[zb (Ne.symm n)];exact h
theorem qJ3(ha:m.C[a]?=some x)(h0:x.K≠0):nF (qS m a).C=nF m.C+1:=by
 have:=Zn (c':=zS m.F) ha;rw[iN h0,iP (show (zS m.F).K=0 from rfl)]at this;unfold qS;simp only[iTn];omega
theorem qCZ:(qS m a).C.length=m.C.length:=by simp[qS]
structure Pl(bk:List qD)(m:qG)(a b:Nat)(x y:qF)(P:List qE)(O:Nat->Bool):Prop where
 o:Ord x y
 hb:z5 bk=true
 ne:a≠b
 ha:m.C[a]?=some x
 hy:(qS m a).C[b]?=some y
 oa:O a=false
 ob:O b=false
 n0:(zA bk x y).2=0
 nd:(zA bk x y).1<=(nF m.C:Int)+(if qe x y=7 then 1 else 2)
 h1:MM (qS m a) (x.W++(aW b::P)) O
 f1:nF (qS m a).C=nF m.C+1
 h2:MM (qS (qS m a) b) (x.W++y.W++P) O
 f2:nF (qS (qS m a) b).C=nF m.C+2
theorem Pl.of(o:Ord x y)(hb:z5 bk=true)(h:MM m (aW a::aW b::P) O)(ha:m.C[a]?=some x)(hy:m.C[b]?=some y)(oa:O a=false)(ob:O b=false)(n0:(zA bk x y).2=0)(nd:(zA bk x y).1<=(nF m.C:Int)+(if qe x y=7 then 1 else 2)):Pl bk m a b x y P O:=by
 obtain⟨ne,-⟩:=MI.redex h;have r1:=MI.rel (Q:=[aW a]) (P:=aW b::P) h ha oa (JZ o.kx) (λw hw=>by rw[lMg.1 hw];rfl) (by rw[qDG o.kx];rfl);have e1:qS m a={m with C:=m.C.set a (zS m.F),F:=(a:Int)}:=by unfold qS;simp
 have h1:MM (qS m a) (x.W++(aW b::P)) O:=by rw[e1];exact r1
 have hy1:=qpM (a:=a) hy ne;have h1':MM (qS m a) ([aW b]++(x.W++P)) O:=MI.perm h1 List.perm_middle;have r2:=MI.rel (Q:=[aW b]) h1' hy1 ob (JZ o.ky) (λw hw=>by rw[lMg.1 hw];rfl) (by rw[qDG o.ky];rfl);have e2:qS (qS m a) b={qS m a with C:=(qS m a).C.set b (zS (qS m a).F),F:=(b:Int)}:=by rw[qS];simp
 have h2:MM (qS (qS m a) b) (x.W++y.W++P) O:=by
  rw[e2];refine MI.perm r2 ?_;rw[<-lAa];exact List.Perm.append_right P List.perm_append_comm
 have f1:=qJ3 ha (JZ o.kx);exact⟨o,hb,ne,ha,hy1,oa,ob,n0,nd,h1,f1,h2,by rw[qJ3 hy1 (JZ o.ky),f1]⟩
theorem Pl.need3(p:Pl bk m a b x y P O)(c:qe x y=3):2+3*y.W.length<=nF m.C+2:=by
 have:=p.nd;unfold zA at this;rw[c]at this;simp at this;omega
theorem Pl.need4(p:Pl bk m a b x y P O)(c:qe x y=4):y.W.length<=nF m.C+2:=by
 have:=p.nd;unfold zA at this;rw[c]at this;simp at this;omega
theorem Pl.need6(p:Pl bk m a b x y P O)(c:qe x y=6):1+x.W.length<=nF m.C+2:=by
 have:=p.nd;unfold zA at this;rw[c]at this;simp at this;omega
theorem Pl.need7(p:Pl bk m a b x y P O)(c:qe x y=7):0<=x.V/\x.V<bk.length/\qk (qt bk x.V)=true/\¬8<IntKind.i64.wrap (hiI (qt bk x.V).G+x.L)/\(qt bk x.V).G.length-1+(qf (qt bk x.V).G).length<=nF m.C+1:=by
 have h1:=p.n0;have h2:=p.nd;obtain⟨-,v0⟩:=p.o.f7 c;unfold zA at h1 h2;rw[c]at h1 h2;simp only[show ¬((7:Int)=8) by decide,show ¬((7:Int)=3) by decide,show ¬((7:Int)=4) by decide,show ¬((7:Int)=5) by decide,show ¬((7:Int)=6) by decide,if_false,if_true]at h1 h2;by_cases q3:(bk.length:Int)<=x.V
 ·rw[iP q3]at h1;cases h1
 rw[iN q3]at h1 h2;by_cases q9:8<IntKind.i64.wrap (hiI (qt bk x.V).G+x.L)
 ·rw[iP q9]at h1;cases h1
 rw[iN q9]at h2;simp only[qLO]at h2;have ot:=YD p.hb v0 (by omega);have:=jf ot;exact⟨v0,by omega,ot,q9,by omega⟩
theorem Pl.exp(p:Pl bk m a b x y P O)(c:qe x y=7):∃ks vs,Z9 (qt bk x.V) x.L (qS m a) b P O ks vs:=by
 obtain⟨v0,v1,ot,n9,hf⟩:=p.need7 c;have h1:=p.h1;rw[(p.o.f7 c).1,lNa]at h1;have hl:=Jw p.o.ox;exact qlF ot h1 (by rw[p.f1];exact hf) (qDD ot hl n9)
theorem qoT{g:Nat->Option (List qE)}{ps:List (Nat×Nat)}:(jF (ovM m g) ps).C.length=m.C.length:=by rw[(Zs ps).1,qCI]
theorem qCP(p:Pl bk m a b x y P O):MM (zW bk m a b x y).1 (lws (zW bk m a b x y).2++P) O/\(zW bk m a b x y).1.C.length=m.C.length:=by
 have hl2:(qS (qS m a) b).C.length=m.C.length:=by rw[qCZ,qCZ]
 have hc:=p.o.cls;unfold zW;by_cases c7:qe x y=7
 ·rw[iP c7];obtain⟨ks,vs,X⟩:=p.exp c7;rw[X.mem];exact⟨X.mm,by rw[qoT,X.j.cl,X.i.cl,qCZ]⟩
 rw[iN c7];by_cases c12:qe x y=1\/qe x y=2
 ·rw[iP c12];obtain⟨w1,w2⟩:=p.o.f12 c12;refine⟨MI.perm p.h2 ?_,hl2⟩;rw[Qp w1,Qp w2,List.perm_iff_count];intro z;simp only[lws,List.count_append,List.count_cons,List.count_nil,List.getD_cons_zero,List.getD_cons_succ];omega
 rw[iN c12];by_cases c3:qe x y=3
 ·rw[iP c3];obtain⟨w1,w2⟩:=p.o.f3 c3;obtain⟨d1,d2,_⟩:=qBE p.h2 p.o.ky (.inl ⟨p.o.ky,p.o.oy⟩) w1 w2 (by rw[p.f2];exact p.need3 c3);exact⟨d1,by rw[d2];exact hl2⟩
 rw[iN c3];by_cases c4:qe x y=4
 ·rw[iP c4];have h2:=p.h2;rw[p.o.f4 c4,lNa]at h2;obtain⟨d1,d2,d3⟩:=qBH h2 (by rw[p.f2];exact p.need4 c4) y.W.length (nLr _);rw[List.drop_length,lAn]at d1;exact⟨d1,by rw[d3];exact hl2⟩
 rw[iN c4];by_cases c5:qe x y=5
 ·rw[iP c5];obtain⟨w1,w2,w3⟩:=p.o.f5 c5;have h2:=p.h2;rw[w1,lNa]at h2;obtain⟨d1,d2⟩:=qoO h2 (by rw[p.f2];omega) (.inl ⟨p.o.ky,p.o.oy⟩) (w2.imp id λq=>⟨q.1,q.2.1⟩) w3;exact⟨d1,by rw[d2];exact hl2⟩
 rw[iN c5];have c6:qe x y=6:=by omega
 rw[iP c6];obtain⟨w1,w2,w3,w4⟩:=p.o.f6 c6;obtain⟨d1,d2⟩:=qjW p.h2 (by rw[p.f2];exact p.need6 c6) w1 w2 w3;exact⟨d1,by rw[d2];exact hl2⟩
end
section
variable {xs:Ags} {f:qB->qB} {q p:qH} {lev:Int}
structure MpF(f:qB->qB):Prop where
 p:∀x,(f x).P=x.P
 k:∀x,(f x).K=x.K
theorem qIK(h:MpF f){a:Int}:zw (xs.map f) a=zw xs a:=by
 unfold zw;rw[gMp];cases xs[a.toNat]? with
 | none=>rfl
 | some x=>simp[h.p]
theorem qIJ(h:MpF f):Jg (xs.map f) q=Jg xs q:=by
 unfold Jg;rw[gMp];cases xs[q.N.toNat]? with
 | none=>rfl
 | some x=>simp[h.p]
theorem qIM(h:MpF f):qK (xs.map f) q=qK xs q:=by unfold qK;rw[qIJ h]
theorem qCA(h:MpF f):∀i,qo (xs.map f) i=qo xs i
 | 0=>rfl
 | i+1=>by rw[qo,qo,qCA h i,qIK h]
theorem qnT(h:MpF f):qq (xs.map f)=qq xs:=by
 unfold qq wrs;rw[qCA h,lMp];have e:∀p,qK (xs.map f) p=qK xs p:=λp=>qIM h;simp only[e]
theorem qnR(h:MpF f):qf (xs.map f)=qf xs:=by unfold qf;rw[qnT h]
theorem qIL(h:MpF f):∀i,qu (xs.map f) i=qu xs i
 | 0=>rfl
 | i+1=>by
  rw[qu,qu,qIL h i];unfold JR;rw[gMp];cases xs[i+1]? with
  | none=>rfl
  | some x=>simp[h.p,h.k]
theorem qnS(h:MpF f)(ok:qk ⟨xs⟩=true)(ha:∀x∈xs,qg (f x)=true):qk ⟨xs.map f⟩=true:=by
 unfold qk at ok|-;simp only[bAt]at ok|-;obtain⟨h1,h2⟩:=ok;have w:∀(qs:List qH)(i k:Nat),wI (xs.map f) i qs k=wI xs i qs k:=by
  intro qs
  induction qs with
  | nil=>intro i k;rfl
  | cons q qs ih=>
   intro i k;rw[wI,wI,ih];unfold wH wD;rw[qIJ h,qIK h,lMp]
 have n:∀(r:Ags)(i:Nat),wi (xs.map f) (r.map f) i=wi xs r i:=by
  intro r
  induction r with
  | nil=>intro i;rfl
  | cons x r ih=>intro i;rw[lMc,wi,wi,ih,w,h.p]
 have g:∀(r:Ags)(i:Nat),(∀x∈r,qg (f x)=true)->jV r i=true->jV (r.map f) i=true:=by
  intro r
  induction r with
  | nil=>intro i _ _;rfl
  | cons x r ih=>
   intro i hr q;rw[jV]at q;simp only[bAt]at q;rw[lMc,jV,h.k,hr x (.head _),q.1.2,ih _ (λy hy=>hr y (.tail _ hy)) q.2];rfl
 refine⟨?_,by rw[n];exact h2⟩;unfold j5 at h1|-;simp only[bAt]at h1|-;rw[lMp];exact⟨h1.1,g xs 0 ha h1.2⟩
theorem ZE:MpF (lvA lev):=⟨λx=>by unfold lvA;split<;>rfl,λx=>by unfold lvA;split<;>rfl⟩
def dP(N:Ags)(i:Nat):qH->Bool:=λq=>onW (qf N) q || ((qO N).take i).any λp=>decide (q=p)&&(decide (0<p.S)&&decide ((qK N p).S=0))
theorem qkQ:dP xs 0=onW (qf xs):=by funext q;simp[dP]
theorem qkP{i:Nat}(h:(qO xs)[i]?=some p)(h1:0<p.S)(h2:(qK xs p).S=0):dP xs (i+1)=zk (dP xs i) p:=by
 funext q;simp only[dP,zk];rw[tA1,h,Option.toList_some,List.any_append];simp only[List.any_cons,List.any_nil,Bool.or_false,h1,h2,decide_true,Bool.and_true];cases decide (q=p)<;>simp
theorem qkO{i:Nat}(h:(qO xs)[i]?=some p)(h1:¬(0<p.S/\(qK xs p).S=0)):dP xs (i+1)=dP xs i:=by
 funext q;simp only[dP];rw[tA1,h,Option.toList_some,List.any_append];have:(decide (0<p.S)&&decide ((qK xs p).S=0))=false:=by rw[Bool.eq_false_iff];simpa using h1
 simp only[List.any_cons,List.any_nil,Bool.or_false,this,Bool.and_false]
theorem qkN(hW:W xs λ_ _=>False){a s:Nat}(h:Has xs a s)(hs:0<s):dP xs (qO xs).length (pt a s)=true:=by
 have hm:=jB.2 ⟨a,s,rfl,h⟩;have Q:=zu hW hm;have s0:0<(pt a s).S:=by simp only[pt];omega
 simp only[dP,lTl,Bool.or_eq_true];by_cases q:(qK xs (pt a s)).S=0
 ·exact .inr (List.any_eq_true.2 ⟨pt a s,hm,by simp only[q,s0,decide_true,Bool.and_self]⟩)
 ·refine .inl ?_;have sp:=Zx Q.m;unfold onW;rw[List.any_eq_true];cases hb:bef (pt a s) (qK xs (pt a s))
  ·refine⟨⟨qK xs (pt a s),pt a s⟩,Jr.2 ⟨Q.m,Q.pp.symm, ?_,by simp only;omega,s0⟩,by simp⟩;have:=Zb Q.ne.symm;rw[hb]at this;simpa using this
  ·exact⟨⟨pt a s,qK xs (pt a s)⟩,Jr.2 ⟨hm,rfl,hb,s0,by simp only;omega⟩,by simp⟩
theorem qnF{t:qD}(ok:qk t=true)(hl:0<=lev/\lev<=8)(n9:¬8<IntKind.i64.wrap (hiI t.G+lev)):qk ⟨t.G.map (lvA lev)⟩=true:=by
 refine qnS ZE ok λx hx=>?_;have oa:=J0 (Qi ok) x hx;have h1:=(Vw ok hl).2 n9;have h2:=lAt.1 h1 x hx;rw[<-qhY (qqJ (lev:=lev) (d:=0) (z:=x))];refine qI0 oa λq=>?_;have h3:=VW oa q;unfold wB at h2;simp only[inI,bAt,dTe]at h3|-;simp[q]at h2;omega
theorem qnG{t:qD}(ok:qk t=true)(hl:0<=lev/\lev<=8)(n9:¬8<IntKind.i64.wrap (hiI t.G+lev)):JA t lev=(⟨t.G.map (lvA lev)⟩,true):=by
 unfold JA;rw[iP ((Vw ok hl).2 n9)]
theorem qnE{x:qB}:(⟨(lvA lev x).K,(lvA lev x).L,(lvA lev x).V,(lvA lev x).D,List.replicate ((lvA lev x).P.length-1) w0⟩:qF)=agC lev x:=by
 unfold lvA agC;split<;>rfl
end
def O0:Nat->Bool:=λ_=>false
def Wj(m:qG)(p:qL):Nat×Nat:=if JB (zZ m p.A) (zZ m p.B)=true then(p.B.toNat,p.A.toNat)else(p.A.toNat,p.B.toNat)
def unR(m:qG)(k:Nat):qG:={m with R:=m.R.take k++m.R.drop (k+1)}
def z7(c:Int):Int:=if c=7 then 1 else 2
def doM(bk:List qD)(m:qG)(k:Nat):qG×Int×Int:=
 let o:=Wj m (m.R.getD k ⟨0,0⟩);let x:=zZ m (o.1:Nat);let y:=zZ m (o.2:Nat)
 if (zA bk x y).2≠0 then(m,0,(zA bk x y).2)
 else if (nF m.C:Int)+z7 (qe x y)<(zA bk x y).1 then(m,0,4)
 else(JO (zW bk (unR m k) o.1 o.2 x y).1 (zW bk (unR m k) o.1 o.2 x y).2,qe x y,0)
def jt(bk:List qD)(m:qG)(k:Nat):Int×Int:=zA bk (zZ m ((Wj m (m.R.getD k ⟨0,0⟩)).1:Nat)) (zZ m ((Wj m (m.R.getD k ⟨0,0⟩)).2:Nat))
structure RD(m:qG)(k:Nat)(p:qL)(a b:Nat)(x y:qF):Prop where
 at':m.R[k]?=some p
 ro:RO m p a b x y
 kx:qx x.K=true
 ky:qx y.K=true
 f:zr x.K x.L y.K y.L≠2
 mm:MM (unR m k) [aW a,aW b] O0
 eo:Wj m p=(a,b)
section
variable {bk:List qD} {m:qG} {k a b:Nat} {p:qL} {x y:qF}
theorem Wr{P:List qE}{O:Nat->Bool}(h:MM m P O):m.R.length<=m.C.length:=by
 have nn:∀q∈m.R,∃k:Nat,q.A=(k:Int)/\k<m.C.length:=λq hq=>by
  obtain⟨_,⟨k,c,e,hc,_⟩,_⟩:=h.pr q hq;exact⟨k,e,zP hc⟩
 have nd:(m.R.map λq=>q.A.toNat).Nodup:=by
  rw[List.nodup_iff_count];intro k;by_cases hk:k<m.C.length
  ·have e:=h.occ k _ (gEg hk);have w:zO m.C[k]<=2:=by
    unfold zO;split
    ·omega
    ·split<;>omega
   rw[List.count_eq_countP,List.countP_map];have hle:m.R.countP ((λz=>z==k)∘λq=>q.A.toNat)<=m.R.countP (λq=>decide (q.A=(k:Int))):=by
    refine List.countP_mono_left λq hq z=>?_;obtain⟨j,e1,_⟩:=nn q hq;simp only[Function.comp_apply,bIe]at z;simp only[dTe];omega
   refine nLt hle ?_;by_cases h0:0<m.R.countP λq=>decide (q.A=(k:Int))
   ·obtain⟨q,hq,z⟩:=List.countP_pos_iff.1 h0;simp only[dTe]at z;obtain⟨_,⟨j,c,e1,hc,h3⟩,_⟩:=h.pr q hq;have:j=k:=by simp only at e1;omega
    subst this;rw[gEg hk]at hc;have ek:qx m.C[j].K=true:=by
     rw[Option.some.inj hc];rcases h3 with⟨_,q⟩ | ⟨q,_⟩
     ·exact q
     ·cases q
    rw[qDG ek]at e;unfold cr at e;omega
   ·omega
  ·rw[List.count_eq_zero.2 λz=>?_];omega;obtain⟨q,hq,e⟩:=List.mem_map.1 z;obtain⟨j,e1,e2⟩:=nn q hq;omega
 have hs:∀z∈m.R.map (λq=>q.A.toNat),z∈List.range m.C.length:=λz hz=>by
  obtain⟨q,hq,e⟩:=List.mem_map.1 hz;obtain⟨j,e1,e2⟩:=nn q hq;rw[lMr];omega
 have:=nd.length_le_of_subset hs;simpa using this
theorem qlJ{a b c d:Int}(h:zr a b c d=2):zr c d a b≠2:=by
 unfold zr at h|-;rw[qJC];by_cases h1:jx a b c d=true
 ·rw[iP h1]at h|-;by_cases h2:zL a b c d≠0
  ·rw[iP h2]at h;cases h
  ·rw[iN h2]at h;by_cases h3:zL c d a b≠0
   ·rw[iP h3];decide
   ·rw[iN h3]at h;cases h
 ·rw[iN h1]at h;cases h
theorem Wp(h:MM m [] O0)(hk:k<m.R.length):∃p a b x y,RD m k p a b x y:=by
 have hp:=gEg hk;generalize m.R[k]=p at hp;obtain⟨_,⟨ka,u,e1,e2,e3⟩,⟨kb,v,f1,f2,f3⟩⟩:=h.pr p (lMo hp);simp only at e1 e3 f1 f3;have ku:qx u.K=true:=e3.elim (·.2) λq=>by cases q.1
 have kv:qx v.K=true:=f3.elim (·.2) λq=>by cases q.1
 have ou:=agf ku (h.form ka u e2 rfl);have ov:=agf kv (h.form kb v f2 rfl);have er:m.R=m.R.take k++p::m.R.drop (k+1):=by
  have h1:=gSi.1 hp;obtain⟨h1,h2⟩:=h1;rw[<-h2,<-lDc h1,List.take_append_drop]
 have h2:MI m.C m.F m.O (m.R.take k++p::m.R.drop (k+1)) [] O0:=by rw[<-er];exact h
 have h3:=MI.unredex h2;have ea:(⟨1,p.A⟩:qE)=aW ka:=by rw[e1];rfl
 have eb:(⟨1,p.B⟩:qE)=aW kb:=by rw[f1];rfl
 rw[ea,eb]at h3;have cu:zZ m p.A=u:=by rw[e1];exact JF e2
 have cv:zZ m p.B=v:=by rw[f1];exact JF f2
 cases hs:JB u v
 ·refine⟨p,ka,kb,u,v,hp,⟨⟨ka,kb,u,v,⟨e1,f1,e2,f2⟩,.inr ⟨hs,rfl,rfl,rfl,rfl⟩⟩,ou,ov⟩,ku,kv,λe=>?_,h3, ?_⟩
  ·unfold JB at hs;rw[e]at hs;cases hs
  ·unfold Wj;rw[cu,cv,hs,e1,f1];simp
 ·refine⟨p,kb,ka,v,u,hp,⟨⟨ka,kb,u,v,⟨e1,f1,e2,f2⟩,.inl ⟨hs,rfl,rfl,rfl,rfl⟩⟩,ov,ou⟩,kv,ku, ?_,MI.perm h3 (List.Perm.swap _ _ _), ?_⟩
  ·unfold JB at hs;exact qlJ (by simpa using hs)
  ·unfold Wj;rw[cu,cv,hs,e1,f1];simp
theorem RD.cell(r:RD m k p a b x y):zZ m (a:Nat)=x/\zZ m (b:Nat)=y:=⟨JF r.ro.at.1,JF r.ro.at.2⟩
theorem RD.get(r:RD m k p a b x y):m.R.getD k ⟨0,0⟩=p:=by rw[lGd,r.at'];rfl
theorem RD.need(r:RD m k p a b x y):jt bk m k=zA bk x y:=by
 unfold jt;rw[r.get,r.eo,r.cell.1,r.cell.2]
theorem RD.do(r:RD m k p a b x y):doM bk m k=if (zA bk x y).2≠0 then(m,0,(zA bk x y).2)else if (nF m.C:Int)+z7 (qe x y)<(zA bk x y).1 then(m,0,4)
  else(JO (zW bk (unR m k) a b x y).1 (zW bk (unR m k) a b x y).2,qe x y,0):=by
 unfold doM;rw[r.get,r.eo];simp only[r.cell.1,r.cell.2]
theorem qCC(h:qe x y=8):(zA bk x y).2=11:=by unfold zA;rw[iP h]
theorem RD.pl(r:RD m k p a b x y)(hb:z5 bk=true)(h0:(zA bk x y).2=0)(hn:¬(nF m.C:Int)+z7 (qe x y)<(zA bk x y).1):Pl bk (unR m k) a b x y [] O0:=by
 have h8:qe x y≠8:=λe=>by have:=qCC (bk:=bk) e;omega
 exact Pl.of ⟨r.ro.ox,r.ro.oy,r.kx,r.ky,r.f,h8⟩ hb r.mm r.ro.at.1 r.ro.at.2 rfl rfl h0 (by unfold z7 at hn;unfold unR;simp only;omega)
theorem RD.ok(r:RD m k p a b x y)(hb:z5 bk=true)(hm:MM m [] O0):MM (doM bk m k).1 [] O0/\(doM bk m k).1.C.length=m.C.length:=by
 rw[r.do];by_cases h0:(zA bk x y).2=0
 ·rw[iN (by omega)];by_cases hn:(nF m.C:Int)+z7 (qe x y)<(zA bk x y).1
  ·rw[iP hn];exact⟨hm,rfl⟩
  ·rw[iN hn];obtain⟨p1,p2⟩:=qCP (r.pl hb h0 hn);obtain⟨q1,q2,_⟩:=qB0 _ p1;exact⟨q1,by rw[q2,p2];rfl⟩
 ·rw[iP h0];exact⟨hm,rfl⟩
end
section
variable {w mid cid k a b:Nat} {post cs:List AV} {ow:Nat->Nat} {h h':List qA} {m:qG} {rv dv:AV} {c x y:qF} {P:List qE} {O:Nat->Bool} {bk:List qD}
theorem qK2{E:Ev}{l:List qC}{fs:List Fr1}{s l':qp}{Q:qi->VSt->Prop}{dva wva:AV}{z:List AV}(hz:z.length=5)(hr:R E (.ops l::fs) ⟨s,l',h++[.row 5 [cE x dva wva] true]⟩ Q):Sto E 5 (some (.ptr h.length 0 0)) (some (cE x dva wva)) l fs ⟨s,l',h++[.row 5 [.agg z] true]⟩ Q:=
 zx rfl ends rfl (Zr hz rfl ⟨λ_=>⟨_,rfl⟩,λ_=>⟨_,rfl⟩⟩ (by decide)) (by simpa using hr)
theorem Bx.up{xid:Nat}{h1:List qA}(bx:Bx ow h xid x)(u:Up (λ_=>False) h h1):Bx ow h1 xid x:=by
 obtain⟨⟨dv,wv,a1,a2,a3⟩,o⟩:=bx;exact⟨⟨dv,wv,u.at a1 id,a2.mono λj hj q=>⟨q,u.eq hj id⟩,a3.mono λj hj q=>⟨q,u.eq hj id⟩⟩,o⟩
theorem Bx.new{h1:List qA}{dva wva:AV}(hb:∀j,ow j≠0->j<h.length)(u:Up (λ_=>False) h h1)(da:LsW (λj=>h.length<=j) 1 h1 dva (x.D.map qQ))(wa:LsW (λj=>h.length<=j) 2 h1 wva (x.W.map qE.enc)):Bx ow (h1++[.row 5 [cE x dva wva] true]) h1.length x:=by
 have z:∀j,h.length<=j->ow j=0:=λj hj=>Classical.byContradiction λq=>by have:=hb j q;omega
 exact⟨⟨dva,wva,ends,da.mono λj hj q=>⟨z j q,gAl hj⟩,wa.mono λj hj q=>⟨z j q,gAl hj⟩⟩,z _ u.1⟩
theorem s972(M:MH w mid post ow h m)(p:Pl bk m a b x y P O)(hdx:x.D.length<=1000)(hdy:y.D.length<=1000)(hrx:m.R.length<=990000):
  SCall Gm 972 [.lst 1 (bk.map qD.enc) false,.ptr mid 0 0,iI (qe x y),iI (a:Nat),iI (b:Nat)] h (λv h'=>∃ow',MH w mid post ow' h' (zW bk m a b x y).1/\Fo ow h ow' h'/\Ls0 (λj=>ow' j=0) 4 h' v ((zW bk m a b x y).2.map qn.enc)):=by
 refine sI F972 ?_;obtain⟨wx,wy⟩:=p.o.wl;have hy0:m.C[b]?=some y:=by
  have:=p.hy;unfold qS at this;simp only[iTn]at this;rwa[zb (Ne.symm p.ne)]at this
 have hka:=zP p.ha;have hkb:=zP hy0;obtain⟨cid,cs,rv,M⟩:=M;obtain⟨dv,wv,v1,v2,v3⟩:=M.words p.ha;obtain⟨dv',wv',v1',v2',v3'⟩:=M.words hy0;simp only[F972,qM,go_sem,M.o,qW hka,nZa];refine qj (SCall.mono (qKN M.c v1 (v2.mono λj _ q=>⟨trivial,rfl⟩) (v3.mono λj _ q=>⟨trivial,rfl⟩) (by omega) (by omega)) ?_);rintro _ h1 ⟨u1,dva,wva,rfl,da,wa⟩;simp only[go_sem];refine qK2 rfl ?_;have B1:=Bx.new (x:=x) M.b u1 da wa;have UA:Up (λ_=>False) h (h1++[.row 5 [cE x dva wva] true]):=u1.trans (Up.app _) λ_ _ q=>q;have MA:MO w mid post ow (h1++[.row 5 [cE x dva wva] true]) m cid cs rv:=M.heap UA.1 λj hj _=>UA.eq hj id;have mo':=M.b;clear M;generalize h1++[.row 5 [cE x dva wva] true]=hA at*;generalize h1.length=xid at*;clear u1 da wa;obtain⟨dv',wv',v1',v2',v3'⟩:=MA.words hy0;simp only[go_sem,MA.o,qW hkb,nZa];refine qj (SCall.mono (qKN MA.c v1' (v2'.mono λj _ q=>⟨trivial,rfl⟩) (v3'.mono λj _ q=>⟨trivial,rfl⟩) (by omega) (by omega)) ?_);rintro _ h2 ⟨u2,dvb,wvb,rfl,db,wb⟩;simp only[go_sem];refine qK2 rfl ?_;have B2:=Bx.new (x:=y) MA.b u2 db wb;have UB:Up (λ_=>False) hA (h2++[.row 5 [cE y dvb wvb] true]):=u2.trans (Up.app _) λ_ _ q=>q;have MB:MO w mid post ow (h2++[.row 5 [cE y dvb wvb] true]) m cid cs rv:=MA.heap UB.1 λj hj _=>UB.eq hj id;replace B1:=B1.up UB;replace UA:=UA.trans UB λ_ _ q=>q;clear MA;generalize h2++[.row 5 [cE y dvb wvb] true]=hB at*;generalize h2.length=yid at*;clear u2 db wb UB;simp only[go_sem];refine qj (SCall.mono (Vp (MH.intro MB) p.ha) ?_);rintro _ h3 ⟨ow3,M3,F3,l3,-⟩;clear MB;replace B1:=B1.fo F3;replace B2:=B2.fo F3;replace F3:Fo ow h ow3 h3:=⟨nLt UA.1 F3.l,λj hj q=>by
  obtain⟨q1,q2⟩:=F3.k j (nLl hj UA.1) q;exact⟨q1,q2.trans (UA.eq hj id)⟩⟩
 obtain⟨dx,wx',bx1,bx2,bx3⟩:=B1.words;obtain⟨dy,wy',by1,by2,by3⟩:=B2.words;simp only[go_sem];have hcls:=p.o.cls;generalize hC:qe x y=C at*;by_cases c7:C=7
 ·subst c7;obtain⟨v0,v1,ot,n9,hf⟩:=p.need7 hC;obtain⟨ks,vs,X⟩:=p.exp hC;simp only[go_sem,bx1,XW v0 v1];refine qI QR ?_;simp only[go_sem];have tz:=ZF ot;have hl:=Jw p.o.ox;have p1:=p.h1;rw[(p.o.f7 hC).1,lNa]at p1;have hta:(qt bk x.V).G.length<=1048576:=by unfold qD.sz at tz;omega
  refine qj (SCall.mono (qp3 M3 (by omega) ot hl p1 (qDD ot hl n9) (by rw[p.f1];exact hf) X (by have:(qS m a).R=m.R:=rfl;rw[this];omega)) ?_);rintro _ h4 ⟨rfl,ow4,M4,F4⟩;simp only[go_sem];refine lsA ?_;simp only[go_sem];have ep:zW bk m a b x y=(jF (ovM (tkV (tkA x.L (qt bk x.V).G (qS m a) ((qt bk x.V).G.length-1)).1 (qf (qt bk x.V).G).length).1 (gkw ks (fW (qt bk x.V).G (tW (qt bk x.V).G b ks vs)))) (zX (qt bk x.V).G b ks++jl (qt bk x.V).G b ks),[]):=by
   unfold zW;rw[iP hC,X.mem]
  rw[ep];clear ep;obtain⟨c0,r0,e1,e2,e3,e4⟩:=Jy ot;have hkl:=X.i.len;have hc0:=gEg (show c0<ks.length by omega);generalize ks[c0]=kc at hc0;have hkc:kc≠b:=λe=>(X.i.keep b y p.hy (JZ p.o.ky)).2 (by rw[<-e];exact lMo hc0);have hpl:=ZI (qt bk x.V).G ((qt bk x.V).G.length-1);have hr4:(jF (ovM (tkV (tkA x.L (qt bk x.V).G (qS m a) ((qt bk x.V).G.length-1)).1 (qf (qt bk x.V).G).length).1 (gkw ks (fW (qt bk x.V).G (tW (qt bk x.V).G b ks vs)))) (zX (qt bk x.V).G b ks)).R.length<=1000000:=by
   rw[Wo,show (ovM (tkV (tkA x.L (qt bk x.V).G (qS m a) ((qt bk x.V).G.length-1)).1 (qf (qt bk x.V).G).length).1 (gkw ks (fW (qt bk x.V).G (tW (qt bk x.V).G b ks vs)))).R=m.R from X.j.rx.trans X.i.rx];simp only[zX,lMp];omega
  rcases r0 with _ | r0
  ·have et:ZS (qt bk x.V).G b ks=aW kc:=by
    unfold ZS;rw[e1,iP (show (pt (c0+1) 0).S=0 from rfl),show (pt (c0+1) 0).N.toNat=c0+1 from rfl,J1 hc0]
   have er:jl (qt bk x.V).G b ks=[(b,kc)]:=by
    unfold jl;rw[e1,iP (show (pt (c0+1) 0).S=0 from rfl),show (pt (c0+1) 0).N.toNat=c0+1 from rfl,J1 hc0]
   have hne:decide ((aW kc).I=(b:Int))=false:=dEf (by simp only[aW];omega);rw[et,er,Xw];simp only[hne,go_sem];refine qj (SCall.mono (Vq M4 hr4) ?_);rintro _ h5 ⟨ow5,M5,F5⟩;simp only[go_sem];exact⟨ow5,M5,(F3.trans F4).trans F5,.inl ⟨rfl,rfl⟩⟩
  ·have et:ZS (qt bk x.V).G b ks=aW b:=by
    unfold ZS;rw[e1,iN (by simp only[pt];omega)]
   have er:jl (qt bk x.V).G b ks=[]:=by
    unfold jl;rw[e1,iN (by simp only[pt];omega)]
   have hne:decide ((aW b).I=(b:Int))=true:=dEt rfl;rw[et,er,lAn];simp only[hne,go_sem];exact⟨ow4,M4,F3.trans F4,.inl ⟨rfl,rfl⟩⟩
 simp only[c7,decide_false,go_sem];refine qj (SCall.mono (Vp M3 p.hy) ?_);rintro _ h4 ⟨ow4,M4,F4,l4,-⟩;replace B1:=B1.fo F4;replace B2:=B2.fo F4;replace F4:=F3.trans F4;clear F3 M3 bx1 bx2 bx3 by1 by2 by3;obtain⟨dx,wx',bx1,bx2,bx3⟩:=B1.words;obtain⟨dy,wy',by1,by2,by3⟩:=B2.words;simp only[go_sem];by_cases c12:C=1\/C=2
 ·have ep:zW bk m a b x y=(qS (qS m a) b,[⟨x.W.getD 0 w0,y.W.getD 0 w0⟩,⟨x.W.getD 1 w0,y.W.getD 1 w0⟩]):=by
   unfold zW;rw[iN (by rw[hC];exact c7),iP (by rw[hC];exact c12)]
  rw[ep];obtain⟨w1,w2⟩:=p.o.f12 (by rw[hC];exact c12);have ex:=Qp w1;have ey:=Qp w2;generalize x.W.getD 0 w0=x0 at*;generalize x.W.getD 1 w0=x1 at*;generalize y.W.getD 0 w0=y0 at*;generalize y.W.getD 1 w0=y1 at*;rw[ex,lMc,lMc,List.map_nil]at bx3;rw[ey,lMc,lMc,List.map_nil]at by3;obtain⟨ix,i1,rfl,i3⟩:=bx3.two;obtain⟨iy,j1,rfl,j3⟩:=by3.two;have tl:∀Cd:Bool,Cd=decide (C=1)->(Cd=true\/(Cd=false/\C=2)):=λCd e=>by
   rcases c12 with c | c
   ·exact .inl (by rw[e];simpa using c)
   ·exact .inr ⟨by rw[e];simp;omega,c⟩
  rcases tl _ rfl with e | ⟨e,rfl⟩
  all_goals
   simp only[e,go_sem,bx1,by1,Q1,WS,i3,j3];refine ZZ (ys:=[qn.enc ⟨x0,y0⟩,qn.enc ⟨x1,y1⟩]) (Els.row ends rfl) (by simp) ?_;simp only[go_sem];exact⟨ow4,(M4.app _).app _,F4.trans ((Fo.app _).trans (Fo.app _)),.inr (.inr ⟨_,((M4.app _).b),rfl,ends⟩)⟩
 have c1:C≠1:=λe=>c12 (.inl e);have c2:C≠2:=λe=>c12 (.inr e);simp only[c1,c2,decide_false,go_sem];by_cases c3:C=3
 ·subst c3;have ep:zW bk m a b x y=wL (qS (qS m a) b) x y:=by
   unfold zW;rw[iN (by omega),iN (by omega),iP hC]
  rw[ep];simp only[go_sem];obtain⟨w1,w2⟩:=p.o.f3 hC;refine qj (SCall.mono (qp4 M4 B1 B2 p.h2 p.o.ky (.inl ⟨p.o.ky,p.o.oy⟩) w1 (by omega) hdy w2 (by rw[p.f2];exact p.need3 hC)) ?_);rintro _ h5 ⟨ow5,M5,F5,id,rfl,i2,i3⟩;simp only[go_sem];exact⟨ow5,M5,F4.trans F5,.inr (.inr ⟨id,i3,by rw[lMp],i2⟩)⟩
 simp only[c3,decide_false,go_sem];by_cases c4:C=4
 ·subst c4;have ep:zW bk m a b x y=zq (qS (qS m a) b) y y.W.length:=by
   unfold zW;rw[iN (by omega),iN (by omega),iN (by omega),iP hC]
  rw[ep];simp only[go_sem];have h2:=p.h2;rw[p.o.f4 hC,lNa]at h2;have hf:=p.need4 hC;refine Sem.loop (λa':Nat×(Nat->Nat)×AV×List qA=>a'.1<=y.W.length/\MH w mid post a'.2.1 a'.2.2.2 (zq (qS (qS m a) b) y a'.1).1/\Fo ow4 h4 a'.2.1 a'.2.2.2/\Ls0 (λj=>a'.2.1 j=0/\h4.length<=j) 4 a'.2.2.2 a'.2.2.1 ((zq (qS (qS m a) b) y a'.1).2.map qn.enc))
   (λa'=>(⟨[(1,.ptr mid 0 0),(12,.ptr yid 0 0),(14,a'.2.2.1),(15,iI (a'.1:Nat))],[],a'.2.2.2⟩:VSt)) (λa'=>y.W.length-a'.1)
   (0,ow4,.lst 4 [] true,h4) (by kernel_rfl) ⟨nZl _,M4,Fo.refl,.inl ⟨rfl,rfl⟩⟩ csA ?_
  rintro⟨i,ow5,v,h5⟩ ⟨hi,M5,F5,L5⟩;simp only at hi M5 F5 L5;have B5:=B2.fo F5;obtain⟨dy,wy,b1,b2,b3⟩:=B5.words;have hcl:=b3.len;rw[lMp]at hcl;simp only[go_sem,b1,hcl];by_cases hlt:i<y.W.length
  case neg=>
   have e:decide ((i:Int)<(y.W.length:Nat))=false:=dEf (by omega);obtain rfl:i=y.W.length:=by omega
   simp only[e,go_sem];refine⟨ow5,M5,F4.trans F5, ?_⟩;rcases L5 with L5 | L5
   ·exact .inl L5
   ·exact .inr (L5.mono λj _ q=>⟨q.1,rfl⟩)
  have e:decide ((i:Int)<(y.W.length:Nat))=true:=dEt (by omega);have hyi:=gEg hlt;generalize y.W[i]=yw at hyi;obtain⟨E1,E2,E3⟩:=qBH h2 (by rw[p.f2];exact hf) i (by omega);obtain⟨ka,da,a1,a2,a3,a4,a5⟩:=wF E1 (by rw[p.f2]at E2;omega);obtain⟨idy,y1,rfl,y3⟩:=b3.full (by rw[lMp];omega);simp only[e,go_sem,b1,qW hlt,nZa,y3,gMp,hyi,oMs];refine XH (SCall.mono (X1 M5 a1 ⟨da,a2⟩ ⟨5,0,0,[],[]⟩ rfl rfl) ?_);rintro _ h6 ⟨rfl,ow6,M6,F6⟩;have L6:=L5.fo F6;obtain⟨c1',c2'⟩:=F6.at b1 B5.o;obtain⟨c3',c4'⟩:=F6.at y3 y1;refine⟨⟨J6 (id:=yid) (j:=0) (k:=4) (v:=.slice 2 idy 0 (y.W.map qE.enc).length false) (by simp only[go_sem]) (by simp only[go_sem]) (by rw[c1'];rfl) (by simp only[AV.rigid,lMp];omega),J6 (id:=idy) (j:=i) (k:=0) (v:=yw.enc) (by simp only[go_sem]) (by simp only[go_sem]) (by rw[c3'];simp only[ZH,gMp,hyi,oMs];rfl) (by unfold qE.enc;exact trivial),trivial⟩, ?_⟩;simp only[go_sem];refine qI QR ?_;simp only[go_sem];have e2:zq (qS (qS m a) b) y (i+1)=(qR (zq (qS (qS m a) b) y i).1 ⟨5,0,0,[],[]⟩,(zq (qS (qS m a) b) y i).2++[⟨yw,awI (ka:Nat)⟩]):=by rw[XP hyi,QW,a1]
  have hal:∀i,i<=y.W.length->(zq (qS (qS m a) b) y i).2.length=i:=by
   intro i
   induction i with
   | zero=>intro _;rfl
   | succ i ih=>
    intro hi;rw[XP (gEg (show i<y.W.length by omega)),QW];simp[ih (by omega)]
  refine qAG (L6.app _) ends (by rw[lMp,hal i (by omega)];omega) λh7 u7 w7 l7=>?_;simp only[go_sem,wuA (n:=i)];have MA:=M6.app [qA.row 4 [AV.agg [iI yw.T,iI yw.I,iI (awI (ka:Nat)).T,iI (awI (ka:Nat)).I]] true];have FA:=(F5.trans F6).trans (Fo.app (h:=h6) (ow:=ow6) [qA.row 4 [AV.agg [iI yw.T,iI yw.I,iI (awI (ka:Nat)).T,iI (awI (ka:Nat)).I]] true]);have hF:=(F5.trans F6).l;refine qd (i+1,ow6,.slice 4 (h6++[qA.row 4 [AV.agg [iI yw.T,iI yw.I,iI (awI (ka:Nat)).T,iI (awI (ka:Nat)).I]] true]).length 0 (((zq (qS (qS m a) b) y i).2.map qn.enc).length+1) false,h7) ⟨by simp only;omega, ?_, ?_, ?_⟩ (by simp only;omega) csA
  ·simp only[e2];exact MA.upf u7 λj q=>q.1.1
  ·exact FA.upf u7 λj q=>q.1.2
  ·refine .inr (.inr ⟨(h6++[qA.row 4 [AV.agg [iI yw.T,iI yw.I,iI (awI (ka:Nat)).T,iI (awI (ka:Nat)).I]] true]).length,⟨MA.b,by simp;omega⟩, ?_, ?_⟩)
   ·simp[e2]
   ·simp only[e2,lMa];exact w7
 simp only[c4,decide_false,go_sem];by_cases c5:C=5
 ·subst c5;have ep:zW bk m a b x y=ju (qS (qS m a) b) x y:=by
   unfold zW;rw[iN (by omega),iN (by omega),iN (by omega),iN (by omega),iP hC]
  rw[ep];simp only[go_sem];obtain⟨w1,w2,w3⟩:=p.o.f5 hC;have h2:=p.h2;obtain⟨ka,da,a1,a2,a3,a4,a5⟩:=wF h2 (by rw[p.f2];omega);refine lsA ?_;simp only[go_sem,by1];rcases w2 with⟨k7,q2⟩ | ⟨k8,q2,q3⟩
  ·obtain⟨y0,y1,ey⟩:∃y0 y1,y.W=[y0,y1]:=⟨_,_,Qp q2⟩;rw[ey,lMc,lMc,List.map_nil]at by3;obtain⟨iy,j1,rfl,j3⟩:=by3.two;simp only[k7,show decide ((7:Int)=8)=false from rfl,go_sem,bx1,by1,Q1,WS,j3];refine lsA ?_;have eo:opC x y=⟨8,y.L,y.V,[x.V],[y1]⟩:=by unfold opC;rw[iP k7,ey];rfl
   have MA:=(M4.app [qA.row 1 [AV.int .i64 x.V] true]).app [qA.row 2 [y1.enc] true];have o0:ow4 h4.length=0:=M4.b;have o1:ow4 (h4.length+1)=0:=by have:=(M4.app [qA.row 1 [AV.int .i64 x.V] true]).b;simpa using this
   have q1:((h4++[qA.row 1 [AV.int .i64 x.V] true])++[qA.row 2 [y1.enc] true])[iy]?=_:=jC (jC j3);have q2:((h4++[qA.row 1 [AV.int .i64 x.V] true])++[qA.row 2 [y1.enc] true])[yid]?=_:=jC (jC by1);simp only[go_sem,q2,Q1,q1];refine XH (SCall.mono (Ws MA a1 a2 (c':=⟨8,y.L,y.V,[x.V],[y1]⟩) (v:=cE ⟨8,y.L,y.V,[x.V],[y1]⟩ (sQ 1 h4.length 1) (.slice 2 (h4++[qA.row 1 [AV.int .i64 x.V] true]).length 0 1 false)) (T:=λj=>j=h4.length\/j=h4.length+1) (λj t=>by rcases t with t | t<;>rw[t]<;>simp[o0,o1]) ?_) ?_)
   ·exact⟨_,_,rfl,.inr ⟨h4.length,.inl rfl,rfl,jC ends⟩,.inr ⟨(h4++[qA.row 1 [AV.int .i64 x.V] true]).length,.inr (by simp),rfl,ends⟩⟩
   rintro r h5 ⟨rfl,ow5,M5,f5,_⟩;rw[<-eo]at M5;have F5:Fo ow4 h4 ow5 h5:=⟨by have:=f5.l;simp at this;omega,λj hj q=>by
    obtain⟨a,b⟩:=f5.k j (by simp;omega) q (by omega);refine⟨a,b.trans ?_⟩;rw[gAl (by simp;omega),gAl hj]⟩
   obtain⟨q5,q6⟩:=F5.at j3 j1;obtain⟨q7,q8⟩:=F5.at by1 B2.o;refine⟨⟨J6 (id:=yid) (j:=0) (k:=4) (v:=sQ 2 iy 2) (by simp only[go_sem]) (by simp only[go_sem]) (by rw[q7];rfl) (by simp[AV.rigid]),J6 (id:=iy) (j:=0) (k:=0) (v:=y0.enc) (by simp only[go_sem]) (by simp only[go_sem]) (by rw[q5];rfl) (by unfold qE.enc;exact trivial),trivial⟩, ?_⟩;simp only[go_sem];refine qI QR ?_;simp only[go_sem];have eM:ju (qS (qS m a) b) x y=(qR (qS (qS m a) b) (opC x y),[⟨y0,awI (ka:Nat)⟩]):=by unfold ju;rw[ey,a1];rfl
   rw[eM];refine ZZ (ys:=[qn.enc ⟨y0,awI (ka:Nat)⟩]) (Els.row ends rfl) (by simp) ?_;simp only[go_sem];exact⟨ow5,(M5.app _).app _,F4.trans (F5.trans ((Fo.app _).trans (Fo.app _))),.inr (.inr ⟨_,(M5.app _).b,rfl,ends⟩)⟩
  ·obtain⟨y0,ey⟩:∃y0,y.W=[y0]:=⟨_,Z3 q2⟩;obtain⟨d0,ed⟩:∃d0,y.D=[d0]:=by
    match y.D,q3 with
    |[d0],_=>exact⟨d0,rfl⟩
   rw[ey,lMc,List.map_nil]at by3;rw[ed,lMc,List.map_nil]at by2;obtain⟨iy,j1,rfl,j3⟩:=by3.one;obtain⟨id,l1,rfl,l3⟩:=by2.one;simp only[k8,go_sem,bx1,by1,J9,j3,l3,qQ];refine qI c762 ?_;simp only[go_sem,jm,List.set_cons_succ,lSz];have eo:opC x y=⟨6,0,opI y.V d0 x.V,[],[]⟩:=by unfold opC;rw[iN (by omega),ed];rfl
   simp only[by1,go_sem,J9,j3];refine XH (SCall.mono (X1 M4 a1 ⟨da,a2⟩ ⟨6,0,opI y.V d0 x.V,[],[]⟩ rfl rfl) ?_);rintro r h5 ⟨rfl,ow5,M5,F5⟩;rw[<-eo]at M5;obtain⟨q5,q6⟩:=F5.at j3 j1;obtain⟨q7,q8⟩:=F5.at by1 B2.o;refine⟨⟨J6 (id:=yid) (j:=0) (k:=4) (v:=sQ 2 iy 1) (by simp only[go_sem]) (by simp only[go_sem]) (by rw[q7];rfl) (by simp[AV.rigid]),J6 (id:=iy) (j:=0) (k:=0) (v:=y0.enc) (by simp only[go_sem]) (by simp only[go_sem]) (by rw[q5];rfl) (by unfold qE.enc;exact trivial),trivial⟩, ?_⟩;simp only[go_sem];refine qI QR ?_;simp only[go_sem];have eM:ju (qS (qS m a) b) x y=(qR (qS (qS m a) b) (opC x y),[⟨y0,awI (ka:Nat)⟩]):=by unfold ju;rw[ey,a1];rfl
   rw[eM];refine ZZ (ys:=[qn.enc ⟨y0,awI (ka:Nat)⟩]) (Els.row ends rfl) (by simp) ?_;simp only[go_sem];exact⟨ow5,(M5.app _).app _,F4.trans (F5.trans ((Fo.app _).trans (Fo.app _))),.inr (.inr ⟨_,(M5.app _).b,rfl,ends⟩)⟩
 simp only[c5,decide_false,go_sem];obtain rfl:C=6:=by omega
 have ep:zW bk m a b x y=chM (qS (qS m a) b) x y:=by
  unfold zW;rw[iN (by omega),iN (by omega),iN (by omega),iN (by omega),iN (by omega),iP hC]
 rw[ep];simp only[go_sem];obtain⟨w1,w2,w3,w4⟩:=p.o.f6 hC;refine qj (SCall.mono (qp5 M4 B1 B2 p.h2 (by rw[p.f2];exact p.need6 hC) w1 w2 w3 (by omega) w4 (by have:(qS (qS m a) b).R=m.R:=rfl;rw[this];omega)) ?_);rintro _ h5 ⟨ow5,M5,F5,L5⟩;simp only[go_sem];exact⟨ow5,M5,F4.trans F5,L5⟩
end
section
variable {w mid cid k a b:Nat} {post cs:List AV} {ow:Nat->Nat} {h h':List qA} {m:qG} {rv dv:AV} {c x y:qF} {P:List qE} {O:Nat->Bool} {bk:List qD} {p:qL}
def xM(m:qG)(post:List AV):AV:=.agg (.lst 5 (m.C.map qF.enc) false::iI m.F::iI m.O.T::iI m.O.I::.lst 2 (m.R.map qL.enc) false::post)
theorem UM:(xM m post).part 0 (some 5)=some m.enc:=by
 simp[xM,qG.enc,AV.part,AV.cells,qE.enc]
theorem YK(hp:AV.trees post=true):(xM m post).tree=true:=by
 simp[xM,AV.tree,AV.trees,qb qF.isSh.tree,qb qL.isSh.tree,hp]
theorem Cvs.tr:∀{ts:List AV},AV.trees ts=true->Cvs h ts ts
 |[],_=>Cvs.nil
 | t::ts,q=>by
  simp only[AV.trees,bAt]at q;exact Cvs.cons (.refl q.1) (Cvs.tr q.2)
theorem MO.cvx(M:MO w mid post ow h m cid cs rv)(hp:AV.trees post=true):Cv h (mE m cid rv post) (xM m post):=by
 have hd:∀p∈cs.zip (m.C.map qF.enc),Cv h p.1 p.2:=λp hp=>by
  obtain⟨k,hk⟩:=List.getElem?_of_mem hp;obtain⟨h1,h2⟩:=List.getElem?_zip_eq_some.1 hk;rw[gMp,oMi]at h2;obtain⟨c,c1,c2⟩:=h2;obtain⟨v,v1,dv,wv,v2,v3,v4⟩:=M.e k c c1;rw[h1]at v1;cases v1;rw[v2,<-c2];have:=Cvs.cons (Cv.ints (h:=h) (x:=c.K)) (Cvs.cons (Cv.ints (x:=c.L)) (Cvs.cons (Cv.ints (x:=c.V)) (Cvs.cons (v3.cv (qb shI.tree _) (by decide)) (Cvs.cons (v4.cv (qb qE.isSh.tree _) (by decide)) Cvs.nil))));exact .agg this.1 this.2
 have hs:Cv h (sQ 5 cid m.C.length) (.lst 5 (m.C.map qF.enc) false):=by
  refine .slc M.c (by rw[M.l];omega) (by decide) (by rw[List.drop_zero,lLt,M.l,lMp];omega) ?_;rw[List.drop_zero,tOl (by rw[M.l];omega)];exact hd
 have:=Cvs.cons hs (Cvs.cons (Cv.ints (x:=m.F)) (Cvs.cons (Cv.ints (x:=m.O.T)) (Cvs.cons (Cv.ints (x:=m.O.I)) (Cvs.cons (M.r.cv (qb qL.isSh.tree _) (by decide)) (Cvs.tr hp)))));exact .agg this.1 this.2
theorem MH.cvp(M:MH w mid post ow h m)(hp:AV.trees post=true)(hw:0<w):Cv h (.ptr mid 0 0) (.ept (xM m post) 0):=by
 obtain⟨cid,cs,rv,M⟩:=M;exact .ptr M.o hw rfl (M.cvx hp)
theorem MH.lend{g e:Nat}{E:Ev}{ck l:List qC}{fs:List Fr1}{s l':qp}{Q:qi->VSt->Prop}{bs:List AV}{v:AV}(M:MH w mid post ow h m)(hp:AV.trees post=true)(hw:0<w)(hb:AV.trees bs=true)(hf:Pure E.Γ g (.ept m.enc 0::bs) v)(hl:v.leaf=true)
  (hr:R E (.ops l::fs) ⟨(e,v)::s,l',h⟩ Q):wJ E (some (g,.ptr mid 0 0::bs)) ck (some e) l fs ⟨s,l',h⟩ Q:=
 J4 (Cvs.cons (M.cvp hp hw) (Cvs.tr hb)) (Pure.lk0 (YK hp) UM (Nat.succ_pos 4) hf) hl hr
theorem MH.lend1{g e:Nat}{E:Ev}{ck l:List qC}{fs:List Fr1}{s l':qp}{Q:qi->VSt->Prop}{bs:List AV}{v a:AV}(M:MH w mid post ow h m)(hp:AV.trees post=true)(hw:0<w)(ha:a.tree=true)(hb:AV.trees bs=true)(hf:Pure E.Γ g (a::.ept m.enc 0::bs) v)(hl:v.leaf=true)
  (hr:R E (.ops l::fs) ⟨(e,v)::s,l',h⟩ Q):wJ E (some (g,a::.ptr mid 0 0::bs)) ck (some e) l fs ⟨s,l',h⟩ Q:=
 J4 (Cvs.cons (.refl ha) (Cvs.cons (M.cvp hp hw) (Cvs.tr hb))) (Pure.lk1 (YK hp) UM (Nat.succ_pos 4) hf) hl hr
theorem slcH{w id n m:Nat}{s l:Env}{h:AH}{x y:Ao}{k:IntKind}(hx:ev s x=some (sQ w id n))(hy:ev s y=some (.int k (m:Nat)))(hm:m<=n):val (.slc w x none (some y) none) s l h=some (sQ w id m):=by
 simp only[val,hx,bnd,hy];rw[iP ⟨by omega,by omega⟩];simp
theorem slcL{w id n m:Nat}{s l:Env}{h:AH}{x y:Ao}{k:IntKind}(hx:ev s x=some (sQ w id n))(hy:ev s y=some (.int k (m:Nat)))(hm:m<=n):val (.slc w x (some y) none none) s l h=some (.slice w id m (n-m) false):=by
 simp only[val,hx,bnd,hy];rw[iP ⟨by omega,by omega⟩];simp
theorem qH8{ls:List qn}{l:qn}:JO m (ls++[l])=wA (JO m ls) l.A l.B:=by simp[JO]
theorem qH9{ls:List qn}{i:Nat}(h:MM m (lws ls++P) O):MM (JO m (ls.take i)) (lws (ls.drop i)++P) O/\(JO m (ls.take i)).C.length=m.C.length:=by
 rw[<-List.take_append_drop i ls,VC,lAa]at h;obtain⟨h1,h2,_⟩:=qB0 (ls.take i) h;exact⟨h1,h2⟩
theorem Ls0.rowat{w:Nat}{Pr:Nat->Prop}{v:AV}{el:List AV}(x:Ls0 Pr w h v el)(h0:0<el.length):∃id,Pr id/\v=sQ w id el.length/\h[id]?=some (.row w el true):=by
 rcases x with⟨_,q⟩ | x
 ·rw[q]at h0;simp at h0
 ·exact x.full h0
theorem Ls0.fo0{w:Nat}{ow':Nat->Nat}{v:AV}{el:List AV}(x:Ls0 (λj=>ow j=0) w h v el)(f:Fo ow h ow' h'):Ls0 (λj=>ow' j=0) w h' v el:=x.imp id λx=>x.fo0 f
theorem qJK(p:Pl bk m a b x y P O):(zW bk m a b x y).2.length<=1000:=by
 obtain⟨w1,w2⟩:=p.o.wl;unfold zW
 repeat' split
 ·simp
 ·simp
 ·unfold wL;simp only;rw[Ym,lLt];omega
 ·have hal:∀i,i<=y.W.length->(zq (qS (qS m a) b) y i).2.length=i:=by
   intro i
   induction i with
   | zero=>intro _;rfl
   | succ i ih=>
    intro hi;rw[XP (gEg (show i<y.W.length by omega)),QW];simp[ih (by omega)]
  rw[hal _ (nLr _)];omega
 ·simp[ju]
 ·unfold chM;split<;>simp
 ·simp
theorem s600(M:MH w mid [] ow h m)(hw:0<w)(mm:MM m [] O0)(hk:k<m.R.length)(hb:z5 bk=true)(hcl:m.C.length<=1500):
  SCall Gm 600 [.lst 1 (bk.map qD.enc) false,.ptr mid 0 0,iI (k:Nat)] h (λv h'=>v=.tup [iI (doM bk m k).2.1,iI (doM bk m k).2.2]/\∃ow',MH w mid [] ow' h' (doM bk m k).1/\Fo ow h ow' h'):=by
 obtain⟨p,a,b,x,y,r⟩:=Wp mm hk;have hrl:=Wr mm;refine sI kK ?_;obtain⟨cid,cs,rv,M⟩:=M;obtain⟨rid,i1,rfl,i3⟩:=M.r.full (by rw[lMp];omega);rw[lMp]at M;simp only[kK,qM,go_sem,M.o,qW hk,nZa,i3,gMp,r.at',oMs];refine lsA ?_;simp only[go_sem];obtain⟨ka,kb,u,v,h1,hc,h2⟩:=r.ro.cls;have wu:u.W.length<=3/\v.W.length<=3/\x.W.length<=3/\y.W.length<=3:=by
  have w1:=wT r.ro.ox;have w2:=wT r.ro.oy;rw[agp]at w1 w2;rcases h2 with⟨_,_,_,rfl,rfl⟩ | ⟨_,_,_,rfl,rfl⟩<;>omega
 have MM1:=MH.intro M;refine MM1.lend rfl hw (by simp[AV.trees,go_sem]) (c969 h1 (by omega) (by omega)) rfl ?_;rw[show za (qY u) (qY v)=qe x y from hc];simp only[go_sem];have hl8:=Jw r.ro.ox;have hv:qe x y=7->0<=x.V:=λc=>by
  have h8:qe x y≠8:=by omega
  exact(Ord.f7 ⟨r.ro.ox,r.ro.oy,r.kx,r.ky,r.f,h8⟩ c).2
 refine MM1.lend1 rfl hw (by simp[AV.tree,qb qD.isSh.tree]) (by simp[AV.trees,go_sem]) (c855 r.ro hb (by omega) (by omega) hv hl8) rfl ?_;simp only[go_sem];have er:=r.do (bk:=bk);have hrs:2<=2:=nLr _;by_cases h0:(zA bk x y).2=0
 case neg=>
  rw[iP h0]at er;simp only[h0,decide_false,go_sem];rw[er];exact⟨rfl,ow,MM1,Fo.refl⟩
 simp only[h0,go_sem];obtain⟨L,hL⟩:=mm.fre;refine MM1.lend rfl hw rfl (c970 (by omega) hL) rfl ?_;simp only[go_sem];refine qI c857 ?_;simp only[go_sem];have hnF:nF m.C<=m.C.length:=List.countP_le_length;have ew:IntKind.i64.wrap ((nF m.C:Nat)+(if qe x y=7 then 1 else 2:Int))=(nF m.C:Int)+z7 (qe x y):=by unfold z7;split<;>rw[wsA]
 rw[iN (by omega)]at er;simp only[ew];by_cases hn:(nF m.C:Int)+z7 (qe x y)<(zA bk x y).1
 ·rw[iP hn]at er;simp only[hn,go_sem];rw[er];exact⟨rfl,ow,MM1,Fo.refl⟩
 rw[iN hn]at er;simp only[hn,decide_false,go_sem];refine MM1.lend rfl hw (by simp[AV.trees,go_sem]) (c971 h1) (by split<;>rfl) ?_;have e2:(if JB u v=true then AV.tup [iI (kb:Nat),iI (ka:Nat)]else .tup [iI (ka:Nat),iI (kb:Nat)])=.tup [iI (a:Nat),iI (b:Nat)]:=by
  rcases h2 with⟨hs,rfl,rfl,_,_⟩ | ⟨hs,rfl,rfl,_,_⟩<;>rw[hs]<;>rfl
 rw[e2];simp only[go_sem,M.o];refine Wm (slcH (k:=.i64) (id:=rid) (n:=m.R.length) (m:=k) (by simp only[go_sem]) (by simp only[go_sem]) (by omega)) ?_;simp only[go_sem,M.o,wuA (n:=k)];refine Wm (slcL (k:=.i64) (id:=rid) (n:=m.R.length) (m:=k+1) (by simp only[go_sem]) (by simp only[go_sem]) (by omega)) ?_;simp only[go_sem];have et:(m.R.take k).length=k:=by rw[lLt];omega
 refine qEE (ys:=(m.R.take k).map qL.enc) (by have:=Els.part (off:=0) (n:=k) (c:=false) i3 (by rw[lMp];omega);rwa[List.drop_zero,<-List.map_take]at this) (by rw[lMp];omega) ?_;have ey:(((m.R.map qL.enc).drop (k+1)).take (m.R.length-(k+1)))=(m.R.drop (k+1)).map qL.enc:=by
  rw[<-List.map_drop,<-List.map_take,tOl (by rw[List.length_drop];omega)]
 rw[lMp,et];simp only[go_sem];refine XA (id:=h.length) (el:=(m.R.take k).map qL.enc) (ys:=(m.R.drop (k+1)).map qL.enc) (by have:=Els.part (off:=k+1) (n:=m.R.length-(k+1)) (c:=false) (jC (o:=[qA.row 2 ((m.R.take k).map qL.enc) true]) i3) (by rw[lMp];omega);rwa[ey]at this) ends (by rw[lMp];exact et) (by rw[lMp,List.length_drop];omega) ?_;simp only[go_sem];have lm:=qZ M.o;have U1:Up (λj=>ow j=2) h ((h++[qA.row 2 ((m.R.take k).map qL.enc) true]).set h.length .dead++[qA.row 2 ((m.R.take k).map qL.enc++(m.R.drop (k+1)).map qL.enc) true]):=by
  refine((Up.app _ (S:=λ_=>False)).trans (Up.set (id:=h.length)) (T:=λj=>j=h.length) λj hj q=>by omega) |>.trans (Up.app _ (S:=λ_=>False)) (λ_ _ q=>q) |>.w λj _ q=>q.elim
 have hid:((h++[qA.row 2 ((m.R.take k).map qL.enc) true]).set h.length .dead++[qA.row 2 ((m.R.take k).map qL.enc++(m.R.drop (k+1)).map qL.enc) true])[h.length+1]?=some (.row 2 ((unR m k).R.map qL.enc) true):=by
  rw[gAr (by simp)];simp[unR]
 have hM1:=U1.at M.o (λq=>by rw[M.m1]at q;cases q);have el:(h++[qA.row 2 ((m.R.take k).map qL.enc) true]).length=h.length+1:=by simp
 obtain⟨M2,F2⟩:=M.redx (rx:=(unR m k).R) (rv':=.slice 2 (h.length+1) 0 (k+(m.R.drop (k+1)).length) false) U1 (by omega) hid (by simp only[unR,lAp,et]);rw[el];generalize (h++[qA.row 2 ((m.R.take k).map qL.enc) true]).set h.length .dead++[qA.row 2 ((m.R.take k).map qL.enc++(m.R.drop (k+1)).map qL.enc) true]=hA at*;refine X8 (rv':=.slice 2 (h.length+1) 0 (k+(m.R.drop (k+1)).length) false) hM1 (unR m k).R rfl ?_;have pl:=r.pl hb h0 hn;generalize owR ow (h.length+1)=ow2 at*;generalize hA.set mid _=hB at*;have M3:MH w mid [] ow2 hB (unR m k):=MH.intro M2;simp only[go_sem];have hxd:=Zf r.ro.ox;have hyd:=Zf r.ro.oy;refine qj (SCall.mono (s972 M3 pl (by have:x.D.length<=4:=hxd;omega) (by have:y.D.length<=4:=hyd;omega) (by simp only[unR,lAp,lLt,List.length_drop];omega)) ?_);rintro v4 h4 ⟨ow4,M4,F4,L4⟩;simp only[go_sem];obtain⟨p1,p2⟩:=qCP pl;generalize hq:zW bk (unR m k) a b x y=q at*;have p2':q.1.C.length=m.C.length:=p2;have hql:q.2.length<=1000:=by rw[<-hq];exact qJK pl
 have hv4:QB (some v4)=some (iI (q.2.length:Nat)):=by have:=L4.len;rwa[lMp]at this
 rw[er];refine Sem.loop (λa':Nat×(Nat->Nat)×List qA=>a'.1<=q.2.length/\MH w mid [] a'.2.1 a'.2.2 (JO q.1 (q.2.take a'.1))/\Fo ow4 h4 a'.2.1 a'.2.2)
  (λa'=>(⟨[(1,.ptr mid 0 0),(9,iI (qe x y)),(14,v4),(15,iI (a'.1:Nat))],[],a'.2.2⟩:VSt)) (λa'=>q.2.length-a'.1)
  (0,ow4,h4) (by kernel_rfl) ⟨nZl _,M4,Fo.refl⟩ csA ?_
 rintro⟨i,ow5,h5⟩ ⟨hi,M5,F5⟩;simp only at hi M5 F5;simp only[go_sem,hv4];by_cases hlt:i<q.2.length
 case neg=>
  have e:decide ((i:Int)<(q.2.length:Nat))=false:=dEf (by omega);simp only[e,go_sem];rw[tOl (by omega)]at M5;exact⟨trivial,ow5,M5,(F2.trans F4).trans F5⟩
 have e:decide ((i:Int)<(q.2.length:Nat))=true:=dEt (by omega);have hli:=gEg hlt;generalize hlk:q.2[i]=lk at hli;obtain⟨id,j1,rfl,j3⟩:=(L4.fo0 F5).rowat (by rw[lMp];omega);simp only[e,go_sem,qW hlt,nZa,j3,gMp,hli,oMs];obtain⟨m1,m2⟩:=qH9 (i:=i) p1;have ed:q.2.drop i=lk::q.2.drop (i+1):=by rw[lDc hlt,hlk]
 rw[ed,lAn]at m1;have hr5:=Wr m1;refine qj (SCall.mono (s973 M5 m1 (by omega)) ?_);rintro _ h6 ⟨ow6,M6,F6⟩;simp only[go_sem,wuA (n:=i)];have et2:q.2.take (i+1)=q.2.take i++[lk]:=by rw[tA1,hli];rfl
 rw[<-qH8,<-et2]at M6;exact qd (i+1,ow6,h6) ⟨by simp only;omega,M6,F5.trans F6⟩ (by simp only;omega) csA
end
def Zi(N:List qB)(ps:List qH):List zN:=(wrs N ps).filter j9
theorem qmB{N:List qB}{ps:List qH}{p:qH}:Zi N (ps++[p])=Zi N ps++if bef p (qK N p)=true/\j9 ⟨p,qK N p⟩=true then [⟨p,qK N p⟩]else []:=by
 unfold Zi;rw[Z4,List.filter_append,YJ];congr 1;by_cases h:bef p (qK N p)=true
 ·rw[iP h];by_cases q:j9 ⟨p,qK N p⟩=true
  ·rw[iP ⟨h,q⟩,List.filter_cons_of_pos q];rfl
  ·rw[iN (λz=>q z.2),List.filter_cons_of_neg q];rfl
 ·rw[iN h,iN (λz=>h z.1)];rfl
theorem qE6{n:qD}(hz:n.sz<=1048576)(ok:qk n=true):Pure Gm 1421 [.ept n.enc 0] (.lst 4 ((qf n.G).map zN.enc) false):=by
 refine pI Ke (by simp[AV.trees,AV.tree,go_sem]) (qb zN.isSh.tree _) ?_;simp only[Ke,qM,go_sem];refine qI (XF hz) ?_;simp only[go_sem];have hpl:=Qj n.G n.G.length (nLr _);rw[lTl]at hpl;have hW:=wR ok;unfold qD.sz at hz;change Sem _ _ ⟨(10,iI 0)::(9,iI ((qO n.G).length:Nat))::(8,.lst 2 ((qO n.G).map qH.enc) false)::_,_,_⟩ _;have hpl2:(qO n.G).length<=1048576:=by unfold qO;omega
 refine Sem.loop (λa:Nat×AV×List qA=>a.1<=(qO n.G).length/\LsW (λ_=>True) 4 a.2.2 a.2.1 ((Zi n.G ((qO n.G).take a.1)).map zN.enc))
  (λa=>(⟨[(0,.ept n.enc 0),(2,.nils),(3,a.2.1),(8,.lst 2 ((qO n.G).map qH.enc) false),(9,iI ((qO n.G).length:Nat)),(10,iI (a.1:Nat))],[],a.2.2⟩:VSt)) (λa=>(qO n.G).length-a.1)
  (0,.nils,[]) (by kernel_rfl) ⟨nZl _,.inl ⟨rfl,rfl⟩⟩ csA ?_
 rintro⟨i,v,h⟩ ⟨hi,I⟩;simp only at hi I;simp only[go_sem];by_cases hlt:i<(qO n.G).length
 case neg=>
  have e:decide ((i:Int)<((qO n.G).length:Nat))=false:=dEf (by omega);simp only[e,go_sem];rw[tOl (by omega)]at I;exact J7 (I.cv (qb zN.isSh.tree _) (by decide))
 have e:decide ((i:Int)<((qO n.G).length:Nat))=true:=dEt (by omega);have hc:=gEg hlt;generalize (qO n.G)[i]=p at hc;have hm:=lMo hc;obtain⟨a,s,rfl,hs⟩:=jB.1 hm;obtain⟨z,hz1,hz2⟩:=jI.1 hs;have ha:=qZ hz1;have hs2:s<n.G[a].P.length:=by
  rw[gEg ha]at hz1;rw[Option.some.inj hz1];exact hz2
 have hpe:qK n.G (pt a s)=n.G[a].P[s]:=Wl (Qs.2 ⟨n.G[a],gEg ha,gEg hs2⟩);simp only[e,gMp,hc,oMs,go_sem];refine lsA ?_;simp only[go_sem];refine qI (YZ ha hs2) ?_;rw[<-hpe];have hs3:=qmB (N:=n.G) (ps:=(qO n.G).take i) (p:=pt a s);have et:(qO n.G).take (i+1)=(qO n.G).take i++[pt a s]:=by rw[tA1,hc];rfl
 generalize hq:qK n.G (pt a s)=q at*;simp only[go_sem];refine lsA ?_;simp only[go_sem];refine qI c556 ?_;simp only[go_sem];cases hb:bef (pt a s) q
 ·simp only[go_sem,wuA (n:=i)];refine qd (i+1,v,h) ⟨by simp only;omega, ?_⟩ (by simp only;omega) csA;simp only[et];rw[hs3,iN (λz=>by have:=z.1;rw[hb]at this;cases this),lAn];exact I
 simp only[go_sem];by_cases hA:0<(pt a s).S
 case neg=>
  have eA:decide (0<(pt a s).S)=false:=dEf hA;simp only[eA,go_sem];simp only[go_sem,wuA (n:=i)];refine qd (i+1,v,h) ⟨by simp only;omega, ?_⟩ (by simp only;omega) csA;simp only[et];rw[hs3,iN (λz=>hA (by have:=z.2;simp only[j9,bAt,dTe]at this;exact this.1)),lAn];exact I
 have eA:decide (0<(pt a s).S)=true:=dEt hA;simp only[eA,go_sem];by_cases hB:0<q.S
 case neg=>
  have eB:decide (0<q.S)=false:=dEf hB;simp only[eB,go_sem];simp only[go_sem,wuA (n:=i)];refine qd (i+1,v,h) ⟨by simp only;omega, ?_⟩ (by simp only;omega) csA;simp only[et];rw[hs3,iN (λz=>hB (by have:=z.2;simp only[j9,bAt,dTe]at this;exact this.2)),lAn];exact I
 have eB:decide (0<q.S)=true:=dEt hB;simp only[eB,go_sem];have hwl:(Zi n.G ((qO n.G).take i)).length<=1048576:=by
  have h1:(Zi n.G ((qO n.G).take i)).length<=(wrs n.G ((qO n.G).take i)).length:=List.length_filter_le ..;have h2:=UL (xs:=n.G) (a:=(qO n.G).take i);rw[lLt]at h2;omega
 refine wc (I.app _) ends (by rw[lMp];omega) λh3 u3 w3 l3=>?_;simp only[go_sem,wuA (n:=i)];rw[iP ⟨hb,by simp only[j9,eA,eB,Bool.and_self]⟩]at hs3;refine qd (i+1,.slice 4 (h++[qA.row 4 [AV.agg [iI (pt a s).N,iI (pt a s).S,iI q.N,iI q.S]] true]).length 0 (((Zi n.G ((qO n.G).take i)).map zN.enc).length+1) false,h3) ⟨by simp only;omega, ?_⟩ (by simp only;omega) csA;refine .inr ⟨(h++[qA.row 4 [AV.agg [iI (pt a s).N,iI (pt a s).S,iI q.N,iI q.S]] true]).length,trivial, ?_, ?_⟩
 ·simp only[et,hs3];simp
 ·simp only[et,hs3,lMa];exact w3
section
variable {w mid cid k s b bid a0:Nat} {post cs:List AV} {ow ow':Nat->Nat} {h h':List qA} {m:qG} {rv dv:AV} {c y:qF} {lev:Int} {n:qD} {P:List qE} {O:Nat->Bool} {ks vs:List Nat} {bk:List qD}
theorem qnH:(mE m cid rv [.lst 1 (bk.map qD.enc) false]).part 5 none=some (.lst 1 (bk.map qD.enc) false):=rfl
theorem Y1{a0:Nat}:lay n.enc a0=(.agg [sQ 5 a0 n.G.length],.row 5 (qT (n.G.map qB.enc) (a0+1)).1 true::(qT (n.G.map qB.enc) (a0+1)).2):=by simp[qD.layE,lay]
theorem qn3{a0:Nat}{H:List qA}(hn:0<n.G.length)(hr:∀i o,(lay n.enc a0).2[i]?=some o->H[a0+i]?=some o):Cv H (.agg [sQ 5 a0 n.G.length]) n.enc/\Cv H (.slice 5 a0 1 (n.G.length-1) false) (.lst 5 ((n.G.drop 1).map qB.enc) false):=by
 have h1:=qHR n.enc a0 (qD.plx n) (qD.cnx n) hr;rw[Y1]at h1;refine⟨h1, ?_⟩;have r0:=hr 0 (.row 5 (qT (n.G.map qB.enc) (a0+1)).1 true) (by rw[Y1];rfl);have ll:(qT (n.G.map qB.enc) (a0+1)).1.length=n.G.length:=by rw[Ja,lMp]
 have lc:=Xb (h:=H) (n.G.map qB.enc) (a0+1) (jT qB.plx _) (j8 qB.cnx _) λi o q=>by
  have:=hr (i+1) o (by rw[Y1];exact q);rw[show a0+1+i=a0+(i+1) by omega];exact this
 rw[nAz]at r0;refine .slc r0 (by omega) (by decide) (by simp[ll]) λp hp=>?_;obtain⟨k,hk⟩:=List.getElem?_of_mem hp;obtain⟨k1,k2⟩:=List.getElem?_zip_eq_some.1 hk;rw[tOl (by rw[List.length_drop,ll];omega),gDr]at k1;rw[List.map_drop,gDr]at k2;exact lc p (lMo (List.getElem?_zip_eq_some.2 ⟨k1,k2⟩))
theorem Vu{N:List qB}{T:qH->qE}{D:qH->Bool}{i k0 tid:Nat}{x:qB}{Mv:qG}{q:qE}(M:MH w mid post ow h (ovM Mv (gkw ks (dW N T D))))(nd:ks.Nodup)(hk:ks[i]?=some k)(hc:Mv.C[k]?=some c)(hx:N[i+1]?=some x)(hs:s+1<x.P.length)(hp:x.P.length<=1000)
  (ht:h[tid]?=some (.row 1 ((k0::ks).map λk:Nat=>AV.int .i64 (k:Nat)) true)) (ot:ow tid=0) (hl:ks.length+1=N.length) (hq:T (pt (i+1) (s+1))=q):SCall Gm 866 [.ptr mid 0 0,(pt (i+1) (s+1)).enc,q.enc,sQ 1 tid N.length] h (λ_ h'=>∃ow',MH w mid post ow' h' (ovM Mv (gkw ks (dW N T (zk D (pt (i+1) (s+1))))))/\Fo ow h ow' h'):=by
 have l:=qF7 (T:=T) (D:=D) hx;have e:(k0::ks).length=N.length:=by simp;exact hl
 have:=s866 (n:=0) (x:=q) (s:=s) (a:=i+1) (kl:=k0::ks) M (qCG (f:=dW N T D) nd hk hc) (by simp only;omega) (by simp only;omega) (by simpa using hk) ht ot;rw[e]at this;refine SCall.mono this ?_;rintro v h' ⟨ow',M',F'⟩;refine⟨ow', ?_,F'⟩;rw[<-hq]at M';rwa[qJQ nd hk hc hx hs]at M'
theorem qmG{w:zN}(ok:qk n=true)(h:w∈qf n.G):∃(a s c t:Nat)(y z:qB),w=⟨pt (a+1) (s+1),pt (c+1) (t+1)⟩/\n.G[a+1]?=some y/\s+1<y.P.length/\n.G[c+1]?=some z/\t+1<z.P.length:=by
 obtain⟨A,B⟩:=w;obtain⟨x1,x2,x3,x4,x5⟩:=Jr.1 h;simp only at x1 x2 x3 x4 x5;obtain⟨q1,-,-⟩:=zu (wR ok) x1;rw[<-x2]at q1;obtain⟨a,s,rfl,hs⟩:=jB.1 x1;obtain⟨c,t,rfl,ht⟩:=jB.1 q1;obtain⟨y,y1,y2⟩:=jI.1 hs;obtain⟨z,z1,z2⟩:=jI.1 ht;simp only[pt]at x4 x5;have ha:a≠0:=λe=>by subst e;have:=Jh ok y1;omega
 have hc:c≠0:=λe=>by subst e;have:=Jh ok z1;omega
 obtain⟨a,rfl⟩:∃a',a=a'+1:=⟨a-1,by omega⟩;obtain⟨c,rfl⟩:∃a',c=a'+1:=⟨c-1,by omega⟩;obtain⟨s,rfl⟩:∃a',s=a'+1:=⟨s-1,by omega⟩;obtain⟨t,rfl⟩:∃a',t=a'+1:=⟨t-1,by omega⟩;exact⟨a,s,c,t,y,z,rfl,y1,y2,z1,z2⟩
theorem qiU:Pure Gm 1257 [] (pt 0 0).enc:=by
 refine pI Uk rfl qH.tr ?_;simp only[Uk,qM,go_sem];refine lsA ?_;simp only[go_sem];exact qN rfl rfl
theorem Ya{xs:Ags}{a s:Nat}(h:Has xs a s)(mp:∀q,qK xs q=qK n.G q):Pure Gm 555 [.ept (qD.enc ⟨xs⟩) 0,(pt a s).enc] (qK n.G (pt a s)).enc:=by
 obtain⟨z,z1,z2⟩:=jI.1 h;have ha:=qZ z1;have hs:s<xs[a].P.length:=by rw[gEg ha]at z1;rw[Option.some.inj z1];exact z2
 have:=YZ (n:=⟨xs⟩) ha hs;have hpe:qK xs (pt a s)=xs[a].P[s]:=Wl (Qs.2 ⟨xs[a],gEg ha,gEg hs⟩);rw[<-mp,hpe];exact this
theorem qp7{x:qF}{dvx wvx:AV}(M:MH w mid [.lst 1 (bk.map qD.enc) false] ow h m)(hv:0<=x.V/\x.V<bk.length)(hn:qt bk x.V=n)(hz:n.sz<=1048576)(ok:qk n=true)(hl:0<=x.L/\x.L<=8)(n9:¬8<IntKind.i64.wrap (hiI n.G+x.L))(mm:MM m (aW b::P) O)
  (hf:n.G.length-1+(qf n.G).length<=nF m.C) (X:Z9 n x.L m b P O ks vs) (hrx:m.R.length+n.G.length<=1000000):
  SCall Gm 1289 [.ptr mid 0 0,cE x dvx wvx,iI (b:Nat)] h (λ_ h'=>∃ow',MH w mid [.lst 1 (bk.map qD.enc) false] ow' h' (XQ n x.L m b)/\Fo ow h ow' h'):=by
 have hn0:=jf ok;have hC:=qDD ok hl n9;rw[X.mem];obtain⟨I,J,-⟩:=X;refine sI Ux ?_;obtain⟨cid,cs,rv,M0⟩:=id M;simp only[Ux,qM,go_sem];refine qa rfl ?_;simp only[go_sem,M0.o,qnH,XW hv.1 hv.2,hn];refine J3 (qIN n x.L (by omega) hl λz hz=>Jw (J0 (Qi ok) z hz)) ?_;rw[qnG ok hl n9];have okT:=qnF ok hl n9;have mpT:=qnR (xs:=n.G) (ZE (lev:=x.L));have mpP:=qCA (xs:=n.G) (ZE (lev:=x.L));have mpQ:=qIL (xs:=n.G) (ZE (lev:=x.L));have mpE:∀q,qK (n.G.map (lvA x.L)) q=qK n.G q:=λq=>qIM ZE;have hT:(n.G.map (lvA x.L)).length=n.G.length:=by simp
 have hT0:∀(k:Nat)(z:qB),n.G[k]?=some z->(n.G.map (lvA x.L))[k]?=some (lvA x.L z):=λk z hz=>by rw[gMp,hz];rfl
 generalize hTT:n.G.map (lvA x.L)=T at*;have eL:lay (QD (⟨T⟩,true)) h.length=(.tup [(lay (qD.enc ⟨T⟩) h.length).1,.bool true],(lay (qD.enc ⟨T⟩) h.length).2):=by simp[QD,lay,qT]
 rw[eL];have hcv:=λH=>qn3 (n:=⟨T⟩) (a0:=h.length) (H:=H) (by simp only;omega);have eL1:(lay (qD.enc ⟨T⟩) h.length).1=.agg [sQ 5 h.length T.length]:=by rw[Y1]
 rw[eL1];generalize (lay (qD.enc ⟨T⟩) h.length).2=HR at*;simp only[go_sem];refine zx (e':=.agg [sQ 5 h.length T.length]) rfl List.getElem?_concat_length rfl rfl ?_;have es:(h++HR++[qA.row 1 [AV.agg [AV.nils]] true]).set (h++HR).length (qA.row 1 (List.set [AV.agg [AV.nils]] 0 (AV.agg [AV.slice 5 h.length 0 T.length false])) true)=h++HR++[qA.row 1 [AV.agg [AV.slice 5 h.length 0 T.length false]] true]:=by
  rw[lSr _ _ (nLr _),nSs];rfl
 rw[es];have hb:(h++HR++[qA.row 1 [AV.agg [AV.slice 5 h.length 0 T.length false]] true])[(h++HR).length]?=some (qA.row 1 [AV.agg [AV.slice 5 h.length 0 T.length false]] true):=ends;have hR:∀i o,HR[i]?=some o->(h++HR++[qA.row 1 [AV.agg [AV.slice 5 h.length 0 T.length false]] true])[h.length+i]?=some o:=λi o q=>by
  rw[gAl (by have:=qZ q;simp;omega),gAr (by omega),Nat.add_sub_cancel_left];exact q
 have MB:MH w mid [.lst 1 (bk.map qD.enc) false] ow (h++HR++[qA.row 1 [AV.agg [AV.slice 5 h.length 0 T.length false]] true]) m:=(M.app HR).app _;have FB:Fo ow h ow (h++HR++[qA.row 1 [AV.agg [AV.slice 5 h.length 0 T.length false]] true]):=(Fo.app _).trans (Fo.app _);have lB:(h++HR++[qA.row 1 [AV.agg [AV.slice 5 h.length 0 T.length false]] true]).length=(h++HR).length+1:=by simp;omega
 have hbl:(h++HR).length=h.length+HR.length:=lAp;clear es;generalize h++HR++[qA.row 1 [AV.agg [AV.slice 5 h.length 0 T.length false]] true]=HB at*;generalize (h++HR).length=bid at*;have hnz:n.G.length<=1048576:=by unfold qD.sz at hz;omega
 have ob:∀j,h.length<=j->ow j=0:=λj hj=>Classical.byContradiction λq=>by have:=M.b' q;omega
 simp only[go_sem,hb];refine Jc (by unfold LIM;omega) ?_;simp only[go_sem];have hb2:(HB++[qA.row 1 (List.replicate T.length (AV.int .i64 0)) true])[bid]?=_:=jC hb;simp only[hb2,go_sem];refine Wm (slcL (k:=.i64) (id:=h.length) (n:=T.length) (m:=1) (by simp only[go_sem]) (by simp only[go_sem];rfl) (by omega)) ?_;simp only[go_sem];have ext:∀i o,HR[i]?=some o->(only (List.range' h.length (HR.length+1)) (HB++[qA.row 1 (List.replicate T.length (AV.int .i64 0)) true]))[h.length+i]?=some o:=λi o q=>by
  rw[qI9 (by rw[List.mem_range'_1];have:=qZ q;omega)];exact jC (hR i o q)
 have exb:(only (List.range' h.length (HR.length+1)) (HB++[qA.row 1 (List.replicate T.length (AV.int .i64 0)) true]))[bid]?=_:=(qI9 (by rw[List.mem_range'_1];omega)).trans hb2;obtain⟨cv1,cv2⟩:=hcv _ ext;refine Sem.can (Can.give (s':=[(0,.ptr mid 0 0),(2,iI (b:Nat)),(6,.ept (qD.enc ⟨T⟩) 0),(8,sQ 1 HB.length T.length),(40,.lst 5 ((T.drop 1).map qB.enc) false),(41,iI (T.length-1:Nat)),(42,iI 0)]) (m':=[]) (List.range' h.length (HR.length+1))
  (GvS.same (by simp only[go_sem]) (GvS.same (by simp only[go_sem]) (GvS.cons (v:=.ptr bid 0 0) (by simp only[go_sem]) (.ptr exb (by decide) rfl cv1) (by simp only[AV.tree];exact qD.tr) (GvS.same (by simp only[go_sem]) (GvS.cons (v:=.slice 5 h.length 1 (T.length-1) false) (by simp only[go_sem]) cv2 (by simp only[AV.tree];exact qb qB.isSh.tree _) (GvS.same (by simp only[go_sem]) (GvS.same (by simp only[go_sem]) .nil))))))) .nil) ?_
 have ht:(without (List.range' h.length (HR.length+1)) (HB++[qA.row 1 (List.replicate T.length (AV.int .i64 0)) true]))[HB.length]?=some (.row 1 (List.replicate T.length (AV.int .i64 0)) true):=by
  rw[qDK (by rw[List.mem_range'_1];omega)];exact ends
 have FC:Fo ow h ow (without (List.range' h.length (HR.length+1)) (HB++[qA.row 1 (List.replicate T.length (AV.int .i64 0)) true])):=⟨by rw[qDJ];simp;omega,λj hj q=>⟨q,by
  rw[qDK (by rw[List.mem_range'_1];omega),gAl (by omega)];exact(FB.k j hj q).2⟩⟩
 have MC':MH w mid [.lst 1 (bk.map qD.enc) false] ow (without (List.range' h.length (HR.length+1)) (HB++[qA.row 1 (List.replicate T.length (AV.int .i64 0)) true])) m:=(MB.app _).heap (by rw[qDJ];exact nLr _) λj _ q=>qDK λz=>by rw[List.mem_range'_1]at z;exact q (ob j z.1)
 have ot:ow HB.length=0:=ob _ (by omega);clear exb ext cv1 cv2 hcv hb2 hb hR MB FB;have tidl:h.length<=HB.length:=by omega
 generalize without (List.range' h.length (HR.length+1)) (HB++[qA.row 1 (List.replicate T.length (AV.int .i64 0)) true])=HC at*;generalize HB.length=tid at*;have hcell:∀(i:Nat)(x:qB),n.G[i+1]?=some x->qx x.K=true:=λi x hx=>(hC i x hx).1;have r0:List.replicate T.length (AV.int .i64 0)=((0:Int)::([]++List.replicate (n.G.length-1-0) 0)).map qQ:=by
  rw[show T.length=(n.G.length-1-0)+1 by omega,List.replicate_succ,lNa,lMc,List.map_replicate];rfl
 rw[r0]at ht;refine Sem.loop (λa:Nat×(Nat->Nat)×List qA=>a.1+1<=n.G.length/\MH w mid [.lst 1 (bk.map qD.enc) false] a.2.1 a.2.2 (tkA x.L n.G m a.1).1/\Fo ow h a.2.1 a.2.2/\a.2.2[tid]?=some (.row 1 (((0:Int)::((tkA x.L n.G m a.1).2++List.replicate (n.G.length-1-a.1) 0)).map qQ) true)/\a.2.1 tid=0)
  (λa=>(⟨[(0,.ptr mid 0 0),(2,iI (b:Nat)),(6,.ept (qD.enc ⟨T⟩) 0),(8,sQ 1 tid n.G.length),(40,.lst 5 ((T.drop 1).map qB.enc) false),(41,iI (n.G.length-1:Nat)),(42,iI (a.1:Nat))],[],a.2.2⟩:VSt)) (λa=>n.G.length-a.1)
  (0,ow,HC) (by kernel_rfl) ⟨by simp only;omega,MC',FC,ht,ot⟩ (Can.sub (by simp[go_sem,hT]) (by simp[go_sem])) ?_
 rintro⟨i,ow2,h2⟩ ⟨hi,M2,F2,t2,o2⟩;simp only at hi M2 F2 t2 o2;simp only[go_sem];by_cases hlt:i+1<n.G.length
 case neg=>
  have e:decide ((i:Int)<((n.G.length-1:Nat):Int))=false:=dEf (by omega);obtain rfl:i=n.G.length-1:=by omega
  simp only[e,go_sem];have hW:=wR ok;have hkl:=I.len;rw[I.at',nSs,List.replicate_zero,lAn]at t2;have t3:h2[tid]?=some (.row 1 ((0::ks).map λk:Nat=>AV.int .i64 (k:Nat)) true):=by rw[t2];simp[nI2,qQ]
  clear t2;refine qI (qE6 (n:=⟨T⟩) (by have:=ZF okT;omega) okT) ?_;simp only[go_sem];rw[show qf (qD.mk T).G=qf n.G from mpT];have Ic:=I.cell;have Inf:=I.nf;have Ix:=I.rx;have Imm:=I.mm;have TO:=Zy (b:=b) (ks:=ks) hW J.len;generalize hsA:(tkA x.L n.G m (n.G.length-1)).1=sA at*;generalize hWW:tW n.G b ks vs=T0 at*;have hk:∀(i:Nat)(z:qB),n.G[i+1]?=some z->∃k,ks[i]?=some k/\∀q,q<=(qf n.G).length->(tkV sA q).1.C[k]?=some (agC x.L z):=λi z h1=>by
   have h2:=qZ h1;have h3:=gEg (show i<ks.length by omega);refine⟨_,h3,λq hq=>?_⟩;exact qLA Imm (by omega) (Ic i _ z h3 h1) (JZ (hcell i z h1))
  have hp4:∀(i:Nat)(z:qB),n.G[i]?=some z->z.P.length<=1000:=λi z h1=>by have:=wT (Jd ok h1);omega
  have hil:(qf n.G).length<=1048576:=nLt (List.length_filter_le ..) (W1 hz);refine Sem.loop (λa:Nat×(Nat->Nat)×List qA=>a.1<=(qf n.G).length/\MH w mid [.lst 1 (bk.map qD.enc) false] a.2.1 a.2.2 (ovM (tkV sA a.1).1 (gkw ks (dW n.G T0 (onW ((qf n.G).take a.1)))))/\Fo ow h a.2.1 a.2.2/\a.2.2[tid]?=some (.row 1 ((0::ks).map λk:Nat=>AV.int .i64 (k:Nat)) true)/\a.2.1 tid=0)
   (λa=>(⟨[(0,.ptr mid 0 0),(2,iI (b:Nat)),(6,.ept (qD.enc ⟨T⟩) 0),(8,sQ 1 tid n.G.length),(58,.lst 4 ((qf n.G).map zN.enc) false),(59,iI ((qf n.G).length:Nat)),(60,iI (a.1:Nat))],[],a.2.2⟩:VSt)) (λa=>(qf n.G).length-a.1)
   (0,ow2,h2) (by kernel_rfl) ⟨nZl _, ?_,F2,t3,o2⟩ csA ?_
  ·simp only[List.take_zero,qI3,tkV];rw[qCH (lev:=x.L) I.nd (by omega) Ic];exact M2
  rintro⟨j,ow3,h3⟩ ⟨hj,M3,F3,t4,o3⟩;simp only at hj M3 F3 t4 o3;simp only[go_sem];by_cases hjl:j<(qf n.G).length
  case neg=>
   have e2:decide ((j:Int)<((qf n.G).length:Nat))=false:=dEf (by omega);simp only[e2,go_sem];simp only[XX hn0,go_sem];refine zx (e':=iI (b:Nat)) rfl t4 rfl rfl ?_;have rb:((0::ks).map λk:Nat=>AV.int .i64 (k:Nat)).set 0 (iI (b:Nat))=(b::ks).map λk:Nat=>AV.int .i64 (k:Nat):=rfl;rw[rb];have t5:(h3.set tid (.row 1 ((b::ks).map λk:Nat=>AV.int .i64 (k:Nat)) true))[tid]?=some (.row 1 ((b::ks).map λk:Nat=>AV.int .i64 (k:Nat)) true):=gSs (qZ t4);have M5:=M3.upf (h':=h3.set tid (.row 1 ((b::ks).map λk:Nat=>AV.int .i64 (k:Nat)) true)) Up.set λj q=>by rw[q];exact o3
   have F5:=F3.upf (h2:=h3.set tid (.row 1 ((b::ks).map λk:Nat=>AV.int .i64 (k:Nat)) true)) Up.set λj q=>by rw[q];exact tidl
   generalize h3.set tid (.row 1 ((b::ks).map λk:Nat=>AV.int .i64 (k:Nat)) true)=h5 at*;clear M3 F3 t4;obtain rfl:j=(qf n.G).length:=by omega
   rw[lTl]at M5;simp only[go_sem];refine qI (XF (n:=⟨T⟩) (by have:=ZF okT;omega)) ?_;rw[show (qo (qD.mk T).G (qD.mk T).G.length)=qO n.G by rw[show (qD.mk T).G=T from rfl,mpP,hT];rfl];simp only[go_sem];have hal:(qO n.G).length<=1048576:=by
    have h1:=Qj n.G n.G.length (nLr _);rw[lTl]at h1;unfold qD.sz at hz;unfold qO;omega
   have nz:∀k:Nat,decide (((k+1:Nat):Int)=0)=false:=λk=>dEf (by omega);have pz:∀k:Nat,decide (0<((k+1:Nat):Int))=true:=λk=>dEt (by omega);have z0:decide (((0:Nat):Int)=0)=true:=rfl;have z1':decide (0<((0:Nat):Int))=false:=rfl;refine Sem.loop (λa:Nat×(Nat->Nat)×List qA=>a.1<=(qO n.G).length/\MH w mid [.lst 1 (bk.map qD.enc) false] a.2.1 a.2.2 (ovM (tkV sA (qf n.G).length).1 (gkw ks (dW n.G T0 (dP n.G a.1))))/\Fo ow h a.2.1 a.2.2/\a.2.2[tid]?=some (.row 1 ((b::ks).map λk:Nat=>AV.int .i64 (k:Nat)) true)/\a.2.1 tid=0)
    (λa=>(⟨[(0,.ptr mid 0 0),(2,iI (b:Nat)),(6,.ept (qD.enc ⟨T⟩) 0),(8,sQ 1 tid n.G.length),(88,.lst 2 ((qO n.G).map qH.enc) false),(89,iI ((qO n.G).length:Nat)),(90,iI (a.1:Nat))],[],a.2.2⟩:VSt)) (λa=>(qO n.G).length-a.1)
    (0,ow3,h5) (by kernel_rfl) ⟨nZl _,by simp only[qkQ];exact M5,F5,t5,o3⟩ csA ?_
   rintro⟨i,ow6,h6⟩ ⟨hi,M6,F6,t6,o6⟩;simp only at hi M6 F6 t6 o6;simp only[go_sem];by_cases hil2:i<(qO n.G).length
   case neg=>
    have e3:decide ((i:Int)<((qO n.G).length:Nat))=false:=dEf (by omega);obtain rfl:i=(qO n.G).length:=by omega
    rw[qA7 λa s h1 _ h3=>qkN hW h1 h3]at M6;simp only[e3,go_sem];refine qI (c376 (n:=⟨T⟩) (by have:=ZF okT;omega) okT) ?_;have enp:Xm ⟨T⟩=qu n.G (n.G.length-1):=by unfold Xm;simp only[mpQ,hT]
    rw[enp];simp only[go_sem];generalize hM:ovM (tkV sA (qf n.G).length).1 (gkw ks (fW n.G T0))=MV at*;have hrx2:MV.R=m.R:=by rw[<-hM];exact J.rx.trans Ix
    have hpl:=ZI n.G (n.G.length-1);have hpt:(zX n.G b ks).length=(qu n.G (n.G.length-1)).length:=by simp[zX]
    refine Sem.loop (λa:Nat×(Nat->Nat)×List qA=>a.1<=(qu n.G (n.G.length-1)).length/\MH w mid [.lst 1 (bk.map qD.enc) false] a.2.1 a.2.2 (jF MV ((zX n.G b ks).take a.1))/\Fo ow h a.2.1 a.2.2/\a.2.2[tid]?=some (.row 1 ((b::ks).map λk:Nat=>AV.int .i64 (k:Nat)) true)/\a.2.1 tid=0)
     (λa=>(⟨[(0,.ptr mid 0 0),(2,iI (b:Nat)),(6,.ept (qD.enc ⟨T⟩) 0),(8,sQ 1 tid n.G.length),(117,.lst 2 ((qu n.G (n.G.length-1)).map qL.enc) false),(118,iI ((qu n.G (n.G.length-1)).length:Nat)),(119,iI (a.1:Nat))],[],a.2.2⟩:VSt)) (λa=>(qu n.G (n.G.length-1)).length-a.1)
     (0,ow6,h6) (by kernel_rfl) ⟨nZl _,M6,F6,t6,o6⟩ csA ?_
    rintro⟨i,ow7,h7⟩ ⟨hi,M7,F7,t7,o7⟩;simp only at hi M7 F7 t7 o7;simp only[go_sem];by_cases hil:i<(qu n.G (n.G.length-1)).length
    case neg=>
     have e4:decide ((i:Int)<((qu n.G (n.G.length-1)).length:Nat))=false:=dEf (by omega);simp only[e4,go_sem];rw[tOl (by omega)]at M7;refine qI qiU ?_;simp only[go_sem];obtain⟨c0,r0,p1,p2,p3,p4⟩:=Jy ok;have h00:Has T 0 0:=by
      have hh:Has n.G 0 0:=⟨_,p2⟩;obtain⟨z,z1,z2⟩:=jI.1 hh;exact jI.2 ⟨_,hT0 0 z z1,by rw[ZE.p];exact z2⟩
     have hpe:=Ya (n:=n) h00 mpE;rw[p1]at hpe;refine qI hpe ?_;simp only[go_sem];refine lsA ?_;have hc0:=gEg (show c0<ks.length by omega);generalize ks[c0]=kc at hc0;have hc2:(b::ks)[c0+1]?=some kc:=by simpa using hc0
     rcases r0 with _ | r0
     ·have er:jl n.G b ks=[(b,kc)]:=by
       unfold jl;rw[p1,iP (show (pt (c0+1) 0).S=0 from rfl),show (pt (c0+1) 0).N.toNat=c0+1 from rfl,J1 hc0]
      rw[er,Xw];simp only[go_sem,z0,qW p4,nZa,t7,gMp,hc2,oMs];refine qj (SCall.mono (Vr M7 (by rw[Wo,hpt,hrx2];omega)) ?_);rintro _ h8 ⟨ow8,M8,F8⟩;simp only[go_sem];exact⟨ow8,M8,F7.trans F8⟩
     ·have er:jl n.G b ks=[]:=by
       unfold jl;rw[p1,iN (by simp only[pt];omega)]
      rw[er,lAn];simp only[go_sem,nz];exact⟨ow7,M7,F7⟩
    have e4:decide ((i:Int)<((qu n.G (n.G.length-1)).length:Nat))=true:=dEt (by omega);have hx:=gEg hil;generalize (qu n.G (n.G.length-1))[i]=p at hx;obtain⟨a,c,rfl,ha,hc⟩:=Va ok (lMo hx);have ha2:=gEg (show a<ks.length by omega);generalize ks[a]=ka at ha2;have hc2:=gEg (show c<ks.length by omega);generalize ks[c]=kc at hc2;have a2:(b::ks)[a+1]?=some ka:=by simpa using ha2
    have c2:(b::ks)[c+1]?=some kc:=by simpa using hc2
    have et:(zX n.G b ks).take (i+1)=(zX n.G b ks).take i++[(ka,kc)]:=by
     rw[tA1,zX,gMp,hx];simp only[oMs,Option.toList_some,iTn,J1 ha2,J1 hc2]
    simp only[e4,gMp,hx,oMs,go_sem];refine lsA ?_;simp only[go_sem,qW ha,qW hc,nZa,t7,gMp,a2,c2,oMs];refine qj (SCall.mono (Vr M7 (by rw[Wo,lLt,hrx2];omega)) ?_);rintro _ h8 ⟨ow8,M8,F8⟩;simp only[go_sem,wuA (n:=i)];rw[<-Xw,<-et]at M8;exact qd (i+1,ow8,h8) ⟨by simp only;omega,M8,F7.trans F8,(F8.at t7 o7).1,(F8.at t7 o7).2⟩ (by simp only;omega) csA
   have e3:decide ((i:Int)<((qO n.G).length:Nat))=true:=dEt (by omega);have hx:=gEg hil2;generalize (qO n.G)[i]=p at hx;have hpm:=lMo hx;obtain⟨a,s,rfl,hs⟩:=jB.1 hpm;obtain⟨q1,q2,-⟩:=zu hW hpm;have hs2:Has T a s:=by
    obtain⟨z,z1,z2⟩:=jI.1 hs;exact jI.2 ⟨_,hT0 a z z1,by rw[ZE.p];exact z2⟩
   obtain⟨c,t,hq,ht⟩:=jB.1 q1;obtain⟨y,y1,y2⟩:=jI.1 hs;obtain⟨z,z1,z2⟩:=jI.1 ht;have hcl:=qZ z1;have hpe:=Ya (n:=n) hs2 mpE;rw[hq]at hpe q2;have hno:¬(0<s/\t=0)->∀ow6 h6,MH w mid [.lst 1 (bk.map qD.enc) false] ow6 h6 (ovM (tkV sA (qf n.G).length).1 (gkw ks (dW n.G T0 (dP n.G i))))->MH w mid [.lst 1 (bk.map qD.enc) false] ow6 h6 (ovM (tkV sA (qf n.G).length).1 (gkw ks (dW n.G T0 (dP n.G (i+1))))):=λhn ow6 h6 M=>by
    rw[qkO hx (by rw[hq];simp only[pt];omega)];exact M
   simp only[e3,gMp,hx,oMs,go_sem];refine lsA ?_;simp only[go_sem];refine qI hpe ?_;simp only[go_sem];refine lsA ?_;rcases s with _ | s
   ·simp only[go_sem,nz,pz,z0,z1',wuA (n:=i)];exact qd (i+1,ow6,h6) ⟨by simp only;omega,hno (by omega) _ _ M6,F6,t6,o6⟩ (by simp only;omega) csA
   rcases t with _ | t
   case succ=>
    simp only[go_sem,nz,pz,z0,z1',wuA (n:=i)];exact qd (i+1,ow6,h6) ⟨by simp only;omega,hno (by omega) _ _ M6,F6,t6,o6⟩ (by simp only;omega) csA
   have ha0:a≠0:=λe=>by subst e;have:=Jh ok y1;omega
   obtain⟨a,rfl⟩:∃a',a=a'+1:=⟨a-1,by omega⟩;obtain⟨ka,a1,a3⟩:=hk a y y1;obtain⟨kc,hc2⟩:∃kc,(b::ks)[c]?=some kc:=⟨_,gEg (show c<(b::ks).length by simp;omega)⟩;have hTa:T0 (pt (a+1) (s+1))=aW kc:=by
    rw[TO.t1 _ hpm (by simp only[pt];omega) (by rw[hq];rfl),hq,show (pt c 0).N.toNat=c from rfl];unfold atF;rw[lGd,hc2];rfl
   simp only[go_sem,nz,pz,z0,z1',qW hcl,nZa,t6,gMp,hc2,oMs];refine qI QS ?_;simp only[go_sem];refine qj (SCall.mono (Vu (q:=aW kc) M6 I.nd a1 (a3 _ (nLr _)) y1 y2 (hp4 _ _ y1) t6 o6 (by omega) hTa) ?_);rintro _ h7 ⟨ow7,M7,F7⟩;obtain⟨t7,o7⟩:=F7.at t6 o6;simp only[go_sem,wuA (n:=i)];refine qd (i+1,ow7,h7) ⟨by simp only;omega, ?_,F6.trans F7,t7,o7⟩ (by simp only;omega) csA;simp only;rw[qkP hx (by simp only[pt];omega) (by rw[hq];rfl)];exact M7
  have e2:decide ((j:Int)<((qf n.G).length:Nat))=true:=dEt (by omega);have hx:=gEg hjl;generalize (qf n.G)[j]=xw at hx;have et:(qf n.G).take (j+1)=(qf n.G).take j++[xw]:=by rw[tA1,hx];rfl
  obtain⟨a,s,c,t,y,z,rfl,y1,y2,z1,z2⟩:=qmG ok (lMo hx);obtain⟨v,v1,v2,⟨d,v3⟩,v4⟩:=qLB (f:=dW n.G T0 (onW ((qf n.G).take j))) Imm J (by omega) hjl;obtain⟨hTa,hTc⟩:=TO.t2 j _ v hx v1;simp only at hTa hTc;obtain⟨ka,a1,a3⟩:=hk a y y1;obtain⟨kc,c1,c3⟩:=hk c z z1;simp only[e2,gMp,hx,oMs,go_sem];refine lsA ?_;simp only[go_sem];refine qj (SCall.mono (qC3 M3 v2 v3) ?_);rintro _ h4 ⟨rfl,ow4,M4,F4,l4⟩;rw[v4]at M4;obtain⟨r4,o4⟩:=F4.at t4 o3;simp only[go_sem];refine lsA ?_;simp only[go_sem];refine qj (SCall.mono (Vu M4 I.nd a1 (a3 (j+1) hjl) y1 y2 (hp4 _ _ y1) r4 o4 (by omega) hTa) ?_);rintro _ h5 ⟨ow5,M5,F5⟩;obtain⟨r5,o5⟩:=F5.at r4 o4;simp only[go_sem];refine qj (SCall.mono (Vu M5 I.nd c1 (c3 (j+1) hjl) z1 z2 (hp4 _ _ z1) r5 o5 (by omega) hTc) ?_);rintro _ h6 ⟨ow6,M6,F6⟩;obtain⟨r6,o6⟩:=F6.at r5 o5;simp only[go_sem,wuA (n:=j)];refine qd (j+1,ow6,h6) ⟨by simp only;omega, ?_,((F3.trans F4).trans F5).trans F6,r6,o6⟩ (by simp only;omega) csA;simp only[et,qI4];exact M6
 have e:decide ((i:Int)<((n.G.length-1:Nat):Int))=true:=dEt (by omega);have hx:=gEg hlt;generalize n.G[i+1]=z at hx;have oz:=Jd ok hx;have hpp:=(Je oz).2;have hp4:=wT oz;have hzd:=Zf oz;obtain⟨ks',K⟩:=YB (lev:=x.L) mm hcell i (by omega) (by omega);obtain⟨f,d,a1,a2,a3,a4,a5⟩:=wF K.mm (by have:=K.nf;omega);have hd1:(T.drop 1)[i]?=some (lvA x.L z):=by rw[gDr,Nat.add_comm];exact hT0 _ _ hx
 have lvp:(lvA x.L z).P=z.P:=ZE.p z;have lvd:(lvA x.L z).D=z.D:=by unfold lvA;split<;>rfl
 simp only[e,gMp,hd1,oMs,go_sem];refine lsA ?_;simp only[go_sem,wuA (n:=i)];refine qj (SCall.mono (s864 (x:=lvA x.L z) (dv:=.lst 1 ((lvA x.L z).D.map qQ) false) (pv:=.lst 2 ((lvA x.L z).P.map qH.enc) false) (.refl (by simp only[AV.tree];exact qb shI.tree _)) (by simp only[QB,lMp]) (by rw[lvp];exact hpp) (by rw[lvp];omega) (by rw[lvd];omega)) ?_);rintro v h3 ⟨U3,cv3⟩;rw[qnE]at cv3;simp only[go_sem];have M3:=M2.upf U3 λ_ q=>q.elim;have hb2:=λj q=>M2.b' (j:=j) q;refine qj (SCall.mono (ZN M3 a1 a2 (c':=agC x.L z) (T:=λq=>h2.length<=q/\q<h3.length) (λq y=>⟨y.2,Classical.byContradiction λu=>by have:=hb2 q u;omega⟩) (cv3.mono λj hj q=>⟨⟨q,hj⟩,rfl⟩)) ?_);rintro _ h5 ⟨rfl,ow5,M5,F5,l5⟩;have F6:Fo ow2 h2 ow5 h5:=F5.up U3 λq z=>z.1;obtain⟨t5,o5⟩:=F6.at t2 o2;have K2:(tkA x.L n.G m i).2.length=i:=by rw[K.at'];simp[nI2,K.len]
 simp only[go_sem,qW hlt,nZa];refine zx (e':=iI (f:Nat)) rfl t5 (by rw[gMp,List.getElem?_cons_succ,gAr (by omega),K2,nSs,List.getElem?_replicate,iP (by omega)];rfl) rfl ?_;have e4:tkA x.L n.G m (i+1)=(qR (tkA x.L n.G m i).1 (agC x.L z),(tkA x.L n.G m i).2++[(f:Int)]):=by rw[tkA,hx];simp only[a1]
 have er:((((0:Int)::((tkA x.L n.G m i).2++List.replicate (n.G.length-1-i) 0)).map qQ).set (i+1) (iI (f:Nat)))=(((0:Int)::((tkA x.L n.G m (i+1)).2++List.replicate (n.G.length-1-(i+1)) 0)).map qQ):=by
  rw[e4,show n.G.length-1-i=(n.G.length-1-(i+1))+1 by omega,List.replicate_succ];rw[show (iI (f:Nat))=qQ (f:Int)from rfl,<-List.map_set,List.set_cons_succ,lSr _ _ (by omega),K2,nSs,lSz];simp
 rw[er];have g5:=qZ t5;simp only[go_sem,wuA (n:=i)];refine qd (i+1,ow5,h5.set tid (.row 1 (((0:Int)::((tkA x.L n.G m (i+1)).2++List.replicate (n.G.length-1-(i+1)) 0)).map qQ) true)) ⟨by simp only;omega, ?_, ?_,gSs g5,o5⟩ (by simp only;omega) csA
 ·simp only[e4];exact M5.upf Up.set λj q=>by rw[q];exact o5
 ·exact(F2.trans F6).upf Up.set λj q=>by rw[q];exact tidl
end
section
variable {w mid cid k xid yid p3 p7:Nat} {post cs:List AV} {ow ow':Nat->Nat} {h h':List qA} {m:qG} {rv dvx wvx dvy wvy:AV} {c x y:qF} {P:List qE} {O:Nat->Bool} {ws us vs:List qE}
theorem Vz(hf:m.F=(k:Int)):qR m {c with W:=ws}=qr (qR m c) (k:Int) ws:=by
 by_cases hk:k<m.C.length
 ·have e:zZ (qR m c) (k:Int)=c:=by
   unfold zZ qR;simp only[hf,iTn,gSs hk];rfl
  unfold qr;rw[e];unfold qR;simp only[hf,iTn,List.set_set]
 ·have e:∀z:qF,m.C.set k z=m.C:=λz=>List.set_eq_of_length_le (by omega);unfold qr qR;simp only[hf,iTn,e]
def pd(n:Nat)(us:List qE):List qE:=us++List.replicate (n-us.length) w0
theorem qJH{n:Nat}(h:us.length<=n):(pd n us).length=n:=by simp[pd];omega
theorem qJI{n:Nat}{u:qE}(h:us.length<n):(pd n us).set us.length u=pd n (us++[u]):=by
 unfold pd;rw[lSr _ _ (nLr _),nSs,show n-us.length=(n-(us.length+1))+1 by omega,List.replicate_succ,lSz];simp
theorem qJG{n:Nat}(h:us.length=n):pd n us=us:=by simp[pd,h]
theorem qqY(hf:m.F=(k:Int)){j:Nat}(h:j≠k):(qR m c).C[j]?=m.C[j]?:=by
 unfold qR;simp only[hf,iTn];exact zb h
theorem qK7(hf:m.F=(k:Int)){d:qF}(h:(qR m c).C[k]?=some d):d=c:=by
 unfold qR at h;simp only[hf,iTn]at h;have:=zP h;rw[lLs]at this;rw[gSs this]at h;exact(Option.some.inj h).symm
theorem FanT.ne{s:qG×List qE×List qE×List qn}{lev:Int}{ck dk f g e:Nat}(T:FanT s lev ck dk f g e):g≠f/\e≠f:=by
 have hcf:=T.cf;have he:e≠f:=λq=>by
  subst q;have:=qK7 T.ef hcf;cases this
 rw[qqY T.ef (Ne.symm he)]at hcf;refine⟨λq=>?_,he⟩;subst q;have:=qK7 T.gf hcf;cases this
theorem qKM(M:MH w mid post ow h m)(hf:m.F=(k:Nat))(hc:m.C[k]?=some c)(b3:h[p3]?=some (.row 1 [.ptr mid 0 0] true))(by_:Bx ow h yid y)(b7:h[p7]?=some (.row 1 [iI (y.W.length:Nat)] true))(hyw:y.W.length<=1000)(hyd:y.D.length<=1000)(hcl:0<m.C.length):
  SCall Gm 1459 [.ptr p3 0 0,.ptr yid 0 0,.ptr p7 0 0] h (λv h'=>v=iI (k:Nat)/\∃ow',MH w mid post ow' h' (qR m {zf y with W:=List.replicate y.W.length w0})/\Fo ow h ow' h'):=by
 obtain⟨⟨dvy,wvy,y1,y2,y3⟩,yo⟩:=id by_;refine sI Kk ?_;simp only[Kk,qM,go_sem,b3,y1,b7];refine XG (vs':=[lQ y.D]) (Cvs.cons (y2.cv (qb shI.tree _) (by decide)) .nil) (VJ y.D (by omega)) ?_;rw[Zk];simp only[go_sem];refine Jc (by unfold LIM;omega) ?_;simp only[go_sem];have o0:ow h.length=0:=M.b;have o1:ow (h.length+1)=0:=by have:=(M.app [qA.row 1 (y.D.map qQ) true]).b;simpa using this
 refine qj (SCall.mono (ZN ((M.app _).app _) hf hc (c':={zf y with W:=List.replicate y.W.length w0}) (v:=cE (zf y) (sQ 1 h.length y.D.length) (.slice 2 (h++[qA.row 1 (y.D.map qQ) true]).length 0 y.W.length false)) (T:=λj=>j=h.length\/j=h.length+1) (λj t=>by rcases t with t | t<;>rw[t]<;>simp[o0,o1]) ?_) ?_)
 ·refine⟨_,_,rfl,.inr ⟨h.length,.inl rfl,by rw[lMp];rfl,jC ends⟩,.inr ⟨(h++[qA.row 1 (y.D.map qQ) true]).length,.inr (by simp),by simp, ?_⟩⟩;rw[ends,List.map_replicate];rfl
 rintro _ h5 ⟨rfl,ow5,M5,f5,_⟩;simp only[go_sem];refine⟨trivial,ow5,M5,⟨by have:=f5.l;simp at this;omega,λj hj q=>?_⟩⟩;obtain⟨a,b⟩:=f5.k j (by simp;omega) q (by omega);refine⟨a,b.trans ?_⟩;rw[gAl (by simp;omega),gAl hj]
theorem qp8(M:MH w mid post ow h m)(dx:LsW (λj=>ow j=0) 1 h dvx (x.D.map qQ))(cx:LsW (λj=>ow j=0) 2 h wvx (x.W.map qE.enc))(dy:LsW (λj=>ow j=0) 1 h dvy (y.D.map qQ))(cy:LsW (λj=>ow j=0) 2 h wvy (y.W.map qE.enc))(mm:MM m (x.W++y.W++P) O)(hy:qx y.K=true)(hyF:zi y)(hxw:x.W.length=2)(hyw:y.W.length<=1000)(hyd:y.D.length<=1000)(hl:inI x.L 0 8=true)(hf:2+3*y.W.length<=nF m.C):
  SCall Gm 1290 [.ptr mid 0 0,cE x dvx wvx,cE y dvy wvy] h (λv h'=>∃ow',MH w mid post ow' h' (wL m x y).1/\Fo ow h ow' h'/\LsW (λj=>ow' j=0) 4 h' v ((wL m x y).2.map qn.enc)):=by
 obtain⟨_,_,dup⟩:=qBE mm hy hyF hxw hl hf;obtain⟨ck,dk,hne,hck,hdk,_⟩:=dup 0 (nZl _);obtain⟨x0,x1',ex⟩:∃a b,x.W=[a,b]:=⟨_,_,Qp hxw⟩;obtain⟨kc,dc,kc1,kc2,kc3,kc4,kc5⟩:=wF mm (by omega);obtain rfl:kc=ck:=by omega
 have hkc:qx (zf y).K=true:=hy;have hk0:(zf y).K≠0:=JZ hy;refine sI Uy ?_;simp only[Uy,qM,go_sem];refine JL rfl ?_;simp only[go_sem];refine qa rfl ?_;simp only[go_sem];refine JL rfl ?_;simp only[go_sem];have ol:∀j,h.length<=j->ow j=0:=λj hj=>Classical.byContradiction λq=>by have:=M.b' q;omega
 have b3:(h++[qA.row 1 [.ptr mid 0 0] true]++[qA.row 5 [cE y dvy wvy] true])[h.length]?=some (.row 1 [.ptr mid 0 0] true):=jC ends;have b5:(h++[qA.row 1 [.ptr mid 0 0] true]++[qA.row 5 [cE y dvy wvy] true])[(h++[qA.row 1 [.ptr mid 0 0] true]).length]?=some (.row 5 [cE y dvy wvy] true):=ends;have yl:h.length<(h++[qA.row 1 [.ptr mid 0 0] true]).length:=by simp
 have UB:Up (λ_=>False) h (h++[qA.row 1 [.ptr mid 0 0] true]++[qA.row 5 [cE y dvy wvy] true]):=(Up.app _).trans (Up.app _) λ_ _ q=>q;have MB:MH w mid post ow (h++[qA.row 1 [.ptr mid 0 0] true]++[qA.row 5 [cE y dvy wvy] true]) m:=(M.app _).app _;generalize hyid:(h++[qA.row 1 [AV.ptr mid 0 0] true]).length=yid at*;generalize hHB:h++[qA.row 1 [AV.ptr mid 0 0] true]++[qA.row 5 [cE y dvy wvy] true]=HB at*;clear hyid hHB;have lv:∀{w:Nat}{v:AV}{el:List AV},LsW (λj=>ow j=0) w h v el->LsW (λj=>ow j=0) w HB v el:=λq=>q.mono λj hj z=>⟨z,UB.eq hj id⟩;have By:Bx ow HB yid y:=⟨⟨dvy,wvy,b5,lv dy,lv cy⟩,ol _ (by omega)⟩;have cx1:=lv cx;have hylen:=(lv cy).len;rw[lMp]at hylen;have FB:Fo ow h ow HB:=⟨UB.1,λj hj q=>⟨q,UB.eq hj id⟩⟩;simp only[go_sem,b5,hylen];refine zx (e:=iI 0) (e':=iI (y.W.length:Nat)) rfl ends rfl rfl ?_;rw[lSr _ _ (nLr _),nSs];simp only[lSz];have b7:(HB++[qA.row 1 [iI (y.W.length:Nat)] true])[HB.length]?=some (.row 1 [iI (y.W.length:Nat)] true):=ends;have hBl:=UB.1;have MC':=MB.app [qA.row 1 [iI (y.W.length:Nat)] true];have b3':(HB++[qA.row 1 [iI (y.W.length:Nat)] true])[h.length]?=_:=jC b3;have b5':(HB++[qA.row 1 [iI (y.W.length:Nat)] true])[yid]?=_:=jC b5;have By':Bx ow (HB++[qA.row 1 [iI (y.W.length:Nat)] true]) yid y:=By.up (Up.app _);have cx2:LsW (λj=>ow j=0) 2 (HB++[qA.row 1 [iI (y.W.length:Nat)] true]) wvx (x.W.map qE.enc):=cx1.app _;have FC:Fo ow h ow (HB++[qA.row 1 [iI (y.W.length:Nat)] true]):=FB.trans (Fo.app _);have p7o:ow HB.length=0:=ol _ (by omega);generalize HB++[qA.row 1 [iI (y.W.length:Nat)] true]=HC at*;generalize HB.length=p7 at*;clear MB By cx1 FB b5 b3 UB lv;have p3o:ow h.length=0:=ol _ (nLr _);simp only[go_sem];have hcl:=zP kc2;refine qj (SCall.mono (qKM MC' kc1 kc2 b3' By' b7 hyw hyd (by omega)) ?_);rintro _ h1 ⟨rfl,ow1,M1,F1⟩;obtain⟨c3,o3⟩:=F1.at b3' p3o;obtain⟨c7,o7⟩:=F1.at b7 p7o;have By1:=By'.fo F1;have cx3:=cx2.fo0 F1;rw[Vz kc1]at M1;obtain⟨e1,tk1⟩:=kc5 (zf y);obtain⟨ck',t1,t2,t3⟩:=Qo (c:=zf y) mm (by omega) hkc;obtain⟨kd,dd,kd1,kd2,kd3,kd4,kd5⟩:=wF t3 (by have:=t2.nf hk0;omega);obtain rfl:kd=dk:=by omega
 simp only[go_sem];refine qj (SCall.mono (qKM M1 (k:=kd) (by rw[Xt];exact kd1) (by rw[Zq (Ne.symm hne)];exact kd2) c3 By1 c7 hyw hyd (by rw[qo8,t2.len];omega)) ?_);rintro _ h2 ⟨rfl,ow2,M2,F2⟩;rw[Vz (by rw[Xt];exact kd1),YC (by rw[kd1];simpa using Ne.symm hne)]at M2;have F12:=F1.trans F2;obtain⟨d3,q3⟩:=F12.at b3' p3o;have By2:=By'.fo F12;have cx4:=cx2.fo0 F12;rw[ex,lMc,lMc,List.map_nil]at cx4;obtain⟨xw,xw1,rfl,xw3⟩:=cx4.two;simp only[go_sem,Q1,WS,xw3];refine qI QS ?_;simp only[go_sem];refine qI QS ?_;simp only[go_sem];have DI:∀i,i<=y.W.length->ZX m y P O kc kd (zK m x y i) i:=λi hi=>by
  obtain⟨a,b,_,q1,q2,q3⟩:=dup i hi;obtain rfl:a=kc:=by omega
  obtain rfl:b=kd:=by omega
  exact q3
 have e00:zK m x y 0=(WN m y,[],[],[⟨x0,awI (kc:Nat)⟩,⟨x1',awI (kd:Nat)⟩]):=by
  simp only[zK,List.take_zero,List.foldl_nil,ex,hck,hdk];rfl
 have M3:MH w mid post ow2 (h2++[qA.row 4 [AV.agg [iI x0.T,iI x0.I,iI (awI (kc:Nat)).T,iI (awI (kc:Nat)).I],AV.agg [iI x1'.T,iI x1'.I,iI (awI (kd:Nat)).T,iI (awI (kd:Nat)).I]] true]) (two (zK m x y 0).1 kc kd (pd y.W.length (zK m x y 0).2.1) (pd y.W.length (zK m x y 0).2.2.1)):=by
  rw[e00];simp only[pd,lNa,lNi,Nat.sub_zero];exact M2.app _
 have F0:=F12.trans (Fo.app (ow:=ow2) (h:=h2) [qA.row 4 [AV.agg [iI x0.T,iI x0.I,iI (awI (kc:Nat)).T,iI (awI (kc:Nat)).I],AV.agg [iI x1'.T,iI x1'.I,iI (awI (kd:Nat)).T,iI (awI (kd:Nat)).I]] true]);have L0:LsW (λj=>ow2 j=0/\h.length<j) 4 (h2++[qA.row 4 [AV.agg [iI x0.T,iI x0.I,iI (awI (kc:Nat)).T,iI (awI (kc:Nat)).I],AV.agg [iI x1'.T,iI x1'.I,iI (awI (kd:Nat)).T,iI (awI (kd:Nat)).I]] true]) (sQ 4 h2.length 2) ((zK m x y 0).2.2.2.map qn.enc):=by
  refine .inr ⟨h2.length,⟨M2.b,by have:=qZ b3';have:=F12.l;omega⟩,by rw[e00];rfl,by rw[ends,e00];rfl⟩
 obtain⟨z1,-⟩:=F0.at b5' By'.o;simp only[z1,go_sem,hylen];generalize h2++[qA.row 4 [AV.agg [iI x0.T,iI x0.I,iI (awI (kc:Nat)).T,iI (awI (kc:Nat)).I],AV.agg [iI x1'.T,iI x1'.I,iI (awI (kd:Nat)).T,iI (awI (kd:Nat)).I]] true]=H0 at*;obtain⟨g3,go3⟩:=F0.at b3' p3o;clear M2 M1 F1 F2 F12 xw3 d3 c3 c7 cx4 cx3 By1 By2;refine Sem.loop (λa:Nat×(Nat->Nat)×AV×List qA=>a.1<=y.W.length/\MH w mid post a.2.1 a.2.2.2 (two (zK m x y a.1).1 kc kd (pd y.W.length (zK m x y a.1).2.1) (pd y.W.length (zK m x y a.1).2.2.1))/\Fo ow h a.2.1 a.2.2.2/\LsW (λj=>a.2.1 j=0/\h.length<j) 4 a.2.2.2 a.2.2.1 ((zK m x y a.1).2.2.2.map qn.enc)/\a.2.2.2[h.length]?=some (.row 1 [.ptr mid 0 0] true)/\a.2.1 h.length=0)
  (λa=>(⟨[(3,.ptr h.length 0 0),(9,iI (kc:Nat)),(10,iI (kd:Nat)),(11,a.2.2.1),(41,wvy),(42,iI (y.W.length:Nat)),(43,iI (a.1:Nat))],[(4,cE x dvx (sQ 2 xw 2))],a.2.2.2⟩:VSt)) (λa=>y.W.length-a.1)
  (0,ow2,sQ 4 h2.length 2,H0) (by kernel_rfl) ⟨nZl _,M3,FC.trans F0,L0,g3,go3⟩ csA ?_
 rintro⟨i,ow3,lv3,h3⟩ ⟨hi,M3,F3,L3,q3,qo3⟩;simp only at hi M3 F3 L3 q3 qo3;have I:=DI i hi;simp only[go_sem];by_cases hlt:i<y.W.length
 case neg=>
  have e:decide ((i:Int)<(y.W.length:Nat))=false:=dEf (by omega);simp only[e,go_sem];obtain rfl:i=y.W.length:=by omega
  rw[qGB hck hdk];rw[qJG I.us,qJG I.vs]at M3;exact⟨ow3,M3,F3,L3.mono λj _ q=>⟨q.1,rfl⟩⟩
 have e:decide ((i:Int)<(y.W.length:Nat))=true:=dEt (by omega);have hyi:=gEg hlt;obtain⟨f,g,v,T⟩:=qGJ (lev:=x.L) hy I (by have:=I.nf;omega);obtain⟨ngf,nvf⟩:=T.ne;have eS:=qBD (m:=m) (x:=x) hlt;rw[T.eq]at eS;generalize y.W[i]=yw at hyi eS;obtain⟨iy,j1,rfl,j3⟩:=(cy.fo0 F3).full (by rw[lMp];omega);simp only[e,go_sem,qW hlt,nZa,j3,gMp,hyi,oMs];refine lsA ?_;simp only[go_sem,q3];refine Jc (n:=2) (by decide) ?_;simp only[go_sem];have o3:ow3 h3.length=0:=M3.b;generalize hS:zK m x y i=S at*;refine qj (SCall.mono (ZN (M3.app _) T.ff (c:=(two S.1 kc kd (pd y.W.length S.2.1) (pd y.W.length S.2.2.1)).C[f]'(by have:=T.f0;obtain⟨d,hd⟩:=this;exact zP (by rw[ZT T.fc.1 T.fc.2];exact hd))) (gEg _) (c':={(⟨4,x.L,0,[],[]⟩:qF)with W:=[w0,w0]}) (v:=cE ⟨4,x.L,0,[],[]⟩ .nils (sQ 2 h3.length 2)) (T:=λj=>j=h3.length) (λj t=>by rw[t];exact⟨by simp,o3⟩) ⟨_,_,rfl,.inl ⟨rfl,rfl⟩,.inr ⟨h3.length,rfl,rfl,ends⟩⟩) ?_);rintro _ h4 ⟨rfl,ow4,M4,f4,_⟩;have F4:Fo ow3 h3 ow4 h4:=f4.new λj t=>by omega
 rw[Wx T.ff T.fc.1 T.fc.2,Vz T.ff]at M4;obtain⟨r4,s4⟩:=F4.at q3 qo3;simp only[go_sem,r4];obtain⟨d4,hd4⟩:=T.g0;refine qj (SCall.mono (qC3 M4 (k:=g) T.gf (c:=d4) (by rw[ZT T.gc.1 T.gc.2,Zq ngf];exact hd4)) ?_);rintro _ h5 ⟨rfl,ow5,M5,F5,_⟩;rw[Wx (f:=g) (by rw[Xt];exact T.gf) T.gc.1 T.gc.2,YC (by rw[T.gf];simpa using ngf)]at M5;obtain⟨r5,s5⟩:=F5.at r4 s4;simp only[go_sem];refine lsA ?_;simp only[go_sem,r5];obtain⟨d5,hd5⟩:=T.e0;refine qj (SCall.mono (qC3 M5 (k:=v) T.ef (c:=d5) (by rw[ZT T.ec.1 T.ec.2,Zq nvf];exact hd5)) ?_);rintro _ h6 ⟨rfl,ow6,M6,F6,_⟩;rw[Wx (f:=v) (by rw[Xt];exact T.ef) T.ec.1 T.ec.2,YC (by rw[T.ef];simpa using nvf)]at M6;obtain⟨r6,s6⟩:=F6.at r5 s5;simp only[go_sem];refine lsA ?_;obtain⟨cid,cs,rv,M6⟩:=M6;have hcf0:(qr (qR (qR (qR S.1 ⟨4,x.L,0,[],[]⟩) (qX [])) (qX [])) (f:Int) [w0,w0]).C[f]?=some {(⟨4,x.L,0,[],[]⟩:qF)with W:=[w0,w0]}:=qCT T.cf;have hcf:(two (qr (qR (qR (qR S.1 ⟨4,x.L,0,[],[]⟩) (qX [])) (qX [])) (f:Int) [w0,w0]) kc kd (pd y.W.length S.2.1) (pd y.W.length S.2.2.1)).C[f]?=some {(⟨4,x.L,0,[],[]⟩:qF)with W:=[w0,w0]}:=by rw[ZT T.fc.1 T.fc.2];exact hcf0
 obtain⟨dv,wv,v1,v2,v3⟩:=M6.words hcf;have hk:=zP hcf;simp only[go_sem,r6,M6.o,qW hk,nZa];have M6a:=M6.app [qA.row 2 [(vwI (g:Nat)).enc,(vwI (v:Nat)).enc] true];refine M6a.stoW v1 rfl ?_;obtain⟨M7,f7⟩:=M6a.setWv (ws:=[vW g,vW v]) (wv':=sQ 2 h6.length 2) hcf v1 (v2.app _) (id:=h6.length) (MH.b ⟨_,_,_,M6⟩) ends rfl;have F7:=(F4.trans (F5.trans F6)).trans (f7.new λj e=>by omega);have I2:=DI (i+1) (by omega);rw[eS]at I2;have M7':=MH.intro M7;rw[<-jv hcf,qLJ T.fc.1 T.fc.2,qCS]at M7';generalize (owC ow6 f λj=>ow6 j=f+3\/j=h6.length)=ow7 at M7' F7;generalize (h6++[qA.row 2 [(vwI (g:Nat)).enc,(vwI (v:Nat)).enc] true]).set cid _=h7 at M7' F7|-;clear M7 f7 M6a M6 v1 v2 v3 hcf hcf0 hk;obtain⟨mm2,us2,vs2,c12,c22,nf2,len2⟩:=I2;simp only at c12 c22;generalize hS2:qr (qR (qR (qR S.1 ⟨4,x.L,0,[],[]⟩) (qX [])) (qX [])) (f:Int) [vW g,vW v]=S2 at M7' c12 c22 eS;have hus:S.2.1.length=i:=I.us;have hvs:S.2.2.1.length=i:=I.vs;have lus:=qJH (us:=S.2.1) (n:=y.W.length) (by omega);have lvs:=qJH (us:=S.2.2.1) (n:=y.W.length) (by omega);obtain⟨r7,s7⟩:=F7.at q3 qo3;obtain⟨cid,cs,rv,M7⟩:=M7';have hc1:=qLG (us:=pd y.W.length S.2.1) (vs:=pd y.W.length S.2.2.1) hne c12;obtain⟨dv,wv,v1,v2,v3⟩:=M7.words hc1;obtain⟨id1,i1,rfl,i3⟩:=v3.full (by rw[lMp];simp only;omega);rw[lMp]at v1;have hk:=zP hc1;simp only[go_sem,r7,M7.o,qW hk,nZa,M7.c,v1,lus,qW hlt];refine M7.stoWe hc1 (s:=i) (by simp only;omega) v1 v2 i1 i3 λow8 h8 M8 F8=>?_;simp only at M8;rw[qLF hne]at M8;have es1:=qJI (us:=S.2.1) (n:=y.W.length) (u:=vwI (g:Nat)) (by omega);rw[hus]at es1;rw[es1]at M8;have F8':=F7.trans F8;clear M7 v1 v2 v3 i3 hk;obtain⟨r8,s8⟩:=F8'.at q3 qo3;obtain⟨cid,cs,rv,M8⟩:=M8;have hc2:=qLI (us:=pd y.W.length (S.2.1++[vwI (g:Nat)])) (vs:=pd y.W.length S.2.2.1) hne c22;obtain⟨dv,wv,v1,v2,v3⟩:=M8.words hc2;obtain⟨id2,i2,rfl,i4⟩:=v3.full (by rw[lMp];simp only;omega);rw[lMp]at v1;have hk:=zP hc2;simp only[go_sem,r8,M8.o,qW hk,nZa,M8.c,v1,lvs,qW hlt];refine M8.stoWe hc2 (s:=i) (by simp only;omega) v1 v2 i2 i4 λow9 h9 M9 F9=>?_;simp only at M9;rw[qLH]at M9;have es2:=qJI (us:=S.2.2.1) (n:=y.W.length) (u:=vwI (v:Nat)) (by omega);rw[hvs]at es2;rw[es2]at M9;have F9':=F8'.trans F9;clear M8 v1 v2 v3 i4 hk;simp only[go_sem];refine qI QS ?_;simp only[go_sem];have hll:S.2.2.2.length<=100000:=by
  have:=Ym m x y i;rw[hS,lLt]at this;omega
 have L9:LsW (λj=>ow9 j=0/\h.length<j) 4 h9 lv3 (S.2.2.2.map qn.enc):=L3.mono λj hj q=>⟨⟨(F9'.k j hj q.1).1,q.2⟩,(F9'.k j hj q.1).2⟩;refine wc (L9.app _) ends (by rw[lMp];omega) λh10 u10 w10 l10=>?_;simp only[go_sem,wuA (n:=i)];have MA:=M9.app [qA.row 4 [AV.agg [iI yw.T,iI yw.I,iI (awI (f:Nat)).T,iI (awI (f:Nat)).I]] true];have FA:=(F3.trans F9').trans (Fo.app (h:=h9) (ow:=ow9) [qA.row 4 [AV.agg [iI yw.T,iI yw.I,iI (awI (f:Nat)).T,iI (awI (f:Nat)).I]] true]);obtain⟨r9,s9⟩:=F9'.at q3 qo3;have hlh:=qZ r9;refine qd (i+1,ow9,.slice 4 (h9++[qA.row 4 [AV.agg [iI yw.T,iI yw.I,iI (awI (f:Nat)).T,iI (awI (f:Nat)).I]] true]).length 0 ((S.2.2.2.map qn.enc).length+1) false,h10) ⟨by simp only;omega, ?_, ?_,.inr ⟨(h9++[qA.row 4 [AV.agg [iI yw.T,iI yw.I,iI (awI (f:Nat)).T,iI (awI (f:Nat)).I]] true]).length,⟨MA.b,by simp;omega⟩, ?_, ?_⟩,u10.at (jC r9) λz=>by have:=z.1.2;omega,s9⟩ (by simp only;omega) csA
 ·simp only[eS];exact MA.upf u10 λj q=>q.1.1
 ·exact FA.upf u10 λj q=>by have:=q.1.2;omega
 ·simp only[eS];simp
 ·simp only[eS,lMa];exact w10
end
section
variable {w mid cid k:Nat} {post cs:List AV} {ow ow':Nat->Nat} {h h':List qA} {m:qG} {rv dvx wvx dvy wvy:AV} {c x y:qF} {P:List qE} {O:Nat->Bool} {ks:List Nat} {f:Nat->List qE}
theorem qG1{l:List Int}{i k:Nat}(h:l[i]?=some (k:Int)):l.getD i 0=(k:Int):=by rw[lGd,h];rfl
theorem qFG{apps:List Int}{n:Nat}(nd:ks.Nodup)(ha:apps=nI2 ks)(hc:∀k∈ks,m.C[k]?=some (j6 y)):∀i,i<=ks.length->chB x y apps m i=ovM m (gkw (ks.take i) λj=>[x.W.getD j w0,nxW y apps j])
 | 0,_=>by
  have e:gkw (ks.take 0) (λj=>[x.W.getD j w0,nxW y apps j])=λ_=>none:=by funext q;exact Qb (by simp)
  rw[e,qCJ];rfl
 | i+1,hi=>by
  have hk:=gEg (show i<ks.length by omega);generalize ks[i]=k at hk;have hap:apps.getD i 0=(k:Int):=qG1 (by rw[ha,nI2,gMp,hk];rfl);rw[chB,qFG (n:=n) nd ha hc i (by omega),hap,Wk (hc k (lMo hk)),<-Yx (f:=λj=>[x.W.getD j w0,nxW y apps j]) nd hk]
theorem qoU{d:qF}(nd:(ks++[k]).Nodup)(hf:m.F=(k:Int))(hc:(qR m c).C[k]?=some d):qR (ovM m (gkw ks f)) {c with W:=f ks.length}=ovM (qR m c) (gkw (ks++[k]) f):=by
 have hn:k∉ks:=by
  rw[List.nodup_append]at nd;exact λq=>nd.2.2 k q k (by simp) rfl
 rw[Vz (m:=ovM m (gkw ks f)) hf,qCK hf (Qb hn),Wk hc];have e1:(ks++[k]).take ks.length=ks:=by simp
 have e2:(ks++[k]).take (ks.length+1)=ks++[k]:=by rw[tOl (by simp)]
 have:=Yx (ks:=ks++[k]) (j:=ks.length) (k:=k) (f:=f) nd (by simp);rw[e1,e2]at this;rw[this]
theorem qqB(M:MH w mid post ow h m)(dx:LsW (λj=>ow j=0) 1 h dvx (x.D.map qQ))(cx:LsW (λj=>ow j=0) 2 h wvx (x.W.map qE.enc))(dy:LsW (λj=>ow j=0) 1 h dvy (y.D.map qQ))(cy:LsW (λj=>ow j=0) 2 h wvy (y.W.map qE.enc))(mm:MM m (x.W++y.W++P) O)(hf:1+x.W.length<=nF m.C)(hyw:y.W.length=1)(hr:zi (w9 x y))(hl:zt 3 y.L=true)(hxw:x.W.length<=1000)
  (hD:if y.K=10 then 0<=x.V/\x.V<y.D.length else y.D.length=2) (hrx:m.R.length<=1000000-1000):
  SCall Gm 1293 [.ptr mid 0 0,cE x dvx wvx,cE y dvy wvy] h (λv h'=>∃ow',MH w mid post ow' h' (chM m x y).1/\Fo ow h ow' h'/\LsW (λj=>ow' j=0) 4 h' v ((chM m x y).2.map qn.enc)):=by
 obtain⟨y0,ey⟩:∃y0,y.W=[y0]:=⟨_,Z3 hyw⟩;have mm':=mm;have I:=qAW (x:=x) (y:=y) mm' hr;have hdl:0<y.D.length:=by split at hD<;>omega
 obtain⟨yd,q1,rfl,q3⟩:=dy.full (by rw[lMp];omega);rw[ey,lMc,List.map_nil]at cy;obtain⟨iy,j1,rfl,j3⟩:=cy.one;have hxl:=cx.len;rw[lMp]at hxl;refine sI U8 ?_;have hd0:=gEg hdl;simp only[U8,qM,go_sem];refine qa rfl ?_;simp only[go_sem];refine qa rfl ?_;simp only[go_sem,XX hdl,q3,gMp,hd0,oMs,qQ];have hgo:∃D,chD x y=D:=⟨_,rfl⟩;obtain⟨D,hDD⟩:=hgo;have hcd:(y.K=10->∀k:Nat,x.V=k->y.D[k]?=some D)/\(y.K≠10->x.V=0->y.D[1]?=some D)/\(y.K≠10->x.V≠0->y.D[0]=D):=by
  rw[<-hDD];unfold chD;refine⟨λa k b=>?_,λa b=>?_,λa b=>?_⟩
  ·rw[iP a]at hD;rw[iP a,b,iTn,lGd,gEg (by omega)];rfl
  ·rw[iN a]at hD;rw[iN a,iP b,lGd,gEg (by omega)];rfl
  ·rw[iN a,iN b,lGd,hd0];rfl
 by_cases k10:y.K=10
 case' pos=>
  rw[iP k10]at hD;obtain⟨k,hk⟩:=eOz hD.1;have hkl:k<y.D.length:=by omega
  have e1:decide (y.K=10)=true:=dEt k10;simp only[e1,go_sem,hk,qW hkl,nZa,q3,gMp,hcd.1 k10 k hk,oMs,qQ];clear hk hkl
 case' neg=>
  rw[iN k10]at hD;have e1:decide (y.K=10)=false:=dEf k10;simp only[e1,go_sem];by_cases k0:x.V=0
  case' pos=>
   have e2:decide (x.V=0)=true:=dEt k0;simp only[e2,go_sem,qBT (show 1<y.D.length by omega),q3,gMp,hcd.2.1 k10 k0,oMs,qQ]
  case' neg=>
   have e2:decide (x.V=0)=false:=dEf k0;simp only[e2,go_sem,hcd.2.2 k10 k0]
 all_goals
  subst hDD;obtain⟨r,ks0,hr0,I0⟩:=I 0 (by omega);obtain⟨kr,dr,k1,k2,k3,k4,k5⟩:=wF mm' (by omega);obtain rfl:kr=r:=by omega
  refine qj (SCall.mono (Vt M k1 ⟨dr,k2⟩ (w9 x y) rfl rfl) ?_);rintro _ h1 ⟨rfl,ow1,M1,F1⟩;obtain⟨y3,yo⟩:=F1.at j3 j1;simp only[go_sem,hxl];have hxlen:x.W.length=0↔x.W=[]:=List.length_eq_zero_iff;by_cases hx0:x.W=[]
  case pos=>
   have e:decide (((x.W.length:Nat):Int)=0)=true:=by rw[hx0];rfl
   have ec:chM m x y=(qR m (w9 x y),[⟨y0,awI m.F⟩]):=by unfold chM;rw[iP hx0,ey];rfl
   simp only[e,go_sem,J9,y3];refine qI QS ?_;simp only[go_sem];rw[ec,k1];exact⟨ow1,M1.app _,F1.trans (Fo.app _),.inr ⟨h1.length,M1.b,rfl,ends⟩⟩
  have hxp:0<x.W.length:=List.length_pos_iff.2 hx0;have e:decide (((x.W.length:Nat):Int)=0)=false:=dEf (by omega);simp only[e,go_sem,hxl];have M1':MH w mid post ow1 h1 (ovM (chA m x y 0).1 (gkw ((chA m x y 0).2.map Int.toNat) λj=>[x.W.getD j w0,y0])):=by
   have eg:gkw ((chA m x y 0).2.map Int.toNat) (λj=>[x.W.getD j w0,y0])=λ_=>none:=by funext q;exact Qb (by simp[chA])
   rw[eg,qCJ];exact M1
  refine Sem.loop (λa:Nat×(Nat->Nat)×AV×List qA=>a.1<=x.W.length/\MH w mid post a.2.1 a.2.2.2 (ovM (chA m x y a.1).1 (gkw ((chA m x y a.1).2.map Int.toNat) λj=>[x.W.getD j w0,y0]))/\Fo ow h a.2.1 a.2.2.2/\LsW (λj=>a.2.1 j=0/\h.length<=j) 1 a.2.2.2 a.2.2.1 ((chA m x y a.1).2.map qQ))
   (λa=>(⟨[(0,.ptr mid 0 0),(6,.nils),(8,iI (kr:Nat)),(9,a.2.2.1),(54,wvx),(55,iI (x.W.length:Nat)),(56,iI (a.1:Nat))],[(5,cE y (sQ 1 yd y.D.length) (sQ 2 iy 1)),(4,cE x dvx wvx)],a.2.2.2⟩:VSt)) (λa=>x.W.length-a.1)
   (0,ow1,.nils,h1) (by kernel_rfl) ⟨nZl _,M1',F1,.inl ⟨rfl,rfl⟩⟩ csA ?_
  clear M1 M1' F1 k5 y3 yo;rintro⟨i,ow2,v,h2⟩ ⟨hi,M2,F2,L2⟩;simp only at hi M2 F2 L2;obtain⟨y3,yo⟩:=F2.at j3 j1;obtain⟨r',ks,hr',J⟩:=I i (by omega);have ek:(chA m x y i).2.map Int.toNat=ks:=by rw[J.ap];exact qCB
  simp only[go_sem];by_cases hlt:i<x.W.length
  case pos=>
   have e:decide ((i:Int)<(x.W.length:Nat))=true:=dEt (by omega);have hxi:=gEg hlt;generalize hxw':x.W[i]=xw at hxi;obtain⟨ix,i1,rfl,i3⟩:=(cx.fo0 F2).full (by rw[lMp];omega);obtain⟨ka,da,a1,a2,a3,a4,a5⟩:=wF J.mm (by have:=J.nf;omega);obtain⟨r2,ks2,hr2,J2⟩:=I (i+1) (by omega);have e2:(chA m x y (i+1))=(qR (chA m x y i).1 (j6 y),(chA m x y i).2++[(ka:Int)]):=by rw[chA,a1]
   have ek2:(chA m x y (i+1)).2.map Int.toNat=ks++[ka]:=by rw[e2,lMa,ek];rfl
   have ek3:ks2=ks++[ka]:=by rw[<-ek2,J2.ap];exact qCB.symm
   have nd2:=J2.nd;rw[ek3]at nd2;have o2:ow2 h2.length=0:=M2.b;rw[ek]at M2;have eo:=qoU (f:=λj=>[x.W.getD j w0,y0]) nd2 a1 (a5 (j6 y)).2.new;have ex2:x.W.getD ks.length w0=xw:=by rw[J.len,lGd,hxi];rfl
   simp only[ex2]at eo;simp only[e,go_sem,qW hlt,nZa,i3,gMp,hxi,oMs];refine lsA ?_;simp only[go_sem,J9,y3];refine qj (SCall.mono (ZN (M2.app _) (k:=ka) a1 (c:=ovC (gkw ks λj=>[x.W.getD j w0,y0]) ka da) (by rw[Jf,a2];rfl) (c':={j6 y with W:=[xw,y0]}) (v:=cE (j6 y) .nils (sQ 2 h2.length 2)) (T:=λj=>j=h2.length) (λj t=>by rw[t];exact⟨by simp,o2⟩) ⟨_,_,rfl,.inl ⟨rfl,rfl⟩,.inr ⟨h2.length,rfl,rfl,ends⟩⟩) ?_);rintro _ h3 ⟨rfl,ow3,M3,f3,_⟩;have F3:Fo ow2 h2 ow3 h3:=f3.new λj t=>by omega
   rw[eo]at M3;have L3:=L2.fo F3;simp only[go_sem];have hal:(chA m x y i).2.length=i:=by rw[J.ap,lMp,J.len]
   refine wc (L3.app _) ends (by rw[lMp];omega) λh4 u4 w4 l4=>?_;simp only[go_sem,wuA (n:=i)];have MA:=M3.app [qA.row 1 [AV.int .i64 (ka:Nat)] true];have FA:=(F2.trans F3).trans (Fo.app (h:=h3) (ow:=ow3) [qA.row 1 [AV.int .i64 (ka:Nat)] true]);have hF:=(F2.trans F3).l;refine qd (i+1,ow3,.slice 1 (h3++[qA.row 1 [AV.int .i64 (ka:Nat)] true]).length 0 (((chA m x y i).2.map qQ).length+1) false,h4) ⟨by simp only;omega, ?_, ?_,.inr ⟨(h3++[qA.row 1 [AV.int .i64 (ka:Nat)] true]).length,⟨MA.b,by simp;omega⟩, ?_, ?_⟩⟩ (by simp only;omega) csA
   ·simp only[ek2];rw[e2];exact MA.upf u4 λj q=>q.1.1
   ·exact FA.upf u4 λj q=>q.1.2
   ·simp[e2]
   ·simp only[e2,lMa];exact w4
  have e:decide ((i:Int)<(x.W.length:Nat))=false:=dEf (by omega);obtain rfl:i=x.W.length:=by omega
  simp only[e,go_sem];have hal:(chA m x y x.W.length).2.length=x.W.length:=by rw[J.ap,lMp,J.len]
  have hkl:=J.len;rw[ek]at M2;obtain⟨tid,⟨t1,t2⟩,rfl,t3⟩:=L2.full (by rw[lMp];omega);rw[lMp,hal];have ew:IntKind.i64.wrap (((x.W.length:Nat):Int)-1)=((x.W.length-1:Nat):Int):=by rw[wsA];omega
  simp only[go_sem,QB,ew];have hap:(chA m x y x.W.length).2=nI2 ks:=J.ap;have hcl:∀k∈ks,(chA m x y x.W.length).1.C[k]?=some (j6 y):=J.at';have nd:=J.nd;have M3:MH w mid post ow2 h2 (ovM (chA m x y x.W.length).1 (gkw ks λj=>if j<0 then [x.W.getD j w0,nxW y (chA m x y x.W.length).2 j]else [x.W.getD j w0,y0])):=by simpa using M2
  generalize hB:chA m x y x.W.length=B at*;have hrxB:B.1.R=m.R:=by rw[<-hB];exact qFE
  have hnx:∀i,i+1<ks.length->∃q:Nat,ks[i+1]?=some q/\nxW y B.2 i=awI (q:Nat):=λi hi=>by
   have h1:=gEg hi;refine⟨_,h1, ?_⟩;unfold nxW;rw[hap,nI2,gMp,h1];rfl
  have hap2:∀(i k:Nat),ks[i]?=some k->(B.2.map qQ)[i]?=some (iI (k:Nat)):=λi k h1=>by rw[hap,gMp,nI2,gMp,h1];rfl
  refine Sem.loop (λa:Nat×(Nat->Nat)×List qA=>a.1+1<=x.W.length/\MH w mid post a.2.1 a.2.2 (ovM B.1 (gkw ks λj=>if j<a.1 then [x.W.getD j w0,nxW y B.2 j]else [x.W.getD j w0,y0]))/\Fo ow h a.2.1 a.2.2/\a.2.2[tid]?=some (.row 1 (B.2.map qQ) true)/\a.2.1 tid=0)
   (λa=>(⟨[(0,.ptr mid 0 0),(6,.nils),(8,iI (kr:Nat)),(9,sQ 1 tid x.W.length),(79,iI (x.W.length-1:Nat)),(80,iI (a.1:Nat))],[],a.2.2⟩:VSt)) (λa=>x.W.length-a.1)
   (0,ow2,h2) (by kernel_rfl) ⟨by simp only;omega,M3,F2,t3,t1⟩ csA ?_
  clear M2 M3 L2 F2 t3 y3 yo;rintro⟨i,ow3,h3⟩ ⟨hi2,M3,F3,t4,o4⟩;simp only at hi2 M3 F3 t4 o4;simp only[go_sem];by_cases hlt2:i<x.W.length-1
  case pos=>
   have e5:decide ((i:Int)<((x.W.length-1:Nat):Int))=true:=dEt (by omega);have hk:=gEg (show i<ks.length by omega);generalize ks[i]=k at hk;obtain⟨q,hq1,hq2⟩:=hnx i (by omega);have hat:=qCG (m:=B.1) (f:=λj=>if j<i then [x.W.getD j w0,nxW y B.2 j]else [x.W.getD j w0,y0]) nd hk (hcl k (lMo hk));simp only[Nat.lt_irrefl,if_false]at hat;have eput:qr (ovM B.1 (gkw ks λj=>if j<i then [x.W.getD j w0,nxW y B.2 j]else [x.W.getD j w0,y0])) (k:Int) ([x.W.getD i w0,y0].set 1 (awI (q:Nat)))=ovM B.1 (gkw ks λj=>if j<i+1 then [x.W.getD j w0,nxW y B.2 j]else [x.W.getD j w0,y0]):=by
    rw[Wk (hcl k (lMo hk)),qG2 nd hk];congr 1;refine qBP λj _=>?_;by_cases ej:j=i
    ·subst ej;rw[iP rfl,iP (by omega),hq2];rfl
    ·rw[iN ej];by_cases ej2:j<i
     ·rw[iP ej2,iP (by omega)]
     ·rw[iN ej2,iN (by omega)]
   obtain⟨cid,cs,rv,MO3⟩:=M3;obtain⟨dv,wv,v1,v2,v3⟩:=MO3.words hat;obtain⟨id1,i1,rfl,i3⟩:=v3.full (by simp);have hkk:=zP hat;simp only[e5,go_sem,MO3.o,qW (show i<x.W.length by omega),nZa,t4,hap2 i k hk,qW hkk,MO3.c,v1,wuA (n:=i),qW (show i+1<x.W.length by omega),hap2 (i+1) q hq1];refine qI QS ?_;simp only[go_sem,qBT (show 1<0+1+1 by omega)];refine MO3.stoWe hat (s:=1) (by simp) v1 v2 i1 i3 λow4 h4 M4 F4=>?_;simp only at M4;rw[eput]at M4;obtain⟨t5,o5⟩:=F4.at t4 o4;simp only[go_sem,wuA (n:=i)];exact qd (i+1,ow4,h4) ⟨by simp only;omega,M4,F3.trans F4,t5,o5⟩ (by simp only;omega) csA
  have e5:decide ((i:Int)<((x.W.length-1:Nat):Int))=false:=dEf (by omega);obtain rfl:i=x.W.length-1:=by omega
  have hk0:=gEg (show 0<ks.length by omega);generalize ks[0]=kz at hk0;have eov:ovM B.1 (gkw ks λj=>if j<x.W.length-1 then [x.W.getD j w0,nxW y B.2 j]else [x.W.getD j w0,y0])=chB x y B.2 B.1 x.W.length:=by
   rw[qFG (n:=0) nd hap hcl _ (by omega),tOl (by omega)];congr 1;refine qBP λj hj=>?_;by_cases ej:j<x.W.length-1
   ·rw[iP ej]
   ·rw[iN ej];have:nxW y B.2 j=y0:=by
     unfold nxW;rw[gEn (by omega)];simp only[ey];rfl
    rw[this]
  rw[eov]at M3;have hrx3:(chB x y B.2 B.1 x.W.length).R=m.R:=qFH.trans hrxB;simp only[e5,go_sem,XX hxp,t4,hap2 0 kz hk0];refine qj (SCall.mono (Vr M3 (by rw[hrx3];omega)) ?_);rintro _ h5 ⟨ow5,M5,F5⟩;simp only[go_sem];have ec:chM m x y=(wk (chB x y B.2 B.1 x.W.length) (kr:Nat) (kz:Nat),[]):=by
   unfold chM;rw[iN hx0,hB,k1,qG1 (k:=kz) (by rw[hap,nI2,gMp,hk0];rfl)]
  rw[ec];exact⟨ow5,M5,F3.trans F5,.inl ⟨rfl,rfl⟩⟩
end
def zI(m:qG):Int:=(m.C.length:Int)-(nF m.C:Nat)
structure Run where
 m:qG
 tr:List Int
 pk:Int
 ls:Int
def Run.go(bk:List qD)(r:Run):Run:=
 let d:=doM bk r.m (r.m.R.length-1)
 ⟨d.1,r.tr++[d.2.1],max r.pk (zI d.1),max r.ls (zI r.m+(jt bk r.m (r.m.R.length-1)).1-z7 d.2.1)⟩
def goM(bk:List qD):Nat->Run->Run×Int
 | f,r=>if r.m.R=[]then(r,0)else match f with
  | 0=>(r,12)
  | f+1=>if (doM bk r.m (r.m.R.length-1)).2.2≠0 then(r,(doM bk r.m (r.m.R.length-1)).2.2)else goM bk f (r.go bk)
section
variable {bk:List qD} {r:Run} {f:Nat}
theorem Yy(h:r.m.R=[]):goM bk f r=(r,0):=by unfold goM;rw[iP h]
theorem qBR(h:r.m.R≠[]):goM bk 0 r=(r,12):=by unfold goM;rw[iN h]
theorem qBS(h:r.m.R≠[])(e:(doM bk r.m (r.m.R.length-1)).2.2≠0):goM bk (f+1) r=(r,(doM bk r.m (r.m.R.length-1)).2.2):=by rw[goM,iN h];rw[iP e]
theorem qG3(h:r.m.R≠[])(e:(doM bk r.m (r.m.R.length-1)).2.2=0):goM bk (f+1) r=goM bk f (r.go bk):=by rw[goM,iN h];rw[iN (by omega)]
theorem Z2{m:qG}:0<=zI m/\zI m<=m.C.length:=by
 have:nF m.C<=m.C.length:=List.countP_le_length;unfold zI;omega
structure RJ(n:Nat)(r:Run):Prop where
 mm:MM r.m [] O0
 cl:r.m.C.length=n
 pk:0<=r.pk/\r.pk<=n
 ls:0<=r.ls/\r.ls<=n
theorem qBC{m:qG}{k:Nat}(hb:z5 bk=true)(mm:MM m [] O0)(hk:k<m.R.length)(h0:(doM bk m k).2.2=0):1<=(doM bk m k).2.1/\(doM bk m k).2.1<=7/\(jt bk m k).2=0/\0<=(jt bk m k).1/\(jt bk m k).1<=(nF m.C:Int)+z7 (doM bk m k).2.1:=by
 obtain⟨p,a,b,x,y,r⟩:=Wp mm hk;rw[r.do]at h0|-;rw[r.need];by_cases q:(zA bk x y).2=0
 ·rw[iN (by omega)]at h0|-;by_cases hn:(nF m.C:Int)+z7 (qe x y)<(zA bk x y).1
  ·rw[iP hn]at h0;cases h0
  ·rw[iN hn]at h0|-;have p:=r.pl hb q hn;have:=p.o.cls;refine⟨this.1,this.2,q, ?_,by simp only;omega⟩;unfold zA
   repeat' split
   all_goals try simp only
   all_goals try omega
   have:=jf (YD hb (p.o.f7 (by assumption)).2 (by omega));omega
 ·rw[iP q]at h0;exact absurd h0 q
theorem RJ.go{n:Nat}(i:RJ n r)(hb:z5 bk=true)(hne:r.m.R≠[])(h0:(doM bk r.m (r.m.R.length-1)).2.2=0):RJ n (r.go bk):=by
 have hl:0<r.m.R.length:=List.length_pos_iff.2 hne;obtain⟨p,a,b,x,y,d⟩:=Wp i.mm (show r.m.R.length-1<r.m.R.length by omega);obtain⟨q1,q2⟩:=d.ok hb i.mm;obtain⟨c1,c2,c3,c4,c5⟩:=qBC hb i.mm (show r.m.R.length-1<r.m.R.length by omega) h0;have:=Z2 (m:=(doM bk r.m (r.m.R.length-1)).1);have u2:zI r.m=(r.m.C.length:Int)-(nF r.m.C:Nat):=rfl;have:=i.pk;have:=i.ls;have:=i.cl;refine⟨q1,by rw[<-i.cl];exact q2, ?_, ?_⟩
 ·simp only[Run.go];omega
 ·simp only[Run.go];omega
end
theorem Yb{m:qG}{L:List Nat}(hs:m.C.length<=1000000)(hf:FrC m.C m.F L):Pure Gm 854 [.ept m.enc 0] (iI ((m.C.length:Int)-(nF m.C:Nat))):=by
 refine pJ kY ?_;simp only[kY,qM,go_sem];refine qI (c970 hs hf) ?_;have hle:nF m.C<=m.C.length:=List.countP_le_length ..;simp only[go_sem,jn (show-9223372036854775808<=(m.C.length:Int)-(nF m.C:Nat) by omega) (by omega)];exact qN rfl rfl
def nA(C:List qF):Nat:=C.countP λc=>qx c.K
theorem qIO:∀{C:List qF},(∀c∈C,zi c)->nA C+nV C+nF C=C.length
 |[],_=>rfl
 | c::r,h=>by
  have ih:=qIO (C:=r) λd hd=>h d (.tail _ hd);unfold nA nV nF at ih|-;rw[List.countP_cons,List.countP_cons,List.countP_cons,lCo];rcases h c (.head _)with⟨a,_⟩ | ⟨a,_⟩ | ⟨a,_⟩
  ·have:=Q2 a;simp only[a,this.1,this.2,if_true,decide_false,bFt,if_false];omega
  ·rw[iN (show ¬qx c.K=true by rw[a];decide),iP (by simp[a]),iN (by simp[a])];omega
  ·rw[iN (show ¬qx c.K=true by rw[a];decide),iN (by simp[a]),iP (by simp[a])];omega
theorem qE2{m:qG}(hs:m.C.length<=1000000):Pure Gm 1286 [.ept m.enc 0] (.tup [iI (nA m.C:Nat),iI (nV m.C:Nat),iI (nF m.C:Nat)]):=by
 refine pJ Uv ?_;simp only[Uv,qM,go_sem];refine Sem.loop (λi:Nat=>i<=m.C.length)
  (λi=>(⟨[(10,.lst 5 (m.C.map qF.enc) false),(11,iI (m.C.length:Nat)),(2,iI (nA (m.C.take i):Nat)),(3,iI (nV (m.C.take i):Nat)),(4,iI (nF (m.C.take i):Nat)),(12,iI (i:Nat))],[],[]⟩:VSt)) (λi=>m.C.length-i)
  0 (by kernel_rfl) (nZl _) (Can.sub (by simp[go_sem,nA,nV,nF]) (by simp[go_sem])) ?_
 rintro i hi;simp only[go_sem];by_cases hlt:i<m.C.length
 ·have e:decide ((i:Int)<(m.C.length:Nat))=true:=dEt (by omega);have hc:=gEg hlt;generalize m.C[i]=c at hc;simp only[e,gMp,hc,oMs,go_sem];refine Q7 (k:=5) rfl (by simp[go_sem]) ⟨_,rfl⟩ (by decide) ?_;simp only[go_sem];have w1:∀(p:qF->Bool),(m.C.take (i+1)).countP p=(m.C.take i).countP p+if p c=true then 1 else 0:=λp=>qA2 hc;have w2:∀(p:qF->Bool),(m.C.take i).countP p<=i:=λp=>nLt (List.countP_le_length ..) (by simp;omega);have ew:∀(p:qF->Bool),IntKind.i64.wrap ((((m.C.take i).countP p:Nat):Int)+(if p c=true then 1 else 0))=(((m.C.take (i+1)).countP p:Nat):Int):=λp=>by
   have h1:=w1 p;have h2:=w2 p;cases hp:p c
   ·simp only[hp,bFt,if_false]at h1|-;rw[wsA];omega
   ·simp only[hp,if_true]at h1|-;rw[wsA];omega
  have ea:=ew λc=>qx c.K;have ev:=ew λc=>decide (c.K=13);have ef:=ew λc=>decide (c.K=0);refine qI XC ?_;simp only[go_sem];refine qI QT ?_;simp only[go_sem];refine qI XD ?_;simp only[go_sem];refine qI QT ?_;simp only[go_sem];refine qI XE ?_;simp only[go_sem];refine qI QT ?_;simp only[go_sem,wuA (n:=i)];refine qd (i+1) (by omega) (by omega) (Can.sub (by simp only[go_sem,nA,nV,nF];simp only[ea,ev,ef];simp[go_sem]) (by simp[go_sem]))
 ·have e:decide ((i:Int)<(m.C.length:Nat))=false:=dEf (by omega);simp only[e,go_sem];rw[tOl (by omega)];exact zT (by rfl) (by rfl)
theorem YW{m:qG}(hs:m.C.length<=1000000)(hc:∀c∈m.C,zi c):Pure Gm 1182 [.ept m.enc 0] (iI ((m.C.length:Int)-(nF m.C:Nat))):=by
 refine pJ Ug ?_;simp only[Ug,qM,go_sem];refine qI (qE2 hs) ?_;have h:=qIO hc;simp only[go_sem];rw[wsA];exact qN rfl (by rw[show ((nA m.C:Nat):Int)+(nV m.C:Nat)=(m.C.length:Int)-(nF m.C:Nat) by omega])
section
variable {w mid cid k a b:Nat} {post cs:List AV} {ow:Nat->Nat} {h h':List qA} {m:qG} {rv dv:AV} {c x y:qF} {P:List qE} {O:Nat->Bool} {bk:List qD} {p:qL}
def rE(tv:AV)(r:Run):AV:=.agg [tv,iI r.pk,iI r.ls]
@[go_sem] theorem rE_0{tv:AV}{r:Run}:(rE tv r).part 0 none=some tv:=rfl
@[go_sem] theorem rE_1{tv:AV}{r:Run}:(rE tv r).part 1 none=some (iI r.pk):=rfl
@[go_sem] theorem rE_2{tv:AV}{r:Run}:(rE tv r).part 2 none=some (iI r.ls):=rfl
structure RG(w mid:Nat)(ow:Nat->Nat)(h:List qA)(rid:Nat)(r:Run):Prop where
 m:MH w mid [] ow h r.m
 e:∃tv,h[rid]?=some (.row 3 [rE tv r] true)/\LsW (λj=>ow j=0/\rid<j) 1 h tv (r.tr.map qQ)
 o:ow rid=0
theorem RD.c855(d:RD m k p a b x y)(hb:z5 bk=true):Pure Gm 855 [.lst 1 (bk.map qD.enc) false,.ept m.enc 0,p.enc] (.tup [iI (jt bk m k).1,iI (jt bk m k).2]):=by
 have w1:=wT d.ro.ox;have w2:=wT d.ro.oy;rw[agp]at w1 w2;have hv:qe x y=7->0<=x.V:=λc=>by
  have h8:qe x y≠8:=by omega
  exact(Ord.f7 ⟨d.ro.ox,d.ro.oy,d.kx,d.ky,d.f,h8⟩ c).2
 rw[d.need];exact Go.Ab.c855 d.ro hb (by omega) (by omega) hv (Jw d.ro.ox)
theorem ZR{E:Ev}{l:List qC}{fs:List Fr1}{s l':qp}{Q:qi->VSt->Prop}{v xx:AV}{id n:Nat}(g:h[id]?=some (.row w [.agg cs] true))(hv:v.cells=[v])(hn:cs[n]?=some xx)
  (hr:∀h',Up (λj=>j=id) h h'->h'.length=h.length->h'[id]?=some (.row w [.agg (cs.set n v)] true)->R E (.ops l::fs) ⟨s,l',h'⟩ Q):Sto E 1 (some (.ptr id 0 n)) (some v) l fs ⟨s,l',h⟩ Q:=
 zx (by rw[hv];rfl) g rfl (Qk hv hn) (hr _ Up.set (by simp) (gSs (qZ g)))
theorem s503{n bu:Nat}(M:MH w mid [] ow h m)(hw:0<w)(mm:MM m [] O0)(hb:z5 bk=true)(hcl:m.C.length<=1500)(hbu:bu<=4000):
  SCall Gm 503 [.lst 1 (bk.map qD.enc) false,.ptr mid 0 0,iI (bu:Nat)] h (λv h'=>∃ow' rid,v=.tup [.ptr rid 0 0,iI (goM bk bu ⟨m,[],zI m,zI m⟩).2]/\RG w mid ow' h' rid (goM bk bu ⟨m,[],zI m,zI m⟩).1/\Fo ow h ow' h'):=by
 refine sI K9 ?_;simp only[K9,qM,go_sem];obtain⟨L,hL⟩:=mm.fre;refine M.lend rfl hw rfl (Yb (by omega) hL) rfl ?_;simp only[go_sem];refine M.lend rfl hw rfl (Yb (by omega) hL) rfl ?_;simp only[go_sem];refine JL rfl ?_;simp only[go_sem];have u0:=Z2 (m:=m);generalize hG:goM bk bu ⟨m,[],zI m,zI m⟩=G;refine Sem.loop (λa:Run×(Nat->Nat)×List qA=>goM bk (bu-a.1.tr.length) a.1=G/\a.1.tr.length<=bu/\RJ m.C.length a.1/\RG w mid a.2.1 a.2.2 h.length a.1/\Fo ow h a.2.1 a.2.2)
  (λa=>(⟨[(0,.lst 1 (bk.map qD.enc) false),(1,.ptr mid 0 0),(2,iI (bu:Nat)),(8,.ptr h.length 0 0)],[],a.2.2⟩:VSt)) (λa=>bu-a.1.tr.length)
  (⟨m,[],zI m,zI m⟩,ow,h++[.row 3 [rE .nils ⟨m,[],zI m,zI m⟩] true]) (by kernel_rfl) ⟨hG,nZl _,⟨mm,rfl,u0,u0⟩,⟨M.app _,⟨.nils,ends,.inl ⟨rfl,rfl⟩⟩,M.b⟩,Fo.app _⟩ csA ?_
 rintro⟨r,ow1,h1⟩ ⟨eG,hr,J,⟨M1,⟨tv,e1,e2⟩,e3⟩,F1⟩;simp only at eG hr J M1 e1 e2 e3 F1;have mm1:=J.mm;have hrl:=Wr mm1;have hcl1:=J.cl;have htl:=e2.len;rw[lMp]at htl;obtain⟨cid,cs,rv,MO1⟩:=id M1;have hrv:=MO1.r.len;rw[lMp]at hrv;simp only[go_sem,MO1.o,hrv];by_cases hne:r.m.R=[]
 ·have e:decide (0<((r.m.R.length:Nat):Int))=false:=by rw[hne];rfl
  rw[Yy hne]at eG;subst eG;simp only[e,go_sem];exact⟨ow1,h.length,rfl,⟨M1,⟨tv,e1,e2⟩,e3⟩,F1⟩
 have hlp:0<r.m.R.length:=List.length_pos_iff.2 hne;have e:decide (0<((r.m.R.length:Nat):Int))=true:=dEt (by omega);simp only[e,go_sem,e1,htl];by_cases hb2:bu<=r.tr.length
 ·have e4:decide (((bu:Nat):Int)<=(r.tr.length:Nat))=true:=dEt (by omega);rw[show bu-r.tr.length=0 by omega,qBR hne]at eG;subst eG;simp only[e4,go_sem];exact⟨ow1,h.length,rfl,⟨M1,⟨tv,e1,e2⟩,e3⟩,F1⟩
 have e4:decide (((bu:Nat):Int)<=(r.tr.length:Nat))=false:=dEf (by omega);have ew:IntKind.i64.wrap ((r.m.R.length:Nat)-1:Int)=((r.m.R.length-1:Nat):Int):=by rw[wsA];omega
 obtain⟨p,a,b,x,y,d⟩:=Wp mm1 (show r.m.R.length-1<r.m.R.length by omega);obtain⟨rxid,i1,rfl,i3⟩:=MO1.r.full (by rw[lMp];omega);rw[lMp]at MO1;simp only[e4,go_sem,MO1.o,hrv,ew];have hk:r.m.R.length-1<r.m.R.length:=by omega
 generalize hkk:r.m.R.length-1=k at*;simp only[qW hk,go_sem,nZa,i3,gMp,d.at',oMs];refine M1.lend1 rfl hw (by simp[AV.tree,qb qD.isSh.tree]) (by simp[AV.trees,go_sem]) (d.c855 hb) rfl ?_;simp only[go_sem];obtain⟨L1,hL1⟩:=mm1.fre;refine M1.lend rfl hw rfl (Yb (by omega) hL1) rfl ?_;simp only[go_sem];refine qj (SCall.mono (s600 M1 hw mm1 hk hb (by omega)) ?_);rintro _ h2 ⟨rfl,ow2,M2,F2⟩;obtain⟨f1,f2⟩:=F2.at e1 e3;have tv2:LsW (λj=>ow2 j=0/\h.length<j) 1 h2 tv (r.tr.map qQ):=e2.mono λj hj q=>⟨⟨(F2.k j hj q.1).1,q.2⟩,(F2.k j hj q.1).2⟩;simp only[go_sem];have ebu:bu-r.tr.length=(bu-(r.tr.length+1))+1:=by omega
 rw[ebu]at eG;by_cases h0:(doM bk r.m k).2.2=0
 case neg=>
  rw[qBS hne (by rw[hkk];exact h0),hkk]at eG;subst eG;simp only[h0,decide_false,go_sem];have er:(doM bk r.m k).1=r.m:=by
   rw[d.do]at h0|-;split
   ·rfl
   ·rename_i q;rw[iN q]at h0;split
    ·rfl
    ·rename_i q2;rw[iN q2]at h0;exact absurd rfl h0
  rw[er]at M2;exact⟨ow2,h.length,rfl,⟨M2,⟨tv,f1,tv2⟩,f2⟩,F1.trans F2⟩
 rw[qG3 hne (by rw[hkk];exact h0)]at eG;have J2:=J.go hb hne (by rw[hkk];exact h0);obtain⟨c1,c2,c3,c4,c5⟩:=qBC hb mm1 hk h0;simp only[h0,go_sem,f1];refine wc (tv2.app _) ends (by rw[lMp];omega) λh3 u3 w3 l3=>?_;have M3:=(M2.app [qA.row 1 [AV.int .i64 (doM bk r.m k).2.1] true]).upf u3 λj q=>q.1.1;have g1:h3[h.length]?=some (.row 3 [rE tv r] true):=u3.at (jC f1) λq=>by have:=q.1.2;omega
 have F3:Fo ow h ow2 h3:=((F1.trans F2).trans (Fo.app _)).upf u3 λj q=>by have:=q.1.2;omega
 simp only[go_sem];have hl2:=(F1.trans F2).l;have hh1:h.length<h1.length:=qZ e1;have l2:=F2.l;refine ZR g1 rfl rfl λh4 U4 l4 g2=>?_;simp only[lSz]at g2;have M4:=M3.upf U4 λj q=>by rw[q];exact f2
 have J2m:=J2.mm;have J2c:=J2.cl;simp only[Run.go,hkk]at J2c J2m;obtain⟨L2,hL2⟩:=J2m.fre;simp only[go_sem,g2];refine M4.lend rfl hw rfl (Yb (by omega) hL2) rfl ?_;simp only[go_sem];refine qI Yc ?_;simp only[go_sem];refine ZR g2 rfl rfl λh5 U5 l5 g3=>?_;simp only[lSz,List.set_cons_succ]at g3;simp only[go_sem,g3];refine qI c857 ?_;simp only[go_sem];refine qI Yc ?_;simp only[go_sem];refine ZR g3 rfl rfl λh6 U6 l6 g4=>?_;simp only[lSz,List.set_cons_succ]at g4;simp only[go_sem];have hgt:(r.go bk).tr=r.tr++[(doM bk r.m k).2.1]:=by simp only[Run.go,hkk]
 have hgl:(r.go bk).tr.length=r.tr.length+1:=by rw[hgt];simp
 have u1:=Z2 (m:=r.m);have u2:=Z2 (m:=(doM bk r.m k).1);have hpk:=J.pk;have hls:=J.ls;have J2p:=J2.pk;have J2l:=J2.ls;have ecr:(if (doM bk r.m k).2.1=7 then 1 else 2:Int)=z7 (doM bk r.m k).2.1:=rfl;have hcr:1<=z7 (doM bk r.m k).2.1/\z7 (doM bk r.m k).2.1<=2:=by unfold z7;split<;>omega
 have hu1:zI r.m=(r.m.C.length:Int)-(nF r.m.C:Nat):=rfl;have hu2:zI (doM bk r.m k).1=((doM bk r.m k).1.C.length:Int)-(nF (doM bk r.m k).1.C:Nat):=rfl;rw[ecr,<-hu1,<-hu2,jn (show-9223372036854775808<=zI r.m+(jt bk r.m k).1 by omega) (by omega),jn (show-9223372036854775808<=zI r.m+(jt bk r.m k).1-z7 (doM bk r.m k).2.1 by omega) (by omega)]at g4;have hmx:∀a b:Int,(if b<a then a else b)=max a b:=λa b=>by omega
 rw[hmx,hmx]at g4;have hid:(h2++[qA.row 1 [AV.int .i64 (doM bk r.m k).2.1] true]).length≠h.length:=by simp;omega
 have w6:=U6.at (U5.at (U4.at w3 hid) hid) hid;have z6:ow2 (h2++[qA.row 1 [AV.int .i64 (doM bk r.m k).2.1] true]).length=0:=(M2.app _).b;refine qd (r.go bk,ow2,h6) ⟨?_,by simp only;omega,by simp only;exact J2,⟨?_,⟨.slice 1 (h2++[qA.row 1 [AV.int .i64 (doM bk r.m k).2.1] true]).length 0 (r.tr.length+1) false, ?_,.inr ⟨_,⟨z6,by simp;omega⟩,by rw[lMp,hgl], ?_⟩⟩,f2⟩, ?_⟩ (by simp only;omega) csA
 ·simp only[hgl];exact eG
 ·have M6:=(M4.upf U5 λj q=>by rw[q];exact f2).upf U6 λj q=>by rw[q];exact f2
  simp only[Run.go,hkk];exact M6
 ·simp only;rw[g4];simp only[rE,Run.go,hkk]
 ·simp only[hgt,lMa];exact w6
 ·exact((F3.upf U4 λj q=>by rw[q];exact nLr _).upf U5 λj q=>by rw[q];exact nLr _).upf U6 λj q=>by rw[q];exact nLr _
end
section
variable {m:qG} {k:Nat} {c x y:qF} {p:qL} {ka kb:Nat}
theorem qE9(hc:m.C[k]?=some c)(hw:c.W.length<=1000000):Pure Gm 1509 [.ept m.enc 0,iI (k:Nat)] (qY c).enc:=by
 refine pI Ku (by simp[AV.trees,AV.tree,go_sem]) qB.tr ?_;simp only[Ku,qM,go_sem,gMp,hc,oMs];refine Q7 (k:=5) rfl (by simp[go_sem]) ⟨_,rfl⟩ (by decide) ?_;simp only[go_sem];simp only[j0 (show c.W.length<4611686018427387904 by omega)];refine Jc (by unfold LIM;omega) ?_;simp only[go_sem];refine lsA ?_;simp only[go_sem];refine J7 (.agg rfl ?_);intro p hp;have e:List.map qH.enc (qY c).P=List.replicate (c.W.length+1) (AV.agg [AV.int .i64 0,AV.int .i64 0]):=by simp[qY];rfl
 rw[e]at hp;simp only[List.zip_cons_cons,List.zip_nil_left,mCo,List.not_mem_nil,or_false]at hp;rcases hp with rfl | rfl | rfl | rfl | rfl
 ·exact .refl rfl
 ·exact .refl rfl
 ·exact .refl rfl
 ·exact .refl (qb shI.tree _)
 ·exact Cv.row (c:=false) rfl (by simp) (by rw[<-e];exact qb qH.isSh.tree _) (by decide)
theorem qE5(r:RX m p ka kb x y)(hx:x.W.length<=1000000)(hy:y.W.length<=1000000):Pure Gm 1420 [.ept m.enc 0,p.enc] (qD.enc ⟨[qY x,qY y]⟩):=by
 refine pI Kd (by simp[AV.trees,AV.tree,go_sem]) qD.tr ?_;simp only[Kd,qM,go_sem];refine qa rfl ?_;simp only[go_sem,r.a,r.b];refine qI (qE9 r.ha hx) ?_;simp only[go_sem];refine qI (qE9 r.hb hy) ?_;simp only[go_sem];refine J7 (.agg rfl ?_);intro q hq;simp only[List.zip_cons_cons,List.zip_nil_left,mCo,List.not_mem_nil,or_false,lMc,List.map_nil]at hq;rw[hq];exact Cv.row (c:=false) rfl rfl (by simp[AV.trees,go_sem]) (by decide)
end
theorem qFA{n:qD}{a b:Nat}(ha:a<n.G.length)(hb:b<n.G.length)(oa:qg n.G[a]=true)(ob:qg n.G[b]=true):Pure Gm 751 [.ept n.enc 0,qL.enc ⟨(a:Int),(b:Int)⟩] (.tup [iI (wU n.G[a] n.G[b]),.bool (jN n.G[a] n.G[b]&& !decide (wU n.G[a] n.G[b]=8))]):=by
 refine pI kS (by simp[AV.trees,AV.tree,qD.tr,qL.tr]) rfl ?_;simp only[kS,qM,go_sem];refine qa rfl ?_;simp only[go_sem];simp only[gMp,gEg ha,oMs,go_sem];simp only[gEg hb,oMs,go_sem];have key:=qoQ oa ob;obtain⟨x,hx⟩:∃x,x=n.G[a]:=⟨_,rfl⟩;obtain⟨y,hy⟩:∃y,y=n.G[b]:=⟨_,rfl⟩;rw[<-hx,<-hy]at key;rw[<-hx,<-hy];refine lsA ?_;simp only[go_sem];refine lsA ?_;simp only[go_sem];refine qI qiN ?_;simp only[go_sem];have c8:jH x.K x.L y.K y.L=8->zr x.K x.L y.K y.L=2->False:=by
  intro h1 h2;simp only[jH,zr]at h1 h2;split at h1
  ·rename_i hp;simp only[hp,if_true]at h2;split at h1
   ·exact qJ9 h1
   ·split at h1
    ·exact qJ9 h1
    ·rename_i q1 q2;rw[iN q1,iN q2]at h2;omega
  ·omega
 have k8:jH x.K x.L y.K y.L=6->(if jN x y then x.K=10/\(x.D.length:Int)<=y.V else y.K=10/\(y.D.length:Int)<=x.V)->wU x y=8:=λh1 h2=>by rw[key,iP ⟨h1,h2⟩]
 have kn:¬(jH x.K x.L y.K y.L=6/\(if jN x y then x.K=10/\(x.D.length:Int)<=y.V else y.K=10/\(y.D.length:Int)<=x.V))->wU x y=jH x.K x.L y.K y.L:=λh1=>by rw[key,iN h1]
 clear key hx hy oa ob;have hs:jN x y=decide (zr x.K x.L y.K y.L=2):=rfl;generalize jN x y=S at*;generalize wU x y=O at*;generalize jH x.K x.L y.K y.L=C at*;generalize zr x.K x.L y.K y.L=F at*;subst hs
 repeat' (first | (first | (apply zF<;>intro hc<;>simp only[hc,go_sem]) | (apply qU<;>intro hc<;>simp only[hc,go_sem])) | (refine lsA ?_;simp only[go_sem]) | refine zT rfl ?_)
 all_goals simp only[Bool.not_true,dTe,decide_eq_false_iff_not]at*
 all_goals first
  | (have e:=k8 (by assumption) (by simp[*];done);simp[e];done)
  | (have e:=kn (by simp[*];try omega);simp only[e];simp[*];try first | omega | (intro h8;exact c8 h8 (by assumption)))
section
variable {m:qG} {x y:qF} {p:qL} {a b:Nat}
theorem qE1(r:RO m p a b x y)(hx:x.W.length<=1000000)(hy:y.W.length<=1000000)(h8:qe x y≠8):Pure Gm 1285 [.ept m.enc 0,p.enc] (.tup [iI (qe x y),iI (a:Nat),iI (b:Nat)]):=by
 obtain⟨ka,kb,u,v,h1,hc,h2⟩:=r.cls;have hw:u.W.length<=1000000/\v.W.length<=1000000/\qg (qY u)=true/\qg (qY v)=true:=by
  have:=r.ox;have:=r.oy;rcases h2 with⟨hs,_,_,rfl,rfl⟩ | ⟨hs,_,_,rfl,rfl⟩
  ·exact⟨hy,hx,r.oy,r.ox⟩
  ·exact⟨hx,hy,r.ox,r.oy⟩
 refine pJ Uu ?_;simp only[Uu,qM,go_sem];refine qa rfl ?_;simp only[go_sem];refine qI (qE5 h1 hw.1 hw.2.1) ?_;simp only[go_sem];refine zx (e':=qD.enc ⟨[qY u,qY v]⟩) rfl rfl rfl rfl ?_;simp only[go_sem];refine J4 (vs':=[.ept (qD.enc ⟨[qY u,qY v]⟩) 0,qL.enc ⟨((0:Nat):Int),((1:Nat):Int)⟩]) (Cvs.cons (.ptr rfl (by decide) rfl (.refl qD.tr)) (Cvs.cons (.refl rfl) .nil)) (qFA (n:=⟨[qY u,qY v]⟩) (a:=0) (b:=1) (by simp) (by simp) hw.2.2.1 hw.2.2.2) rfl ?_;simp only[go_sem,List.getElem_cons_zero,List.getElem_cons_succ];have h8':∀{A:Int},A=qe x y->decide (A=8)=false:=λq=>dEf (by rw[q];exact h8);rcases h2 with⟨hs,ea,eb,ex,ey⟩ | ⟨hs,ea,eb,ex,ey⟩
 ·have eo:wU (qY u) (qY v)=qe x y:=by
   unfold wU;rw[iP (show jN (qY u) (qY v)=true from hs),ex,ey];rfl
  have eb2:(jN (qY u) (qY v)&& !decide (wU (qY u) (qY v)=8))=true:=by rw[show jN (qY u) (qY v)=true from hs,h8' eo];rfl
  rw[eb2,eo];simp only[go_sem,h1.a,h1.b];exact zT (by rfl) (by rw[ea,eb])
 ·have eo:wU (qY u) (qY v)=qe x y:=by
   unfold wU;rw[iN (by rw[show jN (qY u) (qY v)=false from hs];decide),ex,ey];rfl
  have eb2:(jN (qY u) (qY v)&& !decide (wU (qY u) (qY v)=8))=false:=by rw[show jN (qY u) (qY v)=false from hs];rfl
  rw[eb2,eo];simp only[go_sem,h1.a,h1.b];exact zT (by rfl) (by rw[ea,eb])
end
section
variable {bk:List qD} {m:qG} {k a b:Nat} {p:qL} {x y:qF} {u v z t:qB}
def rwT(bk:List qD)(u v:qB):AV:=.agg [.lst 5 ([u,v].map qB.enc) false,.lst 1 (bk.map qD.enc) false,.nilm]
theorem qC2:(rwT bk u v).tree=true:=by simp[rwT,AV.tree,AV.trees,qb qD.isSh.tree,qB.tr]
theorem qp1:(rwT bk u v).part 0 (some 1)=some (qD.enc ⟨[u,v]⟩):=rfl
@[go_sem] theorem qv2:(rwT bk u v).part 0 none=some (.lst 5 ([u,v].map qB.enc) false):=rfl
@[go_sem] theorem qv3:(rwT bk u v).part 1 none=some (.lst 1 (bk.map qD.enc) false):=rfl
theorem qiV(ou:qg u=true)(ov:qg v=true)(hbk:z5 bk=true)(ho:(jN u v=true/\a=1/\b=0/\z=v/\t=u)\/(jN u v=false/\a=0/\b=1/\z=u/\t=v))(h7:za z t=7->0<=z.V):
  Pure Gm 1305 [.ept (rwT bk u v) 0,qL.enc ⟨((0:Nat):Int),((1:Nat):Int)⟩] (wC bk z t a b):=by
 have eo:wU u v=za z t:=by unfold wU;rcases ho with⟨e,_,_,rfl,rfl⟩ | ⟨e,_,_,rfl,rfl⟩<;>rw[e]<;>rfl
 have xok0:qg z=true:=by rcases ho with⟨_,_,_,rfl,_⟩ | ⟨_,_,_,rfl,_⟩<;>assumption
 have xok:=Jw xok0;have hz:([u,v].map qB.enc)[a]?=some z.enc:=by rcases ho with⟨_,rfl,_,rfl,_⟩ | ⟨_,rfl,_,rfl,_⟩<;>rfl
 have la:a<2:=by rcases ho with⟨_,rfl,_⟩ | ⟨_,rfl,_⟩<;>omega
 refine pI KB (by simp[AV.trees,AV.tree,qC2,qL.tr]) (by unfold wC;split<;>rfl) ?_;simp only[KB,qM,go_sem];refine qa rfl ?_;simp only[go_sem];refine qI (Pure.lk0 qC2 qp1 (Nat.succ_pos 0) (qFA (n:=⟨[u,v]⟩) (a:=0) (b:=1) (by simp) (by simp) ou ov)) ?_;simp only[List.getElem_cons_zero,List.getElem_cons_succ,eo];by_cases c8:za z t=8
 ·have eC:wC bk z t a b=.tup [iI 0,iI 0,iI 0,iI 11]:=by unfold wC;rw[qlX c8,iN (by decide)]
  have eb:(jN u v&& !decide (za z t=8))=false:=by simp[c8]
  rw[eC,eb,c8];simp only[go_sem];exact zT (by rfl) rfl
 ·have eb:(jN u v&& !decide (za z t=8))=jN u v:=by simp[c8]
  rw[eb];rcases ho with⟨hs,ha,hb,h1,h2⟩ | ⟨hs,ha,hb,h1,h2⟩<;>subst ha hb<;>rw[hs]<;>simp only[go_sem,qL.enc]
  all_goals
   simp only[show decide (za z t=8)=false from dEf c8,go_sem];apply qU<;>intro hc<;>simp only[hc,go_sem]
   ·have c7:za z t=7:=by simpa using hc
    clear hc;have v0:=h7 c7;subst h1 h2;simp only[hz,oMs,go_sem];refine lsA ?_;simp only[go_sem];apply qU<;>intro hc<;>simp only[hc,go_sem]
    ·have q3:(bk.length:Int)<=z.V:=by simpa using hc
     have eC:∀a b,wC bk z t a b=.tup [iI 0,iI 0,iI 0,iI 3]:=λa b=>by unfold wC;rw[qlW c7 q3,iN (by decide)]
     rw[eC];exact zT (by rfl) rfl
    ·have q3:¬(bk.length:Int)<=z.V:=by simpa using hc
     clear hc;have ot:=YD hbk v0 (show z.V<bk.length by omega);simp only[XW v0 (show z.V<bk.length by omega),go_sem];refine J3 (qIN (qt bk z.V) z.L (by have:=ZF ot;omega) xok λz hz=>Jw (J0 (Qi ot) z hz)) ?_;have sh:=Vw ot xok;have eL:∀n,(lay (QD (JA (qt bk z.V) z.L)) n).1=.tup [.agg [.slice 5 n 0 (JA (qt bk z.V) z.L).1.G.length false],.bool (JA (qt bk z.V) z.L).2]:=λn=>by simp[QD,lay,qT,qD.layE]
     rw[eL];simp only[go_sem];by_cases q9:8<IntKind.i64.wrap (hiI (qt bk z.V).G+z.L)
     ·have e9:(JA (qt bk z.V) z.L).2=false:=by unfold JA;rw[iN (λe=>sh.1 e q9)]
      have eC:∀a b,wC bk z t a b=.tup [iI 0,iI 0,iI 0,iI 9]:=λa b=>by unfold wC;rw[qlY c7 q3 q9,iN (by decide)]
      rw[e9,eC];simp only[go_sem];exact zT (by rfl) rfl
     ·have e9:(JA (qt bk z.V) z.L).2=true:=by unfold JA;rw[iP (sh.2 q9)]
      have eC:∀a b,wC bk z t a b=.tup [iI (za z t),iI (a:Nat),iI (b:Nat),iI 0]:=λa b=>by unfold wC;rw[iP (qG8 c8 λ_=>⟨q3,q9⟩)]
      rw[e9,eC];simp only[go_sem];exact zT (by rfl) rfl
   ·have n7:za z t≠7:=by simpa using hc
    have eC:∀a b,wC bk z t a b=.tup [iI (za z t),iI (a:Nat),iI (b:Nat),iI 0]:=λa b=>by unfold wC;rw[iP (qG8 c8 λe=>absurd e n7)]
    rw[eC];exact zT (by rfl) rfl
theorem qG9:(JY bk (qY x) (qY y)).2=(zA bk x y).2:=by
 unfold JY zA;change (if qe x y=8 then((0:Int),(11:Int))else if qe x y=7/\(bk.length:Int)<=x.V then(0,3)else if qe x y=7/\8<IntKind.i64.wrap (hiI (qt bk x.V).G+x.L)then(0,9)else((qG6 (qe x y) (qG7 bk (qY x) (qY y) (qe x y))).1,0)).2=_;generalize qe x y=C;by_cases h8:C=8
 ·rw[iP h8,iP h8]
 rw[iN h8,iN h8];by_cases h7:C=7
 ·subst h7;by_cases q:(bk.length:Int)<=x.V
  ·simp[q]
  ·by_cases q2:8<IntKind.i64.wrap (hiI (qt bk x.V).G+x.L)
   ·simp[q,q2]
   ·simp[q,q2]
 ·rw[iN (λz=>h7 z.1),iN (λz=>h7 z.1)]
  repeat' split
  all_goals first | rfl | omega
theorem qn2(h:(zA bk x y).2≠0):(zA bk x y).1=0:=by
 unfold zA at h|-
 repeat' split
 all_goals simp_all
theorem qLX:(xM m [.lst 1 (bk.map qD.enc) false]).part 5 none=some (.lst 1 (bk.map qD.enc) false):=rfl
theorem qDN:(xM m [.lst 1 (bk.map qD.enc) false]).part 0 none=some (.lst 5 (m.C.map qF.enc) false):=rfl
theorem qEZ(d:RD m k p a b x y)(hb:z5 bk=true):Pure Gm 1183 [.ept (xM m [.lst 1 (bk.map qD.enc) false]) 0,p.enc] (.tup [iI (jt bk m k).1,iI (jt bk m k).2]):=by
 have hbt:AV.trees [AV.lst 1 (bk.map qD.enc) false]=true:=by simp[AV.trees,AV.tree,qb qD.isSh.tree]
 obtain⟨ka,kb,u,v,h1,hc,h2⟩:=d.ro.cls;obtain⟨ra,rb⟩:=d.ro.at;have w1:=wT d.ro.ox;have w2:=wT d.ro.oy;rw[agp]at w1 w2;have hw:u.W.length<=1000000/\v.W.length<=1000000/\qg (qY u)=true/\qg (qY v)=true:=by
  rcases h2 with⟨hs,_,_,rfl,rfl⟩ | ⟨hs,_,_,rfl,rfl⟩
  ·exact⟨by omega,by omega,d.ro.oy,d.ro.ox⟩
  ·exact⟨by omega,by omega,d.ro.ox,d.ro.oy⟩
 have hv:qe x y=7->0<=x.V:=λc=>by
  have h8:qe x y≠8:=by omega
  exact(Ord.f7 ⟨d.ro.ox,d.ro.oy,d.kx,d.ky,d.f,h8⟩ c).2
 rw[d.need];refine Pure.intro [15] [] (gk _ Uh) (by kernel_rfl) rfl (by simp[AV.trees,AV.tree,YK hbt,qL.tr]) rfl ?_;simp only[Uh,qM,go_sem];refine qa rfl ?_;simp only[go_sem];simp only[qLX,go_sem];refine qI (Pure.lk0 (YK hbt) UM (Nat.succ_pos 4) (qE5 h1 hw.1 hw.2.1)) ?_;simp only[go_sem];refine JL rfl ?_;simp only[go_sem];have hsw:jN (qY u) (qY v)=JB u v:=rfl;have ho:∃A B:Nat,(jN (qY u) (qY v)=true/\A=1/\B=0/\qY x=qY v/\qY y=qY u)\/(jN (qY u) (qY v)=false/\A=0/\B=1/\qY x=qY u/\qY y=qY v):=by
  rcases h2 with⟨hs,_,_,rfl,rfl⟩ | ⟨hs,_,_,rfl,rfl⟩
  ·exact⟨1,0,.inl ⟨hs,rfl,rfl,rfl,rfl⟩⟩
  ·exact⟨0,1,.inr ⟨hs,rfl,rfl,rfl,rfl⟩⟩
 obtain⟨A,B,ho⟩:=ho;have hcall:=qiV (bk:=bk) hw.2.2.1 hw.2.2.2 hb ho hv;refine J4 (Cvs.cons (.ptr (t:=rwT bk (qY u) (qY v)) rfl (by decide) rfl (.refl qC2)) (Cvs.cons (.refl (by simp[AV.tree,AV.trees])) .nil)) hcall (by unfold wC;split<;>rfl) ?_;by_cases h0:(zA bk x y).2=0
 case neg=>
  have eC:wC bk (qY x) (qY y) A B=.tup [iI 0,iI 0,iI 0,iI (zA bk x y).2]:=by unfold wC;rw[qG9,iN h0]
  rw[eC,qn2 h0];simp only[go_sem,h0,decide_false];exact zT (by rfl) rfl
 have eC:wC bk (qY x) (qY y) A B=.tup [iI (qe x y),iI (A:Nat),iI (B:Nat),iI 0]:=by unfold wC;rw[qG9,iP h0];rfl
 have h8:qe x y≠8:=λe=>by have:=qCC (bk:=bk) e;omega
 rw[eC,h0];simp only[go_sem];refine qI (Pure.lk0 (YK hbt) UM (Nat.succ_pos 4) (qE1 d.ro (by omega) (by omega) h8)) ?_;simp only[go_sem,qDN,gMp,ra,rb,oMs];generalize hC:qe x y=C at*;have nv:∀{q:Int},zA bk x y=(q,0)->AV.tup [iI q,iI 0]=.tup [iI (zA bk x y).1,iI 0]:=λe=>by rw[e]
 by_cases c3:C=3
 ·subst c3;simp only[go_sem,jn (show-9223372036854775808<=3*(y.W.length:Int) by omega) (by omega),jn (show-9223372036854775808<=2+3*(y.W.length:Int) by omega) (by omega)];exact zT (by rfl) (nv (by rw[zA,hC];rfl))
 simp only[c3,decide_false,go_sem];by_cases c4:C=4
 ·subst c4;simp only[go_sem];exact zT (by rfl) (nv (by rw[zA,hC];rfl))
 simp only[c4,decide_false,go_sem];by_cases c5:C=5
 ·subst c5;simp only[go_sem];exact zT (by rfl) (nv (by rw[zA,hC];rfl))
 simp only[c5,decide_false,go_sem];by_cases c6:C=6
 ·subst c6;simp only[go_sem,qDN,gMp,ra,oMs,jn (show-9223372036854775808<=1+(x.W.length:Int) by omega) (by omega)];exact zT (by rfl) (nv (by rw[zA,hC];rfl))
 simp only[c6,decide_false,go_sem];by_cases c7:C=7
 ·subst c7;have v0:=hv rfl;have q3:¬(bk.length:Int)<=x.V:=λq=>by unfold zA at h0;rw[hC]at h0;simp[q]at h0
  have q9:¬8<IntKind.i64.wrap (hiI (qt bk x.V).G+x.L):=λq=>by unfold zA at h0;rw[hC]at h0;simp[q3,q]at h0
  have v1:x.V<bk.length:=by omega
  simp only[go_sem,qDN,qLX,gMp,ra,oMs,XW v0 v1];generalize ([]:List qA)++[qA.row 3 [AV.agg [AV.lst 5 (List.map qB.enc [qY u,qY v]) false,AV.lst 1 (List.map qD.enc bk) false,AV.nilm]] true]=HB;have ot:=YD hb v0 v1;have tz:=ZF ot;refine zx (e':=(qt bk x.V).enc) rfl ends rfl rfl ?_;rw[lSr _ _ (nLr _),nSs];simp only[lSz];have hbb:(HB++[qA.row 1 [(qt bk x.V).enc] true])[HB.length]?=some (qA.row 1 [(qt bk x.V).enc] true):=ends;simp only[go_sem,hbb];refine qI (qE6 (n:=qt bk x.V) (by omega) ot) ?_;have hil:(qf (qt bk x.V).G).length<=1048576:=nLt (List.length_filter_le ..) (W1 (by omega));have np:=jf ot;simp only[go_sem];rw[jn (show-9223372036854775808<=((qt bk x.V).G.length:Int)-1 by omega) (by omega),wsA];exact zT (by rfl) (nv (q:=((qt bk x.V).G.length:Int)-1+((qf (qt bk x.V).G).length:Nat)) (by rw[zA,hC];simp[q3,q9,qLO]))
 simp only[c7,decide_false,go_sem];exact zT (by rfl) (nv (by rw[zA,hC,iN h8,iN c3,iN c4,iN c5,iN c6,iN c7]))
end
def rdL(xs:List qL)(k:Nat):List qL:=xs.take k++xs.drop (k+1)
theorem qC6{A:List qA}{x y:qA}{n:Nat}(h:A.length=n):(A++[x]).set n y=A++[y]:=by
 subst h;simp
theorem qp6{xs:List qL}{h:List qA}{id k:Nat}{K:AV->List qA->Prop}(ho:h[id]?=some (.row 2 (xs.map qL.enc) true))(hz:xs.length<=1048576)(hk:k<xs.length)
  (hK:K (sQ 2 h.length (xs.length-1)) (h.set id .dead++[.row 2 ((rdL xs k).map qL.enc) true])):SCall Gm 1287 [sQ 2 id xs.length,iI (k:Int),iI ((k:Int)+1)] h K:=by
 refine SCall.cut h.length (xs.length-1) 2 ?_;refine sI Uw ?_;simp only[Uw,qM,go_sem];have hid:id<h.length:=(gSi.1 ho).1;refine qqO ho (by simp;omega) (c:=xs.length) (b:=k+1) (a:=k) (by simp[bnd,go_sem]) (by simp[bnd,go_sem];omega) (by simp[bnd,go_sem];omega) ?_;simp only[go_sem];have hne:decide ((k:Int)=(k:Int)+1)=false:=dEf (by omega);simp only[hne,go_sem];refine Wm (v:=sQ 2 id k) (by simp[val,bnd,go_sem,show k<=xs.length by omega]) ?_;simp only[go_sem];refine Wm (v:=.slice 2 id (k+1) (xs.length-(k+1)) false) (by simp[val,bnd,go_sem,show (0:Int)<=(k:Int)+1/\(k:Int)+1<=(xs.length:Int) by omega]) ?_;simp only[go_sem];refine qh5 (el:=xs.map qL.enc) (ys:=(xs.map qL.enc).drop (k+1)) ?_ ho (by simp;omega) (by simp;omega) ?_
 ·have:=Els.part (h:=h) (w:=2) (id:=id) (off:=k+1) (n:=xs.length-(k+1)) (c:=false) ho (by simp;omega);rwa[tOl (by simp)]at this
 simp only[go_sem];have e1:k+(List.drop (k+1) (xs.map qL.enc)).length=xs.length-1:=by simp;omega
 simp only[e1];generalize hrow:(((xs.map qL.enc).drop 0).take k)++(List.drop (k+1) (xs.map qL.enc)++List.drop (0+k+(List.drop (k+1) (xs.map qL.enc)).length) (xs.map qL.enc))=row;have hl:row.length=xs.length:=by rw[<-hrow];simp;omega
 have htk:row.take (xs.length-1)=(rdL xs k).map qL.enc:=by
  rw[<-hrow,<-lAa,List.take_append_of_le_length (by simp;omega),tOl (by simp;omega)];simp[rdL]
 have hA:(h.set id .dead).length=h.length:=by simp
 have hat:(h.set id .dead++[qA.row 2 row true])[h.length]?=some (qA.row 2 row true):=by
  rw[gAr (by simp)];simp
 refine qqP hat (by omega) (b:=xs.length) (a:=xs.length-1) (by simp only[bnd,go_sem,hl];simp) (by simp only[bnd,go_sem];simp) ?_;simp only[go_sem];refine qjZ hat (by omega) (by omega) ?_;simp only[go_sem];refine⟨_,by rw[qC6 hA,gAr (by omega),hA,nSs,List.getElem?_cons_zero], ?_⟩;rw[qC6 hA,qC6 hA];have e2:∀r:List AV,List.take (xs.length-1) (List.take (0+(xs.length-1)) row++r)=(rdL xs k).map qL.enc:=by
  intro r;rw[nZa,List.take_append_of_le_length (by simp;omega),List.take_take,Nat.min_self,htk]
 rw[e2];exact hK
section
variable {w mid cid k a b:Nat} {post cs:List AV} {ow:Nat->Nat} {h h':List qA} {m:qG} {rv dv:AV} {c x y:qF} {P:List qE} {O:Nat->Bool} {bk:List qD} {p:qL}
abbrev bkP(bk:List qD):List AV:=[.lst 1 (bk.map qD.enc) false]
theorem Qt:AV.trees (bkP bk)=true:=by simp[AV.trees,AV.tree,qb qD.isSh.tree]
theorem MH.lendX{g e:Nat}{E:Ev}{ck l:List qC}{fs:List Fr1}{s l':qp}{Q:qi->VSt->Prop}{bs:List AV}{v:AV}(M:MH w mid post ow h m)(hp:AV.trees post=true)(hw:0<w)(hb:AV.trees bs=true)(hf:Pure E.Γ g (.ept (xM m post) 0::bs) v)(hl:v.leaf=true)
  (hr:R E (.ops l::fs) ⟨(e,v)::s,l',h⟩ Q):wJ E (some (g,.ptr mid 0 0::bs)) ck (some e) l fs ⟨s,l',h⟩ Q:=
 J4 (Cvs.cons (M.cvp hp hw) (Cvs.tr hb)) hf hl hr
structure Beg(w mid:Nat)(post:List AV)(ow:Nat->Nat)(h:List qA)(lv:AV)(q:qG×List qn)(m m':qG):Prop where
 mh:MH w mid post ow h q.1
 l:LsW (λj=>ow j=0) 4 h lv (q.2.map qn.enc)
 mm:MM q.1 (lws q.2++[]) O0
 e:JO q.1 q.2=m'
 n:q.2.length<=1000
 c:q.1.C.length=m.C.length
theorem qKJ(M:MH w mid post ow h m)(hc:m.C[k]?=some c):SCall Gm 1288 [.ptr mid 0 0,iI (k:Nat)] h (λ_ h'=>∃ow',MH w mid post ow' h' (qS m k)/\Fo ow h ow' h'/\(∀j,j<h.length->ow j=k+3->ow' j=0/\h'[j]?=h[j]?)/\∀j,j<h.length->2<=ow j->ow j≠k+3->ow' j=ow j/\h'[j]?=h[j]?):=by
 obtain⟨cid,cs,rv,M⟩:=M;have hk:=zP hc;refine sI W2 ?_;simp only[W2,qM,go_sem,M.o,qW hk,nZa];refine M.sto5 hc rfl ⟨_,rfl⟩ ?_;have M1:=M.setC (k:=k) (c':=zS m.F) (λ_=>False) hc (λ_ t=>t.elim) CV.free;have f1:=M.setC_fo (k:=k) (T:=λ_=>False) (v':=.agg [iI 0,iI 0,iI m.F,.nils,.nils]) (λ_ t=>t.elim);simp only[go_sem];refine M1.stoF _ ?_;have M2:=M1.setF (k:Int);simp only[go_sem];refine⟨_,⟨cid,_,rv,by rw[qS,iTn];exact M2⟩,f1.trans M1.setF_fo,λj hj q=>⟨by rw[JQ (λt=>t),iP q], ?_⟩,λj hj q q2=>⟨by rw[JQ (λt=>t),iN q2], ?_⟩⟩
 ·rw[sne λe=>by subst e;rw[M.m1]at q;omega,sne λe=>by subst e;rw[M.c1]at q;omega]
 ·rw[sne λe=>by subst e;rw[M.m1]at q;omega,sne λe=>by subst e;rw[M.c1]at q;omega]
theorem s975(M:MH w mid (bkP bk) ow h m)(hw:0<w)(mm:MM m [] O0)(hk:k<m.R.length)(hb:z5 bk=true)(hcl:m.C.length<=1500):
  SCall Gm 975 [.ptr mid 0 0,iI (k:Nat)] h (λv h'=>∃ow' lv q,v=.tup [iI (doM bk m k).2.1,lv,iI (doM bk m k).2.2]/\Beg w mid (bkP bk) ow' h' lv q m (doM bk m k).1/\Fo ow h ow' h'):=by
 obtain⟨p,a,b,x,y,r⟩:=Wp mm hk;have hrl:=Wr mm;refine sI F975 ?_;have MM1:=M;obtain⟨cid,cs,rv,M⟩:=M;obtain⟨rid,i1,rfl,i3⟩:=M.r.full (by rw[lMp];omega);rw[lMp]at M;simp only[F975,qM,go_sem,M.o,qW hk,nZa,i3,gMp,r.at',oMs];refine lsA ?_;simp only[go_sem];refine MM1.lendX Qt hw (by simp[AV.trees,qL.tr]) (qEZ r hb) rfl ?_;simp only[go_sem];have er:=r.do (bk:=bk);rw[r.need];have mm0:MM m (lws []++[]) O0:=mm;by_cases h0:(zA bk x y).2=0
 case neg=>
  rw[iP h0]at er;simp only[h0,decide_false,go_sem];rw[er];exact⟨ow,.nils,(m,[]),rfl,⟨MM1,.inl ⟨rfl,rfl⟩,mm0,rfl,by simp,rfl⟩,Fo.refl⟩
 have h8:qe x y≠8:=λe=>by have:=qCC (bk:=bk) e;omega
 have w1:=wT r.ro.ox;have w2:=wT r.ro.oy;rw[agp]at w1 w2;simp only[h0,go_sem];refine MM1.lend Qt hw (by simp[AV.trees,qL.tr]) (qE1 r.ro (by omega) (by omega) h8) rfl ?_;simp only[go_sem];refine MM1.lend Qt hw rfl (qE2 (by omega)) rfl ?_;simp only[go_sem];refine qI QT ?_;simp only[go_sem];have hnF:nF m.C<=m.C.length:=List.countP_le_length;have ew:IntKind.i64.wrap (IntKind.i64.wrap ((nF m.C:Nat)+2)-(if decide (qe x y=7)=true then 1 else 0:Int))=(nF m.C:Int)+z7 (qe x y):=by
  have e2:IntKind.i64.wrap ((nF m.C:Nat)+2:Int)=(nF m.C:Nat)+2:=wsA;rw[e2];unfold z7;by_cases q:qe x y=7
  ·simp only[q,decide_true,if_true];rw[wsA];omega
  ·simp only[q,decide_false,bFt,if_false];rw[wsA];omega
 rw[iN (by omega)]at er;simp only[ew];by_cases hn:(nF m.C:Int)+z7 (qe x y)<(zA bk x y).1
 ·rw[iP hn]at er;simp only[hn,go_sem];rw[er];exact⟨ow,.nils,(m,[]),rfl,⟨MM1,.inl ⟨rfl,rfl⟩,mm0,rfl,by simp,rfl⟩,Fo.refl⟩
 rw[iN hn]at er;simp only[hn,decide_false,go_sem,M.o];have lm:=qZ M.o;have hrd:(unR m k).R=rdL m.R k:=rfl;have ew2:IntKind.i64.wrap ((k:Int)+1)=(k:Int)+1:=wsA;rw[ew2];refine qj (qp6 (xs:=m.R) (id:=rid) i3 (by omega) hk ?_);simp only[go_sem];have hlr:(rdL m.R k).length=m.R.length-1:=by simp[rdL];omega
 have U1:Up (λj=>ow j=2) h (h.set rid .dead++[qA.row 2 ((rdL m.R k).map qL.enc) true]):=by
  refine(Up.set (id:=rid)).trans (Up.app _ (S:=λ_=>False)) (λ_ _ q=>q.elim) |>.w λj _ q=>by rw[q];exact i1
 have hid:(h.set rid .dead++[qA.row 2 ((rdL m.R k).map qL.enc) true])[h.length]?=some (.row 2 ((unR m k).R.map qL.enc) true):=by
  rw[gAr (by simp)];simp[hrd]
 have hM1:=U1.at M.o (λq=>by rw[M.m1]at q;cases q);obtain⟨M2,F2⟩:=M.redx (rx:=(unR m k).R) (rv':=sQ 2 h.length (m.R.length-1)) U1 (nLr _) hid (by rw[hrd,hlr]);generalize h.set rid .dead++[qA.row 2 ((rdL m.R k).map qL.enc) true]=hA at*;refine X8 (rv':=sQ 2 h.length (m.R.length-1)) hM1 (unR m k).R rfl ?_;have pl:=r.pl hb h0 hn;generalize owR ow h.length=ow2 at*;generalize hA.set mid _=hB at*;obtain⟨ra,rb⟩:=r.ro.at;have hka:=zP ra;have hkb:=zP rb;have ra':(unR m k).C[a]?=some x:=ra;have rb':(unR m k).C[b]?=some y:=rb;obtain⟨dvx,wvx,v1,v2,v3⟩:=M2.words ra';obtain⟨dvy,wvy,y1,y2,y3⟩:=M2.words rb';have M3:MH w mid (bkP bk) ow2 hB (unR m k):=MH.intro M2;have M2o:=M2.o;have M2c:=M2.c;clear M2 hM1 U1 hid;simp only[go_sem,M2o,qW hka,qW hkb,nZa,M2c,v1,y1];refine lsA ?_;simp only[go_sem];refine lsA ?_;simp only[go_sem];refine qj (SCall.mono (qKJ M3 ra') ?_);rintro _ h3 ⟨ow3,M4,F3,g3,g4⟩;have lx:∀{w:Nat}{v:AV}{el:List AV},LsW (λj=>ow2 j=a+3) w hB v el->LsW (λj=>ow3 j=0) w h3 v el:=λq=>q.mono λj hj z=>g3 j hj z;have vx2:=lx v2;have vx3:=lx v3;have F23:=F2.trans F3;simp only[go_sem];have hcls:=pl.o.cls;obtain⟨p1,p2⟩:=qCP pl;have pll:=qJK pl;have fin:∀ow' h' lv,MH w mid (bkP bk) ow' h' (zW bk (unR m k) a b x y).1->LsW (λj=>ow' j=0) 4 h' lv ((zW bk (unR m k) a b x y).2.map qn.enc)->Beg w mid (bkP bk) ow' h' lv (zW bk (unR m k) a b x y) m (doM bk m k).1:=λow' h' lv q1 q2=>⟨q1,q2,p1,by rw[er],pll,p2⟩;rw[er]at fin|-;generalize hC:qe x y=C at*;by_cases c7:C=7
 ·subst c7;obtain⟨v0,v1',ot,n9,hf⟩:=pl.need7 hC;obtain⟨ks,vs,X⟩:=pl.exp hC;have tz:=ZF ot;have hl:=Jw pl.o.ox;have p1':=pl.h1;rw[(pl.o.f7 hC).1,lNa]at p1';have ep:zW bk (unR m k) a b x y=(XQ (qt bk x.V) x.L (qS (unR m k) a) b,[]):=by unfold zW;rw[iP hC]
  rw[ep]at fin|-;simp only[go_sem];refine qj (SCall.mono (qp7 M4 ⟨v0,v1'⟩ rfl (by omega) ot hl n9 p1' (by rw[pl.f1];exact hf) X (by have:(qS (unR m k) a).R=rdL m.R k:=rfl;rw[this,hlr];omega)) ?_);rintro _ h5 ⟨ow5,M5,F5⟩;simp only[go_sem];exact⟨ow5,.nils,_,rfl,fin ow5 h5 .nils M5 (.inl ⟨rfl,rfl⟩),F23.trans F5⟩
 simp only[c7,decide_false,go_sem];have rb4:(qS (unR m k) a).C[b]?=some y:=pl.hy;refine qj (SCall.mono (qKJ M4 rb4) ?_);rintro _ h4 ⟨ow4,M5,F4,g5,-⟩;have hnab:b+3≠a+3:=by have:=pl.ne;omega
 have ly:∀{w:Nat}{v:AV}{el:List AV},LsW (λj=>ow2 j=b+3) w hB v el->LsW (λj=>ow4 j=0) w h4 v el:=λq=>q.mono λj hj z=>by
  obtain⟨z1,z2⟩:=g4 j hj (by omega) (by omega);have hj3:j<h3.length:=nLl hj F3.l;obtain⟨z3,z4⟩:=g5 j hj3 (by omega);exact⟨z3,z4.trans z2⟩
 have wy2:=ly y2;have wy3:=ly y3;have wx2:=vx2.fo0 F4;have wx3:=vx3.fo0 F4;have WA:=F23.trans F4;clear lx ly g3 g4 g5 v1 v2 v3 y1 y2 y3 vx2 vx3;simp only[go_sem];have hxd:=Zf pl.o.ox;have hyd:=Zf pl.o.oy;have hyd':y.D.length<=1000:=by have:y.D.length<=4:=hyd;omega
 obtain⟨wl1,wl2⟩:=pl.o.wl;by_cases c12:C=1\/C=2
 ·have ep:zW bk (unR m k) a b x y=(qS (qS (unR m k) a) b,[⟨x.W.getD 0 w0,y.W.getD 0 w0⟩,⟨x.W.getD 1 w0,y.W.getD 1 w0⟩]):=by
   unfold zW;rw[iN (by rw[hC];exact c7),iP (by rw[hC];exact c12)]
  rw[ep]at fin|-;obtain⟨w1,w2⟩:=pl.o.f12 (by rw[hC];exact c12);have ex:=Qp w1;have ey:=Qp w2;generalize x.W.getD 0 w0=x0 at*;generalize x.W.getD 1 w0=x1 at*;generalize y.W.getD 0 w0=y0 at*;generalize y.W.getD 1 w0=y1 at*;rw[ex,lMc,lMc,List.map_nil]at wx3;rw[ey,lMc,lMc,List.map_nil]at wy3;obtain⟨ix,i1,rfl,i3⟩:=wx3.two;obtain⟨iy,j1,rfl,j3⟩:=wy3.two;have tl:∀Cd:Bool,Cd=decide (C=1)->(Cd=true\/(Cd=false/\C=2)):=λCd e=>by
   rcases c12 with c | c
   ·exact .inl (by rw[e];simpa using c)
   ·exact .inr ⟨by rw[e];simp;omega,c⟩
  rcases tl _ rfl with e | ⟨e,rfl⟩
  all_goals
   simp only[e,go_sem,Q1,WS,i3,j3];exact⟨ow4,_,_,rfl,fin ow4 _ _ (M5.app _) (.inr ⟨h4.length,M5.b,rfl,ends⟩),WA.trans (Fo.app _)⟩
 have c1:C≠1:=λe=>c12 (.inl e);have c2:C≠2:=λe=>c12 (.inr e);simp only[c1,c2,decide_false,go_sem];by_cases c3:C=3
 ·subst c3;have ep:zW bk (unR m k) a b x y=wL (qS (qS (unR m k) a) b) x y:=by
   unfold zW;rw[iN (by omega),iN (by omega),iP hC]
  rw[ep]at fin|-;obtain⟨w1,w2⟩:=pl.o.f3 hC;simp only[go_sem];refine qj (SCall.mono (qp8 M5 wx2 wx3 wy2 wy3 pl.h2 pl.o.ky (.inl ⟨pl.o.ky,pl.o.oy⟩) w1 (by omega) hyd' w2 (by rw[pl.f2];exact pl.need3 hC)) ?_);rintro lv h5 ⟨ow5,M6,F5,L5⟩;simp only[go_sem];exact⟨ow5,lv,_,rfl,fin ow5 h5 lv M6 L5,WA.trans F5⟩
 simp only[c3,decide_false,go_sem];by_cases c4:C=4
 ·subst c4;have ep:zW bk (unR m k) a b x y=zq (qS (qS (unR m k) a) b) y y.W.length:=by
   unfold zW;rw[iN (by omega),iN (by omega),iN (by omega),iP hC]
  rw[ep]at fin|-;have h2:=pl.h2;rw[pl.o.f4 hC,lNa]at h2;simp only[go_sem];refine qj (SCall.mono (qp9 M5 wy3 h2 (by rw[pl.f2];exact pl.need4 hC) (by omega)) ?_);rintro lv h5 ⟨ow5,M6,F5,L5⟩;simp only[go_sem];exact⟨ow5,lv,_,rfl,fin ow5 h5 lv M6 L5,WA.trans F5⟩
 simp only[c4,decide_false,go_sem];by_cases c5:C=5
 ·subst c5;have ep:zW bk (unR m k) a b x y=ju (qS (qS (unR m k) a) b) x y:=by
   unfold zW;rw[iN (by omega),iN (by omega),iN (by omega),iN (by omega),iP hC]
  rw[ep]at fin|-;obtain⟨w1,w2,w3⟩:=pl.o.f5 hC;obtain⟨kf,df,f1,f2,-⟩:=wF pl.h2 (by rw[pl.f2];omega);simp only[go_sem];refine qj (SCall.mono (qqA M5 wy2 wy3 f1 ⟨df,f2⟩ w2) ?_);rintro lv h5 ⟨ow5,M6,F5,L5⟩;simp only[go_sem];exact⟨ow5,lv,_,rfl,fin ow5 h5 lv M6 L5,WA.trans F5⟩
 simp only[c5,decide_false,go_sem];obtain rfl:C=6:=by omega
 have ep:zW bk (unR m k) a b x y=chM (qS (qS (unR m k) a) b) x y:=by
  unfold zW;rw[iN (by omega),iN (by omega),iN (by omega),iN (by omega),iN (by omega),iP hC]
 rw[ep]at fin|-;obtain⟨w1,w2,w3,w4⟩:=pl.o.f6 hC;simp only[go_sem];refine qj (SCall.mono (qqB M5 wx2 wx3 wy2 wy3 pl.h2 (by rw[pl.f2];exact pl.need6 hC) w1 w2 w3 (by omega) w4 (by have:(qS (qS (unR m k) a) b).R=rdL m.R k:=rfl;rw[this,hlr];omega)) ?_);rintro lv h5 ⟨ow5,M6,F5,L5⟩;simp only[go_sem];exact⟨ow5,lv,_,rfl,fin ow5 h5 lv M6 L5,WA.trans F5⟩
end
section
variable {w mid cid k a b:Nat} {post cs:List AV} {ow:Nat->Nat} {h h':List qA} {m:qG} {rv dv:AV} {c x y:qF} {P:List qE} {O:Nat->Bool} {bk:List qD} {p:qL}
theorem s602(M:MH w mid (bkP bk) ow h m)(hw:0<w)(mm:MM m [] O0)(hk:k<m.R.length)(hb:z5 bk=true)(hcl:m.C.length<=1500):
  SCall Gm 602 [.ptr mid 0 0,iI (k:Nat)] h (λv h'=>v=.tup [iI (doM bk m k).2.1,iI (doM bk m k).2.2]/\∃ow',MH w mid (bkP bk) ow' h' (doM bk m k).1/\Fo ow h ow' h'):=by
 refine sI kL ?_;simp only[kL,qM,go_sem];refine qj (SCall.mono (s975 M hw mm hk hb hcl) ?_);rintro _ h4 ⟨ow4,lv,q,rfl,⟨M4,L4,p1,er,hql,p2⟩,F4⟩;have hv4:=L4.len;rw[lMp]at hv4;simp only[go_sem,hv4];refine Sem.loop (λa':Nat×(Nat->Nat)×List qA=>a'.1<=q.2.length/\MH w mid (bkP bk) a'.2.1 a'.2.2 (JO q.1 (q.2.take a'.1))/\Fo ow4 h4 a'.2.1 a'.2.2)
  (λa'=>(⟨[(0,.ptr mid 0 0),(6,iI (doM bk m k).2.1),(8,iI (doM bk m k).2.2),(18,lv),(19,iI (q.2.length:Nat)),(20,iI (a'.1:Nat))],[],a'.2.2⟩:VSt)) (λa'=>q.2.length-a'.1)
  (0,ow4,h4) (by kernel_rfl) ⟨nZl _,M4,Fo.refl⟩ csA ?_
 rintro⟨i,ow5,h5⟩ ⟨hi,M5,F5⟩;simp only at hi M5 F5;simp only[go_sem];by_cases hlt:i<q.2.length
 case neg=>
  have e:decide ((i:Int)<(q.2.length:Nat))=false:=dEf (by omega);simp only[e,go_sem];rw[tOl (by omega),er]at M5;exact⟨trivial,ow5,M5,F4.trans F5⟩
 have e:decide ((i:Int)<(q.2.length:Nat))=true:=dEt (by omega);have hli:=gEg hlt;generalize hlk:q.2[i]=lk at hli;obtain⟨id,j1,rfl,j3⟩:=(L4.fo0 F5).full (by rw[lMp];omega);simp only[e,go_sem,qW hlt,nZa,j3,gMp,hli,oMs];refine lsA ?_;obtain⟨m1,m2⟩:=qH9 (i:=i) p1;have ed:q.2.drop i=lk::q.2.drop (i+1):=by rw[lDc hlt,hlk]
 rw[ed,lAn]at m1;have hr5:=Wr m1;simp only[go_sem];refine qj (SCall.mono (s976 M5 m1 (by omega)) ?_);rintro _ h6 ⟨ow6,M6,F6⟩;simp only[go_sem,wuA (n:=i)];have et2:q.2.take (i+1)=q.2.take i++[lk]:=by rw[tA1,hli];rfl
 rw[<-qH8,<-et2]at M6;exact qd (i+1,ow6,h6) ⟨by simp only;omega,M6,F5.trans F6⟩ (by simp only;omega) csA
end
section
variable {w mid cid k:Nat} {post cs:List AV} {ow:Nat->Nat} {h h' h1:List qA} {m:qG} {rv dv wv:AV} {c:qF}
theorem qDM:∀(xs:List qE)(n:Nat),qT (xs.map qE.enc) n=(xs.map qE.enc,[])
 |[],_=>rfl
 | x::xs,n=>by
  simp[qT,qE.enc,lay,qDM xs]
theorem qCN:∀(xs:List qL)(n:Nat),qT (xs.map qL.enc) n=(xs.map qL.enc,[])
 |[],_=>rfl
 | x::xs,n=>by
  simp[qT,qL.enc,lay,qCN xs]
theorem qrB(x:qE):x.enc.pl=true:=by simp[qE.enc,AV.pl,AV.pls]
theorem qoZ(x:qL):x.enc.pl=true:=by simp[qL.enc,AV.pl,AV.pls]
theorem qnU(xs:List qL)(hz:xs.length<=4194304):Fresh Gm 1070 [.lst 2 (xs.map qL.enc) false] (.lst 2 (xs.map qL.enc) false):=
 Yg (w:=2) (gk _ qDT) (qCN xs) (jT qoZ xs) (qb qL.isSh.tree xs) (by simpa using hz)
theorem qnW(xs:List qE)(hz:xs.length<=4194304):Fresh Gm 1181 [.lst 2 (xs.map qE.enc) false] (.lst 2 (xs.map qE.enc) false):=
 Yg (w:=2) (gk _ qDY) (qDM xs) (jT qrB xs) (qb qE.isSh.tree xs) (by simpa using hz)
theorem qmU{xs:List qE}{n:Nat}:lay (.lst 2 (xs.map qE.enc) false) n=(sQ 2 n xs.length,[.row 2 (xs.map qE.enc) true]):=by simp[lay,qDM]
theorem qmT{xs:List qL}{n:Nat}:lay (.lst 2 (xs.map qL.enc) false) n=(sQ 2 n xs.length,[.row 2 (xs.map qL.enc) true]):=by simp[lay,qCN]
theorem s868{h0:List qA}(hz:m.sz<=1000000)(h1n:0<m.C.length):SCall Gm 868 [m.enc] h0 (λv h'=>∃cid cs rv ow,v=mE m cid rv []/\MC ow h' m cid cs rv/\Up (λ_=>False) h0 h'/\∀j,j<h0.length->ow j=0):=by
 have hsz:m.C.length+zD qF.sz m.C+m.R.length<=1000000:=by unfold qG.sz at hz;exact hz
 refine sI F868 ?_;simp only[F868,qM,go_sem];refine qa rfl ?_;simp only[go_sem];refine J3 (qnU m.R (by omega)) ?_;rw[qmT];simp only[go_sem];refine qII (n:=0) (by omega) (by omega) ?_;simp only[go_sem];refine lsA ?_;simp only[go_sem];refine Sem.loop (λa:Nat×(Nat->Nat)×List AV×AV×List qA=>a.1<=m.C.length/\Up (λ_=>False) h0 a.2.2.2.2/\(∀j,j<h0.length->a.2.1 j=0)/\LsW (λj=>a.2.1 j=2) 2 a.2.2.2.2 (sQ 2 h0.length m.R.length) (m.R.map qL.enc)/\LsW (λj=>a.2.1 j=1) 5 a.2.2.2.2 a.2.2.2.1 a.2.2.1/\a.2.2.1.length=a.1/\(∀(k:Nat)(c:qF),k<a.1->m.C[k]?=some c->∃v,a.2.2.1[k]?=some v/\CV (λj=>a.2.1 j=k+3) a.2.2.2.2 v c)/\(∀j,a.2.1 j≠0->j<a.2.2.2.2.length))
  (λa=>(⟨[(19,.lst 5 (m.C.map qF.enc) false),(20,iI (m.C.length:Nat)),(21,iI (a.1:Nat))],[(3,.agg [a.2.2.2.1,iI m.F,iI m.O.T,iI m.O.I,sQ 2 h0.length m.R.length]),(2,.agg [.nils,iI 0,iI 0,iI 0,.nils])],a.2.2.2.2⟩:VSt)) (λa=>m.C.length-a.1)
  (0,(λj=>if j=h0.length then 2 else if j=h0.length+1 then 1 else 0),[],.slice 5 (h0++[qA.row 2 (List.map qL.enc m.R) true]).length 0 0 false,_) (by kernel_rfl) ⟨nZl _,(Up.app _).trans (Up.app _) (λ_ _ q=>q),λj hj=>by simp only;rw[iN (by omega),iN (by omega)],.inr ⟨h0.length,iP rfl,by rw[lMp],jC ends⟩,.inr ⟨(h0++[qA.row 2 (List.map qL.enc m.R) true]).length,by simp,rfl,ends⟩,rfl,λk c hk=>by omega,λj hj=>by
   by_cases e:j=h0.length
   ·rw[e];simp
   ·by_cases e2:j=h0.length+1
    ·rw[e2];simp
    ·simp only[iN e,iN e2]at hj;exact absurd rfl hj⟩ csA ?_
 rintro⟨i,ow,cs,v,h⟩ ⟨hi,u0,o0,rr,cc,cl,ce,ob⟩;simp only at hi u0 o0 rr cc cl ce ob;simp only[go_sem];by_cases hlt:i<m.C.length
 case neg=>
  have e:decide ((i:Int)<(m.C.length:Nat))=false:=dEf (by omega);obtain rfl:i=m.C.length:=by omega
  simp only[e,go_sem];refine lsA ?_;simp only[go_sem];obtain⟨cid,c1,rfl,c3⟩:∃id,ow id=1/\v=sQ 5 id m.C.length/\h[id]?=some (.row 5 cs true):=by
   rcases cc with⟨_,q⟩ | ⟨j,j1,j2,j3⟩
   ·rw[q]at cl;simp at cl;omega
   ·exact⟨j,j1,by rw[j2,cl],j3⟩
  exact⟨cid,cs,_,ow,rfl,⟨c3,cl,λk c hc=>ce k c (zP hc) hc,rr,c1,ob⟩,u0,o0⟩
 have e:decide ((i:Int)<(m.C.length:Nat))=true:=dEt (by omega);have hc:=gEg hlt;generalize m.C[i]=c at hc;have hcz:c.sz<=1000000:=by have:=jr (f:=qF.sz) (lMo hc);omega
 unfold qF.sz at hcz;simp only[e,gMp,hc,oMs,go_sem];refine lsA ?_;simp only[go_sem];refine J3 (VJ c.D (by omega)) ?_;rw[Zk];simp only[go_sem];refine J3 (qnW c.W (by omega)) ?_;rw[qmU];simp only[go_sem];refine VB (c':=cE c (sQ 1 h.length c.D.length) (.lst 2 (c.W.map qE.enc) false)) rfl (Qk rfl rfl) ?_;simp only[go_sem];refine VB (c':=cE c (sQ 1 h.length c.D.length) (.slice 2 (h++[qA.row 1 (c.D.map qQ) true]).length 0 c.W.length false)) rfl (Qk rfl rfl) ?_;simp only[go_sem];have u1:Up (λ_=>False) h (h++[qA.row 1 (c.D.map qQ) true]++[qA.row 2 (c.W.map qE.enc) true]):=(Up.app _).trans (Up.app _) λ_ _ q=>q;have hh1:(h++[qA.row 1 (c.D.map qQ) true]++[qA.row 2 (c.W.map qE.enc) true]).length=h.length+2:=by simp
 have d1:LsW (λj=>h.length<=j) 1 (h++[qA.row 1 (c.D.map qQ) true]++[qA.row 2 (c.W.map qE.enc) true]) (sQ 1 h.length c.D.length) (c.D.map qQ):=.inr ⟨h.length,nLr _,by rw[lMp],jC ends⟩;have w1:LsW (λj=>h.length<=j) 2 (h++[qA.row 1 (c.D.map qQ) true]++[qA.row 2 (c.W.map qE.enc) true]) (.slice 2 (h++[qA.row 1 (c.D.map qQ) true]).length 0 c.W.length false) (c.W.map qE.enc):=.inr ⟨_,by simp,by rw[lMp],ends⟩
 try delta sQ at*
 generalize AV.slice 1 h.length 0 c.D.length false=dv at*;generalize AV.slice 2 (h++[qA.row 1 (c.D.map qQ) true]).length 0 c.W.length false=wv at*;generalize h++[qA.row 1 (c.D.map qQ) true]++[qA.row 2 (c.W.map qE.enc) true]=h1 at*;simp only[qlI,go_sem];have cc1:LsW (λj=>ow j=1) 5 h1 v cs:=cc.mono λj hj q=>⟨q,u1.eq hj id⟩;refine wc (cc1.app _) ends (by omega) λh3 u3 w3 l3=>?_;simp only[go_sem,wuA (n:=i)];have hl1:=u1.1;have hl0:=u0.1;have l3':h3.length=h1.length+2:=by rw[l3];simp
 have old:∀j,j<h.length->ow j≠1->h3[j]?=h[j]?:=λj hj n=>by
  rw[u3.eq (by simp;omega) (λq=>n q.1),gAl (by omega)];exact u1.eq hj id
 have onew:∀j,j<h.length->ow j≠1->owN ow h.length h1.length (h1++[qA.row 5 [cE c dv wv] true]).length i j=ow j:=λj hj n=>by
  unfold owN;rw[iN (by simp;omega),iN (by omega),iN n]
 refine qd (i+1,owN ow h.length h1.length (h1++[qA.row 5 [cE c dv wv] true]).length i,cs++[cE c dv wv],.slice 5 (h1++[qA.row 5 [cE c dv wv] true]).length 0 (cs.length+1) false,h3) ⟨by simp only;omega, ?_,λj hj=>?_, ?_,.inr ⟨(h1++[qA.row 5 [cE c dv wv] true]).length,iP rfl,by simp,w3⟩,by simp[cl],λk d hk hd=>?_,λj hj=>?_⟩ (by simp only;omega) csA
 ·exact((u0.trans u1 (λ_ _ q=>q)).trans (Up.app _ (S:=λ_=>False)) (λ_ _ q=>q)).trans u3 λj hj q=>by have:=o0 j hj;omega
 ·simp only;have:=o0 j hj;rw[onew j (by omega) (by omega)];exact this
 ·refine rr.mono λj hj q=>⟨?_,old j hj (by omega)⟩;simp only;rw[onew j hj (by omega)];exact q
 ·by_cases e:k<i
  ·obtain⟨u,x1,x2⟩:=ce k d e hd;refine⟨u,by simp only;rw[gAl (by omega)];exact x1,x2.mono λj hj q=>⟨?_,old j hj (by omega)⟩⟩;simp only;rw[onew j hj (by omega)];exact q
  ·obtain rfl:k=i:=by simp only at hk;omega
   rw[hc]at hd;cases hd;refine⟨cE c dv wv,by simp only;rw[gAr (by omega),cl,nSs];rfl,CV.mono (P:=λj=>h.length<=j) (h:=h1) ⟨dv,wv,rfl,d1,w1⟩ λj hj q=>⟨?_, ?_⟩⟩
   ·simp only[owN];rw[iN (by simp;omega),iP ⟨q,hj⟩]
   ·rw[u3.eq (by simp;omega) (λz=>by have:=ob j (by omega);omega),gAl hj]
 ·simp only at hj|-;unfold owN at hj;by_cases e1:j=(h1++[qA.row 5 [cE c dv wv] true]).length
  ·rw[e1,l3];simp
  ·rw[iN e1]at hj;by_cases e2:h.length<=j/\j<h1.length
   ·omega
   ·rw[iN e2]at hj;split at hj
    ·exact absurd rfl hj
    ·have:=ob j hj;omega
end
section
variable {w mid cid rid ctid k a b:Nat} {post cs:List AV} {ow:Nat->Nat} {h h':List qA} {m:qG} {rv dv:AV} {c x y:qF} {P:List qE} {O:Nat->Bool} {bk:List qD} {p:qL}
structure RH(w mid rid ctid:Nat)(bk:List qD)(ow:Nat->Nat)(h:List qA)(tv:AV)(r:Run):Prop where
 mh:MH w mid (bkP bk) ow h r.m
 e:h[rid]?=some (.row 5 [.agg [.ptr mid 0 0,sQ 1 ctid 7,tv,iI r.pk,iI r.ls]] true)
 t:LsW (λj=>ow j=0/\rid<j) 1 h tv (r.tr.map qQ)
 o:ow rid=0
 c:h[ctid]?=some (.row 1 ((ja r.tr).map qQ) true)
 co:ow ctid=0
theorem qB9(mm:MM m [] O0):∀c∈m.C,zi c:=λc hc=>by
 obtain⟨k,hk⟩:=List.getElem?_of_mem hc;exact mm.form k c hk rfl
theorem s869{bu:Nat}(M:MH w mid (bkP bk) ow h m)(hw:0<w)(mm:MM m [] O0)(hb:z5 bk=true)(hcl:m.C.length<=1500)(hbu:bu<=4000){pk ls:Int}(hr:h[rid]?=some (.row 5 [.agg [.ptr mid 0 0,sQ 1 ctid 7,.nils,iI pk,iI ls]] true))(hro:ow rid=0)
  (hc:h[ctid]?=some (.row 1 ((ja []).map qQ) true)) (hco:ow ctid=0) (hne:ctid<rid):
  SCall Gm 869 [.ptr rid 0 0,iI (bu:Nat)] h (λv h'=>v=iI (goM bk bu ⟨m,[],zI m,zI m⟩).2/\((goM bk bu ⟨m,[],zI m,zI m⟩).2=0->∃ow' tv,RH w mid rid ctid bk ow' h' tv (goM bk bu ⟨m,[],zI m,zI m⟩).1)):=by
 refine sI F869 ?_;have hcF:=qB9 mm;simp only[F869,qM,go_sem,hr];refine M.lend Qt hw rfl (YW (by omega) hcF) rfl ?_;simp only[go_sem];refine M.lend Qt hw rfl (YW (by omega) hcF) rfl ?_;simp only[go_sem];refine ZR hr rfl rfl λh1 U1 l1 g1=>?_;simp only[List.set_cons_succ,lSz]at g1;simp only[go_sem];refine ZR g1 rfl rfl λh2 U2 l2 g2=>?_;simp only[List.set_cons_succ,lSz]at g2;simp only[go_sem];have u0:=Z2 (m:=m);have hu0:zI m=(m.C.length:Int)-(nF m.C:Nat):=rfl;rw[<-hu0]at g2;have U12:Up (λj=>j=rid) h h2:=U1.trans U2 λ_ _ q=>q;have M2:=M.upf U12 λj q=>by rw[q];exact hro
 have hc2:=U12.at hc (by omega);have R0:RH w mid rid ctid bk ow h2 .nils ⟨m,[],zI m,zI m⟩:=⟨M2,g2,.inl ⟨rfl,rfl⟩,hro,hc2,hco⟩;generalize hG:goM bk bu ⟨m,[],zI m,zI m⟩=G;clear M M2 hr hc U1 U2 U12 g1 g2 hc2;refine Sem.loop (λa:Run×AV×(Nat->Nat)×List qA=>goM bk (bu-a.1.tr.length) a.1=G/\a.1.tr.length<=bu/\RJ m.C.length a.1/\RH w mid rid ctid bk a.2.2.1 a.2.2.2 a.2.1 a.1)
  (λa=>(⟨[(0,.ptr rid 0 0),(1,iI (bu:Nat))],[],a.2.2.2⟩:VSt)) (λa=>bu-a.1.tr.length)
  (⟨m,[],zI m,zI m⟩,.nils,ow,h2) (by kernel_rfl) ⟨hG,nZl _,⟨mm,rfl,u0,u0⟩,R0⟩ csA ?_
 rintro⟨r,tv,ow1,h1⟩ ⟨eG,hrl,J,⟨M1,e1,e2,e3,e4,e5⟩⟩;simp only at eG hrl J M1 e1 e2 e3 e4 e5;have mm1:=J.mm;have hrx:=Wr mm1;have hcl1:=J.cl;have htl:=e2.len;rw[lMp]at htl;have hcF1:=qB9 mm1;obtain⟨cid,cs,rv,MO1⟩:=id M1;have hrv:=MO1.r.len;rw[lMp]at hrv;simp only[go_sem,e1,MO1.o,hrv];by_cases hne':r.m.R=[]
 ·have e:decide (0<((r.m.R.length:Nat):Int))=false:=by rw[hne'];rfl
  rw[Yy hne']at eG;subst eG;simp only[e,go_sem];exact⟨trivial,λ_=>⟨ow1,tv,M1,e1,e2,e3,e4,e5⟩⟩
 have hlp:0<r.m.R.length:=List.length_pos_iff.2 hne';have e:decide (0<((r.m.R.length:Nat):Int))=true:=dEt (by omega);simp only[e,go_sem,e1,htl];by_cases hb2:r.tr.length=bu
 ·have e6:decide (((r.tr.length:Nat):Int)=(bu:Nat))=true:=dEt (by omega);rw[show bu-r.tr.length=0 by omega,qBR hne']at eG;subst eG;simp only[e6,go_sem];exact⟨trivial,λz=>by cases z⟩
 have e6:decide (((r.tr.length:Nat):Int)=(bu:Nat))=false:=dEf (by omega);have ew:IntKind.i64.wrap ((r.m.R.length:Nat)-1:Int)=((r.m.R.length-1:Nat):Int):=by rw[wsA];omega
 obtain⟨p,a,b,x,y,d⟩:=Wp mm1 (show r.m.R.length-1<r.m.R.length by omega);obtain⟨rxid,i1,rfl,i3⟩:=MO1.r.full (by rw[lMp];omega);rw[lMp]at MO1;have hk:r.m.R.length-1<r.m.R.length:=by omega
 simp only[e6,go_sem,e1,MO1.o,hrv,ew];refine M1.lend Qt hw rfl (YW (by omega) hcF1) rfl ?_;generalize hkk:r.m.R.length-1=k at*;simp only[go_sem,e1,MO1.o,qW hk,nZa,i3,gMp,d.at',oMs];refine M1.lendX Qt hw (by simp[AV.trees,qL.tr]) (qEZ d hb) rfl ?_;simp only[go_sem];have ebu:bu-r.tr.length=(bu-(r.tr.length+1))+1:=by omega
 rw[ebu]at eG;have hdn:(jt bk r.m k).2≠0->(doM bk r.m k).2.2=(jt bk r.m k).2:=λq=>by
  rw[d.need]at q|-;rw[d.do,iP q]
 by_cases hn0:(jt bk r.m k).2=0
 case neg=>
  have hd:=hdn hn0;rw[qBS hne' (by rw[hkk,hd];exact hn0),hkk,hd]at eG;subst eG;simp only[hn0,decide_false,go_sem];exact⟨trivial,λz=>z.elim⟩
 simp only[hn0,go_sem,e1];refine qj (SCall.mono (s602 M1 hw mm1 hk hb (by omega)) ?_);rintro _ h2' ⟨rfl,ow2,M2,F2⟩;obtain⟨f1,f2⟩:=F2.at e1 e3;obtain⟨f4,f5⟩:=F2.at e4 e5;have tv2:LsW (λj=>ow2 j=0/\rid<j) 1 h2' tv (r.tr.map qQ):=e2.mono λj hj q=>⟨⟨(F2.k j hj q.1).1,q.2⟩,(F2.k j hj q.1).2⟩;simp only[go_sem];by_cases h0:(doM bk r.m k).2.2=0
 case neg=>
  rw[qBS hne' (by rw[hkk];exact h0),hkk]at eG;subst eG;simp only[h0,decide_false,go_sem];exact⟨trivial,λz=>z.elim⟩
 rw[qG3 hne' (by rw[hkk];exact h0)]at eG;have J2:=J.go hb hne' (by rw[hkk];exact h0);obtain⟨c1,c2,c3,c4,c5⟩:=qBC hb mm1 hk h0;simp only[h0,go_sem,f1];generalize hcv:(doM bk r.m k).2.1=cv at*;obtain⟨q,hq⟩:∃q:Nat,cv=(q:Int)+1:=⟨(cv-1).toNat,by omega⟩;have ew1:IntKind.i64.wrap (cv-1)=(q:Int):=by rw[hq,wsA];omega
 have hq7:q<7:=by omega
 have hlc:=qj2 (T:=r.tr);have hcb:=qj1 (T:=r.tr) ((ja r.tr).getD q 0) (by rw[lGd,gEg (by omega)];exact gMm _);have hx:((ja r.tr).map qQ)[q]?=some (iI ((ja r.tr).getD q 0)):=by
  rw[gMp,gEg (by omega),lGd,gEg (by omega)];rfl
 have ew2:IntKind.i64.wrap ((ja r.tr).getD q 0+1)=(ja r.tr).getD q 0+1:=wsA;have hgt:(r.go bk).tr=r.tr++[cv]:=by simp only[Run.go,hkk,hcv]
 have hgl:(r.go bk).tr.length=r.tr.length+1:=by rw[hgt];simp
 have ecn:((ja r.tr).map qQ).set q (iI ((ja r.tr).getD q 0+1))=(ja (r.go bk).tr).map qQ:=by
  rw[hgt,qj3];unfold Qd;rw[hq,show ((q:Int)+1-1).toNat=q by omega,List.map_set];rfl
 simp only[ew1,qW hq7,go_sem,nZa,f4,hx,ew2];refine zx (e':=iI ((ja r.tr).getD q 0+1)) rfl f4 hx rfl ?_;rw[ecn];have U3:Up (λj=>j=ctid) h2' (h2'.set ctid (.row 1 ((ja (r.go bk).tr).map qQ) true)):=Up.set;have k3:(h2'.set ctid (.row 1 ((ja (r.go bk).tr).map qQ) true))[ctid]?=some (.row 1 ((ja (r.go bk).tr).map qQ) true):=gSs (qZ f4);have l3:(h2'.set ctid (.row 1 ((ja (r.go bk).tr).map qQ) true)).length=h2'.length:=by simp
 generalize h2'.set ctid (.row 1 ((ja (r.go bk).tr).map qQ) true)=h3 at*;have M3:=M2.upf U3 λj q=>by rw[q];exact f5
 have g1:=U3.at f1 (by omega);have tv3:LsW (λj=>ow2 j=0/\rid<j) 1 h3 tv (r.tr.map qQ):=tv2.mono λj hj z=>⟨z,U3.eq hj (by have:=z.2;omega)⟩;simp only[go_sem,g1];refine wc (tv3.app _) ends (by rw[lMp];omega) λh4 U4 w4 l4=>?_;have M4:=(M3.app [qA.row 1 [AV.int .i64 cv] true]).upf U4 λj z=>z.1.1;have g2:h4[rid]?=_:=U4.at (jC g1) λz=>by have:=z.1.2;omega
 have k4:h4[ctid]?=_:=U4.at (jC k3) λz=>by have:=z.1.2;omega
 have z4:ow2 (h3++[qA.row 1 [AV.int .i64 cv] true]).length=0:=(M3.app _).b;have hrl3:rid<h3.length:=qZ g1;simp only[go_sem];refine ZR g2 rfl rfl λh5 U5 l5 g5=>?_;simp only[List.set_cons_succ,lSz]at g5;have M5:=M4.upf U5 λj z=>by rw[z];exact f2
 have hid:(h3++[qA.row 1 [AV.int .i64 cv] true]).length≠rid:=by simp;omega
 have w5:=U5.at w4 hid;have k5:=U5.at k4 (by omega);have J2m:=J2.mm;have J2c:=J2.cl;simp only[Run.go,hkk]at J2c J2m;simp only[go_sem,g5];refine M5.lend Qt hw rfl (YW (by omega) (qB9 J2m)) rfl ?_;simp only[go_sem];have u1:=Z2 (m:=r.m);have u2:=Z2 (m:=(doM bk r.m k).1);have hpk:=J.pk;have hls:=J.ls;have J2p:=J2.pk;have J2l:=J2.ls;have hu1:zI r.m=(r.m.C.length:Int)-(nF r.m.C:Nat):=rfl;have hu2:zI (doM bk r.m k).1=((doM bk r.m k).1.C.length:Int)-(nF (doM bk r.m k).1.C:Nat):=rfl;have hcr:1<=z7 cv/\z7 cv<=2:=by unfold z7;split<;>omega
 have htr:(if decide (cv=7)=true then 1 else 0:Int)=2-z7 cv:=by
  unfold z7;by_cases z:cv=7
  ·simp[z]
  ·simp[z]
 rw[<-hu2];refine ZR g5 rfl rfl λh6 U6 l6 g6=>?_;simp only[List.set_cons_succ,lSz]at g6;simp only[go_sem,g6];refine qI QT ?_;simp only[go_sem];rw[htr,<-hu1,jn (show-9223372036854775808<=zI r.m-2 by omega) (by omega),jn (show-9223372036854775808<=zI r.m-2+(2-z7 cv) by omega) (by omega),jn (show-9223372036854775808<=zI r.m-2+(2-z7 cv)+(jt bk r.m k).1 by omega) (by omega),show zI r.m-2+(2-z7 cv)+(jt bk r.m k).1=zI r.m+(jt bk r.m k).1-z7 cv by omega];refine ZR g6 rfl rfl λh7 U7 l7 g7=>?_;simp only[List.set_cons_succ,lSz]at g7;simp only[go_sem];have w7:=U7.at (U6.at w5 hid) hid;have k7:=U7.at (U6.at k5 (by omega)) (by omega);have M7:=(M5.upf U6 λj z=>by rw[z];exact f2).upf U7 λj z=>by rw[z];exact f2
 have e1':(r.go bk).pk=max r.pk (zI (doM bk r.m k).1):=by simp only[Run.go,hkk]
 have e2':(r.go bk).ls=max r.ls (zI r.m+(jt bk r.m k).1-z7 cv):=by simp only[Run.go,hkk,hcv]
 have e3':(r.go bk).m=(doM bk r.m k).1:=by simp only[Run.go,hkk]
 refine qd (r.go bk,.slice 1 (h3++[qA.row 1 [AV.int .i64 cv] true]).length 0 (r.tr.length+1) false,ow2,h7) ⟨by simp only[hgl];exact eG,by simp only;omega,J2,⟨by simp only[e3'];exact M7, ?_,.inr ⟨_,⟨z4,by simp;omega⟩,by rw[lMp,hgl], ?_⟩,f2,k7,f5⟩⟩ (by simp only;omega) csA
 ·simp only[e1',e2'];exact g7
 ·simp only[hgt,lMa];exact w7
end
noncomputable def QQ(bk:List qD)(m:qG)(bu:Int):Int:=if (z5 bk&&Qg m)=true then(if inI bu 0 4000=true then 0 else 2)else 1
def Ji(bk:List qD)(m:qG)(bu:Int):Run×Int:=goM bk bu.toNat ⟨m,[],zI m,zI m⟩
noncomputable def wE(bk:List qD)(m:qG)(bu:Int):Int:=if QQ bk m bu=0 then(Ji bk m bu).2 else QQ bk m bu
theorem VM.len{m:qG}(h:VM m):0<m.C.length/\m.C.length<=1500:=by
 have:=h.sz;unfold inI at this;rw[bAt,dTe,dTe]at this;omega
theorem qjU{c:qF}(h:zi c):c.sz<=8:=by
 rcases h with⟨_,h⟩ | ⟨_,_,_,h1,h2⟩ | ⟨_,_,h1,h2⟩
 ·have:=qI1 h;unfold qB.sz at this;unfold qF.sz;simp only[qY,lLr]at this;omega
 ·unfold qF.sz;rw[h1];simp only[lNi];omega
 ·unfold qF.sz;rw[h1,h2];simp
theorem VM.szs{m:qG}(h:VM m):m.sz<=1000000:=by
 have h1:=h.len;have h2:=h.rs;have h3:=qDC (f:=qF.sz) (k:=8) λc hc=>qjU (qAS (h.cell c hc));unfold qG.sz;omega
section
variable {bk:List qD} {m:qG} {bu:Int} {h0:List qA}
theorem s507(hl:bk.length+zD qD.sz bk<=1048576)(hz:m.sz<=1048576):SCall Gm 507 [.lst 1 (bk.map qD.enc) false,m.enc,iI bu] h0 (λv h'=>∃p,v=.tup [p,iI (wE bk m bu)]/\(wE bk m bu=0->∃rid mid ctid ow tv,p=.ptr rid 0 0/\RH 6 mid rid ctid bk ow h' tv (Ji bk m bu).1/\h0.length<=rid)):=by
 refine sI kD ?_;simp only[kD,qM,go_sem];have bad:wE bk m bu=1->∃p,AV.tup [.nilp,iI 1]=.tup [p,iI (wE bk m bu)]/\(wE bk m bu=0->∃rid mid ctid ow tv,p=.ptr rid 0 0/\RH 6 mid rid ctid bk ow h0 tv (Ji bk m bu).1/\h0.length<=rid):=λe=>⟨.nilp,by rw[e],λq=>by rw[e]at q;cases q⟩;have bad2:wE bk m bu=2->∃p,AV.tup [.nilp,iI 2]=.tup [p,iI (wE bk m bu)]/\(wE bk m bu=0->∃rid mid ctid ow tv,p=.ptr rid 0 0/\RH 6 mid rid ctid bk ow h0 tv (Ji bk m bu).1/\h0.length<=rid):=λe=>⟨.nilp,by rw[e],λq=>by rw[e]at q;cases q⟩;refine qa rfl ?_;simp only[go_sem];refine qI (c505 (by omega) λn hn=>by have:=jr (f:=qD.sz) hn;omega) ?_;simp only[go_sem];cases e1:z5 bk
 case false=>
  simp only[go_sem];exact bad (by simp[wE,QQ,e1])
 simp only[go_sem];refine qI (c867 hz) ?_;simp only[go_sem];cases e2:Qg m
 case false=>
  simp only[go_sem];exact bad (by simp[wE,QQ,e1,e2])
 simp only[go_sem];by_cases b0:bu<0
 case pos=>
  simp only[b0,go_sem];exact bad2 (by simp[wE,QQ,e1,e2,inI];omega)
 simp only[b0,decide_false,go_sem];by_cases b1:4000<bu
 case pos=>
  simp only[b1,go_sem];exact bad2 (by simp[wE,QQ,e1,e2,inI];omega)
 simp only[b1,decide_false,go_sem];have vm:=VG.1 e2;refine qj (SCall.mono (s868 vm.szs vm.len.1) ?_);rintro _ h1 ⟨cid,cs,rv,ow,rfl,M,U,hw⟩;simp only[go_sem,mE];refine JL rfl ?_;simp only[go_sem];refine Jc (n:=7) (by unfold LIM;omega) ?_;simp only[go_sem];refine JL rfl ?_;obtain⟨n,rfl⟩:=eOz (show 0<=bu by omega);have hlt:=qZ M.c;have M2:=(M.heap (h':=h1++[qA.row 6 [mE m cid rv (bkP bk)] true]) (by simp) λj hj q=>by rw[gAl hj]).mo (w:=6) (post:=bkP bk) (mid:=h1.length) ends (by have:=M.b h1.length;omega);have M3:=((MH.intro M2).app [qA.row 1 (List.replicate 7 (AV.int .i64 0)) true]).app [qA.row 5 [.agg [.ptr h1.length 0 0,.slice 1 (h1++[qA.row 6 [mE m cid rv (bkP bk)] true]).length 0 7 false,.nils,iI 0,iI 0]] true];have e4:wE bk m (n:Nat)=(goM bk n ⟨m,[],zI m,zI m⟩).2:=by
  rw[wE,iP (by simp[QQ,e1,e2,inI];omega)];rfl
 simp only[go_sem];have hz1:∀j,h1.length<j->(if j=h1.length then 1 else ow j)=0:=λj hj=>by
  rw[iN (by omega)];refine Classical.byContradiction λq=>?_;have:=M.b j q;omega
 refine qj (SCall.mono (s869 M3 (by decide) vm.mi e1 vm.len.2 (by omega) ends (hz1 _ (by simp)) (jC ends) (hz1 _ (by simp)) (by simp)) ?_);rintro _ h2 ⟨rfl,R⟩;have hU:=U.1;rw[<-e4]at R;rw[<-e4];simp only[go_sem];by_cases h0':wE bk m (n:Nat)=0
 case neg=>
  simp only[h0',decide_false,go_sem];exact⟨_,rfl,λq=>q.elim⟩
 obtain⟨ow',tv,R⟩:=R h0';simp only[h0',go_sem];exact⟨_,rfl,λ_=>⟨_,_,_,ow',tv,rfl,R,by simp;omega⟩⟩
end
end Go.Ab
