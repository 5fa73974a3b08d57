/- Texts Can14 .. Can15: the abstract machine, its laws and contracts of functions: lemmas for the statement. No condition. -/
import Derived.Test.YtkgbnffcaabafaaGreatDoorP9
set_option linter.unusedSimpArgs false
set_option linter.unusedVariables false
namespace Go.Ab
open Go
set_option maxRecDepth 10000
set_option maxHeartbeats 2000000
def bI(b:UInt8):AV:=.int .u8 b.toNat
def ByL(h:List qC)(v:AV)(bs:Str):Prop:=(bs=[]/\v=.nils)\/∃k,v=.slice 1 k 0 bs.length false/\h[k]?=some (.row 1 (bs.map bI) false)/\bs≠[]
def BdL(h:List qC)(id:Nat)(bs:Str):Prop:=∃a0 a1,h[id]?=some (.row 2 [.agg [a0,a1]] false)/\(a0=.nilp\/a0=.ptr id 0 0)/\ByL h a1 bs
theorem ByL.keep{h h':List qC}{v:AV}{bs:Str}(x:ByL h v bs)(hk:∀j,j<h.length->h'[j]?=h[j]?):ByL h' v bs:=by
 rcases x with x | ⟨k,h1,h2,h3⟩
 ·exact .inl x
 ·exact .inr ⟨k,h1,by rw[hk k (zA h2)];exact h2,h3⟩
theorem BdL.keep{h h':List qC}{id:Nat}{bs:Str}(x:BdL h id bs)(hk:∀j,j<h.length->h'[j]?=h[j]?):BdL h' id bs:=by
 obtain⟨a0,a1,h1,h2,h3⟩:=x;exact⟨a0,a1,by rw[hk id (zA h1)];exact h1,h2,h3.keep hk⟩
theorem s998{h:List qC}{id:Nat}{a0 a1:AV}{K:AV->List qC->Prop}(ho:h[id]?=some (.row 2 [.agg [a0,a1]] false))(ha:a0=.nilp\/a0=.ptr id 0 0)(hk:K (zQ []) (h.set id (.row 2 [.agg [.ptr id 0 0,a1]] false))):SCall Gm 998 [.ptr id 0 0] h K:=fun ρ hr ar hH hv=>by
 simp only[RelVs,RelV]at hv;obtain⟨b,bs,rfl,⟨i',hi',rfl⟩,rfl⟩:=hv;rcases hH.obj id _ ho with⟨_,e,_⟩ | ⟨i2,el',h1,h2,h3⟩
 ·cases e
 rw[hi']at h1;simp only[oSi]at h1;subst h1;simp only[RelVs,RelV]at h3;obtain⟨c,cs,rfl,⟨ds,rfl,d0,ds',rfl,r0,d1,ds'',rfl,r1,rfl⟩,rfl⟩:=h3;have hd0:d0=.nilp\/d0=.ptr i' 0 0:=by
  rcases ha with rfl | rfl
  ·simp only[RelV]at r0;exact .inl r0
  ·simp only[RelV]at r0;obtain⟨j,hj,rfl⟩:=r0;rw[hi']at hj;simp only[oSi]at hj;subst hj;exact .inr rfl
 refine⟨0,zQ [],hr.upd i' (.row 2 [.agg [.ptr i' 0 0,d1]] false),ρ,zQ [],_,.ext g998 ⟨i',d0,d1,rfl,h2,hd0,rfl,rfl⟩,hk,hH.write hi' ho (by simp) (.inr ⟨i',_,hi',AH.upd_same _ _ _, ?_⟩),by simp[zQ,RelV,RelVs],Fm.write hH hi',by simp⟩;simp only[RelVs,RelV];exact⟨_,_,rfl,⟨_,rfl,_,_,rfl,⟨i',hi',rfl⟩,_,_,rfl,r1,rfl⟩,rfl⟩
theorem qVN:∀xs:Str,AV.leafs (xs.map bI)=true
 |[]=>rfl
 | x::xs=>by rw[lMc,AV.leafs,qVN xs];rfl
theorem s623{h:List qC}{id:Nat}{bs:Str}{K:AV->List qC->Prop}(B:BdL h id bs)(hl:bs.length<=4611686018427387904)(hk:∀h',K (.str bs) h'):SCall Gm 623 [.ptr id 0 0] h K:=fun ρ hr ar hH hv=>by
 obtain⟨a0,a1,ho,ha,hb⟩:=B;simp only[RelVs,RelV]at hv;obtain⟨b,bs',rfl,⟨i',hi',rfl⟩,rfl⟩:=hv;rcases hH.obj id _ ho with⟨_,e,_⟩ | ⟨i2,el',h1,h2,h3⟩
 ·cases e
 rw[hi']at h1;simp only[oSi]at h1;subst h1;simp only[RelVs]at h3;obtain⟨c,cs,rfl,h4,rfl⟩:=h3;simp only[RelVs,RelV]at h4;obtain⟨ds,rfl,d0,ds',rfl,r0,d1,ds'',rfl,r1,rfl⟩:=h4;rcases hb with⟨rfl,rfl⟩ | ⟨k,rfl,hk1,hne⟩
 ·simp only[RelV]at r1;subst r1;exact⟨0,.str [],hr,ρ,.str [],h,.ext g623 ⟨i',d0,_,[],rfl,h2,hl,rfl,.inl ⟨rfl,rfl,rfl⟩⟩,hk _,hH,by simp only[RelV],Fm.refl _ _ _,nLr _⟩
 ·simp only[RelV]at r1;rcases hH.obj k _ hk1 with⟨_,_,q2⟩ | ⟨k2,el2,g1,g2,g3⟩
  ·cases q2
  rcases r1 with⟨k',q1,rfl⟩ | ⟨q1,_⟩
  ·rw[q1]at g1;simp only[oSi]at g1;subst g1;have:=QT _ _ (qVN bs) g3;subst this;exact⟨0,.str bs,hr.upd k' .dead,ρ,.str bs,h.set k .dead,.ext g623 ⟨i',d0,_,bs,rfl,h2,hl,rfl,.inr ⟨k',rfl,g2,hne,rfl⟩⟩,hk _,hH.write q1 hk1 (by simp) trivial,by simp only[RelV],Fm.write hH q1,by simp⟩
  ·rw[q1]at g1;cases g1
theorem s619{h:List qC}{id:Nat}{bs s:Str}{K:AV->List qC->Prop}(B:BdL h id bs)(hl:bs.length+s.length<=4294967296)(hk:∀h',BdL h' id (bs++s)->K (.tup [.int .i64 (s.length:Nat),.nili]) h'):SCall Gm 619 [.ptr id 0 0,.str s] h K:=by
 obtain⟨a0,a1,ho,ha,hb⟩:=B;refine sI Us ?_;simp only[Us,qH,go_sem];refine qO (s998 ho ha ?_);have hid:=zA ho;have ho1:(h.set id (.row 2 [.agg [.ptr id 0 0,a1]] false))[id]?=some (.row 2 [.agg [.ptr id 0 0,a1]] false):=by rw[gSs hid]
 simp only[ho1,go_sem,List.getElem?_cons_zero,oMs,AV.part,AV.cells];generalize hh1:h.set id (.row 2 [.agg [.ptr id 0 0,a1]] false)=h1 at ho1;have hEl:Els h1 1 (.str s) (s.map bI):=⟨rfl,rfl⟩;have hb1:ByL h1 a1 bs:=by
  rcases hb with x | ⟨k,q1,q2,q3⟩
  ·exact .inl x
  ·refine .inr ⟨k,q1, ?_,q3⟩;rw[<-hh1,gSn]
   ·exact q2
   ·rintro rfl;rw[ho]at q2;cases q2
 have hA:∀{E:Ev}{l:List qA}{ks:List Fr1}{s0 m0:qf}{Q:qS->VSt->Prop},(∀v' g,g[id]?=some (.row 2 [.agg [.ptr id 0 0,a1]] false)->ByL g v' (bs++s)->R E (.ops l::ks) ⟨(14,v')::s0,m0,g⟩ Q)->ZX E 1 (some 14) (some a1) (some (.str s)) l ks ⟨s0,m0,h1⟩ Q:=fun hr=>by
  by_cases hs0:s=[]
  ·subst hs0;refine qZE (el:=bs.map bI) hEl ?_ (hr _ _ ho1 (by rw[lAn];exact hb1));rcases hb1 with⟨_,rfl⟩ | ⟨k,rfl,q2,_⟩
   ·exact .inl rfl
   ·exact .inr ⟨k,bs.length,rfl,q2,by simp⟩
  have hs1:(s.map bI).length≠0:=by rw[lMp];exact fun e=>hs0 (List.length_eq_zero_iff.1 e)
  rcases hb1 with⟨rfl,rfl⟩ | ⟨k,rfl,q2,q3⟩
  ·refine qZD hEl hs1 (by rw[lMp];omega) (hr _ _ (by rw[gAl (zA ho1)];exact ho1) (.inr ⟨h1.length,by simp,by simp,by simpa using hs0⟩))
  ·refine qZF hEl hs1 q2 (by simp) (by rw[lMp];omega) (hr _ _ ?_ (.inr ⟨h1.length, ?_, ?_,by simp[hs0]⟩))
   ·have hne:k≠id:=by rintro rfl;rw[ho1]at q2;cases q2
    rw[gAl (by rw[lLs];exact zA ho1),gSn hne];exact ho1
   ·simp
   ·rw[show h1.length=(h1.set k .dead).length from by simp,gCl];simp
 refine hA fun v' g hg hv=> ?_;simp only[go_sem];rcases hv with⟨q1,rfl⟩ | ⟨k,rfl,q2,q3⟩
 ·refine jQ rfl hg rfl rfl ?_;simp only[go_sem];exact hk _ ⟨.ptr id 0 0,.nils,by rw[gSs (zA hg)];rfl,.inr rfl,.inl ⟨q1,rfl⟩⟩
 ·refine jQ rfl hg rfl rfl ?_;simp only[go_sem];refine hk _ ⟨.ptr id 0 0,_,by rw[gSs (zA hg)];rfl,.inr rfl,.inr ⟨k,rfl, ?_,q3⟩⟩;rw[gSn]
  ·exact q2
  ·rintro rfl;rw[hg]at q2;cases q2
def StrB(B:Nat)(h:List qC)(v:AV)(sn:List Str):Prop:=(sn=[]/\v=.nils)\/∃k,B<=k/\v=.slice 1 k 0 sn.length false/\h[k]?=some (.row 1 (sn.map qR) true)
theorem StrB.keep{B n:Nat}{h h':List qC}{v:AV}{sn:List Str}(x:StrB B h v sn)(hn:h.length<=n)(hk:∀j,j<n->h'[j]?=h[j]?):StrB B h' v sn:=by
 rcases x with x | ⟨k,h0,h1,h2⟩
 ·exact .inl x
 ·exact .inr ⟨k,h0,h1,by rw[hk k (by have:=zA h2;omega)];exact h2⟩
theorem StrB.push{B:Nat}{h:List qC}{v:AV}{sn:List Str}{o:qC}(x:StrB B h v sn):StrB B (h++[o]) v sn:=x.keep (nLr _) fun j hj=>gAl hj
theorem StrB.cv{B:Nat}{h:List qC}{v:AV}{sn:List Str}(x:StrB B h v sn):Cv h v (.lst 1 (sn.map qR) false):=by
 rcases x with⟨rfl,rfl⟩ | ⟨k,_,rfl,h1⟩
 ·exact .nils
 ·exact Cv.row h1 (by simp) (zD shS.tree _) (by decide)
theorem qST{E:Ev}{l:List qA}{ks:List Fr1}{s m:qf}{B:Nat}{h:List qC}{Q:qS->VSt->Prop}{v:AV}{sn:List Str}{n:Str}{d id:Nat}{c2:Bool}(x:StrB B h v sn)(h2:h[id]?=some (.row 1 [qR n] true))(hl:sn.length<4294967296)(hB:B<=h.length)
  (hr:∀v' h',StrB B h' v' (sn++[n])->(∀j,j<B->h'[j]?=h[j]?)->B<=h'.length->R E (.ops l::ks) ⟨(d,v')::s,m,h'⟩ Q):wk E 1 (some d) (some v) (some (.slice 1 id 0 1 c2)) l ks ⟨s,m,h⟩ Q:=by
 rcases x with⟨rfl,rfl⟩ | ⟨k,h0,rfl,h1⟩
 ·refine WP (ys:=[qR n]) (Els.row h2 rfl) (by simp) ?_;exact hr _ _ (.inr ⟨h.length,hB,rfl,by simp⟩) (fun j hj=>gAl (by omega)) (by simp;omega)
 ·refine Qt (el:=sn.map qR) h2 h1 (by simp) hl ?_;refine hr _ _ (.inr ⟨h.length,hB, ?_, ?_⟩) (fun j hj=> ?_) (by simp;omega)
  ·simp
  ·rw[show h.length=(h.set k .dead).length from by simp,gCl];simp
  ·rw[gAl (by simp;omega),gSn (by omega)]
theorem c262{p:qU}(hb:p.bd)(hn:p.wz<=1048575):Pure Gm 262 [p.enc] (.str (prT p)):=by
 refine pJ UU ?_;simp only[UU,qH,go_sem];refine zM qU.ln ?_;simp only[go_sem];refine qF (c527 hb hn) ?_;simp only[go_sem];cases hv:jE p
 ·simp only[nF,go_sem];exact qE rfl (by rw[prT,hv];rfl)
 simp only[nT,go_sem];have V:=PrF.of hv;have va:=V.a;have vb:=V.b;obtain⟨l1,l2⟩:=qXD V;have hbd:∀s∈p.Datas.map zq,s.length<=5000:=fun s hs=>by
  obtain⟨y,hy,rfl⟩:=List.mem_map.1 hs;exact WX (V.d y hy)
 have hbf:∀s∈p.Defs.map dfT,s.length<=130000:=fun s hs=>by
  obtain⟨y,hy,rfl⟩:=List.mem_map.1 hs;exact WZ (V.f y hy)
 simp only[lMp,lNa,go_sem];refine Sem.loop (fun a:Nat×List qC=>a.1<=p.Datas.length/\BdL a.2 0 ((p.Datas.map zq).take a.1).flatten) (fun a=>(⟨[(3,.ptr 0 0 0),(18,.lst 2 (p.Datas.map qJ.enc) false),(19,.int .i64 (p.Datas.length:Nat)),(20,.int .i64 (a.1:Nat))],[(1,p.enc)],a.2⟩:VSt)) (fun a=>p.Datas.length-a.1) (0,[.row 2 [.agg [.nilp,.nils]] false]) (by kernel_rfl) ⟨nZl _,.nilp,.nils,rfl,.inl rfl,.inl ⟨rfl,rfl⟩⟩ cS ?_;rintro⟨i,h⟩ ⟨hi,hB⟩;simp only at hi hB;simp only[go_sem];by_cases hlt:i<p.Datas.length
 ·have e1:decide ((i:Int)<(p.Datas.length:Nat))=true:=dTt (by omega);have hlx:i<(p.Datas.map zq).length:=by rw[lMp];exact hlt
  have hs:=Xw hlx;have ht:=Xx hbd i;rw[lMp]at ht;have ht2:=Nat.mul_le_mul_right 5000 va;have hD:=V.d _ (gMm hlt);rw[List.getElem_map]at hs;simp only[e1,gMp,gEg hlt,oMs,go_sem];refine wf rfl qJ.ln (by exact⟨_,rfl⟩) (by decide) ?_;simp only[lMp,go_sem];generalize p.Datas[i]=d at*;have hdl:=WX hD;have dn:=hD.n;have dl:=hD.l;refine Sem.loop (fun a:Nat×AV×List qC=>a.1<=d.Cons.length/\StrB h.length a.2.2 a.2.1 ((d.Cons.map jK).take a.1)/\(∀j,j<h.length->a.2.2[j]?=h[j]?)/\h.length<=a.2.2.length) (fun a=>(⟨[(3,.ptr 0 0 0),(18,.lst 2 (p.Datas.map qJ.enc) false),(19,.int .i64 (p.Datas.length:Nat)),(20,.int .i64 (i:Nat)),(6,a.2.1),(25,.lst 2 (d.Cons.map qV.enc) false),(26,.int .i64 (d.Cons.length:Nat)),(27,.int .i64 (a.1:Nat))],[(1,p.enc),(5,d.enc)],a.2.2⟩:VSt)) (fun a=>d.Cons.length-a.1) (0,.nils,h) (by kernel_rfl) ⟨nZl _,.inl ⟨rfl,rfl⟩,fun _ _=>rfl,nLr _⟩ cS ?_;rintro⟨j,v,h2⟩ ⟨hj,hS,hK,hL⟩;simp only at hj hS hK hL;simp only[go_sem];by_cases hjl:j<d.Cons.length
  ·have e2:decide ((j:Int)<(d.Cons.length:Nat))=true:=dTt (by omega);have hC:=hD.c _ (gMm hjl);have hjm:j<(d.Cons.map jK).length:=by rw[lMp];exact hjl
   have hst:=lTs hjm;rw[List.getElem_map]at hst;simp only[e2,gMp,gEg hjl,oMs,go_sem];refine wf rfl qV.ln (by exact⟨_,rfl⟩) (by decide) ?_;simp only[lMp,go_sem];generalize d.Cons[j]=c at*;have hcl:=Xi hC;have hcn:=hC.n;have hfl:=hC.l;refine Sem.loop (fun a:Nat×AV×List qC=>a.1<=c.Fields.length/\StrB h2.length a.2.2 a.2.1 ((c.Fields.map tyT).take a.1)/\(∀k,k<h2.length->a.2.2[k]?=h2[k]?)/\h2.length<=a.2.2.length) (fun a=>(⟨[(3,.ptr 0 0 0),(18,.lst 2 (p.Datas.map qJ.enc) false),(19,.int .i64 (p.Datas.length:Nat)),(20,.int .i64 (i:Nat)),(6,v),(25,.lst 2 (d.Cons.map qV.enc) false),(26,.int .i64 (d.Cons.length:Nat)),(27,.int .i64 (j:Nat)),(9,a.2.1),(32,.lst 3 (c.Fields.map qB.enc) false),(33,.int .i64 (c.Fields.length:Nat)),(34,.int .i64 (a.1:Nat))],[(1,p.enc),(5,d.enc),(8,c.enc)],a.2.2⟩:VSt)) (fun a=>c.Fields.length-a.1) (0,.nils,h2) (by kernel_rfl) ⟨nZl _,.inl ⟨rfl,rfl⟩,fun _ _=>rfl,nLr _⟩ cS ?_;rintro⟨k,w,h3⟩ ⟨hk,hS3,hK3,hL3⟩;simp only at hk hS3 hK3 hL3;simp only[go_sem];by_cases hkl:k<c.Fields.length
   ·have e3:decide ((k:Int)<(c.Fields.length:Nat))=true:=dTt (by omega);have hty:=hC.f _ (gMm hkl);have hkm:k<(c.Fields.map tyT).length:=by rw[lMp];exact hkl
    have hst3:=lTs hkm;rw[List.getElem_map]at hst3;simp only[e3,gMp,gEg hkl,oMs,go_sem];refine wf rfl qB.ln (by exact⟨_,qB.enc_eq _⟩) (by decide) ?_;simp only[go_sem];refine qF (Ku hty) ?_;simp only[go_sem];refine qy (v:=.str (tyT c.Fields[k])) rfl rfl ?_;simp only[go_sem];refine qST (n:=tyT c.Fields[k]) hS3.push (by rw[gCl];rfl) (by rw[lLt];omega) (by simp;omega) fun v' h' hS' hK' hL'=> ?_;simp only[go_sem,qp (show k<4611686018427387904 by omega)];refine qW (k+1,v',h') ⟨by simp only;omega, ?_,fun q hq=> ?_,hL'⟩ (by simp only;omega) cS
    ·simp only[hst3];exact hS'
    ·simp only;rw[hK' q hq,gAl (by omega),hK3 q hq]
   ·have e3:decide ((k:Int)<(c.Fields.length:Nat))=false:=dFf (by omega);obtain rfl:k=c.Fields.length:=by omega
    have et:(c.Fields.map tyT).take c.Fields.length=c.Fields.map tyT:=by rw[<-lMp (f:=tyT),lTl]
    rw[et]at hS3;have hbl2:(brk (c.Fields.map tyT)).length<=1000:=by
     unfold jK at hcl;rw[lAp]at hcl;omega
    have hjl2:(jn [44,32] (c.Fields.map tyT)).length<=1000000000:=by
     have h5:=JD (sep:=[44,32]) (xs:=c.Fields.map tyT) (b:=320) fun s hs=>by
      obtain⟨y,hy,rfl⟩:=List.mem_map.1 hs;exact Jq (hC.f y hy)
     rw[lMp]at h5;have h6:=Nat.mul_le_mul_right (2+320) hfl;simp only[lCo,lNi]at h5;omega
    simp only[e3,go_sem];refine QF (vs':=[.lst 1 ((c.Fields.map tyT).map qR) false]) (Cvs.cons hS3.cv Cvs.nil) (Kw (fun s hs=>by obtain⟨y,hy,rfl⟩:=List.mem_map.1 hs;exact qg3 (hC.f y hy)) hjl2 (by rw[lMp];omega)) rfl ?_;simp only[go_sem];refine qN ?_;simp only[go_sem];refine qy (v:=.str (c.Name++brk (c.Fields.map tyT))) rfl rfl ?_;simp only[go_sem];refine qST (n:=c.Name++brk (c.Fields.map tyT)) ((hS.keep (nLr _) hK3).push) (by rw[gCl];rfl) (by rw[lLt];omega) (by simp;omega) fun v' h' hS' hK' hL'=> ?_;simp only[go_sem,qp (show j<4611686018427387904 by omega)];refine qW (j+1,v',h') ⟨by simp only;omega, ?_,fun q hq=> ?_,hL'⟩ (by simp only;omega) cS
    ·simp only[hst];exact hS'
    ·simp only;rw[hK' q hq,gAl (by omega),hK3 q (by omega),hK q hq]
  ·have e2:decide ((j:Int)<(d.Cons.length:Nat))=false:=dFf (by omega);obtain rfl:j=d.Cons.length:=by omega
   have et:(d.Cons.map jK).take d.Cons.length=d.Cons.map jK:=by rw[<-lMp (f:=jK),lTl]
   rw[et]at hS;have hne:d.Cons.map jK≠[]:=by
    intro e;have:=congrArg List.length e;rw[lMp,lNi]at this;omega
   have hjl3:(jn [32,124,32] (d.Cons.map jK)).length<=5000:=by
    unfold zq at hdl;simp only[lAp,lCo,lNi]at hdl;omega
   simp only[e2,go_sem];refine qN ?_;simp only[go_sem];refine qN ?_;simp only[go_sem];refine QF (vs':=[.lst 1 ((d.Cons.map jK).map qR) false,.str [32,124,32]]) (Cvs.cons hS.cv (Cvs.cons (.refl rfl) Cvs.nil)) (Kx hne (by rw[lMp];omega) (by omega)) rfl ?_;simp only[go_sem];refine qN ?_;simp only[go_sem];refine qN ?_;simp only[go_sem];refine qO (s619 (hB.keep hK) (by simp only[lAp,lCo,lNi];omega) fun h' hB'=> ?_);simp only[go_sem,qp (show i<4611686018427387904 by omega)];refine qW (i+1,h') ⟨by simp only;omega, ?_⟩ (by simp only;omega) cS;simp only[hs];simpa only [zq,lAa]using hB'
 have e1:decide ((i:Int)<(p.Datas.length:Nat))=false:=dFf (by omega);obtain rfl:i=p.Datas.length:=by omega
 have et:(p.Datas.map zq).take p.Datas.length=p.Datas.map zq:=by rw[<-lMp (f:=zq),lTl]
 rw[et]at hB;simp only[e1,lMp,go_sem];refine Sem.loop (fun a:Nat×List qC=>a.1<=p.Defs.length/\BdL a.2 0 ((p.Datas.map zq).flatten++((p.Defs.map dfT).take a.1).flatten)) (fun a=>(⟨[(3,.ptr 0 0 0),(64,.lst 12 (p.Defs.map qQ.enc) false),(65,.int .i64 (p.Defs.length:Nat)),(66,.int .i64 (a.1:Nat))],[],a.2⟩:VSt)) (fun a=>p.Defs.length-a.1) (0,h) (by kernel_rfl) ⟨nZl _,by simpa using hB⟩ cS ?_;rintro⟨j,h4⟩ ⟨hj,hB4⟩;simp only at hj hB4;simp only[go_sem];by_cases hlt:j<p.Defs.length
 ·have e1:decide ((j:Int)<(p.Defs.length:Nat))=true:=dTt (by omega);have hlx:j<(p.Defs.map dfT).length:=by rw[lMp];exact hlt
  have hs:=Xw hlx;have ht:=Xx hbf j;rw[lMp]at ht;have ht2:=Nat.mul_le_mul_right 130000 vb;have hD:=V.f _ (gMm hlt);have hdl:=WZ hD;rw[List.getElem_map]at hs;simp only[e1,gMp,gEg hlt,oMs,go_sem];refine wf rfl qQ.ln (by exact⟨_,rfl⟩) (by decide) ?_;simp only[go_sem];generalize p.Defs[j]=d at*;obtain⟨d1,d2,d3⟩:=hD;obtain⟨m1,m2,m3⟩:=qBO d3;have tl:=ZT _ m1;have yl:=Jq d2;refine qN ?_;simp only[go_sem];refine qN ?_;simp only[go_sem];refine qF (Ku d2) ?_;simp only[go_sem];refine qN ?_;simp only[go_sem];refine qN ?_;simp only[go_sem];refine qF (c621 m1 (by omega)) ?_;simp only[go_sem];refine qN ?_;simp only[go_sem];refine qN ?_;simp only[go_sem];refine qO (s619 hB4 (by simp only[lAp,lCo,lNi];omega) fun h' hB'=> ?_);simp only[go_sem,qp (show j<4611686018427387904 by omega)];refine qW (j+1,h') ⟨by simp only;omega, ?_⟩ (by simp only;omega) cS;simp only[hs];simpa only [dfT,lAa]using hB'
 have e1:decide ((j:Int)<(p.Defs.length:Nat))=false:=dFf (by omega);obtain rfl:j=p.Defs.length:=by omega
 have et:(p.Defs.map dfT).take p.Defs.length=p.Defs.map dfT:=by rw[<-lMp (f:=dfT),lTl]
 have hp:(p.Datas.map zq).flatten++(p.Defs.map dfT).flatten=Qf p:=rfl;rw[et,hp]at hB4;have hpl:(Qf p).length<=1060000:=by rw[<-hp,lAp];omega
 simp only[e1,go_sem];refine qO (s623 hB4 (by omega) fun h5=> ?_);simp only[go_sem];refine qF (c622 (by omega)) ?_;simp only[go_sem];exact qE rfl (by rw[prT,hv,if_pos rfl])
theorem c255{t:Str}:Pure Gm 255 [.str t] (.bool (icV t)):=by
 refine pJ UT ?_;simp only[UT,qH,go_sem];have hf:=n264 (t:=t);have hp:∀n,lay (ji t) n=(.tup [(lay (zY t).1.enc n).1,.int .i64 (zY t).2.1,.int .i64 (zY t).2.2],(lay (zY t).1.enc n).2):=fun n=>qdK;have hw:=qW9 (t:=t);have hb:=qW8 (t:=t);have hd:icV t=(decide ((zY t).2.2=0)&&decide (prT (zY t).1=t)):=rfl;generalize (zY t).1=x at*;generalize (zY t).2.1=pa at*;generalize (zY t).2.2=pc at*;have cvx:∀{h post:List qC},h=(lay x.enc 0).2++post->Cv h (lay x.enc 0).1 x.enc:=fun{h post} hh=>qdN (pre:=[]) (qU.plx x) (qU.cnx x) hh;refine qaM hf ?_;simp only[go_sem,hp,lNa,lNi];refine wf (k:=2) rfl (qdM x 0) (qdL x 0) (by decide) ?_;simp only[go_sem,qVI];by_cases h0:pc=0
 ·simp only[dTt h0,qVI,go_sem];refine QF (vs':=[x.enc]) (Cvs.cons (cvx (lAn _).symm) Cvs.nil) (c262 hb hw) rfl ?_;simp only[go_sem];exact qE rfl (by rw[hd,dTt h0,Bool.true_and])
 ·simp only[dFf h0,go_sem];exact qE rfl (by rw[hd,dFf h0,Bool.false_and])
theorem c43{t:Str}:Pure Gm 43 [.str t] (.bool true):=by
 refine pJ F43 ?_;simp only[F43,qH,go_sem];by_cases hl:(1048576:Int)<t.length
 ·simp only[dTt hl,go_sem];exact qE rfl rfl
 simp only[dFf hl,go_sem];refine qF c254 ?_;simp only[go_sem];refine qF c255 ?_;simp only[go_sem];simp only[bne_self_eq_false,beq_self_eq_true,nT,go_sem];exact qE rfl rfl
end Go.Ab
