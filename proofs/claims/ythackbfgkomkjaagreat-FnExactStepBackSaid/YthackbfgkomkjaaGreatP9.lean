/- Texts Net38 .. Net48: the abstract machine, its laws and contracts of functions: lemmas for the statement. No condition. -/
import Derived.Test.YthackbfgkomkjaaGreatP8
set_option linter.unusedSimpArgs false
set_option linter.unusedVariables false
namespace Go.Ab
open Go
set_option maxRecDepth 10000
set_option maxHeartbeats 2000000
section
variable {w:Nat} {post:List AV} {base nid lid:Nat} {h:List qD} {N:Ags} {K:AV->List qD->Prop} {R:Nat->Bool}
def QL(R:Nat->Bool)(ks:List Nat):List (AV×AV):=ks.map fun k=>(kI k,.int .i64 (qz R k:Nat))
theorem qjU{n:Nat}:(qk R n).Nodup:=List.Nodup.sublist List.filter_sublist List.nodup_range
theorem qB5{z:AV}{ks:List Nat}{v:Nat->AV}{n:Nat}(h:n∈ks):lku z false (kI n) (ks.map fun k=>(kI k,v k))=some (v n):=by
 obtain⟨j,e⟩:=qaZ (v:=v) (i:=0) h;unfold lku;rw[e];rfl
theorem qbP{z:AV}{ks:List Nat}{v:Nat->AV}{n:Nat}(h:n∉ks):lku z false (kI n) (ks.map fun k=>(kI k,v k))=some z:=by
 unfold lku;rw[VL (v:=v) (i:=0) h];rfl
theorem Keep.split{h h':List qD}(k:Keep h.length h h'):h'=h++h'.drop h.length:=List.ext_getElem? fun i=>by
 rcases Nat.lt_or_ge i h.length with q | q
 ·rw[k.k i q,gAl q]
 ·rw[gAr q,gDr];congr 1;omega
theorem qj4{i:Nat}(hi:i<(qk R N.length).length):(zx N R).take (i+1)=(zx N R).take i++[jH R (N.getD ((qk R N.length)[i]) JT)]:=by
 unfold zx;rw[lTs (by simpa using hi),List.getElem_map]
theorem s702(hN:NE w post base nid h N)(hl:h[lid]?=some (.row 1 ((qk R N.length).map kI) true))(hp:∀k x,N[k]?=some x->R k=false->∀(s:Nat)(q:qG),x.Ports[s]?=some q->0<=q.Agent/\q.Agent<N.length/\R q.Agent.toNat=false)(hz:∀x∈N,x.sz<=1000)(hln:N.length<=10000)
  (hK:∀ex,K (qC.enc ⟨zx N R⟩) (h++ex)):SCall Gm 702 [.ptr nid 0 0,.slice 1 lid 0 (qk R N.length).length false] h K:=by
 have lo:(qk R N.length).length<=N.length:=ZA;refine SCall.tree [] [] (gk _ kX) (by kernel_rfl) rfl (qC.tr (x:=⟨zx N R⟩)) ?_ hK;simp only[kX,qQ,go_sem];refine Sem.loop (fun i:Nat=>i<=(qk R N.length).length/\True) (fun i=>(⟨[(0,.ptr nid 0 0),(1,.slice 1 lid 0 (qk R N.length).length false),(5,.map h.length),(14,.slice 1 lid 0 (qk R N.length).length false),(15,.int .i64 ((qk R N.length).length:Nat)),(16,.int .i64 (i:Nat))],[(4,.agg [.nils])],h++[.map (QL R ((qk R N.length).take i))]⟩:VSt)) (fun i=>(qk R N.length).length-i) 0 (by kernel_rfl)
  ⟨nZl _,trivial⟩ (Can.sub (by simp[go_sem]) (by simp[go_sem])) ?_
 rintro i ⟨hi,_⟩;have hl1:∀{o:List qD},(h++o)[lid]?=some (.row 1 ((qk R N.length).map kI) true):=fun{o}=>by rw[gAl (qc hl)];exact hl
 simp only[go_sem];apply qM<;>intro hc<;>simp only[hc,go_sem]
 ·have hlt:i<(qk R N.length).length:=by have:=odT hc;omega
  clear hc;obtain⟨o1,o2,o3⟩:=qCN (gEg hlt);have hx:((qk R N.length).map kI)[i]?=some (.int .i64 (((qk R N.length)[i]:Nat):Int)):=by rw[gMp,gEg hlt];rfl
  have et:(qk R N.length).take (i+1)=(qk R N.length).take i++[(qk R N.length)[i]]:=lTs hlt;simp only[X1 hlt,hl1,hx,go_sem];have hf:jL (kI (qk R N.length)[i]) (QL R ((qk R N.length).take i)) 0=some none:=VL (v:=fun k=>.int .i64 (qz R k:Nat)) fun q=>by
   have nd2:((qk R N.length).take (i+1)).Nodup:=qjU.sublist (List.take_sublist _ _);rw[et,List.nodup_append]at nd2;exact nd2.2.2 _ q _ (lMg.2 rfl) rfl
  refine qb1 gCl hf ?_;have e2:QL R ((qk R N.length).take i)++[(.int .i64 (((qk R N.length)[i]:Nat):Int),.int .i64 (i:Nat))]=QL R ((qk R N.length).take (i+1)):=by rw[et];unfold QL;rw[lMa (l₂:=[(qk R N.length)[i]]),List.map_singleton,o3];rfl
  rw[e2,lSr _ _ (nLr _),nSs,lSz];simp only[go_sem];simp only[qe (show i<4611686018427387904 by omega)];refine qd (i+1) ⟨by omega, ?_⟩ (by omega) (Can.sub (by simp[go_sem]) (by simp[go_sem]));trivial
 ·have hlt:i=(qk R N.length).length:=by have:=odF hc;omega
  clear hc;subst hlt;rw[lTl];obtain⟨h1,e1⟩:∃h1,h1=h++[qD.map (QL R (qk R N.length))]:=⟨_,rfl⟩;rw[<-e1];have hm:h1[h.length]?=some (.map (QL R (qk R N.length))):=by rw[e1];exact gCl
  have hl2:h1[lid]?=some (.row 1 ((qk R N.length).map kI) true):=by rw[e1];exact hl1
  have hN1:NE w post base nid h1 N:=by rw[e1];exact hN.app _
  have k1:Keep h.length h h1:=by rw[e1];exact Keep.app (nLr _)
  clear e1 hl1;have bl:=hN1.bl;refine Sem.loop (α:=Nat×List qD×Nat) (fun q=>q.1<=(qk R N.length).length/\Keep h1.length h1 q.2.1/\h1.length<=q.2.2/\q.2.1[q.2.2]?=some (.row 5 (((zx N R).take q.1).map qA.enc) true))
   (fun q=>(⟨[(0,.ptr nid 0 0),(5,.map h.length),(25,.slice 1 lid 0 (qk R N.length).length false),(26,.int .i64 ((qk R N.length).length:Nat)),(27,.int .i64 (q.1:Nat))],[(4,.agg [.nils]),(8,.agg [.slice 5 q.2.2 0 q.1 false])],q.2.1⟩:VSt)) (fun q=>(qk R N.length).length-q.1) (0,h1++[.row 5 [] true],h1.length) (by kernel_rfl)
   ⟨nZl _,Keep.app (nLr _),nLr _,by simp⟩
   (Can.ph (WkN.same rfl (WkN.same rfl (WkN.same rfl (WkN.same rfl (WkN.same rfl WkN.nil))))) (WkN.same rfl (WkN.cons rfl (Wk.agg (.cons (Wk.ph (by simp)) .nil)) WkN.nil))) ?_
  rintro⟨i,f,oid⟩ ⟨hi,jk,hoid,ho⟩;simp only at hi jk hoid ho;have fl:=jk.l;have fN:=hN1.keep jk;have fm:f[h.length]?=some (.map (QL R (qk R N.length))):=(jk.k _ (qc hm)).trans hm;have fL:f[lid]?=some (.row 1 ((qk R N.length).map kI) true):=(jk.k _ (qc hl2)).trans hl2;have lpk:((zx N R).take i).length=i:=by rw[lLt,YQ];exact nMl hi
  simp only[go_sem];apply qM<;>intro hc<;>simp only[hc,go_sem]
  ·have hlt:i<(qk R N.length).length:=by have:=odT hc;omega
   clear hc;obtain⟨o1,o2,o3⟩:=qCN (gEg hlt);have hkx:((qk R N.length).map kI)[i]?=some (.int .i64 (((qk R N.length)[i]:Nat):Int)):=by rw[gMp,gEg hlt];rfl
   have pks:=qj4 (N:=N) hlt;generalize (qk R N.length)[i]=k at o1 o2 o3 hkx pks;have hx:=gEg o1;have hxd:N.getD k JT=N[k]:=by rw[lGd,hx];rfl
   have hzx:=hz _ (gMm o1);rw[hxd]at pks;generalize N[k]=x at hx hxd hzx pks;have hpx:=hp k x hx o2;obtain⟨aid,ps,hNA⟩:=fN;obtain⟨q,hq,ha,hr⟩:=hNA.at hx;have hzx':=hzx;unfold qA.sz at hzx';simp only[X1 hlt,fL,hkx,hNA.o,zI o1,hNA.a,ha,go_sem];refine QH (Cvs.cons (qBE hr) Cvs.nil) (qb2 x (by omega)) ?_;simp only[qA.layE,AV.rows,Qq,Qo,lNa,lAn,lCa,WD,nZa];simp only[go_sem];refine qX (k:=5) (by rfl) (by simp only[go_sem]) ⟨_,rfl⟩ (by decide) ?_;simp only[go_sem];have fm2:∀{o:List qD},(f++o)[h.length]?=some (.map (QL R (qk R N.length))):=fun{o}=>by rw[gAl (qc fm)];exact fm
   refine Sem.loop (fun j:Nat=>j<=x.Ports.length/\True) (fun j=>(⟨[(0,.ptr nid 0 0),(5,.map h.length),(25,.slice 1 lid 0 (qk R N.length).length false),(26,.int .i64 ((qk R N.length).length:Nat)),(27,.int .i64 (i:Nat)),(41,.int .i64 (x.Ports.length:Nat)),(42,.int .i64 (j:Nat))],
    [(4,.agg [.nils]),(8,.agg [.slice 5 oid 0 i false]),(11,.agg [.int .i64 x.Kind,.int .i64 x.Level,.int .i64 x.Value,.slice 1 f.length 0 x.Data.length false,.slice 2 (f.length+1) 0 x.Ports.length false])],f++[.row 1 (x.Data.map qK) true,.row 2 ((jy (ZX R) x.Ports j).map qG.enc) true]⟩:VSt)) (fun j=>x.Ports.length-j) 0 (by kernel_rfl) ⟨nZl _,trivial⟩
    (by rw[YG];exact Can.sub (by simp[go_sem]) (by simp[go_sem])) ?_
   rintro j ⟨hj,_⟩;simp only[go_sem];apply qM<;>intro hc<;>simp only[hc,go_sem]
   ·have hlj:j<x.Ports.length:=by have:=odT hc;omega
    clear hc;have hq:=hpx j _ (gEg hlj);have hm:((jy (ZX R) x.Ports j).map qG.enc)[j]?=some (x.Ports[j].enc):=by rw[gMp,YH hlj];rfl
    have em:x.Ports[j].Agent.toNat∈qk R N.length:=qCO.2 ⟨by omega,hq.2.2⟩;have eu:lku (.int .i64 0) false (.int .i64 x.Ports[j].Agent) (QL R (qk R N.length))=some (.int .i64 (qz R x.Ports[j].Agent.toNat:Nat)):=by
     have:=qB5 (z:=.int .i64 0) (v:=fun k=>.int .i64 (qz R k:Nat)) em;unfold kI at this;rw[show ((x.Ports[j].Agent.toNat:Nat):Int)=x.Ports[j].Agent by omega]at this;exact this
    simp only[Jg hlj,QW,hm,YA fm2,eu,go_sem];refine qu rfl QW hm YR ?_;have ep:(⟨(qz R x.Ports[j].Agent.toNat:Nat),x.Ports[j].Slot⟩:qG)=ZX R x.Ports[j]:=rfl;rw[ep,<-List.map_set,YJ hlj,UF];simp only[go_sem];have:x.Ports.length<=1000:=by omega
    simp only[qe (show j<4611686018427387904 by omega)];refine qd (j+1) ⟨by omega, ?_⟩ (by omega) (Can.sub (by simp[go_sem]) (by simp[go_sem]));trivial
   ·have hlj:j=x.Ports.length:=by have:=odF hc;omega
    clear hc;subst hlj;rw[YI];have lo2:=qc ho;refine z9 (len:=i) (x:=.agg [.int .i64 x.Kind,.int .i64 x.Level,.int .i64 x.Value,.slice 1 f.length 0 x.Data.length false,.slice 2 (f.length+1) 0 x.Ports.length false]) (w:=5) (by simp) (by rw[gAl (by simp;omega),gAl lo2];exact ho) (by simpa using lpk) (by omega) ?_;have eP:x.Ports.map (ZX R)=(jH R x).Ports:=rfl;rw[eP];have hX:(AV.agg [.int .i64 x.Kind,.int .i64 x.Level,.int .i64 x.Value,.slice 1 f.length 0 x.Data.length false,.slice 2 (f.length+1) 0 x.Ports.length false])=.agg [.int .i64 (jH R x).Kind,.int .i64 (jH R x).Level,.int .i64 (jH R x).Value,.slice 1 f.length 0 (jH R x).Data.length false,.slice 2 (f.length+1) 0 (jH R x).Ports.length false]:=by simp[jH]
    obtain⟨G',c1,m1,q1,_⟩:=qcN (x:=jH R x) (base:=h1.length) ho hoid hX _ rfl;have em:((zx N R).take i).map qA.enc++[(jH R x).enc]=((zx N R).take (i+1)).map qA.enc:=by rw[pks];simp
    rw[em]at m1;simp only[go_sem];simp only[lAp,nZa,qe (show i<4611686018427387904 by omega),go_sem];exact qd (i+1,G',f.length+3) ⟨hlt,jk.trans q1,by simp only;omega,m1⟩ (by simp only;omega) ((c1 _ _ _).trans (Can.sub (by simp[go_sem]) (by simp[go_sem])))
  ·have hlt:i=(qk R N.length).length:=by have:=odF hc;omega
   clear hc;subst hlt;have ep:(zx N R).take (qk R N.length).length=zx N R:=List.take_of_length_le (by rw[YQ];exact nLr _);rw[ep]at ho lpk;have k2:=k1.trans (jk.up k1.l);refine⟨f.drop h.length,k2.split, ?_⟩;have e2:(w8 h.length++f.drop h.length)[oid]?=f[oid]?:=by
    have:=k1.l;rw[gAr (by simp[w8];omega),gDr];simp only[w8,lLr];congr 1;omega
   simp only[go_sem,qC.enc];exact .agg rfl (zL (Cv.row (e2.trans ho) (by simpa using lpk) (qU qA.isSh.tree _) (by decide)) fun p hp=>by simp at hp)
end
@[go_sem] theorem qm4{w:Nat}:(AV.map w).cells=[.map w]:=rfl
theorem c984{d:qJ}{A B c x df k:Int}{y:Nat}(hy:y<d.Origins.length)(hk:0<=k/\k<=1000000):Pure Gm 984 [.ept d.enc 0,.agg [.int .i64 A,.int .i64 B,.int .i64 c,.int .i64 x,.int .i64 (y:Nat),.int .i64 df],.int .i64 k] ((Jt c k d.At df (d.Origins.getD y ⟨0,0,0⟩)).enc):=by
 have e:d.Origins.getD y ⟨0,0,0⟩=d.Origins[y]:=by rw[lGd,gEg hy];rfl
 rw[e];have hw:IntKind.i64.wrap (k+1)=k+1:=qf (by omega) (by omega);refine pI F984 (by simp[AV.trees,AV.tree,go_sem]) (by simp only[qE.tr]) ?_;simp only[F984,qQ,go_sem];refine qV rfl ?_;simp only[go_sem];refine qX (k:=3) (by rfl) (by simp only[go_sem]) ⟨_,rfl⟩ (by decide) ?_;simp only[go_sem];apply qh<;>intro hc<;>simp only[hc,go_sem]
 ·have c3:c=3:=by simpa using hc
  clear hc;apply qM<;>intro hc<;>simp only[hc,go_sem]
  ·have k2:k<2:=by simpa using hc
   clear hc;simp only[gMp,gEg hy,oMs,go_sem];refine qX rfl rfl ⟨_,rfl⟩ (by decide) ?_;simp only[go_sem];refine qR qE.tr ?_;unfold Jt;rw[if_pos ⟨c3,k2⟩];rfl
  ·have k2:¬k<2:=by simpa using hc
   clear hc;simp only[show decide (c=7)=false from decide_eq_false (by omega),go_sem];refine qX rfl rfl ⟨_,rfl⟩ (by decide) ?_;simp only[go_sem];refine qR qE.tr ?_;unfold Jt;rw[if_neg (by omega),if_neg (by omega)];rfl
 ·have c3:¬c=3:=by simpa using hc
  clear hc;apply qM<;>intro hc<;>simp only[hc,go_sem]
  ·have c7:c=7:=by simpa using hc
   clear hc;simp only[hw,go_sem];refine qX rfl rfl ⟨_,rfl⟩ (by decide) ?_;simp only[go_sem];refine qR qE.tr ?_;unfold Jt;rw[if_neg (by omega),if_pos c7];rfl
  ·have c7:¬c=7:=by simpa using hc
   refine qX rfl rfl ⟨_,rfl⟩ (by decide) ?_;simp only[go_sem];refine qR qE.tr ?_;unfold Jt;rw[if_neg (by omega),if_neg c7];rfl
section
variable {w:Nat} {post:List AV} {bk:List qC} {base nid mid:Nat} {h:List qD} {N:Ags} {K:AV->List qD->Prop} {R:Nat->Bool} {ks:List Nat}
theorem s982{n:qC}(hz:n.sz<=1048576)(h0:0<n.Agents.length)(hK:∀H H' mid nid,(∀b s m,Can b ⟨s,m,H⟩ ⟨s,m,H'⟩)->RW bk (wL []) mid h.length nid H' n.Agents->h.length<=mid->Keep h.length h H'->K (.ptr nid 0 0) H):SCall Gm 982 [.lst 1 (bk.map qC.enc) false,n.enc] h K:=by
 refine sI F982 ?_;simp only[F982,qQ,go_sem];refine qV (by simp only[go_sem]) ?_;simp only[go_sem];refine zW (Wr n hz) ?_;have eL:(lay n.enc h.length)=(.agg [.slice 5 h.length 0 n.Agents.length false],.row 5 (qN (n.Agents.map qA.enc) (h.length+1)).1 true::(qN (n.Agents.map qA.enc) (h.length+1)).2):=by rw[qC.layE,lAn];rfl
 rw[eL];simp only[go_sem];obtain⟨H0,eH⟩:∃H0,H0=h++qD.row 5 (qN (n.Agents.map qA.enc) (h.length+1)).1 true::(qN (n.Agents.map qA.enc) (h.length+1)).2:=⟨_,rfl⟩;rw[<-eH];have f1:H0[h.length]?=some (.row 5 (qN (n.Agents.map qA.enc) (h.length+1)).1 true):=by rw[eH,gAr (nLr _),nSs];rfl
 have f2:∀i o,(qN (n.Agents.map qA.enc) (h.length+1)).2[i]?=some o->H0[h.length+1+i]?=some o:=fun i o ho=>by rw[eH,gAr (by omega),show h.length+1+i-h.length=i+1 by omega,List.getElem?_cons_succ];exact ho
 have f3:H0.length=h.length+1+2*n.Agents.length:=by rw[eH];simp[Zw];omega
 have f4:∀j,j<h.length->H0[j]?=h[j]?:=fun j hj=>by rw[eH,gAl hj]
 clear eH eL;refine Xz rfl ?_;simp only[go_sem];have g1:∀j,j<H0.length->(H0++[qD.map []]++[qD.row 3 [.agg [.slice 5 h.length 0 n.Agents.length false,.lst 1 (bk.map qC.enc) false,.map H0.length]] true])[j]?=H0[j]?:=fun j hj=>by rw[gAl (by simp;omega),gAl hj]
 obtain⟨h2,c2,n2,k2,_,k3⟩:=NA.ofLay (w:=3) (post:=[.lst 1 (bk.map qC.enc) false,.map H0.length]) (base:=h.length) (nid:=(H0++[qD.map []]).length) (aid:=h.length) (N:=n.Agents) (h:=H0++[qD.map []]++[qD.row 3 [.agg [.slice 5 h.length 0 n.Agents.length false,.lst 1 (bk.map qC.enc) false,.map H0.length]] true]) gCl
  (by rw[g1 _ (by omega)];exact f1)
  (fun i o hi=>by
   have:=qc hi;rw[Zw]at this;rw[g1 _ (by omega)];exact f2 i o hi) h0 (.inr (by simp;omega)) (by simp;omega) (nLr _)
 refine hK _ h2 H0.length _ c2 ⟨⟨_,_,n2⟩, ?_⟩ (by omega) ⟨by have:=k2.l;simp at this;omega,fun j hj=>by rw[k2.k _ hj,g1 _ (by omega),f4 _ hj]⟩;rw[k3 _ (.inr (by omega)),gAl (by simp)];exact gCl
theorem qjV{i:Nat}:(qk R (i+1)).map kI=(qk R i).map kI++if R i then []else [kI i]:=by rw[YP];split<;>simp
theorem s985(hR:RW bk (wL ks) mid base nid h N)(hk:∀k,k<N.length->(k∈ks↔R k=true))(hp:∀k x,N[k]?=some x->R k=false->∀(s:Nat)(q:qG),x.Ports[s]?=some q->0<=q.Agent/\q.Agent<N.length/\R q.Agent.toNat=false)(hz:∀x∈N,x.sz<=1000)(hln:N.length<=10000)
  (hK:∀h',Keep h.length h h'->K (qC.enc ⟨zx N R⟩) h'):SCall Gm 985 [.ptr nid 0 0] h K:=by
 refine sI F985 ?_;obtain⟨aid,ps,hNA⟩:=hR.n;simp only[F985,qQ,go_sem,hNA.o];refine Sem.loop (α:=Nat×List qD×Nat) (fun q=>q.1<=N.length/\Keep h.length h q.2.1/\h.length<=q.2.2/\q.2.1[q.2.2]?=some (.row 1 ((qk R q.1).map kI) true))
  (fun q=>(⟨[(0,.ptr nid 0 0),(3,.slice 1 q.2.2 0 (qk R q.1).length false),(10,.int .i64 (N.length:Nat)),(11,.int .i64 (q.1:Nat))],[(2,.agg [.nils])],q.2.1⟩:VSt)) (fun q=>N.length-q.1) (0,h++[.row 1 [] true],h.length) (by kernel_rfl)
  ⟨nZl _,Keep.app (nLr _),nLr _,by simp[qk]⟩
  (Can.ph (WkN.same rfl (WkN.cons rfl (Wk.ph (by simp)) (WkN.same rfl (WkN.same rfl WkN.nil)))) (WkN.same rfl WkN.nil)) ?_
 rintro⟨i,g,oid⟩ ⟨hi,jk,hoid,ho⟩;simp only at hi jk hoid ho;have gN:=hR.n.keep jk;have gm:g[mid]?=some (.map (wL ks)):=(jk.k _ (qc hR.m)).trans hR.m;have on:g[nid]?=_:=(jk.k _ hNA.lt).trans hNA.o;simp only[go_sem];apply qM<;>intro hc<;>simp only[hc,go_sem]
 ·have hlt:i<N.length:=by have:=odT hc;omega
  clear hc;have hki:=hk i hlt;have os:=qjV (R:=R) (i:=i);have cs:=JJ (R:=R) (n:=i);have cl:=ZA (R:=R) (n:=i);unfold qz at cs cl;by_cases q:R i=true
  ·have eu:lku (.bool false) false (.int .i64 (i:Nat)) (wL ks)=some (.bool true):=qB5 (v:=fun _=>.bool true) (hki.2 q);rw[q,if_pos rfl]at os cs;rw[lAn]at os;simp only[on,YA gm,eu,go_sem];simp only[qe (show i<4611686018427387904 by omega)];exact qd (i+1,g,oid) ⟨hlt,jk,hoid,by simp only;rw[os];exact ho⟩ (by simp only;omega) (Can.sub (by simp[go_sem,cs]) (by simp[go_sem]))
  ·have q:R i=false:=by simpa using q
   have eu:lku (.bool false) false (.int .i64 (i:Nat)) (wL ks)=some (.bool false):=qbP (v:=fun _=>.bool true) (fun e=>by rw[hki.1 e]at q;cases q);rw[q]at os cs;simp only[bFt,if_false]at os cs;simp only[on,YA gm,eu,go_sem];obtain⟨r1,r2⟩:=JX (tmp:=.row 1 [.int .i64 (i:Nat)] true) ho;obtain⟨q1,q2⟩:=Z8 (x:=.int .i64 (i:Nat)) (tmp:=.row 1 [.int .i64 (i:Nat)] true) jk (nLr _) hoid ho;refine z9 r2 r1 (by simp) (by omega) ?_;simp only[lAp,nZa,qe (show i<4611686018427387904 by omega),<-cs,go_sem];exact qd (i+1,_,g.length+1) ⟨hlt,q1,by have:=jk.l;simp only;omega,by simp only;rw[os];exact q2⟩ (by simp only;omega) (Can.sub (by simp[go_sem]) (by simp[go_sem]))
 ·have hlt:i=N.length:=by have:=odF hc;omega
  clear hc;subst hlt;refine qZ (s702 gN ho (fun k x hx hr=>hp k x hx hr) hz hln fun ex=> ?_);simp only[qC.enc,go_sem];exact hK _ (jk.trans (Keep.app jk.l))
end
theorem c798(n:qC)(hz:n.sz<=1048576):Pure Gm 798 [n.enc] n.enc:=(Wr n hz).pure (by rw[qC.cnx]) qC.tr
theorem c799(xs:List qE)(hz:xs.length<=4194304):Pure Gm 799 [.lst 3 (xs.map qE.enc) false] (.lst 3 (xs.map qE.enc) false):=
 (n799 xs hz).pure (by simp only[AV.cn];simp[je (enc:=qE.enc) (fun x=>qE.cnx x)]) (by simp only[AV.tree];exact qU qE.isSh.tree _)
section
variable {base did pid:Nat} {h:List qD} {d:qJ} {K:AV->List qD->Prop}
theorem s986(hD:DA base did pid h d)(hn:d.Net.sz<=1048576)(ho:d.Origins.length<=4194304)(hp:d.Points.length<=1048576)(hK:∀h' pid',DA base did pid' h' {d with Points:=d.Points++[⟨d.At,d.Net,d.Origins⟩]}->Keep base h h'->K (.tup []) h'):SCall Gm 986 [.ptr did 0 0] h K:=by
 have hD':=hD.o';refine sI F986 ?_;simp only[F986,qQ,go_sem,hD'];refine qO (c798 d.Net hn) ?_;simp only[qC.enc,go_sem];refine qO (c799 d.Origins ho) ?_;simp only[go_sem];obtain⟨r1,r2⟩:=JX (tmp:=.row 3 [(⟨d.At,d.Net,d.Origins⟩:qF).enc] true) hD.p;refine z9 r2 r1 (by simp) (by omega) ?_;simp only[go_sem];obtain⟨q1,q2⟩:=Z8 (x:=(⟨d.At,d.Net,d.Origins⟩:qF).enc) (tmp:=.row 3 [(⟨d.At,d.Net,d.Origins⟩:qF).enc] true) (Keep.refl (b:=base)) hD.bl hD.b2 hD.p;have b0:=hD.l1;have ob:(((h++[qD.row 3 [(⟨d.At,d.Net,d.Origins⟩:qF).enc] true]).set pid .dead)++[qD.row 3 (d.Points.map qF.enc++[(⟨d.At,d.Net,d.Origins⟩:qF).enc]) true])[did]?=h[did]?:=by
  rw[gAl (by simp;omega),gSn (Ne.symm hD.n),gAl b0]
 simp only[lAp,lCo,lNi,nZa];refine qu (e':=zH {d with Points:=d.Points++[⟨d.At,d.Net,d.Origins⟩]} (h.length+1)) rfl (ob.trans hD') rfl (by simp[zH,AV.put,AV.cells]) ?_;simp only[lSz];simp only[go_sem];refine hK _ (h.length+1) ⟨?_, ?_,by omega,hD.b1,by have:=hD.bl;omega⟩ (q1.trans (Keep.set hD.b1))
 ·rw[gSs (by simp;omega)]
 ·rw[gSn (by omega),lMa];exact q2
end
def upU(d:qJ):AV:=.agg [.int .i64 (upP d).A,.int .i64 (upP d).B,.int .i64 (upC d),.int .i64 (upX d),.int .i64 (upY d),.int .i64 (upD d)]
theorem qmK{d:qJ}(ok:qp d.Net=true)(hne:qx d.Net≠[]):∃(A B:Nat)(u v:qA),upP d=⟨(A:Int),(B:Int)⟩/\d.Net.Agents[A]?=some u/\d.Net.Agents[B]?=some v/\
  ((zN u v=true/\d.pA=B/\d.pB=A/\d.xA=v/\d.yB=u)\/(zN u v=false/\d.pA=A/\d.pB=B/\d.xA=u/\d.yB=v))/\(upC d≠8->upY d=(d.pB:Int)):=by
 have hl:0<(qx d.Net).length:=by cases hq:qx d.Net with
  | nil=>exact absurd hq hne
  | cons a b=>simp
 obtain⟨sl,e⟩:=UP hl;have hm:upP d∈qx d.Net:=by rw[e];exact gMm sl
 obtain⟨i,j,e1,h0,h1,h2⟩:=qcP hm;obtain⟨b',t',e3,h3,_,_⟩:=Qs ok i 0 _ h2 id;obtain⟨rfl,rfl⟩:=JC.1 e3;have li:=w7 h2;have lj:=w7 h3;have gi:d.Net.Agents[i]?=some d.Net.Agents[i]:=gEg li;have gj:d.Net.Agents[j]?=some d.Net.Agents[j]:=gEg lj;have ai:zA d.Net (i:Int)=d.Net.Agents[i]:=by simp[zA,gi]
 have aj:zA d.Net (j:Int)=d.Net.Agents[j]:=by simp[zA,gj]
 refine⟨i,j,_,_,e1,gi,gj, ?_,fun h8=> ?_⟩
 ·unfold qJ.pA qJ.pB qJ.xA qJ.yB jF;rw[e1];simp only[ai,aj];cases q:zN d.Net.Agents[i] d.Net.Agents[j]
  ·right;simp[ai,aj]
  ·left;simp[ai,aj]
 ·unfold qJ.pB jF;simp only[upY,upS,h8,decide_false,Bool.not_false,Bool.and_true];rw[e1];simp only[ai,aj];cases q:zN d.Net.Agents[i] d.Net.Agents[j]<;>simp
theorem qA0{c:Int}{a b k:Nat}:k∈jr c a b↔qr c a b k=true:=by
 unfold jr qr;by_cases h:c=7<;>simp[h]
section
variable {bk:List qC} {N:Ags} {a b:Nat} {x y:qA}
theorem zO.hp2(G:zO bk N a b x y):∀k z,(qm bk N a b x y)[k]?=some z->qr (qS x y) a b k=false->∀(s:Nat)(q:qG),z.Ports[s]?=some q->0<=q.Agent/\q.Agent<(qm bk N a b x y).length/\qr (qS x y) a b q.Agent.toNat=false:=fun k z hz hr s q hq=>by
 obtain⟨b',t',e,h2,h3,_⟩:=qAC G k s q (jc.2 ⟨z,hz,hq⟩) (by simp[hr]);subst e;have:=w7 h2;exact⟨by simp only[pt];omega,by simp only[pt];omega,by simpa[pt]using h3⟩
theorem zO.hz2(G:zO bk N a b x y):∀z∈qm bk N a b x y,z.sz<=1000:=fun z hz=>by
 obtain⟨k,hk⟩:=List.getElem?_of_mem hz;have:=Qu (Yp G k z hk).1;omega
end
section
variable {base did pid:Nat} {h:List qD} {d:qJ} {K:AV->List qD->Prop}
theorem s608(hD:DA base did pid h d)(hI:DI d)(hne:qx d.Net≠[])(hlt:¬4000<=d.At)(hK1:d.stepC≠0->∀h',Keep base h h'->K (.int .i64 d.stepC) h')
  (hK2:d.stepC=0->zO d.Book d.Net.Agents d.pA d.pB d.xA d.yB->∀h' pid',DA base did pid' h' d.stepT->Keep base h h'->K (.int .i64 0) h'):SCall Gm 608 [.ptr did 0 0,upU d] h K:=by
 have hD':=hD.o';obtain⟨nsz,ok,hsch,hAt,hbr,hbl⟩:=hI.r;have bl:=hD.bl;have ha:=zB.1 hAt;obtain⟨A,a0,b0,hf,eo⟩:=qCG ok hne;obtain⟨A',B',u,v,eP,hu,hv,hsw,eY⟩:=qmK ok hne;have la:=A.pr.la;have lb:=A.pr.lb;have ed:d.stepC=if (qy d.Book d.xA d.yB).2≠0 then(qy d.Book d.xA d.yB).2 else if 600<(d.Net.Agents.length:Int)+(qy d.Book d.xA d.yB).1 then 4 else 0:=by unfold qJ.stepC;rw[if_neg hne,if_neg hlt]
 have eC:upC d=qS d.xA d.yB:=UO d;refine SCall.run [] [80] (gk _ kW) (by kernel_rfl) rfl ?_;simp only[kW,qQ,upU,eP,go_sem];refine qV (by simp only[go_sem]) ?_;simp only[bPl,Nat.reduceBEq,go_sem];simp only[hD',go_sem];have q0:=Z3 ok;refine qZ (s982 (bk:=d.Book) (n:=d.Net) nsz q0 fun H H1 mid nid c1 hR hmid k1=> ?_);simp only[bPl,Nat.reduceBEq,go_sem];refine qZ (s983 (A:=A') (B:=B') c1 hR hmid ok hI.bk A a0 b0 hf hu hv hsw (fun q=> ?_) (fun q q2=> ?_) fun G h3 hR3 k3=> ?_)
 ·rw[ed,if_pos q]at hK1;simp only[bPl,Nat.reduceBEq,go_sem];simp only[q,decide_false,Bool.not_false];simp only[bPl,Nat.reduceBEq,go_sem];exact hK1 q _ (k1.up bl)
 ·rw[ed,if_neg (by simpa using q),if_pos q2]at hK1;simp only[bPl,Nat.reduceBEq,go_sem];simp only[Int.reduceEq,decide_false,Bool.not_false];simp only[bPl,Nat.reduceBEq,go_sem];exact hK1 (by decide) _ (k1.up bl)
 have hK:=fun q=>hK2 q G;rw[ed,if_neg (by simpa using G.g),if_neg (by have:=G.full;omega)]at hK;have hK:=hK rfl;clear hK1 hK2;have k3':=k1.trans k3;clear k1 k3 c1 hR;have hD3:=hD.keep k3';have hD3':=hD3.o';have eAt:IntKind.i64.wrap (d.At+1)=d.At+1:=qf (by omega) (by omega);simp only[bPl,Nat.reduceBEq,go_sem];simp only[hD3',eAt,go_sem];refine qu (e':=zH {d with At:=d.At+1} pid) rfl hD3' rfl rfl ?_;have d0:=hD.l1;have d1:=hD.l2;have g3:=k3'.l;simp only[lSz];have hD4:=hD3.put (d':={d with At:=d.At+1}) rfl;have e4:∀j,j≠did->(h3.set did (.row 8 [zH {d with At:=d.At+1} pid] true))[j]?=h3[j]?:=fun j hj=>by rw[gSn (Ne.symm hj)]
 have g4:(h3.set did (.row 8 [zH {d with At:=d.At+1} pid] true)).length=h3.length:=by rw[lLs]
 generalize h3.set did (.row 8 [zH {d with At:=d.At+1} pid] true)=h4 at hD4 e4 g4|-;obtain⟨aid,ps,n3⟩:=hR3.n;have hR4:RW d.Book (wL (jr (qS d.xA d.yB) d.pA d.pB)) mid h.length nid h4 (qm d.Book d.Net.Agents d.pA d.pB d.xA d.yB):=by
  refine⟨⟨aid,ps,n3.heap (e4 _ (by have:=n3.b1;omega)) (e4 _ (by have:=n3.b2;omega)) fun q hq=>e4 _ (by have:=n3.b3 q hq;omega)⟩, ?_⟩;rw[e4 _ (by omega)];exact hR3.m
 have k4:Keep base h h4:=⟨by omega,fun j hj=>(e4 j (by have:=hD.b1;omega)).trans (k3'.k j (by omega))⟩;clear hD3 hD3' n3 hR3 k3';obtain⟨aid,ps,n4⟩:=hR4.n;have hlM:=G.hl;have eU:AV.agg [.int .i64 (A':Int),.int .i64 (B':Int),.int .i64 (upC d),.int .i64 (upX d),.int .i64 (upY d),.int .i64 (upD d)]=.agg [.int .i64 (A':Int),.int .i64 (B':Int),.int .i64 (upC d),.int .i64 (upX d),.int .i64 (d.pB:Int),.int .i64 (upD d)]:=by rw[eY (by rw[eC];exact G.c8)]
 rw[eU];simp only[bPl,Nat.reduceBEq,go_sem];simp only[n4.o,go_sem];refine Sem.loop (α:=Nat×List qD×Nat) (fun q=>q.1<=(qm d.Book d.Net.Agents d.pA d.pB d.xA d.yB).length/\Keep h4.length h4 q.2.1/\h4.length<=q.2.2/\q.2.1[q.2.2]?=some (.row 3 ((jh d.Origins (qr (upC d) d.pA d.pB) (upC d) (d.At+1) (upD d) (d.Origins.getD d.pB ⟨0,0,0⟩) q.1).map qE.enc) true))
  (fun q=>(⟨[(0,.ptr did 0 0),(5,.ptr nid 0 0),(7,.slice 3 q.2.2 0 (qz (qr (upC d) d.pA d.pB) q.1) false),(37,.int .i64 ((qm d.Book d.Net.Agents d.pA d.pB d.xA d.yB).length:Nat)),(38,.int .i64 (q.1:Nat))],[(3,.agg [.int .i64 (A':Int),.int .i64 (B':Int),.int .i64 (upC d),.int .i64 (upX d),.int .i64 (d.pB:Int),.int .i64 (upD d)])],q.2.1⟩:VSt)) (fun q=>(qm d.Book d.Net.Agents d.pA d.pB d.xA d.yB).length-q.1) (0,h4++[.row 3 [] true],h4.length) (by kernel_rfl)
  ⟨nZl _,Keep.app (nLr _),nLr _,by simp[jh,qk]⟩
  (Can.ph (WkN.same rfl (WkN.same rfl (WkN.cons rfl (Wk.ph (by simp)) (WkN.same rfl (WkN.same rfl WkN.nil))))) (WkN.same rfl WkN.nil)) ?_
 rintro⟨i,g,lid⟩ ⟨hi,hk,hlid,hr⟩;simp only at hi hk hlid hr;have gl:=hk.l;have gN:g[nid]?=_:=(hk.k _ n4.lt).trans n4.o;have gm:g[mid]?=_:=(hk.k _ (qc hR4.m)).trans hR4.m;have gD:=hD4.keep hk;have gd:=gD.o';have mapS:∀{l:List qE}{o:qE},l.map qE.enc++[o.enc]=(l++[o]).map qE.enc:=fun{l o}=>by simp
 simp only[bPl,Nat.reduceBEq,jl,jm,jn,jo,jp,ji,go_sem];apply qM<;>intro hc<;>simp only[hc,go_sem]
 ·have hlt:i<(qm d.Book d.Net.Agents d.pA d.pB d.xA d.yB).length:=by have:=odT hc;omega
  clear hc;have os:=qcK (os:=d.Origins) (R:=qr (upC d) d.pA d.pB) (c:=upC d) (st:=d.At+1) (df:=upD d) (o2:=d.Origins.getD d.pB ⟨0,0,0⟩) (n:=i);have cs:=JJ (R:=qr (upC d) d.pA d.pB) (n:=i);have cl:=ZA (R:=qr (upC d) d.pA d.pB) (n:=i);by_cases q:qr (upC d) d.pA d.pB i=true
  ·have eu:lku (.bool false) false (.int .i64 (i:Nat)) (wL (jr (qS d.xA d.yB) d.pA d.pB))=some (.bool true):=qB5 (v:=fun _=>.bool true) (qA0.2 (by rw[<-eC];exact q));rw[q,if_pos rfl]at os cs;rw[lAn]at os;rw[nAz]at cs;simp only[bPl,Nat.reduceBEq,jl,jm,jn,jo,jp,ji,go_sem];simp only[gN,YA gm,eu,go_sem];simp only[bPl,Nat.reduceBEq,jl,jm,jn,jo,jp,ji,go_sem];simp only[qe (show i<4611686018427387904 by omega)];exact qd (i+1,g,lid) ⟨hlt,hk,hlid,by simp only;rw[os];exact hr⟩ (by simp only;omega) (Can.sub (by simp[go_sem,cs]) (by simp[go_sem]))
  ·have hr0:qr (upC d) d.pA d.pB i=false:=by simpa using q
   have eu:lku (.bool false) false (.int .i64 (i:Nat)) (wL (jr (qS d.xA d.yB) d.pA d.pB))=some (.bool false):=qbP (v:=fun _=>.bool true) (fun e=>by rw[eC]at q;exact q (qA0.1 e));rw[hr0]at os cs;simp only[bFt,if_false]at os cs;simp only[bPl,Nat.reduceBEq,jl,jm,jn,jo,jp,ji,go_sem];simp only[gN,YA gm,eu,go_sem];simp only[bPl,Nat.reduceBEq,jl,jm,jn,jo,jp,ji,go_sem];simp only[gd,go_sem];have nx:∀(o:qE),jh d.Origins (qr (upC d) d.pA d.pB) (upC d) (d.At+1) (upD d) (d.Origins.getD d.pB ⟨0,0,0⟩) (i+1)=jh d.Origins (qr (upC d) d.pA d.pB) (upC d) (d.At+1) (upD d) (d.Origins.getD d.pB ⟨0,0,0⟩) i++[o]->
     Keep h4.length h4 (((g++[qD.row 3 [o.enc] true]).set lid .dead)++[.row 3 ((jh d.Origins (qr (upC d) d.pA d.pB) (upC d) (d.At+1) (upD d) (d.Origins.getD d.pB ⟨0,0,0⟩) i).map qE.enc++[o.enc]) true])/\
     (((g++[qD.row 3 [o.enc] true]).set lid .dead)++[.row 3 ((jh d.Origins (qr (upC d) d.pA d.pB) (upC d) (d.At+1) (upD d) (d.Origins.getD d.pB ⟨0,0,0⟩) i).map qE.enc++[o.enc]) true])[g.length+1]?=some (.row 3 ((jh d.Origins (qr (upC d) d.pA d.pB) (upC d) (d.At+1) (upD d) (d.Origins.getD d.pB ⟨0,0,0⟩) (i+1)).map qE.enc) true):=fun o e=>by
    obtain⟨q1,q2⟩:=Z8 (x:=o.enc) (tmp:=.row 3 [o.enc] true) hk (nLr _) hlid hr;exact⟨q1,by rw[e,lMa];exact q2⟩
   apply qM<;>intro hc<;>simp only[hc,go_sem]
   ·have hio:i<d.Origins.length:=by have:=odT hc;omega
    have eo:d.Origins.getD i ⟨0,0,0⟩=d.Origins[i]:=by rw[lGd,gEg hio];rfl
    rw[if_pos hio,eo]at os;obtain⟨r1,r2⟩:=JX (tmp:=.row 3 [d.Origins[i].enc] true) hr;obtain⟨q1,q2⟩:=nx _ os;simp only[bPl,Nat.reduceBEq,jl,jm,jn,jo,jp,ji,go_sem];simp only[gd,gMp,gEg hio,oMs,go_sem];refine z9 r2 r1 (by simp[Z7]) (by omega) ?_;simp only[bPl,Nat.reduceBEq,jl,jm,jn,jo,jp,ji,go_sem];simp only[lAp,lCo,lNi,nZa,qe (show i<4611686018427387904 by omega),<-cs];exact qd (i+1,_,g.length+1) ⟨hlt,q1,by simp only;omega,q2⟩ (by simp only;omega) (Can.sub (by simp[go_sem]) (by simp[go_sem]))
   ·have hio:¬i<d.Origins.length:=by have:=odF hc;omega
    rw[if_neg hio]at os;have ew:IntKind.i64.wrap ((i:Int)-(d.Origins.length:Nat))=((i-d.Origins.length:Nat):Int):=by have:=jg ok;have:=hI.os;rw[qf (by omega) (by omega)];omega
    obtain⟨r1,r2⟩:=JX (tmp:=.row 3 [(Jt (upC d) ((i-d.Origins.length:Nat):Int) (d.At+1) (upD d) (d.Origins.getD d.pB ⟨0,0,0⟩)).enc] true) hr;obtain⟨q1,q2⟩:=nx _ os;simp only[bPl,Nat.reduceBEq,jl,jm,jn,jo,jp,ji,go_sem];simp only[gd,ew,go_sem];refine wD (Cvs.cons (gD.cv 0) (Cvs.cons (.refl rfl) (Cvs.cons (.refl rfl) Cvs.nil))) (c984 (d:={d with At:=d.At+1}) (by rw[hI.os];exact lb) (by omega)) (by simp only[qE.enc];rfl) ?_;simp only[bPl,Nat.reduceBEq,jl,jm,jn,jo,jp,ji,go_sem];refine z9 r2 r1 (by simp[Z7]) (by omega) ?_;simp only[bPl,Nat.reduceBEq,jl,jm,jn,jo,jp,ji,go_sem];simp only[lAp,lCo,lNi,nZa,qe (show i<4611686018427387904 by omega),<-cs];exact qd (i+1,_,g.length+1) ⟨hlt,q1,by simp only;omega,q2⟩ (by simp only;omega) (Can.sub (by simp[go_sem]) (by simp[go_sem]))
 ·have hlt:i=(qm d.Book d.Net.Agents d.pA d.pB d.xA d.yB).length:=by have:=odF hc;omega
  clear hc;subst hlt;simp only[bPl,Nat.reduceBEq,jl,jm,jn,jo,jp,ji,go_sem];have lidl:=qc hr;have eS:jh d.Origins (qr (upC d) d.pA d.pB) (upC d) (d.At+1) (upD d) (d.Origins.getD d.pB ⟨0,0,0⟩) (qm d.Book d.Net.Agents d.pA d.pB d.xA d.yB).length=d.stepO:=rfl;rw[eS]at hr;have lS:qz (qr (upC d) d.pA d.pB) (qm d.Book d.Net.Agents d.pA d.pB d.xA d.yB).length=d.stepO.length:=by rw[<-eS,Z7]
  refine Sem.can (Can.give (s':=[(0,.ptr did 0 0),(5,.ptr nid 0 0),(7,.lst 3 (d.stepO.map qE.enc) false)]) (m':=[]) [lid] (GvS.same (by simp[go_sem]) (GvS.same (by simp[go_sem]) (GvS.cons (v:=.slice 3 lid 0 (qz (qr (upC d) d.pA d.pB) (qm d.Book d.Net.Agents d.pA d.pB d.xA d.yB).length) false) (by simp[go_sem]) (Cv.row (by rw[Jl (by simp)];exact hr) (by rw[lS];simp) (qU qE.isSh.tree _) (by decide)) (by simp only[AV.tree];exact qU qE.isSh.tree _) .nil))) .nil) (Sem.reg (by kernel_rfl) ?_);have e8:∀j,j≠lid->(without [lid] g)[j]?=g[j]?:=fun j hj=>wl (by simpa using hj);have gd8:=gD.heap (e8 did (by have:=hD4.l1;omega)) (e8 pid (by have:=hD4.l2;omega));have hR8:RW d.Book (wL (jr (qS d.xA d.yB) d.pA d.pB)) mid h.length nid (without [lid] g) (qm d.Book d.Net.Agents d.pA d.pB d.xA d.yB):=
   ⟨⟨aid,ps,n4.heap ((e8 _ (by have:=n4.lt;omega)).trans (hk.k _ n4.lt)) ((e8 _ (by have:=n4.lta;omega)).trans (hk.k _ n4.lta)) fun q hq=>(e8 _ (by have:=n4.ltp hq;omega)).trans (hk.k _ (n4.ltp hq))⟩,(e8 _ (by have:=qc hR4.m;omega)).trans gm⟩
  have k8:Keep base h (without [lid] g):=(k4.trans (hk.up (by have:=hD4.bl;omega))).wo (by simp;have:=hD.b1;omega);generalize without [lid] g=h8 at gd8 hR8 k8|-;simp only[bPl,Nat.reduceBEq,jl,jm,jn,jo,jp,ji,go_sem];refine qZ (s985 (R:=qr (qS d.xA d.yB) d.pA d.pB) hR8 (fun k _=>qA0) G.hp2 G.hz2 (by omega) fun h9 k9=> ?_);have eG:(⟨zx (qm d.Book d.Net.Agents d.pA d.pB d.xA d.yB) (qr (qS d.xA d.yB) d.pA d.pB)⟩:qC)=d.stepG:=rfl;rw[eG];have gd9:=gd8.keep k9;have kA:=k8.trans (k9.up gd8.bl);clear k9 gd8 hR8 k8 e8 hR4 hk hr gN gm gD gd n4 e4;have gd9':=gd9.o';simp only[bPl,Nat.reduceBEq,jl,jm,jn,jo,jp,ji,go_sem];refine qu (e':=zH {d with At:=d.At+1,Net:=d.stepG} pid) (by simp only[go_sem]) gd9' rfl rfl ?_;simp only[lSz];have gdA:=gd9.put (d':={d with At:=d.At+1,Net:=d.stepG}) rfl;have kB:=kA.trans (Keep.set (i:=did) (o:=.row 8 [zH {d with At:=d.At+1,Net:=d.stepG} pid] true) hD.b1);generalize h9.set did (.row 8 [zH {d with At:=d.At+1,Net:=d.stepG} pid] true)=hA at gdA kB|-;have gdA':=gdA.o';simp only[bPl,Nat.reduceBEq,jl,jm,jn,jo,jp,ji,go_sem];refine qu (e':=zH {d with At:=d.At+1,Net:=d.stepG,Origins:=d.stepO} pid) rfl gdA' rfl rfl ?_;simp only[lSz];have gdB:=gdA.put (d':={d with At:=d.At+1,Net:=d.stepG,Origins:=d.stepO}) rfl;have kC:=kB.trans (Keep.set (i:=did) (o:=.row 8 [zH {d with At:=d.At+1,Net:=d.stepG,Origins:=d.stepO} pid] true) hD.b1);generalize hA.set did (.row 8 [zH {d with At:=d.At+1,Net:=d.stepG,Origins:=d.stepO} pid] true)=hB at gdB kC|-;have gdB':=gdB.o';have ev:=hI.ev;have ev0:¬d.Every=0:=by omega
  simp only[bPl,Nat.reduceBEq,jl,jm,jn,jo,jp,ji,go_sem];simp only[gdB',if_neg ev0,go_sem];have pm:=hI.pm;have pl:=hI.pl;have ds:=qaB (a:=d.At) (e:=d.Every) ha.1 (by omega);have tb:=JZ (a:=d.At+1) (b:=d.Every) (by omega) (by omega);have tq:IntKind.i64.wrap ((d.At+1).tdiv d.Every)=(d.At+1).tdiv d.Every:=qf (by omega) (by omega);have fin0:¬((d.At+1).tmod d.Every=0/\(d.Points.length:Int)=(d.At+1).tdiv d.Every)->DA base did pid hB d.stepT:=fun q=>by
   have:d.stepT={d with At:=d.At+1,Net:=d.stepG,Origins:=d.stepO}:=by unfold qJ.stepT;rw[if_neg q]
   rw[this];exact gdB
  apply qh<;>intro hc<;>simp only[hc,go_sem]
  ·have h1:(d.At+1).tmod d.Every=0:=by simpa using hc
   clear hc;simp only[gdB',if_neg ev0,tq,go_sem];apply qM<;>intro hc<;>simp only[hc,go_sem]
   ·have h2:(d.Points.length:Int)=(d.At+1).tdiv d.Every:=by have q:(d.Points.length:Int)<=(d.At+1).tdiv d.Every:=(by simpa using hc);omega
    clear hc;simp only[bPl,Nat.reduceBEq,jl,jm,jn,jo,jp,ji,go_sem];have so:=jg (qC9 G);have q2:d.stepO.length<=(qm d.Book d.Net.Agents d.pA d.pB d.xA d.yB).length:=by rw[<-lS];exact ZA
    have sg:d.stepG.sz<=1048576:=by rw[show d.stepG=⟨XH d.Book d.Net.Agents d.pA d.pB d.xA d.yB⟩from rfl];omega
    refine qZ (s986 gdB sg (by simp only;omega) (by simp only;omega) fun hC pid' gdC jC=> ?_);simp only[bPl,Nat.reduceBEq,jl,jm,jn,jo,jp,ji,go_sem];have eT:d.stepT={d with At:=d.At+1,Net:=d.stepG,Origins:=d.stepO,Points:=d.Points++[⟨d.At+1,d.stepG,d.stepO⟩]}:=by unfold qJ.stepT;rw[if_pos ⟨h1,h2⟩]
    exact hK _ pid' (by rw[eT];exact gdC) (kC.trans jC)
   ·have h2:¬(d.Points.length:Int)=(d.At+1).tdiv d.Every:=by have q:¬(d.Points.length:Int)<=(d.At+1).tdiv d.Every:=(by simpa using hc);omega
    simp only[bPl,Nat.reduceBEq,jl,jm,jn,jo,jp,ji,go_sem];exact hK _ pid (fin0 fun q=>h2 q.2) kC
  ·have h1:¬(d.At+1).tmod d.Every=0:=by simpa using hc
   simp only[bPl,Nat.reduceBEq,jl,jm,jn,jo,jp,ji,go_sem];exact hK _ pid (fin0 fun q=>h1 q.1) kC
end
theorem DI.pts{d:qJ}(hI:DI d):∀p∈d.Points,p.Net.sz<=5400/\p.Origins.length<=600:=fun p hp=>by
 obtain⟨i,hi⟩:=List.getElem?_of_mem hp;obtain⟨_,ok,ho⟩:=hI.pv i p hi;have:=jg ok;omega
theorem DI.bks{d:qJ}(hI:DI d):d.Book.length<=24/\∀t∈d.Book,t.sz<=5400:=by
 have h:=hI.bk;unfold wC at h;simp only[bAt,dTe]at h;exact⟨h.1,fun t ht=>(jg (lAt.1 h.2 t ht)).1⟩
theorem DI.sch{d:qJ}(hI:DI d):d.Schedule.length<=200:=by
 have h:=hI.r.2.2.1;unfold wQ at h;simp only[bAt,dTe]at h;exact h.1
theorem qb4{d:qJ}(hI:DI d):Fresh Gm 429 [d.enc] d.enc:=by
 have hb:=hI.bks;have hs:=hI.sch;have hn:=jg hI.r.2.1;have ho:=hI.os;have hk:=hI.r.2.2.2.2.2;have hm:=hI.pm;exact qi2 d ⟨by omega,fun x hx=>by have:=hb.2 x hx;omega⟩ ⟨by omega,by omega,by omega,by omega⟩ ⟨by omega,fun p hp=>by have:=hI.pts p hp;omega⟩
theorem DI.szle{d:qJ}(hI:DI d):d.sz<=67108864:=by
 have hb:=hI.bks;have hs:=hI.sch;have hn:=jg hI.r.2.1;have ho:=hI.os;have hk:=hI.r.2.2.2.2.2;have hm:=hI.pm;have s1:=UJ (f:=qC.sz) (k:=5400) (xs:=d.Book) hb.2;have s2:=UJ (f:=qF.sz) (k:=6000) (xs:=d.Points) fun p hp=>by have:=hI.pts p hp;unfold qF.sz;omega
 unfold qJ.sz;omega
theorem qmI{d:qJ}(h:qx d.Net≠[]):upV d=.tup [upU d,.bool true]:=by unfold upV upU;rw[if_neg h]
theorem upU.ln{d:qJ}:(upU d).cells.length=6:=rfl
theorem Vv(r:qJ×Int):(JB r).pl=true:=by unfold JB;simp[AV.pl,AV.pls,qJ.plx]
theorem X4{r:qJ×Int}{m:Nat}:lay (JB r) m=(.tup [(lay r.1.enc m).1,.int .i64 r.2],(lay r.1.enc m).2):=by unfold JB;exact layT
theorem qmH{d:qJ}:(upV d).leaf=true:=by unfold upV;split<;>rfl
abbrev goQ(did:Nat)(t:Int)(r:qJ×Int)(q:List qD×Nat×qJ):Prop:=DA 0 did q.2.1 q.1 q.2.2/\DI q.2.2/\q.2.2.At<=t/\goR (t-q.2.2.At).toNat q.2.2=r
abbrev goV(did:Nat)(t:Int)(q:List qD×Nat×qJ):VSt:=⟨[(1,.int .i64 t),(6,.ptr did 0 0)],[(4,.agg [.nils,.nils,.int .i64 0,.int .i64 0,.nils,.nils,.nils,.nils])],q.1⟩
abbrev goM(t:Int)(q:List qD×Nat×qJ):Nat:=(t-q.2.2.At).toNat
theorem qBW{t:Int}{did:Nat}{r:qJ×Int}(h0:0<=t)(h1:t<=4000):∀q,goQ did t r q->R ⟨Gm,0,[],[13]⟩ [.code (.seq (.seq (.reg true zd) (.cond (.t 51) .skip (.exit 0))) (.blk 1 (.seq (.reg true ze) kS)))] (goV did t q) (ZM ⟨Gm,0,[],[13]⟩ (goQ did t r) (goV did t) (goM t) q [.blk 0,.code (.seq (.reg true zf) .ret)] (Zq Yh.res (JB r))):=by
 rintro⟨g,pp,dd⟩ ⟨eD,eI,eA,eR⟩;simp only at eD eI eA eR;show R _ _ ⟨_,_,_⟩ _;have eD':=eD.o';simp only[bPl,Nat.reduceBEq,zk,zo,zq,zd,ze,zf,go_sem];simp only[eD',go_sem];apply qM<;>intro hc<;>simp only[hc,go_sem]
 ·have lt:dd.At<t:=odT hc;clear hc;rw[show (t-dd.At).toNat=(t-(dd.At+1)).toNat+1 by omega,goR]at eR;simp only[bPl,Nat.reduceBEq,zk,zo,zq,zd,ze,zf,go_sem];refine wD (Cvs.cons (eD.cv 0) Cvs.nil) (qfR eI.r) qmH ?_;by_cases hne:qx dd.Net=[]
  ·rw[show upV dd=.tup [.agg [.int .i64 0,.int .i64 0,.int .i64 0,.int .i64 0,.int .i64 0,.int .i64 0],.bool false] by unfold upV;rw[if_pos hne]];simp only[bPl,Nat.reduceBEq,zk,zo,zq,zd,ze,zf,go_sem];refine qX (k:=6) (by rfl) (by rfl) ⟨_,rfl⟩ (by decide) ?_;simp only[bPl,Nat.reduceBEq,zk,zo,zq,zd,ze,zf,go_sem];refine qX (k:=8) (by rfl) (by rfl) ⟨_,rfl⟩ (by decide) ?_;simp only[bPl,Nat.reduceBEq,zk,zo,zq,zd,ze,zf,go_sem];have ec:dd.stepC=3:=by unfold qJ.stepC;rw[if_pos hne]
   rw[ec,if_pos (by decide)]at eR;rw[<-eR];exact UU
  rw[qmI hne,upU];simp only[bPl,Nat.reduceBEq,zk,zo,zq,zd,ze,zf,go_sem];refine qX (k:=6) (by rfl) (by rfl) ⟨_,rfl⟩ (by decide) ?_;simp only[bPl,Nat.reduceBEq,zk,zo,zq,zd,ze,zf,go_sem];refine qZ (s608 eD eI hne (by omega) (fun q h' k'=> ?_) (fun q G h' pid' D' k'=> ?_))
  ·rw[if_pos q]at eR;simp only[bPl,Nat.reduceBEq,zk,zo,zq,zd,ze,zf,go_sem];simp only[q,decide_false,Bool.not_false];simp only[bPl,Nat.reduceBEq,zk,zo,zq,zd,ze,zf,go_sem];refine qX (k:=8) (by rfl) (by rfl) ⟨_,rfl⟩ (by decide) ?_;simp only[bPl,Nat.reduceBEq,zk,zo,zq,zd,ze,zf,go_sem];rw[<-eR];exact UU
  ·rw[if_neg (by simpa using q)]at eR;simp only[bPl,Nat.reduceBEq,zk,zo,zq,zd,ze,zf,go_sem];have e1:dd.stepT.At=dd.At+1:=rfl;exact qd (h',pid',dd.stepT) ⟨D',Yb eI q,by show dd.stepT.At<=t;omega,eR⟩ (by simp only[goM];omega) (Can.sub (by simp[go_sem]) (by simp[go_sem]))
 ·have lt:¬dd.At<t:=odF hc;rw[show (t-dd.At).toNat=0 by omega]at eR;rw[<-eR];simp only[bPl,Nat.reduceBEq,zk,zo,zq,zd,ze,zf,go_sem];simp only[eD',go_sem];refine QH (Cvs.cons eD.cv0 Cvs.nil) (qb4 eI) ?_;simp only[bPl,Nat.reduceBEq,zk,zo,zq,zd,ze,zf,go_sem];refine qX (k:=8) (by rfl) (Qp _ _) (Zu _ _) (by decide) ?_;simp only[bPl,Nat.reduceBEq,zk,zo,zq,zd,ze,zf,go_sem,w9];exact js (pre:=g) (post:=[]) (Vv _) (by show _=(lay (JB (dd,0)) _).1;rw[X4];rfl) (by show _=g++((lay (JB (dd,0)) _).2++[]);rw[X4,lAn])
theorem n606{d:qJ}{t:Int}(hI:DI d)(h0:0<=t)(h1:t<=4000):Fresh Gm 606 [d.enc,.int .i64 t] (JB (d.goS t)):=by
 obtain⟨nsz,ok,hsch,hAt,hbr,hbl⟩:=hI.r;have ha:=zB.1 hAt;have ev:=hI.ev;have ev0:¬d.Every=0:=by omega
 obtain⟨k0,k1,k2⟩:=VO hI h0 h1;have hp:=qBU hI h0 h1;obtain⟨gI,gA⟩:=qBV hI h0 h1;have tq:=JZ (a:=t) (b:=d.Every) h0 (by omega);have tw:IntKind.i64.wrap (t.tdiv d.Every)=t.tdiv d.Every:=qf (by omega) (by omega);have pm:=hI.pm;have lw:IntKind.i64.wrap (((d.Points.length:Nat):Int)-1)=(d.Points.length:Int)-1:=qf (by omega) (by omega);have pl0:0<d.Points.length:=by omega
 refine Fresh.intro [] [13] (gk _ Yh) (by kernel_rfl) rfl (by simp[AV.trees,AV.tree,go_sem]) (Vv _) ?_;simp only[Yh,qQ,go_sem];refine qV qJ.ln ?_;simp only[bPl,Nat.reduceBEq,go_sem];refine zW (qb4 hI) ?_;simp only[bPl,Nat.reduceBEq,go_sem];obtain⟨H,hH⟩:∃H,H=([]:List qD)++(lay d.enc 0).2:=⟨_,rfl⟩;rw[<-hH];have l1:H.length=d.enc.rows:=by rw[hH,lAp,qb];simp
 refine qu (e':=(lay d.enc 0).1) (Qp d _) gCl rfl (put8 (Qp d _) (Zu d _)) ?_;rw[lSr _ _ (nLr _),nSs];simp only[lSz];obtain⟨h2,pid,c2,D2,k2⟩:=DA.ofLay (d:=d) (base:=0) (did:=H.length) (n:=0) (h:=H++[qD.row 8 [(lay d.enc 0).1] true]) gCl
  (fun i o hi=>by
   have:=qc hi;rw[qb]at this;rw[gAl (by omega),hH];simpa using hi) pl0 (.inr (by omega)) (nZl _) (nZl _)
 generalize H.length=did at D2 c2|-;simp only[bPl,Nat.reduceBEq,zk,zo,zq,zd,ze,zf,go_sem];refine Sem.can (c2 _ _ _) (Sem.reg (by kernel_rfl) ?_);have D2':=D2.o';have hP2:(d.Points.map qF.enc)[(d.goK t).toNat]?=some (d.goP t).enc:=by rw[gMp,hp];rfl
 have eK:min (t.tdiv d.Every) ((d.Points.length:Int)-1)=d.goK t:=by unfold qJ.goK;rw[Int.min_def];split<;>split<;>omega
 simp only[bPl,Nat.reduceBEq,zk,zo,zq,zd,ze,zf,go_sem];simp only[D2',if_neg ev0,tw,lw,go_sem];simp only[eK,X2 k0 k1,nZa,D2.p,hP2,go_sem];refine qX (k:=3) (by rfl) (by simp only[go_sem]) ⟨_,rfl⟩ (by decide) ?_;simp only[bPl,Nat.reduceBEq,zk,zo,zq,zd,ze,zf,go_sem];simp only[D2',go_sem];apply qh<;>intro hc<;>simp only[hc,go_sem]
 ·have hn:¬t<d.At:=odF hc;clear hc;simp only[D2',go_sem];apply qM<;>intro hc<;>simp only[hc,go_sem]
  ·have hq:t<d.At\/d.At<(d.goP t).At:=.inr (odT hc);clear hc;have hr:d.goD t={d with At:=(d.goP t).At,Net:=(d.goP t).Net,Origins:=(d.goP t).Origins}:=by unfold qJ.goD;rw[if_pos hq]
   obtain⟨_,pn,po⟩:=hI.pv _ _ hp;have pz:=jg pn;simp only[bPl,Nat.reduceBEq,zk,zo,zq,zd,ze,zf,go_sem];simp only[qC.enc,go_sem];refine qO (c798 (d.goP t).Net (by omega)) ?_;simp only[bPl,Nat.reduceBEq,zk,zo,zq,zd,ze,zf,go_sem];refine qO (c799 (d.goP t).Origins (by omega)) ?_;simp only[bPl,Nat.reduceBEq,zk,zo,zq,zd,ze,zf,go_sem];refine qu (e':=zH {d with At:=(d.goP t).At} pid) rfl D2' rfl rfl ?_;simp only[lSz];have D3:=D2.put (d':={d with At:=(d.goP t).At}) rfl;generalize h2.set did (.row 8 [zH {d with At:=(d.goP t).At} pid] true)=h3 at D3|-;have D3':=D3.o';simp only[bPl,Nat.reduceBEq,zk,zo,zq,zd,ze,zf,go_sem];refine qu (e':=zH {d with At:=(d.goP t).At,Net:=(d.goP t).Net} pid) (by simp only[qC.enc,go_sem]) D3' rfl rfl ?_;simp only[lSz];have D4:=D3.put (d':={d with At:=(d.goP t).At,Net:=(d.goP t).Net}) rfl;generalize h3.set did (.row 8 [zH {d with At:=(d.goP t).At,Net:=(d.goP t).Net} pid] true)=h4 at D4|-;have D4':=D4.o';simp only[bPl,Nat.reduceBEq,zk,zo,zq,zd,ze,zf,go_sem];refine qu (e':=zH {d with At:=(d.goP t).At,Net:=(d.goP t).Net,Origins:=(d.goP t).Origins} pid) rfl D4' rfl rfl ?_;simp only[lSz];have gD:=D4.put (d':={d with At:=(d.goP t).At,Net:=(d.goP t).Net,Origins:=(d.goP t).Origins}) rfl;generalize h4.set did (.row 8 [zH {d with At:=(d.goP t).At,Net:=(d.goP t).Net,Origins:=(d.goP t).Origins} pid] true)=h5 at gD|-;rw[<-hr]at gD;clear D3 D3' D4 D4' pz pn po;simp only[bPl,Nat.reduceBEq,zk,zo,zq,zd,ze,zf,go_sem];refine Sem.loop (goQ did t (d.goS t)) (goV did t) (goM t) (h5,pid,d.goD t) (by kernel_rfl) ⟨gD,gI,gA,rfl⟩ (Can.sub (by simp[go_sem]) (by simp[go_sem])) (qBW h0 h1)
  ·have hq:¬(t<d.At\/d.At<(d.goP t).At):=by have:=odF hc;omega
   clear hc;have hr:d.goD t=d:=by unfold qJ.goD;rw[if_neg hq]
   have gD:DA 0 did pid h2 (d.goD t):=by rw[hr];exact D2
   refine Sem.loop (goQ did t (d.goS t)) (goV did t) (goM t) (h2,pid,d.goD t) (by kernel_rfl) ⟨gD,gI,gA,rfl⟩ (Can.sub (by simp[go_sem]) (by simp[go_sem])) (qBW h0 h1)
 ·have hq:t<d.At\/d.At<(d.goP t).At:=.inl (odT hc);clear hc;have hr:d.goD t={d with At:=(d.goP t).At,Net:=(d.goP t).Net,Origins:=(d.goP t).Origins}:=by unfold qJ.goD;rw[if_pos hq]
  obtain⟨_,pn,po⟩:=hI.pv _ _ hp;have pz:=jg pn;simp only[bPl,Nat.reduceBEq,zk,zo,zq,zd,ze,zf,go_sem];simp only[qC.enc,go_sem];refine qO (c798 (d.goP t).Net (by omega)) ?_;simp only[bPl,Nat.reduceBEq,zk,zo,zq,zd,ze,zf,go_sem];refine qO (c799 (d.goP t).Origins (by omega)) ?_;simp only[bPl,Nat.reduceBEq,zk,zo,zq,zd,ze,zf,go_sem];refine qu (e':=zH {d with At:=(d.goP t).At} pid) rfl D2' rfl rfl ?_;simp only[lSz];have D3:=D2.put (d':={d with At:=(d.goP t).At}) rfl;generalize h2.set did (.row 8 [zH {d with At:=(d.goP t).At} pid] true)=h3 at D3|-;have D3':=D3.o';simp only[bPl,Nat.reduceBEq,zk,zo,zq,zd,ze,zf,go_sem];refine qu (e':=zH {d with At:=(d.goP t).At,Net:=(d.goP t).Net} pid) (by simp only[qC.enc,go_sem]) D3' rfl rfl ?_;simp only[lSz];have D4:=D3.put (d':={d with At:=(d.goP t).At,Net:=(d.goP t).Net}) rfl;generalize h3.set did (.row 8 [zH {d with At:=(d.goP t).At,Net:=(d.goP t).Net} pid] true)=h4 at D4|-;have D4':=D4.o';simp only[bPl,Nat.reduceBEq,zk,zo,zq,zd,ze,zf,go_sem];refine qu (e':=zH {d with At:=(d.goP t).At,Net:=(d.goP t).Net,Origins:=(d.goP t).Origins} pid) rfl D4' rfl rfl ?_;simp only[lSz];have gD:=D4.put (d':={d with At:=(d.goP t).At,Net:=(d.goP t).Net,Origins:=(d.goP t).Origins}) rfl;generalize h4.set did (.row 8 [zH {d with At:=(d.goP t).At,Net:=(d.goP t).Net,Origins:=(d.goP t).Origins} pid] true)=h5 at gD|-;rw[<-hr]at gD;clear D3 D3' D4 D4' pz pn po;simp only[bPl,Nat.reduceBEq,zk,zo,zq,zd,ze,zf,go_sem];refine Sem.loop (goQ did t (d.goS t)) (goV did t) (goM t) (h5,pid,d.goD t) (by kernel_rfl) ⟨gD,gI,gA,rfl⟩ (Can.sub (by simp[go_sem]) (by simp[go_sem])) (qBW h0 h1)
theorem n249{d:qJ}{c:Int}(hz:d.sz<=1048576):Fresh Gm 249 [d.enc,.int .i64 c] (JB (wT d c)):=by
 refine fI Kk (by simp[AV.trees,AV.tree,go_sem]) (Vv _) ?_;simp only[Kk,qQ,go_sem];refine qV qJ.ln ?_;simp only[go_sem];refine qO (c373 hz) ?_;simp only[go_sem];cases ok:jS d
 ·simp only[go_sem];refine qX (k:=8) (by rfl) (by rfl) ⟨_,rfl⟩ (by decide) ?_;simp only[go_sem];rw[show wT d c=(QE,1) by unfold wT;rw[ok];rfl];exact UU
 simp only[go_sem];refine wD (vs':=[.int .i64 d.At,.lst 1 ([c].map qK) false]) (Cvs.cons (.refl rfl) (Cvs.cons (Cv.row rfl rfl rfl (by decide)) Cvs.nil)) (c436 (by simp)) rfl ?_;simp only[lAc,List.all_nil,Bool.and_true,go_sem];cases cok:inI c 0 d.At
 ·simp only[go_sem];refine qX (k:=8) (by rfl) (by rfl) ⟨_,rfl⟩ (by decide) ?_;simp only[go_sem];rw[show wT d c=(QE,2) by unfold wT;rw[ok,cok];rfl];exact UU
 simp only[go_sem];have hc4:=zB.1 cok;have hI:=qBY ok;have ha:=zB.1 hI.r.2.2.2.1;have ew:IntKind.i64.wrap (d.At-c)=d.At-c:=qf (by omega) (by omega);rw[show wT d c=d.goS (d.At-c) by unfold wT;rw[ok,cok];rfl];simp only[ew];refine zW (n606 hI (by omega) (by omega)) ?_;simp only[X4,go_sem];refine qX (k:=8) (by rfl) (Qp _ _) (Zu _ _) (by decide) ?_;simp only[go_sem,w9];exact js (pre:=[.row 1 [.int .i64 c] true]) (post:=[]) (Vv _) (by rw[X4];rfl) (by rw[X4];simp)
theorem qa2:∀{f:Nat}{d:qJ},DI d->(goR f d).1.sz<=67108864
 | 0,_,h=>h.szle
 | f+1,d,h=>by
  rw[goR];split
  ·exact nZl _
  ·rename_i q;exact qa2 (Yb h (by simpa using q))
theorem qeR{d:qJ}{c:Int}:(wT d c).1.sz<=67108864:=by
 unfold wT;split
 ·rename_i ok;split
  ·rename_i q;have q:=zB.1 q;have hI:=qBY ok;have ha:=zB.1 hI.r.2.2.2.1;exact qa2 (qBV hI (by omega) (by omega)).1
  ·exact nZl _
 ·exact nZl _
theorem c40{d:qJ}{k:Int}(hb:d.bd):Pure Gm 40 [d.enc,.int .i64 k] (.bool true):=by
 refine pI F40 (by simp[AV.trees,AV.tree,qJ.tr,go_sem]) rfl ?_;simp only[F40,qQ,go_sem];refine qV rfl ?_;simp only[go_sem];refine qO (c104 d hb 1048576 (by omega)) ?_;simp only[go_sem];apply qM<;>intro hc<;>simp only[hc,go_sem]
 ·exact qR rfl rfl
 ·have hz:d.sz<=1048576:=by
   have:=odF hc;rw[jP]at this;omega
  have hA2:=qeR (d:=d) (c:=k);generalize hA:wT d k=A at hA2;have kp:=c248 (d:=d) (c:=k) hz;have k1:=n249 (d:=d) (c:=k) hz;rw[hA]at kp k1;unfold JB at kp k1;refine qO (c106 d hz) ?_;simp only[go_sem];refine qO kp ?_;simp only[go_sem];refine qX (k:=8) (by rfl) (by rfl) (by exact⟨_,rfl⟩) (by decide) ?_;simp only[go_sem];refine zW (n106 d hz) ?_;simp only[go_sem];refine qX (k:=8) (by rfl) (Qp _ _) (Zu _ _) (by decide) ?_;simp only[go_sem,w9];refine QH (Cvs.cons (X5 (pre:=[]) (post:=[]) (qJ.plx d) (qJ.cnx d) (by simp)) (Cvs.cons (.refl rfl) Cvs.nil)) k1 ?_;simp only[go_sem,layT,w9,lNa,qb];refine qX (k:=8) (by rfl) (Qp _ _) (Zu _ _) (by decide) ?_;simp only[go_sem,w9];have hL:(lay d.enc 0).2.length=d.enc.rows:=qb _ _;have cg:∀{h post:List qD}{x:qJ},x.enc.rows=d.enc.rows->h=(lay x.enc 0).2++((lay A.1.enc d.enc.rows).2++post)->Cv h (lay A.1.enc d.enc.rows).1 A.1.enc:=fun{h post x} hx hh=>by
   have hl:(lay x.enc 0).2.length=d.enc.rows:=(qb _ _).trans hx;rw[<-hl]at hh|-;exact X5 (qJ.plx A.1) (qJ.cnx A.1) hh
  refine wD (Cvs.cons (cg (post:=[]) (x:=d) rfl (by simp)) (Cvs.cons (.refl (by simp[go_sem])) Cvs.nil)) (Yy A.1 (by omega)) rfl ?_;simp only[go_sem];simp only[w9,go_sem];refine qO (c106 d hz) ?_;simp only[go_sem];refine wD (Cvs.cons (X5 (pre:=[]) (qJ.plx d) (qJ.cnx d) rfl) (Cvs.cons (.refl (by simp[go_sem])) Cvs.nil)) (Yy d (by omega)) rfl ?_;simp only[go_sem];simp only[w9,go_sem];have hct:=d.ctVle;refine JH (k136 d 1 (by omega) (by omega) (by omega)) (pre:=[]) (post:=(lay A.1.enc d.enc.rows).2) rfl rfl rfl ?_;simp only[go_sem];have hneg:decide ((1:Int)+((d.ctV:Nat):Int)<0)=false:=decide_eq_false (by omega);simp only[hneg,go_sem,w9];refine wD (Cvs.cons (cg (post:=[]) (x:=d.mkV 1) (qJ.rowsV d 1) (by simp)) (Cvs.cons (.refl (by simp[go_sem])) Cvs.nil)) (Yy A.1 (by omega)) rfl ?_;simp only[go_sem];simp only[w9,go_sem];have hcA:=A.1.ctVle;have hlV:(lay (d.mkV 1).enc 0).2.length=d.enc.rows:=(qb _ _).trans (qJ.rowsV d 1);refine JH (k136 A.1 1 (by omega) (by omega) (by omega)) (pre:=(lay (d.mkV 1).enc 0).2) (post:=[]) hlV (by simp) rfl ?_;simp only[go_sem];simp only[w9,go_sem];have layV:∀n,(lay (A.1.mkV 1).enc n).1=(lay A.1.enc n).1:=fun n=>by
   simp[qJ.layE,qJ.mkV,jz,AV.rows,qY qC.mrk qC.ct (enc:=qC.enc) qC.rowsM,qY mkI ctI (enc:=qK) (fun _ _=>rfl),qY qA.mrk qA.ct (enc:=qA.enc) qA.rowsM,qY qE.mrk qE.ct (enc:=qE.enc) qE.rowsM,qY qI.mrk qI.ct (enc:=qI.enc) qI.rowsM]
  have cm:∀{h post:List qD},h=(lay (d.mkV 1).enc 0).2++((lay (A.1.mkV 1).enc d.enc.rows).2++post)->Cv h (lay A.1.enc d.enc.rows).1 (A.1.mkV 1).enc:=fun{h post} hh=>by
   rw[<-layV,<-hlV]at*;exact X5 (qJ.plx _) (qJ.cnx _) hh
  refine wD (Cvs.cons (cm (post:=[]) rfl) (Cvs.cons (.refl rfl) Cvs.nil)) (q137 A.1 1 (by omega) (by omega) (by omega)) rfl ?_;simp only[go_sem];have hneg2:decide ((1:Int)+((A.1.ctV:Nat):Int)<0)=false:=decide_eq_false (by omega);simp only[hneg2,go_sem,w9];refine qO (c106 d hz) ?_;simp only[go_sem];refine zW k1 ?_;simp only[go_sem,layT,w9,lAn];refine qX (k:=8) (by rfl) (Qp _ _) (Zu _ _) (by decide) ?_;simp only[go_sem,w9];refine wD (Cvs.cons (X5 (pre:=(lay (d.mkV 1).enc 0).2++(lay (A.1.mkV 1).enc d.enc.rows).2) (post:=[]) (qJ.plx A.1) (qJ.cnx A.1) (by simp)) (Cvs.cons (.refl (by simp[go_sem])) Cvs.nil)) (Yy A.1 (by omega)) rfl ?_;simp only[go_sem];simp only[w9,go_sem];refine wD (Cvs.cons (cm (lAa _ _ _)) (Cvs.cons (.refl rfl) Cvs.nil)) (q137 A.1 1 (by omega) (by omega) (by omega)) rfl ?_;simp only[go_sem];simp only[hneg2,go_sem,w9];exact qR rfl rfl
end Go.Ab
