/- Texts Net39 .. Net49: the abstract machine, its laws and contracts of functions: lemmas for the statement. No condition. -/
import Derived.Test.YthackbfgkomkjaaGreatP8
set_option linter.unusedSimpArgs false
set_option linter.unusedVariables false
namespace Go.Ab
open Go
set_option maxRecDepth 10000
set_option maxHeartbeats 2000000
@[go_sem] theorem qnF{w:Nat}:(AV.map w).cells=[.map w]:=rfl
theorem c984{d:qJ}{A B c x df k:Int}{y:Nat}(hy:y<d.Origins.length)(hk:0<=k/\k<=1000000):Pure Gm 984 [.ept d.enc 0,.agg [.int .i64 A,.int .i64 B,.int .i64 c,.int .i64 x,.int .i64 (y:Nat),.int .i64 df],.int .i64 k] ((Jq c k d.At df (d.Origins.getD y ⟨0,0,0⟩)).enc):=by
 have e:d.Origins.getD y ⟨0,0,0⟩=d.Origins[y]:=by rw[lGd,gEg hy];rfl
 rw[e];have hw:IntKind.i64.wrap (k+1)=k+1:=qf (by omega) (by omega);refine pI F984 (by simp[AV.trees,AV.tree,go_sem]) (by simp only[qE.tr]) ?_;simp only[F984,qQ,go_sem];refine qW rfl ?_;simp only[go_sem];refine qU (k:=3) (by rfl) (by simp only[go_sem]) ⟨_,rfl⟩ (by decide) ?_;simp only[go_sem];apply qg<;>intro hc<;>simp only[hc,go_sem]
 ·have c3:c=3:=by simpa using hc
  clear hc;apply qM<;>intro hc<;>simp only[hc,go_sem]
  ·have k2:k<2:=by simpa using hc
   clear hc;simp only[gMp,gEg hy,oMs,go_sem];refine qU rfl rfl ⟨_,rfl⟩ (by decide) ?_;simp only[go_sem];refine qR qE.tr ?_;unfold Jq;rw[if_pos ⟨c3,k2⟩];rfl
  ·have k2:¬k<2:=by simpa using hc
   clear hc;simp only[show decide (c=7)=false from decide_eq_false (by omega),go_sem];refine qU rfl rfl ⟨_,rfl⟩ (by decide) ?_;simp only[go_sem];refine qR qE.tr ?_;unfold Jq;rw[if_neg (by omega),if_neg (by omega)];rfl
 ·have c3:¬c=3:=by simpa using hc
  clear hc;apply qM<;>intro hc<;>simp only[hc,go_sem]
  ·have c7:c=7:=by simpa using hc
   clear hc;simp only[hw,go_sem];refine qU rfl rfl ⟨_,rfl⟩ (by decide) ?_;simp only[go_sem];refine qR qE.tr ?_;unfold Jq;rw[if_neg (by omega),if_pos c7];rfl
  ·have c7:¬c=7:=by simpa using hc
   refine qU rfl rfl ⟨_,rfl⟩ (by decide) ?_;simp only[go_sem];refine qR qE.tr ?_;unfold Jq;rw[if_neg (by omega),if_neg c7];rfl
section
variable {w:Nat} {post:List AV} {bk:List qC} {base nid mid:Nat} {h:List qD} {N:Ags} {K:AV->List qD->Prop} {R:Nat->Bool} {ks:List Nat}
theorem s982{n:qC}(hz:n.sz<=1048576)(h0:0<n.Agents.length)(hK:∀H H' mid nid,(∀b s m,Can b ⟨s,m,H⟩ ⟨s,m,H'⟩)->RW bk (wG []) mid h.length nid H' n.Agents->h.length<=mid->Keep h.length h H'->K (.ptr nid 0 0) H):SCall Gm 982 [.lst 1 (bk.map qC.enc) false,n.enc] h K:=by
 refine sI F982 ?_;simp only[F982,qQ,go_sem];refine qW (by simp only[go_sem]) ?_;simp only[go_sem];refine zW (Ws n hz) ?_;have eL:(lay n.enc h.length)=(.agg [.slice 5 h.length 0 n.Agents.length false],.row 5 (qN (n.Agents.map qA.enc) (h.length+1)).1 true::(qN (n.Agents.map qA.enc) (h.length+1)).2):=by rw[qC.layE,lAn];rfl
 rw[eL];simp only[go_sem];obtain⟨H0,eH⟩:∃H0,H0=h++qD.row 5 (qN (n.Agents.map qA.enc) (h.length+1)).1 true::(qN (n.Agents.map qA.enc) (h.length+1)).2:=⟨_,rfl⟩;rw[<-eH];have f1:H0[h.length]?=some (.row 5 (qN (n.Agents.map qA.enc) (h.length+1)).1 true):=by rw[eH,gAr (nLr _),nSs];rfl
 have f2:∀i o,(qN (n.Agents.map qA.enc) (h.length+1)).2[i]?=some o->H0[h.length+1+i]?=some o:=fun i o ho=>by rw[eH,gAr (by omega),show h.length+1+i-h.length=i+1 by omega,List.getElem?_cons_succ];exact ho
 have f3:H0.length=h.length+1+2*n.Agents.length:=by rw[eH];simp[Zu];omega
 have f4:∀j,j<h.length->H0[j]?=h[j]?:=fun j hj=>by rw[eH,gAl hj]
 clear eH eL;refine Wh rfl ?_;simp only[go_sem];have g1:∀j,j<H0.length->(H0++[qD.map []]++[qD.row 3 [.agg [.slice 5 h.length 0 n.Agents.length false,.lst 1 (bk.map qC.enc) false,.map H0.length]] true])[j]?=H0[j]?:=fun j hj=>by rw[gAl (by simp;omega),gAl hj]
 obtain⟨h2,c2,n2,k2,_,k3⟩:=NA.ofLay (w:=3) (post:=[.lst 1 (bk.map qC.enc) false,.map H0.length]) (base:=h.length) (nid:=(H0++[qD.map []]).length) (aid:=h.length) (N:=n.Agents) (h:=H0++[qD.map []]++[qD.row 3 [.agg [.slice 5 h.length 0 n.Agents.length false,.lst 1 (bk.map qC.enc) false,.map H0.length]] true]) gCl
  (by rw[g1 _ (by omega)];exact f1)
  (fun i o hi=>by
   have:=qe hi;rw[Zu]at this;rw[g1 _ (by omega)];exact f2 i o hi) h0 (.inr (by simp;omega)) (by simp;omega) (nLr _)
 refine hK _ h2 H0.length _ c2 ⟨⟨_,_,n2⟩, ?_⟩ (by omega) ⟨by have:=k2.l;simp at this;omega,fun j hj=>by rw[k2.k _ hj,g1 _ (by omega),f4 _ hj]⟩;rw[k3 _ (.inr (by omega)),gAl (by simp)];exact gCl
theorem qj8{i:Nat}:(ql R (i+1)).map kI=(ql R i).map kI++if R i then []else [kI i]:=by rw[YP];split<;>simp
theorem s985(hR:RW bk (wG ks) mid base nid h N)(hk:∀k,k<N.length->(k∈ks↔R k=true))(hp:∀k x,N[k]?=some x->R k=false->∀(s:Nat)(q:qG),x.Ports[s]?=some q->0<=q.Agent/\q.Agent<N.length/\R q.Agent.toNat=false)(hz:∀x∈N,x.sz<=1000)(hln:N.length<=10000)
  (hK:∀h',Keep h.length h h'->K (qC.enc ⟨zo N R⟩) h'):SCall Gm 985 [.ptr nid 0 0] h K:=by
 refine sI F985 ?_;obtain⟨aid,ps,hNA⟩:=hR.n;simp only[F985,qQ,go_sem,hNA.o];refine Sem.loop (α:=Nat×List qD×Nat) (fun q=>q.1<=N.length/\Keep h.length h q.2.1/\h.length<=q.2.2/\q.2.1[q.2.2]?=some (.row 1 ((ql R q.1).map kI) true))
  (fun q=>(⟨[(0,.ptr nid 0 0),(3,.slice 1 q.2.2 0 (ql R q.1).length false),(10,.int .i64 (N.length:Nat)),(11,.int .i64 (q.1:Nat))],[(2,.agg [.nils])],q.2.1⟩:VSt)) (fun q=>N.length-q.1) (0,h++[.row 1 [] true],h.length) (by kernel_rfl)
  ⟨nZl _,Keep.app (nLr _),nLr _,by simp[ql]⟩
  (Can.ph (WkN.same rfl (WkN.cons rfl (Wk.ph (by simp)) (WkN.same rfl (WkN.same rfl WkN.nil)))) (WkN.same rfl WkN.nil)) ?_
 rintro⟨i,g,oid⟩ ⟨hi,jk,hoid,ho⟩;simp only at hi jk hoid ho;have gN:=hR.n.keep jk;have gm:g[mid]?=some (.map (wG ks)):=(jk.k _ (qe hR.m)).trans hR.m;have on:g[nid]?=_:=(jk.k _ hNA.lt).trans hNA.o;simp only[go_sem];apply qM<;>intro hc<;>simp only[hc,go_sem]
 ·have hlt:i<N.length:=by have:=odT hc;omega
  clear hc;have hki:=hk i hlt;have os:=qj8 (R:=R) (i:=i);have cs:=JH (R:=R) (n:=i);have cl:=Q8 (R:=R) (n:=i);unfold qy at cs cl;by_cases q:R i=true
  ·have eu:lku (.bool false) false (.int .i64 (i:Nat)) (wG ks)=some (.bool true):=qB3 (v:=fun _=>.bool true) (hki.2 q);rw[q,if_pos rfl]at os cs;rw[lAn]at os;simp only[on,X9 gm,eu,go_sem];simp only[qc (show i<4611686018427387904 by omega)];exact qd (i+1,g,oid) ⟨hlt,jk,hoid,by simp only;rw[os];exact ho⟩ (by simp only;omega) (Can.sub (by simp[go_sem,cs]) (by simp[go_sem]))
  ·have q:R i=false:=by simpa using q
   have eu:lku (.bool false) false (.int .i64 (i:Nat)) (wG ks)=some (.bool false):=qb3 (v:=fun _=>.bool true) (fun e=>by rw[hki.1 e]at q;cases q);rw[q]at os cs;simp only[bFt,if_false]at os cs;simp only[on,X9 gm,eu,go_sem];obtain⟨r1,r2⟩:=JT (tmp:=.row 1 [.int .i64 (i:Nat)] true) ho;obtain⟨q1,q2⟩:=Z7 (x:=.int .i64 (i:Nat)) (tmp:=.row 1 [.int .i64 (i:Nat)] true) jk (nLr _) hoid ho;refine zy r2 r1 (by simp) (by omega) ?_;simp only[lAp,nZa,qc (show i<4611686018427387904 by omega),<-cs,go_sem];exact qd (i+1,_,g.length+1) ⟨hlt,q1,by have:=jk.l;simp only;omega,by simp only;rw[os];exact q2⟩ (by simp only;omega) (Can.sub (by simp[go_sem]) (by simp[go_sem]))
 ·have hlt:i=N.length:=by have:=odF hc;omega
  clear hc;subst hlt;refine qZ (s702 gN ho (fun k x hx hr=>hp k x hx hr) hz hln fun ex=> ?_);simp only[qC.enc,go_sem];exact hK _ (jk.trans (Keep.app jk.l))
end
theorem c798(n:qC)(hz:n.sz<=1048576):Pure Gm 798 [n.enc] n.enc:=(Ws n hz).pure (by rw[qC.cnx]) qC.tr
theorem c799(xs:List qE)(hz:xs.length<=4194304):Pure Gm 799 [.lst 3 (xs.map qE.enc) false] (.lst 3 (xs.map qE.enc) false):=
 (n799 xs hz).pure (by simp only[AV.cn];simp[ju (enc:=qE.enc) (fun x=>qE.cnx x)]) (by simp only[AV.tree];exact qV qE.isSh.tree _)
section
variable {base did pid:Nat} {h:List qD} {d:qJ} {K:AV->List qD->Prop}
theorem s986(hD:DA base did pid h d)(hn:d.Net.sz<=1048576)(ho:d.Origins.length<=4194304)(hp:d.Points.length<=1048576)(hK:∀h' pid',DA base did pid' h' {d with Points:=d.Points++[⟨d.At,d.Net,d.Origins⟩]}->Keep base h h'->K (.tup []) h'):SCall Gm 986 [.ptr did 0 0] h K:=by
 have hD':=hD.o';refine sI F986 ?_;simp only[F986,qQ,go_sem,hD'];refine qO (c798 d.Net hn) ?_;simp only[qC.enc,go_sem];refine qO (c799 d.Origins ho) ?_;simp only[go_sem];obtain⟨r1,r2⟩:=JT (tmp:=.row 3 [(⟨d.At,d.Net,d.Origins⟩:qF).enc] true) hD.p;refine zy r2 r1 (by simp) (by omega) ?_;simp only[go_sem];obtain⟨q1,q2⟩:=Z7 (x:=(⟨d.At,d.Net,d.Origins⟩:qF).enc) (tmp:=.row 3 [(⟨d.At,d.Net,d.Origins⟩:qF).enc] true) (Keep.refl (b:=base)) hD.bl hD.b2 hD.p;have b0:=hD.l1;have ob:(((h++[qD.row 3 [(⟨d.At,d.Net,d.Origins⟩:qF).enc] true]).set pid .dead)++[qD.row 3 (d.Points.map qF.enc++[(⟨d.At,d.Net,d.Origins⟩:qF).enc]) true])[did]?=h[did]?:=by
  rw[gAl (by simp;omega),gSn (Ne.symm hD.n),gAl b0]
 simp only[lAp,lCo,lNi,nZa];refine q8 (e':=zf {d with Points:=d.Points++[⟨d.At,d.Net,d.Origins⟩]} (h.length+1)) rfl (ob.trans hD') rfl (by simp[zf,AV.put,AV.cells]) ?_;simp only[lSz];simp only[go_sem];refine hK _ (h.length+1) ⟨?_, ?_,by omega,hD.b1,by have:=hD.bl;omega⟩ (q1.trans (Keep.set hD.b1))
 ·rw[gSs (by simp;omega)]
 ·rw[gSn (by omega),lMa];exact q2
end
def upU(d:qJ):AV:=.agg [.int .i64 (upP d).A,.int .i64 (upP d).B,.int .i64 (upC d),.int .i64 (upX d),.int .i64 (upY d),.int .i64 (upD d)]
theorem qmV{d:qJ}(ok:qq d.Net=true)(hne:qi d.Net≠[]):∃(A B:Nat)(u v:qA),upP d=⟨(A:Int),(B:Int)⟩/\d.Net.Agents[A]?=some u/\d.Net.Agents[B]?=some v/\
  ((zM u v=true/\d.pA=B/\d.pB=A/\d.xA=v/\d.yB=u)\/(zM u v=false/\d.pA=A/\d.pB=B/\d.xA=u/\d.yB=v))/\(upC d≠8->upY d=(d.pB:Int)):=by
 have hl:0<(qi d.Net).length:=by cases hq:qi d.Net with
  | nil=>exact absurd hq hne
  | cons a b=>simp
 obtain⟨sl,e⟩:=Yf hl;have hm:upP d∈qi d.Net:=by rw[e];exact gMm sl
 obtain⟨i,j,e1,h0,h1,h2⟩:=qc1 hm;obtain⟨b',t',e3,h3,_,_⟩:=Qp ok i 0 _ h2 id;obtain⟨rfl,rfl⟩:=JA.1 e3;have li:=w6 h2;have lj:=w6 h3;have gi:d.Net.Agents[i]?=some d.Net.Agents[i]:=gEg li;have gj:d.Net.Agents[j]?=some d.Net.Agents[j]:=gEg lj;have ai:zA d.Net (i:Int)=d.Net.Agents[i]:=by simp[zA,gi]
 have aj:zA d.Net (j:Int)=d.Net.Agents[j]:=by simp[zA,gj]
 refine⟨i,j,_,_,e1,gi,gj, ?_,fun h8=> ?_⟩
 ·unfold qJ.pA qJ.pB qJ.xA qJ.yB zk;rw[e1];simp only[ai,aj];cases q:zM d.Net.Agents[i] d.Net.Agents[j]
  ·right;simp[ai,aj]
  ·left;simp[ai,aj]
 ·unfold qJ.pB zk;simp only[upY,upS,h8,decide_false,Bool.not_false,Bool.and_true];rw[e1];simp only[ai,aj];cases q:zM d.Net.Agents[i] d.Net.Agents[j]<;>simp
theorem qA1{c:Int}{a b k:Nat}:k∈jl c a b↔qt c a b k=true:=by
 unfold jl qt;by_cases h:c=7<;>simp[h]
section
variable {bk:List qC} {N:Ags} {a b:Nat} {x y:qA}
theorem zN.hp2(G:zN bk N a b x y):∀k z,(qm bk N a b x y)[k]?=some z->qt (qS x y) a b k=false->∀(s:Nat)(q:qG),z.Ports[s]?=some q->0<=q.Agent/\q.Agent<(qm bk N a b x y).length/\qt (qS x y) a b q.Agent.toNat=false:=fun k z hz hr s q hq=>by
 obtain⟨b',t',e,h2,h3,_⟩:=qAC G k s q (jY.2 ⟨z,hz,hq⟩) (by simp[hr]);subst e;have:=w6 h2;exact⟨by simp only[pt];omega,by simp only[pt];omega,by simpa[pt]using h3⟩
theorem zN.hz2(G:zN bk N a b x y):∀z∈qm bk N a b x y,z.sz<=1000:=fun z hz=>by
 obtain⟨k,hk⟩:=List.getElem?_of_mem hz;have:=Qr (Yq G k z hk).1;omega
end
section
variable {base did pid:Nat} {h:List qD} {d:qJ} {K:AV->List qD->Prop}
theorem s608(hD:DA base did pid h d)(hI:DI d)(hne:qi d.Net≠[])(hlt:¬4000<=d.At)(hK1:d.stepC≠0->∀h',Keep base h h'->K (.int .i64 d.stepC) h')
  (hK2:d.stepC=0->zN d.Book d.Net.Agents d.pA d.pB d.xA d.yB->∀h' pid',DA base did pid' h' d.stepT->Keep base h h'->K (.int .i64 0) h'):SCall Gm 608 [.ptr did 0 0,upU d] h K:=by
 have hD':=hD.o';obtain⟨nsz,ok,hsch,hAt,hbr,hbl⟩:=hI.r;have bl:=hD.bl;have ha:=zK.1 hAt;obtain⟨A,a0,b0,hf,eo⟩:=qCF ok hne;obtain⟨A',B',u,v,eP,hu,hv,hsw,eY⟩:=qmV ok hne;have la:=A.pr.la;have lb:=A.pr.lb;have ed:d.stepC=if (qx d.Book d.xA d.yB).2≠0 then(qx d.Book d.xA d.yB).2 else if 600<(d.Net.Agents.length:Int)+(qx d.Book d.xA d.yB).1 then 4 else 0:=by unfold qJ.stepC;rw[if_neg hne,if_neg hlt]
 have eC:upC d=qS d.xA d.yB:=UO d;refine SCall.run [] [80] (gk _ kV) (by kernel_rfl) rfl ?_;simp only[kV,qQ,upU,eP,go_sem];refine qW (by simp only[go_sem]) ?_;simp only[bPl,Nat.reduceBEq,go_sem];simp only[hD',go_sem];have q0:=Z2 ok;refine qZ (s982 (bk:=d.Book) (n:=d.Net) nsz q0 fun H H1 mid nid c1 hR hmid k1=> ?_);simp only[bPl,Nat.reduceBEq,go_sem];refine qZ (s983 (A:=A') (B:=B') c1 hR hmid ok hI.bk A a0 b0 hf hu hv hsw (fun q=> ?_) (fun q q2=> ?_) fun G h3 hR3 k3=> ?_)
 ·rw[ed,if_pos q]at hK1;simp only[bPl,Nat.reduceBEq,go_sem];simp only[q,decide_false,Bool.not_false];simp only[bPl,Nat.reduceBEq,go_sem];exact hK1 q _ (k1.up bl)
 ·rw[ed,if_neg (by simpa using q),if_pos q2]at hK1;simp only[bPl,Nat.reduceBEq,go_sem];simp only[Int.reduceEq,decide_false,Bool.not_false];simp only[bPl,Nat.reduceBEq,go_sem];exact hK1 (by decide) _ (k1.up bl)
 have hK:=fun q=>hK2 q G;rw[ed,if_neg (by simpa using G.g),if_neg (by have:=G.full;omega)]at hK;have hK:=hK rfl;clear hK1 hK2;have k3':=k1.trans k3;clear k1 k3 c1 hR;have hD3:=hD.keep k3';have hD3':=hD3.o';have eAt:IntKind.i64.wrap (d.At+1)=d.At+1:=qf (by omega) (by omega);simp only[bPl,Nat.reduceBEq,go_sem];simp only[hD3',eAt,go_sem];refine q8 (e':=zf {d with At:=d.At+1} pid) rfl hD3' rfl rfl ?_;have d0:=hD.l1;have d1:=hD.l2;have g3:=k3'.l;simp only[lSz];have hD4:=hD3.put (d':={d with At:=d.At+1}) rfl;have e4:∀j,j≠did->(h3.set did (.row 8 [zf {d with At:=d.At+1} pid] true))[j]?=h3[j]?:=fun j hj=>by rw[gSn (Ne.symm hj)]
 have g4:(h3.set did (.row 8 [zf {d with At:=d.At+1} pid] true)).length=h3.length:=by rw[lLs]
 generalize h3.set did (.row 8 [zf {d with At:=d.At+1} pid] true)=h4 at hD4 e4 g4|-;obtain⟨aid,ps,n3⟩:=hR3.n;have hR4:RW d.Book (wG (jl (qS d.xA d.yB) d.pA d.pB)) mid h.length nid h4 (qm d.Book d.Net.Agents d.pA d.pB d.xA d.yB):=by
  refine⟨⟨aid,ps,n3.heap (e4 _ (by have:=n3.b1;omega)) (e4 _ (by have:=n3.b2;omega)) fun q hq=>e4 _ (by have:=n3.b3 q hq;omega)⟩, ?_⟩;rw[e4 _ (by omega)];exact hR3.m
 have k4:Keep base h h4:=⟨by omega,fun j hj=>(e4 j (by have:=hD.b1;omega)).trans (k3'.k j (by omega))⟩;clear hD3 hD3' n3 hR3 k3';obtain⟨aid,ps,n4⟩:=hR4.n;have hlM:=G.hl;have eU:AV.agg [.int .i64 (A':Int),.int .i64 (B':Int),.int .i64 (upC d),.int .i64 (upX d),.int .i64 (upY d),.int .i64 (upD d)]=.agg [.int .i64 (A':Int),.int .i64 (B':Int),.int .i64 (upC d),.int .i64 (upX d),.int .i64 (d.pB:Int),.int .i64 (upD d)]:=by rw[eY (by rw[eC];exact G.c8)]
 rw[eU];simp only[bPl,Nat.reduceBEq,go_sem];simp only[n4.o,go_sem];refine Sem.loop (α:=Nat×List qD×Nat) (fun q=>q.1<=(qm d.Book d.Net.Agents d.pA d.pB d.xA d.yB).length/\Keep h4.length h4 q.2.1/\h4.length<=q.2.2/\q.2.1[q.2.2]?=some (.row 3 ((jb d.Origins (qt (upC d) d.pA d.pB) (upC d) (d.At+1) (upD d) (d.Origins.getD d.pB ⟨0,0,0⟩) q.1).map qE.enc) true))
  (fun q=>(⟨[(0,.ptr did 0 0),(5,.ptr nid 0 0),(7,.slice 3 q.2.2 0 (qy (qt (upC d) d.pA d.pB) q.1) false),(37,.int .i64 ((qm d.Book d.Net.Agents d.pA d.pB d.xA d.yB).length:Nat)),(38,.int .i64 (q.1:Nat))],[(3,.agg [.int .i64 (A':Int),.int .i64 (B':Int),.int .i64 (upC d),.int .i64 (upX d),.int .i64 (d.pB:Int),.int .i64 (upD d)])],q.2.1⟩:VSt)) (fun q=>(qm d.Book d.Net.Agents d.pA d.pB d.xA d.yB).length-q.1) (0,h4++[.row 3 [] true],h4.length) (by kernel_rfl)
  ⟨nZl _,Keep.app (nLr _),nLr _,by simp[jb,ql]⟩
  (Can.ph (WkN.same rfl (WkN.same rfl (WkN.cons rfl (Wk.ph (by simp)) (WkN.same rfl (WkN.same rfl WkN.nil))))) (WkN.same rfl WkN.nil)) ?_
 rintro⟨i,g,lid⟩ ⟨hi,hk,hlid,hr⟩;simp only at hi hk hlid hr;have gl:=hk.l;have gN:g[nid]?=_:=(hk.k _ n4.lt).trans n4.o;have gm:g[mid]?=_:=(hk.k _ (qe hR4.m)).trans hR4.m;have gD:=hD4.keep hk;have gd:=gD.o';have mapS:∀{l:List qE}{o:qE},l.map qE.enc++[o.enc]=(l++[o]).map qE.enc:=fun{l o}=>by simp
 simp only[bPl,Nat.reduceBEq,jd,je,jf,jg,jh,jc,go_sem];apply qM<;>intro hc<;>simp only[hc,go_sem]
 ·have hlt:i<(qm d.Book d.Net.Agents d.pA d.pB d.xA d.yB).length:=by have:=odT hc;omega
  clear hc;have os:=qcW (os:=d.Origins) (R:=qt (upC d) d.pA d.pB) (c:=upC d) (st:=d.At+1) (df:=upD d) (o2:=d.Origins.getD d.pB ⟨0,0,0⟩) (n:=i);have cs:=JH (R:=qt (upC d) d.pA d.pB) (n:=i);have cl:=Q8 (R:=qt (upC d) d.pA d.pB) (n:=i);by_cases q:qt (upC d) d.pA d.pB i=true
  ·have eu:lku (.bool false) false (.int .i64 (i:Nat)) (wG (jl (qS d.xA d.yB) d.pA d.pB))=some (.bool true):=qB3 (v:=fun _=>.bool true) (qA1.2 (by rw[<-eC];exact q));rw[q,if_pos rfl]at os cs;rw[lAn]at os;rw[nAz]at cs;simp only[bPl,Nat.reduceBEq,jd,je,jf,jg,jh,jc,go_sem];simp only[gN,X9 gm,eu,go_sem];simp only[bPl,Nat.reduceBEq,jd,je,jf,jg,jh,jc,go_sem];simp only[qc (show i<4611686018427387904 by omega)];exact qd (i+1,g,lid) ⟨hlt,hk,hlid,by simp only;rw[os];exact hr⟩ (by simp only;omega) (Can.sub (by simp[go_sem,cs]) (by simp[go_sem]))
  ·have hr0:qt (upC d) d.pA d.pB i=false:=by simpa using q
   have eu:lku (.bool false) false (.int .i64 (i:Nat)) (wG (jl (qS d.xA d.yB) d.pA d.pB))=some (.bool false):=qb3 (v:=fun _=>.bool true) (fun e=>by rw[eC]at q;exact q (qA1.1 e));rw[hr0]at os cs;simp only[bFt,if_false]at os cs;simp only[bPl,Nat.reduceBEq,jd,je,jf,jg,jh,jc,go_sem];simp only[gN,X9 gm,eu,go_sem];simp only[bPl,Nat.reduceBEq,jd,je,jf,jg,jh,jc,go_sem];simp only[gd,go_sem];have nx:∀(o:qE),jb d.Origins (qt (upC d) d.pA d.pB) (upC d) (d.At+1) (upD d) (d.Origins.getD d.pB ⟨0,0,0⟩) (i+1)=jb d.Origins (qt (upC d) d.pA d.pB) (upC d) (d.At+1) (upD d) (d.Origins.getD d.pB ⟨0,0,0⟩) i++[o]->
     Keep h4.length h4 (((g++[qD.row 3 [o.enc] true]).set lid .dead)++[.row 3 ((jb d.Origins (qt (upC d) d.pA d.pB) (upC d) (d.At+1) (upD d) (d.Origins.getD d.pB ⟨0,0,0⟩) i).map qE.enc++[o.enc]) true])/\
     (((g++[qD.row 3 [o.enc] true]).set lid .dead)++[.row 3 ((jb d.Origins (qt (upC d) d.pA d.pB) (upC d) (d.At+1) (upD d) (d.Origins.getD d.pB ⟨0,0,0⟩) i).map qE.enc++[o.enc]) true])[g.length+1]?=some (.row 3 ((jb d.Origins (qt (upC d) d.pA d.pB) (upC d) (d.At+1) (upD d) (d.Origins.getD d.pB ⟨0,0,0⟩) (i+1)).map qE.enc) true):=fun o e=>by
    obtain⟨q1,q2⟩:=Z7 (x:=o.enc) (tmp:=.row 3 [o.enc] true) hk (nLr _) hlid hr;exact⟨q1,by rw[e,lMa];exact q2⟩
   apply qM<;>intro hc<;>simp only[hc,go_sem]
   ·have hio:i<d.Origins.length:=by have:=odT hc;omega
    have eo:d.Origins.getD i ⟨0,0,0⟩=d.Origins[i]:=by rw[lGd,gEg hio];rfl
    rw[if_pos hio,eo]at os;obtain⟨r1,r2⟩:=JT (tmp:=.row 3 [d.Origins[i].enc] true) hr;obtain⟨q1,q2⟩:=nx _ os;simp only[bPl,Nat.reduceBEq,jd,je,jf,jg,jh,jc,go_sem];simp only[gd,gMp,gEg hio,oMs,go_sem];refine zy r2 r1 (by simp[Z6]) (by omega) ?_;simp only[bPl,Nat.reduceBEq,jd,je,jf,jg,jh,jc,go_sem];simp only[lAp,lCo,lNi,nZa,qc (show i<4611686018427387904 by omega),<-cs];exact qd (i+1,_,g.length+1) ⟨hlt,q1,by simp only;omega,q2⟩ (by simp only;omega) (Can.sub (by simp[go_sem]) (by simp[go_sem]))
   ·have hio:¬i<d.Origins.length:=by have:=odF hc;omega
    rw[if_neg hio]at os;have ew:IntKind.i64.wrap ((i:Int)-(d.Origins.length:Nat))=((i-d.Origins.length:Nat):Int):=by have:=wZ ok;have:=hI.os;rw[qf (by omega) (by omega)];omega
    obtain⟨r1,r2⟩:=JT (tmp:=.row 3 [(Jq (upC d) ((i-d.Origins.length:Nat):Int) (d.At+1) (upD d) (d.Origins.getD d.pB ⟨0,0,0⟩)).enc] true) hr;obtain⟨q1,q2⟩:=nx _ os;simp only[bPl,Nat.reduceBEq,jd,je,jf,jg,jh,jc,go_sem];simp only[gd,ew,go_sem];refine jM (Cvs.cons (gD.cv 0) (Cvs.cons (.refl rfl) (Cvs.cons (.refl rfl) Cvs.nil))) (c984 (d:={d with At:=d.At+1}) (by rw[hI.os];exact lb) (by omega)) (by simp only[qE.enc];rfl) ?_;simp only[bPl,Nat.reduceBEq,jd,je,jf,jg,jh,jc,go_sem];refine zy r2 r1 (by simp[Z6]) (by omega) ?_;simp only[bPl,Nat.reduceBEq,jd,je,jf,jg,jh,jc,go_sem];simp only[lAp,lCo,lNi,nZa,qc (show i<4611686018427387904 by omega),<-cs];exact qd (i+1,_,g.length+1) ⟨hlt,q1,by simp only;omega,q2⟩ (by simp only;omega) (Can.sub (by simp[go_sem]) (by simp[go_sem]))
 ·have hlt:i=(qm d.Book d.Net.Agents d.pA d.pB d.xA d.yB).length:=by have:=odF hc;omega
  clear hc;subst hlt;simp only[bPl,Nat.reduceBEq,jd,je,jf,jg,jh,jc,go_sem];have lidl:=qe hr;have eS:jb d.Origins (qt (upC d) d.pA d.pB) (upC d) (d.At+1) (upD d) (d.Origins.getD d.pB ⟨0,0,0⟩) (qm d.Book d.Net.Agents d.pA d.pB d.xA d.yB).length=d.stepO:=rfl;rw[eS]at hr;have lS:qy (qt (upC d) d.pA d.pB) (qm d.Book d.Net.Agents d.pA d.pB d.xA d.yB).length=d.stepO.length:=by rw[<-eS,Z6]
  refine Sem.can (Can.give (s':=[(0,.ptr did 0 0),(5,.ptr nid 0 0),(7,.lst 3 (d.stepO.map qE.enc) false)]) (m':=[]) [lid] (GvS.same (by simp[go_sem]) (GvS.same (by simp[go_sem]) (GvS.cons (v:=.slice 3 lid 0 (qy (qt (upC d) d.pA d.pB) (qm d.Book d.Net.Agents d.pA d.pB d.xA d.yB).length) false) (by simp[go_sem]) (Cv.row (by rw[Jg (by simp)];exact hr) (by rw[lS];simp) (qV qE.isSh.tree _) (by decide)) (by simp only[AV.tree];exact qV qE.isSh.tree _) .nil))) .nil) (Sem.reg (by kernel_rfl) ?_);have e8:∀j,j≠lid->(without [lid] g)[j]?=g[j]?:=fun j hj=>wj (by simpa using hj);have gd8:=gD.heap (e8 did (by have:=hD4.l1;omega)) (e8 pid (by have:=hD4.l2;omega));have hR8:RW d.Book (wG (jl (qS d.xA d.yB) d.pA d.pB)) mid h.length nid (without [lid] g) (qm d.Book d.Net.Agents d.pA d.pB d.xA d.yB):=
   ⟨⟨aid,ps,n4.heap ((e8 _ (by have:=n4.lt;omega)).trans (hk.k _ n4.lt)) ((e8 _ (by have:=n4.lta;omega)).trans (hk.k _ n4.lta)) fun q hq=>(e8 _ (by have:=n4.ltp hq;omega)).trans (hk.k _ (n4.ltp hq))⟩,(e8 _ (by have:=qe hR4.m;omega)).trans gm⟩
  have k8:Keep base h (without [lid] g):=(k4.trans (hk.up (by have:=hD4.bl;omega))).wo (by simp;have:=hD.b1;omega);generalize without [lid] g=h8 at gd8 hR8 k8|-;simp only[bPl,Nat.reduceBEq,jd,je,jf,jg,jh,jc,go_sem];refine qZ (s985 (R:=qt (qS d.xA d.yB) d.pA d.pB) hR8 (fun k _=>qA1) G.hp2 G.hz2 (by omega) fun h9 k9=> ?_);have eG:(⟨zo (qm d.Book d.Net.Agents d.pA d.pB d.xA d.yB) (qt (qS d.xA d.yB) d.pA d.pB)⟩:qC)=d.stepG:=rfl;rw[eG];have gd9:=gd8.keep k9;have kA:=k8.trans (k9.up gd8.bl);clear k9 gd8 hR8 k8 e8 hR4 hk hr gN gm gD gd n4 e4;have gd9':=gd9.o';simp only[bPl,Nat.reduceBEq,jd,je,jf,jg,jh,jc,go_sem];refine q8 (e':=zf {d with At:=d.At+1,Net:=d.stepG} pid) (by simp only[go_sem]) gd9' rfl rfl ?_;simp only[lSz];have gdA:=gd9.put (d':={d with At:=d.At+1,Net:=d.stepG}) rfl;have kB:=kA.trans (Keep.set (i:=did) (o:=.row 8 [zf {d with At:=d.At+1,Net:=d.stepG} pid] true) hD.b1);generalize h9.set did (.row 8 [zf {d with At:=d.At+1,Net:=d.stepG} pid] true)=hA at gdA kB|-;have gdA':=gdA.o';simp only[bPl,Nat.reduceBEq,jd,je,jf,jg,jh,jc,go_sem];refine q8 (e':=zf {d with At:=d.At+1,Net:=d.stepG,Origins:=d.stepO} pid) rfl gdA' rfl rfl ?_;simp only[lSz];have gdB:=gdA.put (d':={d with At:=d.At+1,Net:=d.stepG,Origins:=d.stepO}) rfl;have kC:=kB.trans (Keep.set (i:=did) (o:=.row 8 [zf {d with At:=d.At+1,Net:=d.stepG,Origins:=d.stepO} pid] true) hD.b1);generalize hA.set did (.row 8 [zf {d with At:=d.At+1,Net:=d.stepG,Origins:=d.stepO} pid] true)=hB at gdB kC|-;have gdB':=gdB.o';have ev:=hI.ev;have ev0:¬d.Every=0:=by omega
  simp only[bPl,Nat.reduceBEq,jd,je,jf,jg,jh,jc,go_sem];simp only[gdB',if_neg ev0,go_sem];have pm:=hI.pm;have pl:=hI.pl;have ds:=qaO (a:=d.At) (e:=d.Every) ha.1 (by omega);have tb:=QR (a:=d.At+1) (b:=d.Every) (by omega) (by omega);have tq:IntKind.i64.wrap ((d.At+1).tdiv d.Every)=(d.At+1).tdiv d.Every:=qf (by omega) (by omega);have fin0:¬((d.At+1).tmod d.Every=0/\(d.Points.length:Int)=(d.At+1).tdiv d.Every)->DA base did pid hB d.stepT:=fun q=>by
   have:d.stepT={d with At:=d.At+1,Net:=d.stepG,Origins:=d.stepO}:=by unfold qJ.stepT;rw[if_neg q]
   rw[this];exact gdB
  apply qg<;>intro hc<;>simp only[hc,go_sem]
  ·have h1:(d.At+1).tmod d.Every=0:=by simpa using hc
   clear hc;simp only[gdB',if_neg ev0,tq,go_sem];apply qM<;>intro hc<;>simp only[hc,go_sem]
   ·have h2:(d.Points.length:Int)=(d.At+1).tdiv d.Every:=by have q:(d.Points.length:Int)<=(d.At+1).tdiv d.Every:=(by simpa using hc);omega
    clear hc;simp only[bPl,Nat.reduceBEq,jd,je,jf,jg,jh,jc,go_sem];have so:=wZ (qC9 G);have q2:d.stepO.length<=(qm d.Book d.Net.Agents d.pA d.pB d.xA d.yB).length:=by rw[<-lS];exact Q8
    have sg:d.stepG.sz<=1048576:=by rw[show d.stepG=⟨XI d.Book d.Net.Agents d.pA d.pB d.xA d.yB⟩from rfl];omega
    refine qZ (s986 gdB sg (by simp only;omega) (by simp only;omega) fun hC pid' gdC jC=> ?_);simp only[bPl,Nat.reduceBEq,jd,je,jf,jg,jh,jc,go_sem];have eT:d.stepT={d with At:=d.At+1,Net:=d.stepG,Origins:=d.stepO,Points:=d.Points++[⟨d.At+1,d.stepG,d.stepO⟩]}:=by unfold qJ.stepT;rw[if_pos ⟨h1,h2⟩]
    exact hK _ pid' (by rw[eT];exact gdC) (kC.trans jC)
   ·have h2:¬(d.Points.length:Int)=(d.At+1).tdiv d.Every:=by have q:¬(d.Points.length:Int)<=(d.At+1).tdiv d.Every:=(by simpa using hc);omega
    simp only[bPl,Nat.reduceBEq,jd,je,jf,jg,jh,jc,go_sem];exact hK _ pid (fin0 fun q=>h2 q.2) kC
  ·have h1:¬(d.At+1).tmod d.Every=0:=by simpa using hc
   simp only[bPl,Nat.reduceBEq,jd,je,jf,jg,jh,jc,go_sem];exact hK _ pid (fin0 fun q=>h1 q.1) kC
end
theorem DI.pts{d:qJ}(hI:DI d):∀p∈d.Points,p.Net.sz<=5400/\p.Origins.length<=600:=fun p hp=>by
 obtain⟨i,hi⟩:=List.getElem?_of_mem hp;obtain⟨_,ok,ho⟩:=hI.pv i p hi;have:=wZ ok;omega
theorem DI.bks{d:qJ}(hI:DI d):d.Book.length<=24/\∀t∈d.Book,t.sz<=5400:=by
 have h:=hI.bk;unfold j7 at h;simp only[bAt,dTe]at h;exact⟨h.1,fun t ht=>(wZ (lAt.1 h.2 t ht)).1⟩
theorem DI.sch{d:qJ}(hI:DI d):d.Schedule.length<=200:=by
 have h:=hI.r.2.2.1;unfold wM at h;simp only[bAt,dTe]at h;exact h.1
theorem YL{d:qJ}(hI:DI d):Fresh Gm 429 [d.enc] d.enc:=by
 have hb:=hI.bks;have hs:=hI.sch;have hn:=wZ hI.r.2.1;have ho:=hI.os;have hk:=hI.r.2.2.2.2.2;have hm:=hI.pm;exact qjH d ⟨by omega,fun x hx=>by have:=hb.2 x hx;omega⟩ ⟨by omega,by omega,by omega,by omega⟩ ⟨by omega,fun p hp=>by have:=hI.pts p hp;omega⟩
theorem DI.szle{d:qJ}(hI:DI d):d.sz<=67108864:=by
 have hb:=hI.bks;have hs:=hI.sch;have hn:=wZ hI.r.2.1;have ho:=hI.os;have hk:=hI.r.2.2.2.2.2;have hm:=hI.pm;have s1:=UJ (f:=qC.sz) (k:=5400) (xs:=d.Book) hb.2;have s2:=UJ (f:=qF.sz) (k:=6000) (xs:=d.Points) fun p hp=>by have:=hI.pts p hp;unfold qF.sz;omega
 unfold qJ.sz;omega
theorem qeP{d:qJ}(h:qi d.Net≠[]):upV d=.tup [upU d,.bool true]:=by unfold upV upU;rw[if_neg h]
theorem upU.ln{d:qJ}:(upU d).cells.length=6:=rfl
theorem YQ(r:qJ×Int×Int):(Ji r).pl=true:=by unfold Ji;simp[AV.pl,AV.pls,qJ.plx]
theorem ZI{r:qJ×Int×Int}{m:Nat}:lay (Ji r) m=(.tup [(lay r.1.enc m).1,.int .i64 r.2.1,.int .i64 r.2.2],(lay r.1.enc m).2):=by simp[Ji,lay,qN]
theorem XR{h:List qD}{n k:Int}:FinF (some [.agg [.nils,.nils,.int .i64 0,.int .i64 0,.nils,.nils,.nils,.nils],.int .i64 n,.int .i64 k]) h (Ji (QC,n,k)):=by
 refine⟨[none,none,none,none,none,none],rfl,⟨.ph,.ph,.ph,.ph,.ph,.ph,trivial⟩, ?_⟩;have a:VR2 [none,none,none,none,none,none] (.agg [.nils,.nils,.int .i64 0,.int .i64 0,.nils,.nils,.nils,.nils]) (.agg [.slice 1 0 0 0 false,.slice 1 1 0 0 false,.int .i64 0,.int .i64 0,.slice 5 2 0 0 false,.slice 3 3 0 0 false,.slice 2 4 0 0 false,.slice 3 5 0 0 false]):=
  .agg rfl (VR2s.cons (.ph rfl) (VR2s.cons (.ph rfl) (VR2s.cons (.tree rfl) (VR2s.cons (.tree rfl) (VR2s.cons (.ph rfl) (VR2s.cons (.ph rfl) (VR2s.cons (.ph rfl) (VR2s.cons (.ph rfl) VR2s.nil)))))))).2
 exact .tup rfl (VR2s.cons a (VR2s.cons (.tree rfl) (VR2s.cons (.tree rfl) VR2s.nil))).2
theorem qeO{d:qJ}:(upV d).leaf=true:=by unfold upV;split<;>rfl
theorem n251{d:qJ}{c:Int}(hz:d.sz<=1048576):Fresh Gm 251 [d.enc,.int .i64 c] (Ji (wS d c)):=by
 refine fI Kj (by simp[AV.trees,AV.tree,go_sem]) (YQ _) ?_;simp only[Kj,qQ,go_sem];refine qW qJ.ln ?_;simp only[go_sem];refine qO (c373 hz) ?_;simp only[go_sem];cases ok:jN d
 ·simp only[go_sem];refine qU (k:=8) (by rfl) (by rfl) ⟨_,rfl⟩ (by decide) ?_;simp only[go_sem];rw[show wS d c=(QC,0,1) by unfold wS;rw[ok];rfl];exact XR
 simp only[go_sem];refine jM (vs':=[.int .i64 4000,.lst 1 ([c].map qK) false]) (Cvs.cons (.refl rfl) (Cvs.cons (Cv.row rfl rfl rfl (by decide)) Cvs.nil)) (c436 (by simp)) rfl ?_;simp only[lAc,List.all_nil,Bool.and_true,go_sem];cases cok:inI c 0 4000
 ·simp only[go_sem];refine qU (k:=8) (by rfl) (by rfl) ⟨_,rfl⟩ (by decide) ?_;simp only[go_sem];rw[show wS d c=(QC,0,2) by unfold wS;rw[ok,cok];rfl];exact XR
 simp only[go_sem];have hc4:=zK.1 cok;rw[show wS d c=wH c.toNat 0 d by unfold wS;rw[ok,cok];rfl];obtain⟨m,rfl⟩:∃m:Nat,c=m:=⟨c.toNat,by omega⟩;rw[iTn];generalize hres:wH m 0 d=res;have hI:=qBW ok;have ha:=zK.1 hI.r.2.2.2.1;have pl0:0<d.Points.length:=by have:=hI.pl;have:=QR (a:=d.At) (b:=d.Every) ha.1 (by have:=hI.ev;omega);omega
 refine zW (YL hI) ?_;simp only[go_sem,lNa,nZa];obtain⟨H,hH⟩:∃H,H=[qD.row 1 [.int .i64 (m:Int)] true]++(lay d.enc 1).2:=⟨_,rfl⟩;rw[<-hH];have l1:H.length=1+d.enc.rows:=by rw[hH,lAp,qb];rfl
 refine q8 (e':=(lay d.enc 1).1) (Jz d _) gCl rfl (put8 (Jz d _) (Ql d _)) ?_;rw[lSr _ _ (nLr _),nSs];simp only[lSz];obtain⟨h2,pid,c2,D2,k2⟩:=DA.ofLay (d:=d) (base:=0) (did:=H.length) (n:=1) (h:=H++[qD.row 8 [(lay d.enc 1).1] true]) gCl
  (fun i o hi=>by
   have:=qe hi;rw[qb]at this;rw[gAl (by omega),hH,gAr (by simp)];simpa using hi) pl0 (.inr (by omega)) (nZl _) (nZl _)
 generalize H.length=did at D2 c2|-;simp only[go_sem];refine Sem.loop (α:=Nat×List qD×Nat×qJ) (fun q=>q.1<=m/\DA 0 did q.2.2.1 q.2.1 q.2.2.2/\DI q.2.2.2/\wH (m-q.1) q.1 q.2.2.2=res)
  (fun q=>(⟨[(1,.int .i64 (m:Nat)),(7,.ptr did 0 0),(8,.int .i64 (q.1:Nat))],[(4,.agg [.nils,.nils,.int .i64 0,.int .i64 0,.nils,.nils,.nils,.nils])],q.2.1⟩:VSt)) (fun q=>m-q.1) (0,h2,pid,d) (by kernel_rfl)
  ⟨nZl _,D2,hI,hres⟩ ((c2 _ _ _).trans (Can.sub (by simp[go_sem]) (by simp[go_sem]))) ?_
 clear hres hI D2 c2 k2 hH l1 ok hz pl0 ha cok;rintro⟨n,g,pp,dd⟩ ⟨hn,eD,eI,hres⟩;simp only at hn eD eI hres;have eD':=eD.o';have stop:(n=m\/(n≠0/\0<=jy dd)\/qi dd.Net=[])->res=(dd,(n:Int),0):=fun q=>by
  rw[<-hres];cases hf:m-n with
  | zero=>rfl
  | succ f=>
   unfold wH;split
   ·rfl
   ·rename_i q1;split
    ·rfl
    ·rename_i q2;rcases q with q | q | q
     ·omega
     ·exact absurd q q1
     ·exact absurd q q2
 have stepc:¬(n=m)->¬(n≠0/\0<=jy dd)->qi dd.Net≠[]->res=if dd.stepC≠0 then(QC,0,dd.stepC)else wH (m-(n+1)) (n+1) dd.stepT:=fun q1 q2 q3=>by
  rw[<-hres,show m-n=(m-(n+1))+1 by omega];show wH _ _ _=_;rw[wH,if_neg q2,if_neg q3]
 have eA:=zK.1 eI.r.2.2.2.1;simp only[go_sem];apply qg<;>intro hc<;>simp only[hc,go_sem]
 ·have hm:n<m:=by have:=odT hc;omega
  clear hc;apply qg<;>intro hc<;>simp only[hc,go_sem]
  ·have h2:n≠0:=by have:=odF hc;omega
   clear hc;refine jM (Cvs.cons (eD.cv 0) Cvs.nil) (qf6 eI.r) rfl ?_;simp only[go_sem];apply qM<;>intro hc<;>simp only[hc,go_sem]
   ·have q2:¬(n≠0/\0<=jy dd):=by have:=odT hc;omega
    clear hc;refine jM (Cvs.cons (eD.cv 0) Cvs.nil) (qAT eI.r) qeO ?_;by_cases hne:qi dd.Net=[]
    ·rw[show upV dd=.tup [.agg [.int .i64 0,.int .i64 0,.int .i64 0,.int .i64 0,.int .i64 0,.int .i64 0],.bool false] by unfold upV;rw[if_pos hne]];simp only[go_sem];refine qU (k:=6) (by rfl) (by rfl) ⟨_,rfl⟩ (by decide) ?_;simp only[go_sem];simp only[eD',go_sem];refine Js (Cvs.cons eD.cv0 Cvs.nil) (YL eI) ?_;simp only[go_sem];refine qU (k:=8) (by rfl) (Jz _ _) (Ql _ _) (by decide) ?_;simp only[go_sem,wW];rw[stop (.inr (.inr hne))];exact jU (pre:=g) (post:=[]) (YQ _) (by rw[ZI];rfl) (by rw[ZI,lAn])
    rw[qeP hne,upU];simp only[go_sem];refine qU (k:=6) (by rfl) (by rfl) ⟨_,rfl⟩ (by decide) ?_;simp only[eD',go_sem];have sc:=stepc (by omega) q2 hne;apply qM<;>intro hc<;>simp only[hc,go_sem]
    ·have h4:dd.At=4000:=by simpa using hc
     clear hc;refine qU (k:=8) (by rfl) (by rfl) ⟨_,rfl⟩ (by decide) ?_;simp only[go_sem];have ec:dd.stepC=12:=by unfold qJ.stepC;rw[if_neg hne,if_pos (by omega)]
     rw[ec,if_pos (by decide)]at sc;rw[sc];exact XR
    have h4:¬4000<=dd.At:=by have q5:¬dd.At=4000:=(by simpa using hc);omega
    clear hc;refine qZ (s608 eD eI hne h4 (fun q h' k'=> ?_) (fun q G h' pid' D' k'=> ?_))
    ·rw[if_pos q]at sc;simp only[q,decide_false,go_sem];refine qU (k:=8) (by rfl) (by rfl) ⟨_,rfl⟩ (by decide) ?_;simp only[go_sem];rw[sc];exact XR
    ·rw[if_neg (by simpa using q)]at sc;simp only[go_sem,qc (show n<4611686018427387904 by omega)];exact qd (n+1,h',pid',dd.stepT) ⟨hm,D',Yc eI q,sc.symm⟩ (by simp only;omega) (Can.sub (by simp[go_sem]) (by simp[go_sem]))
   ·have q2:n≠0/\0<=jy dd:=⟨h2,by have:=odF hc;omega⟩;clear hc;simp only[eD',go_sem];refine Js (Cvs.cons eD.cv0 Cvs.nil) (YL eI) ?_;simp only[go_sem];refine qU (k:=8) (by rfl) (Jz _ _) (Ql _ _) (by decide) ?_;simp only[go_sem,wW];rw[stop (.inr (.inl q2))];exact jU (pre:=g) (post:=[]) (YQ _) (by rw[ZI];rfl) (by rw[ZI,lAn])
  ·have q2:¬(n≠0/\0<=jy dd):=by have:=odT hc;omega
   clear hc;refine jM (Cvs.cons (eD.cv 0) Cvs.nil) (qAT eI.r) qeO ?_;by_cases hne:qi dd.Net=[]
   ·rw[show upV dd=.tup [.agg [.int .i64 0,.int .i64 0,.int .i64 0,.int .i64 0,.int .i64 0,.int .i64 0],.bool false] by unfold upV;rw[if_pos hne]];simp only[go_sem];refine qU (k:=6) (by rfl) (by rfl) ⟨_,rfl⟩ (by decide) ?_;simp only[go_sem];simp only[eD',go_sem];refine Js (Cvs.cons eD.cv0 Cvs.nil) (YL eI) ?_;simp only[go_sem];refine qU (k:=8) (by rfl) (Jz _ _) (Ql _ _) (by decide) ?_;simp only[go_sem,wW];rw[stop (.inr (.inr hne))];exact jU (pre:=g) (post:=[]) (YQ _) (by rw[ZI];rfl) (by rw[ZI,lAn])
   rw[qeP hne,upU];simp only[go_sem];refine qU (k:=6) (by rfl) (by rfl) ⟨_,rfl⟩ (by decide) ?_;simp only[eD',go_sem];have sc:=stepc (by omega) q2 hne;apply qM<;>intro hc<;>simp only[hc,go_sem]
   ·have h4:dd.At=4000:=by simpa using hc
    clear hc;refine qU (k:=8) (by rfl) (by rfl) ⟨_,rfl⟩ (by decide) ?_;simp only[go_sem];have ec:dd.stepC=12:=by unfold qJ.stepC;rw[if_neg hne,if_pos (by omega)]
    rw[ec,if_pos (by decide)]at sc;rw[sc];exact XR
   have h4:¬4000<=dd.At:=by have q5:¬dd.At=4000:=(by simpa using hc);omega
   clear hc;refine qZ (s608 eD eI hne h4 (fun q h' k'=> ?_) (fun q G h' pid' D' k'=> ?_))
   ·rw[if_pos q]at sc;simp only[q,decide_false,go_sem];refine qU (k:=8) (by rfl) (by rfl) ⟨_,rfl⟩ (by decide) ?_;simp only[go_sem];rw[sc];exact XR
   ·rw[if_neg (by simpa using q)]at sc;simp only[go_sem,qc (show n<4611686018427387904 by omega)];exact qd (n+1,h',pid',dd.stepT) ⟨hm,D',Yc eI q,sc.symm⟩ (by simp only;omega) (Can.sub (by simp[go_sem]) (by simp[go_sem]))
 ·have hm:n=m:=by have:=odF hc;omega
  clear hc;simp only[eD',go_sem];refine Js (Cvs.cons eD.cv0 Cvs.nil) (YL eI) ?_;simp only[go_sem];refine qU (k:=8) (by rfl) (Jz _ _) (Ql _ _) (by decide) ?_;simp only[go_sem,wW];rw[stop (.inl hm)];exact jU (pre:=g) (post:=[]) (YQ _) (by rw[ZI];rfl) (by rw[ZI,lAn])
theorem qbW{e:AV}{k k':IntKind}{n n':Int}{m:Nat}:lay (.tup [e,.int k n,.int k' n']) m=(.tup [(lay e m).1,.int k n,.int k' n'],(lay e m).2):=by simp[lay,qN]
theorem qbE:∀{f n:Nat}{d:qJ},DI d->(wH f n d).1.sz<=67108864
 | 0,_,_,h=>h.szle
 | f+1,n,d,h=>by
  rw[wH];split
  ·exact h.szle
  split
  ·exact h.szle
  split
  ·exact nZl _
  ·rename_i q;exact qbE (Yc h (by simpa using q))
theorem qhW{d:qJ}{c:Int}:(wS d c).1.sz<=67108864:=by
 unfold wS;split
 ·rename_i ok;split
  ·exact qbE (qBW ok)
  ·exact nZl _
 ·exact nZl _
theorem c41{d:qJ}{k:Int}(hb:d.bd):Pure Gm 41 [d.enc,.int .i64 k] (.bool true):=by
 refine pI F41 (by simp[AV.trees,AV.tree,qJ.tr,go_sem]) rfl ?_;simp only[F41,qQ,go_sem];refine qW rfl ?_;simp only[go_sem];refine qO (c104 d hb 1048576 (by omega)) ?_;simp only[go_sem];apply qM<;>intro hc<;>simp only[hc,go_sem]
 ·exact qR rfl rfl
 ·have hz:d.sz<=1048576:=by
   have:=odF hc;rw[jJ]at this;omega
  have hA2:=qhW (d:=d) (c:=k);generalize hA:wS d k=A at hA2;have kp:=c250 (d:=d) (c:=k) hz;have k1:=n251 (d:=d) (c:=k) hz;rw[hA]at kp k1;unfold Ji at kp k1;refine qO (c106 d hz) ?_;simp only[go_sem];refine qO kp ?_;simp only[go_sem];refine qU (k:=8) (by rfl) (by rfl) (by exact⟨_,rfl⟩) (by decide) ?_;simp only[go_sem];refine zW (n106 d hz) ?_;simp only[go_sem];refine qU (k:=8) (by rfl) (Jz _ _) (Ql _ _) (by decide) ?_;simp only[go_sem,wW];refine Js (Cvs.cons (X4 (pre:=[]) (post:=[]) (qJ.plx d) (qJ.cnx d) (by simp)) (Cvs.cons (.refl rfl) Cvs.nil)) k1 ?_;simp only[go_sem,qbW,wW,lNa,qb];refine qU (k:=8) (by rfl) (Jz _ _) (Ql _ _) (by decide) ?_;simp only[go_sem,wW];have hL:(lay d.enc 0).2.length=d.enc.rows:=qb _ _;have cg:∀{h post:List qD}{x:qJ},x.enc.rows=d.enc.rows->h=(lay x.enc 0).2++((lay A.1.enc d.enc.rows).2++post)->Cv h (lay A.1.enc d.enc.rows).1 A.1.enc:=fun{h post x} hx hh=>by
   have hl:(lay x.enc 0).2.length=d.enc.rows:=(qb _ _).trans hx;rw[<-hl]at hh|-;exact X4 (qJ.plx A.1) (qJ.cnx A.1) hh
  refine jM (Cvs.cons (cg (post:=[]) (x:=d) rfl (by simp)) (Cvs.cons (.refl (by simp[go_sem])) Cvs.nil)) (Yz A.1 (by omega)) rfl ?_;simp only[go_sem];simp only[wW,go_sem];refine qO (c106 d hz) ?_;simp only[go_sem];refine jM (Cvs.cons (X4 (pre:=[]) (qJ.plx d) (qJ.cnx d) rfl) (Cvs.cons (.refl (by simp[go_sem])) Cvs.nil)) (Yz d (by omega)) rfl ?_;simp only[go_sem];simp only[wW,go_sem];have hct:=d.ctVle;refine JF (k136 d 1 (by omega) (by omega) (by omega)) (pre:=[]) (post:=(lay A.1.enc d.enc.rows).2) rfl rfl rfl ?_;simp only[go_sem];have hneg:decide ((1:Int)+((d.ctV:Nat):Int)<0)=false:=decide_eq_false (by omega);simp only[hneg,go_sem,wW];refine jM (Cvs.cons (cg (post:=[]) (x:=d.mkV 1) (qJ.rowsV d 1) (by simp)) (Cvs.cons (.refl (by simp[go_sem])) Cvs.nil)) (Yz A.1 (by omega)) rfl ?_;simp only[go_sem];simp only[wW,go_sem];have hcA:=A.1.ctVle;have hlV:(lay (d.mkV 1).enc 0).2.length=d.enc.rows:=(qb _ _).trans (qJ.rowsV d 1);refine JF (k136 A.1 1 (by omega) (by omega) (by omega)) (pre:=(lay (d.mkV 1).enc 0).2) (post:=[]) hlV (by simp) rfl ?_;simp only[go_sem];simp only[wW,go_sem];have layV:∀n,(lay (A.1.mkV 1).enc n).1=(lay A.1.enc n).1:=fun n=>by
   simp[qJ.layE,qJ.mkV,js,AV.rows,qY qC.mrk qC.ct (enc:=qC.enc) qC.rowsM,qY mkI ctI (enc:=qK) (fun _ _=>rfl),qY qA.mrk qA.ct (enc:=qA.enc) qA.rowsM,qY qE.mrk qE.ct (enc:=qE.enc) qE.rowsM,qY qI.mrk qI.ct (enc:=qI.enc) qI.rowsM]
  have cm:∀{h post:List qD},h=(lay (d.mkV 1).enc 0).2++((lay (A.1.mkV 1).enc d.enc.rows).2++post)->Cv h (lay A.1.enc d.enc.rows).1 (A.1.mkV 1).enc:=fun{h post} hh=>by
   rw[<-layV,<-hlV]at*;exact X4 (qJ.plx _) (qJ.cnx _) hh
  refine jM (Cvs.cons (cm (post:=[]) rfl) (Cvs.cons (.refl rfl) Cvs.nil)) (q137 A.1 1 (by omega) (by omega) (by omega)) rfl ?_;simp only[go_sem];have hneg2:decide ((1:Int)+((A.1.ctV:Nat):Int)<0)=false:=decide_eq_false (by omega);simp only[hneg2,go_sem,wW];refine qO (c106 d hz) ?_;simp only[go_sem];refine zW k1 ?_;simp only[go_sem,qbW,wW,lAn];refine qU (k:=8) (by rfl) (Jz _ _) (Ql _ _) (by decide) ?_;simp only[go_sem,wW];refine jM (Cvs.cons (X4 (pre:=(lay (d.mkV 1).enc 0).2++(lay (A.1.mkV 1).enc d.enc.rows).2) (post:=[]) (qJ.plx A.1) (qJ.cnx A.1) (by simp)) (Cvs.cons (.refl (by simp[go_sem])) Cvs.nil)) (Yz A.1 (by omega)) rfl ?_;simp only[go_sem];simp only[wW,go_sem];refine jM (Cvs.cons (cm (lAa _ _ _)) (Cvs.cons (.refl rfl) Cvs.nil)) (q137 A.1 1 (by omega) (by omega) (by omega)) rfl ?_;simp only[go_sem];simp only[hneg2,go_sem,wW];exact qR rfl rfl
end Go.Ab
