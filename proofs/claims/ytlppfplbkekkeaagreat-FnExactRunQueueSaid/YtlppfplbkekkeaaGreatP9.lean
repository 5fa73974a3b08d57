/- Texts Net51 .. Net62: the abstract machine, its laws and contracts of functions: lemmas for the statement. No condition. -/
import Derived.Test.YtlppfplbkekkeaaGreatP8
set_option linter.unusedSimpArgs false
set_option linter.unusedVariables false
namespace Go.Ab
open Go
set_option maxRecDepth 10000
set_option maxHeartbeats 2000000
def YB:qP:=⟨0,0,0,[]⟩
def Qv(y:qP×Int×Int):AV:=.tup [y.1.enc,iI y.2.1,iI y.2.2]
def wX:Nat->qP->Nat->qP×Int×Int
 | 0,q,c=>if jt q= -1 then(q,(c:Int),0)else(YB,0,12)
 | f+1,q,c=>if jt q= -1 then(q,(c:Int),0)else wX f (Jl q) (c+1)
theorem qf0{f c:Nat}{q:qP}(h:¬jt q= -1):wX (f+1) q c=wX f (Jl q) (c+1):=by
 show (if jt q= -1 then _ else _)=_;rw[if_neg h]
def Jv(q:qP)(n:Int):qP×Int×Int:=if wl q=false then(YB,0,1)else if inI n 0 4000=false then(YB,0,2)else wX n.toNat q 0
theorem qm9(y:qP×Int×Int):(Qv y).pl=true:=by simp[Qv,AV.pl,AV.pls,qP.plx]
theorem qCF{h:List qC}{e:Int}:Zd (some [.agg [iI 0,iI 0,iI 0,.nils],iI 0,iI e]) h (Qv (YB,0,e)):=by
 have o:=((((qo.nil (h:=h).scal (a:=iI 0) (λ_=>rfl) rfl rfl).scal (a:=iI 0) (λ_=>rfl) rfl rfl).scal (a:=iI 0) (λ_=>rfl) rfl rfl).snoc (qd.nils (w:=10) (c:=false)) λj hj=>by simp at hj).agg;exact((o.one.scal (a:=iI 0) (λ_=>rfl) rfl rfl).scal (a:=iI e) (λ_=>rfl) rfl rfl).tup.fin
theorem qDW{q:qP}(ok:wl q=true):QV q:=by
 obtain⟨hl,t0,t5,_⟩:=qnU ok;have ok':=ok;unfold wl at ok';simp only[bAt,zK]at ok';refine⟨hl,t0,t5,by omega,by omega,λj hj hs=>?_⟩;have key:∀(js:List qF)(n l:Int),J9 n l js=true->∀j∈js,Jf j=true:=by
  intro js
  induction js with
  | nil=>intro n l _ j hj;cases hj
  | cons y ys ih=>
   intro n l h j hj;unfold J9 at h;simp only[bAt]at h;rcases List.mem_cons.1 hj with rfl | hj
   ·exact h.1.2
   ·exact ih _ _ h.2 j hj
 exact qlH (key _ _ _ ok'.2 j hj) hs
section
variable {Z:List (Option Nat)->Prop} {qid jid:Nat} {vs:List AV} {SS:List (List (Option Nat))} {q:qP} {h:List qC}
theorem QM.own(hQ:QM Z qid jid vs SS q h):qd (some jid::SS.flatten) h (.agg [iI q.Quantum,iI q.NextId,iI q.Turn,sQ 10 jid q.Jobs.length]) q.enc:=by
 have y:=qo.join (h:=h) (ts:=q.Jobs.map qF.enc) (vs:=vs) (SS:=SS) (by rw[lMp];exact hQ.lv) (by rw[lMp];exact hQ.ls) (λk t hk=>by
  rw[gMp,oMi]at hk;obtain⟨j,hj,rfl⟩:=hk;obtain⟨v,S,q1,q2,q3,_⟩:=hQ.j k j hj;exact⟨v,S,q1,q2,q3⟩) hQ.d
 have r:=y.row hQ.r λe=>by
  obtain⟨A,hA,hi⟩:=List.mem_flatten.1 e;obtain⟨k,hk⟩:=List.getElem?_of_mem hA;exact(hQ.n k A hk jid hi).2.2 rfl
 rw[lMp]at r;have:=((((qo.nil (h:=h).scal (a:=iI q.Quantum) (λ_=>rfl) rfl rfl).scal (a:=iI q.NextId) (λ_=>rfl) rfl rfl).scal (a:=iI q.Turn) (λ_=>rfl) rfl rfl).snoc r (by simp)).agg;unfold qP.enc;simpa using this
theorem QM.fin{n e:Int}(hQ:QM Z qid jid vs SS q h):Zd (some [.agg [iI q.Quantum,iI q.NextId,iI q.Turn,sQ 10 jid q.Jobs.length],iI n,iI e]) h (Qv (q,n,e)):=
 ((hQ.own.one.scal (a:=iI n) (λ_=>rfl) rfl rfl).scal (a:=iI e) (λ_=>rfl) rfl rfl).tup.fin
theorem QM.start(q:qP)(pre:List qC):∃vs SS,QM NoN (pre++(lay q.enc pre.length).2).length pre.length vs SS q (pre++(lay q.enc pre.length).2++[.row 4 [.agg [iI q.Quantum,iI q.NextId,iI q.Turn,sQ 10 pre.length q.Jobs.length]] true])/\∀(k:Nat)(S:List (Option Nat)),SS[k]?=some S->NoN S:=by
 have e1:(lay q.enc pre.length).1=.agg [iI q.Quantum,iI q.NextId,iI q.Turn,sQ 10 pre.length q.Jobs.length]:=congrArg Prod.fst (qP.layE q pre.length);have o:=qd.new (t:=q.enc) (pre:=pre) (post:=[.row 4 [.agg [iI q.Quantum,iI q.NextId,iI q.Turn,sQ 10 pre.length q.Jobs.length]] true]) (n:=pre.length) (h:=pre++(lay q.enc pre.length).2++[.row 4 [.agg [iI q.Quantum,iI q.NextId,iI q.Turn,sQ 10 pre.length q.Jobs.length]] true]) (qP.plx q) rfl (by rw[lAa]);have hb:∀i,some i∈(List.range' pre.length q.enc.rows).map some->i<(pre++(lay q.enc pre.length).2).length:=λi hi=>by have:=Xw hi;rw[lAp,qf];omega
 have hn:none∉(List.range' pre.length q.enc.rows).map some:=by simp
 generalize (List.range' pre.length q.enc.rows).map some=S at o hb hn;rw[e1]at o;obtain⟨ws,ew,y⟩:=o.aggs;cases ew;obtain⟨Z0,S0,q0,x0,y0⟩:=y.uncons;obtain⟨Z1,S1,q1,x1,y1⟩:=y0.uncons;obtain⟨Z2,S2,q2,x2,y2⟩:=y1.uncons;obtain⟨Z3,S3,q3,x3,y3⟩:=y2.uncons;have z0:=x0.int.2;have z1:=x1.int.2;have z2:=x2.int.2;have z3:=lEz y3.len;rw[q0,q1,q2,q3,z0,z1,z2,z3]at hb hn;simp only[lNa,lAn]at hb hn;obtain⟨id,vs,S',eS,ev,hr,ys⟩:=x3.lst hn;simp only[AV.slice.injEq,true_and,and_true]at ev;obtain⟨rfl,_⟩:=ev;rw[eS]at hb hn;obtain⟨SS,eF,l,hs⟩:=ys.parts;rw[lMp]at l;have hd:=x3.d;rw[eS]at hd;have nin:∀i,some i∈S'->i≠pre.length:=λi hi e=>WT (a:=[some pre.length]) (b:=S') hd (j:=i) (by rw[e];simp) hi;have lt0:=hb pre.length (by simp);have hno:∀(k:Nat)(A:List (Option Nat)),SS[k]?=some A->NoN A:=λk A q2 q=>hn (by rw[eF];simp only[List.mem_cons,List.mem_flatten];exact .inr ⟨A,lMo q2,q⟩);refine⟨vs,SS,⟨gCl,hr,by have:=ys.cnt;rwa[lMp]at this,l,λk j hj=>?_,λk l' A B i ne hA hB=>?_,λk A hA i hi=>?_,by omega⟩,hno⟩
 ·obtain⟨v,Sk,q1,q2,q3⟩:=hs k j.enc (by rw[gMp,hj];rfl);exact⟨v,Sk,q1,q2,q3,λ_=>hno k Sk q2⟩
 ·have:=ys.d;rw[eF]at this;exact qc5 this ne hA hB
 ·have hm:some i∈S':=by rw[eF];exact List.mem_flatten.2 ⟨A,lMo hA,hi⟩
  have h1:=hb i (by simp[hm]);exact⟨by simp at h1|-;omega,by omega,nin i hm⟩
end
theorem n242{q:qP}{n:Int}(hz:q.sz<=1048576):Fresh Gm 242 [q.enc,iI n] (Qv (Jv q n)):=by
 refine fI F242 (by simp[AV.trees,AV.tree,go_sem]) (qm9 _) ?_;simp only[F242,qM,go_sem];refine qZ rfl ?_;simp only[go_sem];refine qL (c589 hz) ?_;simp only[go_sem];apply qI<;>intro hc<;>simp only[hc,go_sem]
 ·have h0:wl q=false:=by simpa using hc
  unfold Jv;rw[if_pos h0];refine lsA ?_;simp only[go_sem];exact qCF
 ·have ok:wl q=true:=by simpa using hc
  clear hc;have hV:=qDW ok;refine jx (vs':=[iI 4000,.lst 1 ([n].map qQ) false]) (Cvs.cons (.refl rfl) (Cvs.cons (Cv.row rfl rfl rfl (by decide)) Cvs.nil)) (YS (by simp)) rfl ?_;simp only[go_sem];simp only[lNa];have ea:([n].all λn=>inI n 0 4000)=inI n 0 4000:=by simp
  rw[ea];apply qI<;>intro hc<;>simp only[hc,go_sem]
  ·have h0:inI n 0 4000=false:=by simpa using hc
   unfold Jv;rw[if_neg (by rw[ok];decide),if_pos h0];refine lsA ?_;simp only[go_sem];exact qCF
  ·have h0:inI n 0 4000=true:=by simpa using hc
   have hn:=zK.1 h0;clear hc;refine zk (n590 q hz) ?_;simp only[go_sem];obtain⟨vs,SS,hQ,_⟩:=QM.start q [.row 1 [iI n] true];rw[show [qC.row 1 [iI n] true].length=1 from rfl]at hQ;have e1:(lay q.enc 1).1=.agg [iI q.Quantum,iI q.NextId,iI q.Turn,sQ 10 1 q.Jobs.length]:=congrArg Prod.fst (qP.layE q _);rw[e1];refine qn (e':=.agg [iI q.Quantum,iI q.NextId,iI q.Turn,sQ 10 1 q.Jobs.length]) rfl gCl rfl rfl ?_;rw[lSr _ _ (nLr _),nSs,lSz,lSz];have er:Jv q n=wX n.toNat q 0:=by unfold Jv;rw[if_neg (by rw[ok];decide),if_neg (by rw[h0];decide)]
   rw[er];generalize [qC.row 1 [iI n] true]++(lay q.enc 1).2++[qC.row 4 [.agg [iI q.Quantum,iI q.NextId,iI q.Turn,sQ 10 1 q.Jobs.length]] true]=g at hQ|-;generalize ([qC.row 1 [iI n] true]++(lay q.enc 1).2).length=qid at hQ|-;obtain⟨m,rfl⟩:∃m:Nat,n=m:=⟨n.toNat,by omega⟩;simp only[iTn];simp only[go_sem];refine Sem.loop (α:=Nat×qP×List qC) (λz=>z.1<=m/\QV z.2.1/\(∃vs SS,QM NoN qid 1 vs SS z.2.1 z.2.2)/\wX m q 0=wX (m-z.1) z.2.1 z.1)
    (λz=>(⟨[(1,iI (m:Nat)),(7,.ptr qid 0 0),(8,iI (z.1:Nat))],[(4,.agg [iI 0,iI 0,iI 0,.nils])],z.2.2⟩:VSt)) (λz=>m-z.1) (0,q,g) (by kernel_rfl) ⟨nZl _,hV,⟨vs,SS,hQ⟩,rfl⟩ csA ?_
   rintro⟨c,p,g2⟩ ⟨hc,hV2,⟨vs2,SS2,hQ2⟩,hr⟩;simp only at hc hV2 hQ2 hr;rw[hr];simp only[go_sem];refine qU (s597 hQ2 hV2 ?_);simp only[go_sem];rcases X7 (q:=p)with e | ⟨t,j,e,hj,_⟩
   ·rw[e];simp only[show decide ((0:Int)<=-1)=false from rfl,go_sem];have er1:wX (m-c) p c=(p,(c:Int),0):=by
     cases m-c<;>(unfold wX;rw[if_pos e])
    rw[er1];simp only[hQ2.o,go_sem];refine lsA ?_;simp only[go_sem];exact hQ2.fin
   ·have ne:¬jt p= -1:=by omega
    rw[e];simp only[show decide ((0:Int)<=((t:Nat):Int))=true from decide_eq_true (by omega),go_sem];apply qI<;>intro hc2<;>simp only[hc2,go_sem]
    ·have:c=m:=by have:=odT hc2;omega
     subst this;rw[nSs];unfold wX;rw[if_neg ne];refine lsA ?_;simp only[go_sem];exact qCF
    ·have hcm:c≠m:=by have:=odF hc2;omega
     refine qU (s591 hQ2 hV2 (λq=>absurd q ne) (λ_ h' vs' SS' hQ'=>?_));simp only[go_sem,wuA (n:=c)];refine qb (c+1,Jl p,h') ⟨by simp only;omega,qEG hV2 (by omega),⟨_,_,hQ'⟩, ?_⟩ (by simp only;omega) csA;simp only;obtain⟨f,hf⟩:∃f,m-c=f+1:=⟨m-c-1,by omega⟩;rw[hf,show m-(c+1)=f by omega];exact qf0 ne
theorem qbK{E:Ev}{l:List qA}{ks:List Fr1}{s m:qv}{h:List qC}{Q:qi->VSt->Prop}{k w:Nat}{z v:AV}{e:Env}(hl:v.cells.length=w)(hr:R E (.ops l::ks) ⟨(k,sQ w h.length 1)::s,m,h++[.row w [v] true]⟩ Q):
  Bsl E (some k) w 1 (fil e w [z] 0 (some v) []) l ks ⟨s,m,h⟩ Q:=by
 rw[qkM hl,qkL,qBH,qmK];exact hr
theorem n961{j:qF}(hz:j.sz<=1048576):Fresh Gm 961 [.ept j.enc 0] j.enc:=by
 unfold qF.sz at hz;have hb:∀n∈j.Book,n.sz<=1048576:=λn hn=>by have:=zx (f:=qD.sz) hn;omega
 refine fI F961 (by simp[AV.trees,AV.tree,go_sem]) (qF.plx j) ?_;simp only[F961,qM,go_sem];refine lsA ?_;simp only[qF.enc,go_sem];refine zk (n402 j.Counts (by omega)) ?_;simp only[go_sem,zn,lNa];have o1:=qd.new (t:=lQ j.Counts) (pre:=[]) (post:=[]) (n:=0) (h:=(lay (lQ j.Counts) 0).2) (by simp only[AV.pl];exact(Qo j.Counts).2.1) rfl (by simp);have b1:∀i,some i∈(List.range' 0 (AV.rows (lQ j.Counts))).map some->i<(lay (lQ j.Counts) 0).2.length:=λi hi=>by have:=Xw hi;rw[qf];omega
 generalize (List.range' 0 (AV.rows (lQ j.Counts))).map some=S1 at o1 b1;rw[zn]at o1;generalize (lay (lQ j.Counts) 0).2=g1 at o1 b1|-;refine zk (n402 j.Schedule (by omega)) ?_;simp only[go_sem,zn];have o2:=qd.new (t:=lQ j.Schedule) (pre:=g1) (post:=[]) (n:=g1.length) (h:=g1++(lay (lQ j.Schedule) g1.length).2) (by simp only[AV.pl];exact(Qo j.Schedule).2.1) rfl (by simp);have b2:∀i,some i∈(List.range' g1.length (AV.rows (lQ j.Schedule))).map some->g1.length<=i/\i<(g1++(lay (lQ j.Schedule) g1.length).2).length:=λi hi=>by have:=Xw hi;rw[lAp,qf];omega
 generalize (List.range' g1.length (AV.rows (lQ j.Schedule))).map some=S2 at o2 b2;rw[zn]at o2;have o1':qd S1 (g1++(lay (lQ j.Schedule) g1.length).2) _ _:=o1.heap λi hi=>gAl (b1 i hi);have oi:=(((((qo.nil (h:=g1++(lay (lQ j.Schedule) g1.length).2).scal (a:=iI j.Id) (λ_=>rfl) rfl rfl).scal (a:=iI j.Weight) (λ_=>rfl) rfl rfl).scal (a:=iI j.State) (λ_=>rfl) rfl rfl).scal (a:=iI j.Code) (λ_=>rfl) rfl rfl).scal (a:=iI j.Left) (λ_=>rfl) rfl rfl).scal (a:=iI j.Slices) (λ_=>rfl) rfl rfl;have oc:=(oi.snoc o1' (by simp)).snoc o2 (by intro i hi q;have:=b2 i q;have:=b1 i (by simpa using hi);omega);simp only[lNa,lCa,lMp]at oc;have bc:∀i,some i∈S1++S2->i<(g1++(lay (lQ j.Schedule) g1.length).2).length:=λi hi=>by
  rcases zw.1 hi with q | q
  ·have:=b1 i q;simp;omega
  ·exact(b2 i q).2
 clear o1 o2 o1' oi b1 b2;generalize g1++(lay (lQ j.Schedule) g1.length).2=g2 at oc bc|-;refine Sem.loop (α:=Nat×List qC×Nat×List (Option Nat)×List AV) (λq=>q.1<=j.Book.length/\IFs (S1++S2) [iI j.Id,iI j.Weight,iI j.State,iI j.Code,iI j.Left,iI j.Slices,sQ 1 0 j.Counts.length,sQ 1 g1.length j.Schedule.length] [iI j.Id,iI j.Weight,iI j.State,iI j.Code,iI j.Left,iI j.Slices,lQ j.Counts,lQ j.Schedule] 1 q.2.1 q.2.2.1 q.2.2.2.1 q.2.2.2.2 ((j.Book.take q.1).map qD.enc))
  (λq=>(⟨[(0,.ept j.enc 0),(4,iI (q.1:Nat))],[(2,.agg [iI 0,iI 0,iI 0,iI 0,iI 0,iI 0,.nils,.nils,.nils,.nils]),(3,.agg [iI j.Id,iI j.Weight,iI j.State,iI j.Code,iI j.Left,iI j.Slices,sQ 1 0 j.Counts.length,sQ 1 g1.length j.Schedule.length,sQ 1 q.2.2.1 q.1,.lst 5 (j.Net.Agents.map qB.enc) false])],q.2.1⟩:VSt)) (λq=>j.Book.length-q.1) (0,g2++[.row 1 [] true],g2.length,[],[]) (by kernel_rfl)
  ⟨nZl _,IFs.start oc bc⟩
  (Can.ph (WkN.same rfl (WkN.same rfl WkN.nil)) (WkN.same rfl (WkN.cons rfl (Wk.agg (Wks.same (Wks.same (Wks.same (Wks.same (Wks.same (Wks.same (Wks.same (Wks.same (.cons (Wk.ph (by simp)) (Wks.same .nil))))))))))) WkN.nil))) ?_
 rintro⟨i,g,si,S,vs⟩ ⟨hi,hI⟩;simp only at hi hI;simp only[go_sem];apply qI<;>intro hc<;>simp only[hc,go_sem]
 ·have hlt:i<j.Book.length:=by have:=odT hc;omega
  clear hc;simp only[gMp,gEg hlt,oMs,go_sem];refine zk (n489 j.Book[i] (hb _ (gMm hlt))) ?_;simp only[go_sem];refine qbK (by rw[ZK (n:=g.length) (qD.plx j.Book[i])];rfl) ?_;simp only[go_sem];have hx:=qd.new (t:=j.Book[i].enc) (pre:=g) (post:=[]) (n:=g.length) (h:=g++(lay j.Book[i].enc g.length).2) (qD.plx j.Book[i]) rfl (by simp);have lv:vs.length=i:=by have:=hI.o.cnt;rw[this,lMp,lLt];omega
  refine jO (len:=i) (x:=(lay j.Book[i].enc g.length).1) (el:=vs) Zr (by rw[gAl (by have:=Xf hI.r;simp;omega),gAl (Xf hI.r)];exact hI.r) lv (by omega) ?_;have hP:=hI.push hx (λq hq=>by have:=Xw hq;rw[qf];exact this);have e:(j.Book.take i).map qD.enc++[j.Book[i].enc]=(j.Book.take (i+1)).map qD.enc:=by
   rw[lTs hlt,lMa];rfl
  rw[e]at hP;simp only[go_sem];simp only[lAp,lCo,lNi,nZa,wuA (n:=i)];exact qb (i+1,_,_,_,_) ⟨hlt,hP⟩ (by simp only;omega) csA
 ·have hlt:i=j.Book.length:=by have:=odF hc;omega
  clear hc;subst hlt;rw[lTl]at hI;refine zk (Fresh.lk0 qF.tr qF.q9_1 (by rw[qD.ln];decide) (n489 j.Net (by omega))) ?_;simp only[go_sem];have eN:(lay j.Net.enc g.length).1=.agg [sQ 5 g.length j.Net.Agents.length]:=congrArg Prod.fst (qD.layE j.Net g.length);have oN:=qd.new (t:=j.Net.enc) (pre:=g) (post:=[]) (n:=g.length) (h:=g++(lay j.Net.enc g.length).2) (qD.plx j.Net) rfl (by simp);rw[eN]at oN|-;refine qd4 rfl rfl ?_;simp only[go_sem];simp only[List.take_succ_cons,List.take_zero,List.drop_succ_cons,List.drop_zero,lCa,lNa,go_sem];refine lsA ?_;simp only[go_sem];obtain⟨d1,d2⟩:=hI.done (n:=j.Book.length) (by simp);have d3:=(d1.heap (h':=g++(lay j.Net.enc g.length).2) λi hi=>gAl (d2 i hi)).snoc oN.netc (λi hi q=>by have:=d2 i hi;have:=Xw q;omega);exact qd.fin (ws:=[_]) d3.agg
theorem n586{q:qP}(hz:q.sz<=1048576):Fresh Gm 586 [.ept q.enc 0] q.enc:=by
 unfold qP.sz at hz;have hb:∀j∈q.Jobs,j.sz<=1048576:=λn hn=>by have:=zx (f:=qF.sz) hn;omega
 refine fI F586 (by simp[AV.trees,AV.tree,go_sem]) (qP.plx q) ?_;simp only[F586,qM,go_sem];refine lsA ?_;simp only[go_sem];have oi:=((qo.nil (h:=[]).scal (a:=iI q.Quantum) (λ_=>rfl) rfl rfl).scal (a:=iI q.NextId) (λ_=>rfl) rfl rfl).scal (a:=iI q.Turn) (λ_=>rfl) rfl rfl;simp only[lNa,lCa]at oi;refine Sem.loop (α:=Nat×List qC×Nat×List (Option Nat)×List AV) (λz=>z.1<=q.Jobs.length/\IFs [] [iI q.Quantum,iI q.NextId,iI q.Turn] [iI q.Quantum,iI q.NextId,iI q.Turn] 10 z.2.1 z.2.2.1 z.2.2.2.1 z.2.2.2.2 ((q.Jobs.take z.1).map qF.enc))
  (λz=>(⟨[(0,.ept q.enc 0),(4,iI (z.1:Nat))],[(2,.agg [iI 0,iI 0,iI 0,.nils]),(3,.agg [iI q.Quantum,iI q.NextId,iI q.Turn,sQ 10 z.2.2.1 z.1])],z.2.1⟩:VSt)) (λz=>q.Jobs.length-z.1) (0,[]++[.row 10 [] true],([]:List qC).length,[],[]) (by kernel_rfl)
  ⟨nZl _,IFs.start oi (by simp)⟩
  (Can.ph (WkN.same rfl (WkN.same rfl WkN.nil)) (WkN.same rfl (WkN.cons rfl (Wk.agg (Wks.same (Wks.same (Wks.same (.cons (Wk.ph (by simp)) .nil))))) WkN.nil))) ?_
 rintro⟨i,g,si,S,vs⟩ ⟨hi,hI⟩;simp only at hi hI;simp only[go_sem];apply qI<;>intro hc<;>simp only[hc,go_sem]
 ·have hlt:i<q.Jobs.length:=by have:=odT hc;omega
  clear hc;simp only[gMp,gEg hlt,oMs,go_sem];refine zk (n961 (j:=q.Jobs[i]) (hb _ (gMm hlt))) ?_;simp only[go_sem];refine qbK (by rw[ZK (n:=g.length) (qF.plx q.Jobs[i])];rfl) ?_;simp only[go_sem];have hx:=qd.new (t:=q.Jobs[i].enc) (pre:=g) (post:=[]) (n:=g.length) (h:=g++(lay q.Jobs[i].enc g.length).2) (qF.plx q.Jobs[i]) rfl (by simp);have lv:vs.length=i:=by have:=hI.o.cnt;rw[this,lMp,lLt];omega
  refine jO (len:=i) (x:=(lay q.Jobs[i].enc g.length).1) (el:=vs) Zr (by rw[gAl (by have:=Xf hI.r;simp;omega),gAl (Xf hI.r)];exact hI.r) lv (by omega) ?_;have hP:=hI.push hx (λq hq=>by have:=Xw hq;rw[qf];exact this);have e:(q.Jobs.take i).map qF.enc++[q.Jobs[i].enc]=(q.Jobs.take (i+1)).map qF.enc:=by
   rw[lTs hlt,lMa];rfl
  rw[e]at hP;simp only[go_sem];simp only[lAp,lCo,lNi,nZa,wuA (n:=i)];exact qb (i+1,_,_,_,_) ⟨hlt,hP⟩ (by simp only;omega) csA
 ·have hlt:i=q.Jobs.length:=by have:=odF hc;omega
  clear hc;subst hlt;rw[lTl]at hI;refine lsA ?_;simp only[go_sem];obtain⟨d1,d2⟩:=hI.done (n:=q.Jobs.length) (by simp);exact qd.fin (ws:=[_]) d1.agg
theorem qiO{q:qP}(hV:QV q):Pure Gm 585 [.ept q.enc 0] (iI (jt q)):=by
 have hl:=hV.l;have t0:=hV.t0;have t5:=hV.t5;refine pJ F585 ?_;simp only[F585,qM,go_sem];refine Sem.loop (λk:Nat=>k<=q.Jobs.length/\jt q=Za q.Jobs q.Turn.toNat k (q.Jobs.length-k)) (λk=>(⟨[(0,.ept q.enc 0),(3,iI (q.Jobs.length:Nat)),(4,iI (k:Nat))],[],[]⟩:VSt)) (λk=>q.Jobs.length-k) 0 (by kernel_rfl) ⟨nZl _,rfl⟩ csA ?_;rintro k ⟨hk,hI⟩;simp only[go_sem];apply qI<;>intro hc<;>simp only[hc,go_sem]
 ·have hlt:k<q.Jobs.length:=by have:=odT hc;omega
  have w1:IntKind.i64.wrap (q.Turn+(k:Int))=((q.Turn.toNat+k:Nat):Int):=by rw[wsA];omega
  have hn:¬((q.Jobs.length:Nat):Int)=0:=by omega
  have hm:(q.Turn.toNat+k)%q.Jobs.length<q.Jobs.length:=Nat.mod_lt _ (by omega);have w2:(((q.Turn.toNat+k:Nat):Int)).tmod ((q.Jobs.length:Nat):Int)=(((q.Turn.toNat+k)%q.Jobs.length:Nat):Int):=(Int.ofNat_tmod _ _).symm;rw[show q.Jobs.length-k=(q.Jobs.length-(k+1))+1 by omega]at hI;unfold Za at hI;have hx:=gEg hm;rw[hx,Option.any_some]at hI;rw[if_neg hn,w1,w2];generalize (q.Turn.toNat+k)%q.Jobs.length=p at hm hI hx|-;simp only[go_sem];simp only[gMp,hx,oMs,go_sem];apply qI<;>intro hc<;>simp only[hc,go_sem]
  ·exact qO rfl (by rw[hI,if_pos hc])
  ·simp only[wuA (n:=k)];exact qb (k+1) ⟨hlt,by rw[hI,if_neg (by simpa using hc)]⟩ (by omega) csA
 ·obtain rfl:k=q.Jobs.length:=by have:=odF hc;omega
  exact qO rfl (by rw[hI,nSs];rfl)
theorem U2(xs:List qV):(∀n,qK (xs.map qV.enc) n=(xs.map qV.enc,[]))/\AV.pls (xs.map qV.enc)=true:=by
 induction xs with
 | nil=>exact⟨λ_=>rfl,rfl⟩
 | cons y ys ih=>
  refine⟨λn=>?_, ?_⟩
  ·simp only[lMc,qK];have e:lay y.enc n=(y.enc,[]):=rfl;rw[e,ih.1];rfl
  ·simp only[lMc,AV.pls,ih.2,Bool.and_true];rfl
theorem n742{n:qD}(hz:n.sz<=1048576)(hp:∀x∈n.Agents,x.Kind≠0->0<x.Ports.length):Fresh Gm 742 [.ept n.enc 0] (.lst 2 ((zE n.Agents (n.Agents.length-1)).map qV.enc) false):=by
 refine fI F742 (by simp[AV.trees,AV.tree,go_sem]) (by simp only[AV.pl];exact(U2 _).2) ?_;simp only[F742,qM,go_sem];unfold qD.sz at hz;refine Sem.loop (λi:Nat=>i<=n.Agents.length-1) (λi=>(⟨[(0,.ept n.enc 0),(4,iI ((i+1:Nat):Int)),(3,.slice 2 0 0 (zE n.Agents i).length false)],[],[.row 2 ((zE n.Agents i).map qV.enc) true]⟩:VSt)) (λi=>n.Agents.length-1-i) 0 (by kernel_rfl) (nZl _) (Can.renum [none] rfl ⟨.ph,trivial⟩ ⟨⟨_,rfl,.tree (by simp only[AV.tree,qD.tr])⟩,⟨_,rfl,.tree rfl⟩,⟨_,rfl,.ph2 rfl⟩,trivial⟩ trivial) ?_;rintro i hi;simp only[go_sem];apply qI<;>intro hc<;>simp only[hc,go_sem]
 ·have hlt:i+1<n.Agents.length:=by have:=odT hc;omega
  simp only[gMp,gEg hlt,oMs,go_sem];have hx:=hp _ (gMm hlt);apply qI<;>intro hc<;>simp only[hc,go_sem]
  ·have e:zE n.Agents (i+1)=zE n.Agents i:=by simp_all[zE,wj]
   simp only[wuA (n:=i+1)];refine qb (i+1) (by omega) (by omega) ?_;rw[e];exact csA
  ·have hp0:=hx (by simpa using hc);simp only[gMp,gEg hlt,oMs,go_sem];simp only[gEg hp0,oMs,go_sem];refine lsA ?_;simp only[go_sem];have same (hn:¬(n.Agents[i+1].Ports[0].Slot=0/\((i+1:Nat):Int)<n.Agents[i+1].Ports[0].Agent)):zE n.Agents (i+1)=zE n.Agents i:=by
    have hk:¬n.Agents[i+1].Kind=0:=by simpa using hc
    simp only[zE,wj,gEg hlt,gEg hp0,if_neg hk,if_neg hn,lAn]
   (first | apply qk | apply qI)<;>intro hc<;>simp only[hc,go_sem]
   ·(first | apply qk | apply qI)<;>intro hc<;>simp only[hc,go_sem]
    ·refine jO (el:=(zE n.Agents i).map qV.enc) rfl rfl (by simp) (by have:=Y1 n.Agents i;omega) ?_;simp only[go_sem];simp only[wuA (n:=i+1)];have e:zE n.Agents (i+1)=zE n.Agents i++[⟨((i+1:Nat):Int),n.Agents[i+1].Ports[0].Agent⟩]:=by
      have hk:¬n.Agents[i+1].Kind=0:=by simp_all
      have hn:n.Agents[i+1].Ports[0].Slot=0/\((i+1:Nat):Int)<n.Agents[i+1].Ports[0].Agent:=⟨by simp_all,by simp_all⟩;simp only[zE,wj,gEg hlt,gEg hp0,if_neg hk,if_pos hn]
     refine qb (i+1) (by omega) (by omega) ?_;simp only[e,lAp,lCo,lNi,nZa];refine Can.renum [some 2] rfl ⟨.row rfl ?_,trivial⟩ ⟨⟨_,rfl,.tree (by simp only[AV.tree,qD.tr])⟩,⟨_,rfl,.tree rfl⟩,⟨_,rfl,.slice rfl⟩,trivial⟩ trivial;rw[lMa];have t:=qa qV.isSh.tree (zE n.Agents i++[⟨((i+1:Nat):Int),n.Agents[i+1].Ports[0].Agent⟩]);rw[lMa]at t;exact VR2s.trees t
    ·simp only[wuA (n:=i+1)];refine qb (i+1) (by omega) (by omega) ?_;rw[same (by simp_all)];exact csA
   ·simp only[wuA (n:=i+1)];refine qb (i+1) (by omega) (by omega) ?_;rw[same (by simp_all)];exact csA
 ·obtain rfl:i=n.Agents.length-1:=by have:=odF hc;omega
  have o:=qo.row (k:=0) (w:=2) (Xr (h:=[.row 2 ((zE n.Agents (n.Agents.length-1)).map qV.enc) true]) (U2 (zE n.Agents (n.Agents.length-1))).1 (U2 _).2 (qa qV.isSh.tree _)) rfl (by simp);rw[lMp]at o;exact qd.fin (ws:=[_]) o
theorem qhQ{E:Ev}{d:Option Nat}{w n:Nat}{v:Option (List AV)}{el:List AV}{l:List qA}{ks:List Fr1}{s m:qv}{h:List qC}{Q:qi->VSt->Prop}(e:v=some el)(hr:JA E d (.row w el true) (sQ w h.length n) l ks ⟨s,m,h⟩ Q):Bsl E d w n v l ks ⟨s,m,h⟩ Q:=by
 rw[e,qBH];exact hr
theorem n571{T:List Int}(h7:∀v∈T,1<=v/\v<=7)(hl:T.length<=4000):Fresh Gm 571 [lQ T] (lQ (qY T)):=by
 refine fI F571 (by simp[AV.trees,AV.tree,qa shI.tree,go_sem]) (by simp only[AV.pl];exact(Qo _).2.1) ?_;simp only[F571,qM,go_sem];refine qhQ (el:=(qY []).map qQ) ?_ ?_
 ·simp[fil,jA,List.replicate,AV.cells,ev,toE,go_sem];rfl
 simp only[go_sem];refine Sem.loop (λi:Nat=>i<=T.length) (λi=>(⟨[(0,lQ T),(4,iI (i:Nat)),(3,sQ 1 0 7)],[],[.row 1 ((qY (T.take i)).map qQ) true]⟩:VSt)) (λi=>T.length-i) 0 (by kernel_rfl) (nZl _) ?_ ?_
 ·exact csA
 rintro i hi;simp only[go_sem];apply qI<;>intro hc<;>simp only[hc,go_sem]
 ·have hlt:i<T.length:=by have:=odT hc;omega
  clear hc;have h17:=h7 _ (gMm hlt);have l7:=Zf (T:=T.take i);obtain⟨c,hc⟩:∃c:Nat,T[i]-1=(c:Int):=⟨(T[i]-1).toNat,by omega⟩;have c7:c<7:=by omega
  have e1:IntKind.i64.wrap (T[i]-1)=(c:Int):=by rw[wsA];exact hc
  have hx:((qY (T.take i)).map qQ)[c]?=some (iI ((qY (T.take i)).getD c 0)):=by
   rw[gMp,gEg (by omega),lGd,gEg (by omega)];rfl
  have hb:=YU (T:=T.take i) ((qY (T.take i)).getD c 0) (by rw[lGd,gEg (by omega)];exact gMm _);rw[lLt]at hb;have e2:IntKind.i64.wrap ((qY (T.take i)).getD c 0+1)=(qY (T.take i)).getD c 0+1:=wsA;simp only[gMp,gEg hlt,oMs,qQ,e1,go_sem];simp only[J8 c7,hx,e2,go_sem];refine qn rfl rfl hx rfl ?_;have e3:((qY (T.take i)).map qQ).set c (iI ((qY (T.take i)).getD c 0+1))=(qY (T.take (i+1))).map qQ:=by
   rw[lTs hlt,qb8];unfold Jr;rw[hc,iTn,List.map_set];rfl
  rw[e3];simp only[lSz,go_sem];simp only[wuA (n:=i)];exact lqA (i+1)
 ·obtain rfl:i=T.length:=by have:=odF hc;omega
  rw[lTl];have o:=qo.row (k:=0) (w:=1) (Xr (h:=[.row 1 ((qY T).map qQ) true]) (Qo (qY T)).1 (Qo _).2.1 (Qo _).2.2) rfl (by simp);rw[lMp,Zf]at o;exact qd.fin (ws:=[_]) o
section
variable {h:List qC} {K:AV->List qC->Prop} {jid k:Nat} {vs:List AV} {i0 i1 i2 i3 i4 i5 st cd:Int} {vc vq vb vn u:AV}
theorem c978{a b:Int}:Pure Gm 978 [iI a,iI b] (iI (if a<b then a else b)):=by
 refine pJ F978 ?_;simp only[F978,qM,go_sem]
 repeat' (first | (refine qZ rfl ?_;simp only[go_sem]) | ((first | apply qk | apply qI)<;>intro hc<;>simp only[hc,go_sem]) | refine qO rfl ?_ | refine JU (by rfl) ?_)
 all_goals (simp_all<;>omega)
theorem qD5(ho:h[jid]?=some (.row 10 vs true))(hv:vs[k]?=some (jc i0 i1 i2 i3 i4 i5 vc vq vb vn))(hK:K (.tup []) (h.set jid (.row 10 (vs.set k (jc i0 i1 st cd i4 i5 vc .nils .nils u)) true))):
  SCall Gm 1268 [.ptr jid k 0,iI st,iI cd,.agg [u]] h K:=by
 have lj:=qR ho;have lk:=qR hv;refine sI Ks ?_;simp only[Ks,qM,go_sem];refine qZ rfl ?_;simp only[go_sem];unfold jc at hv hK;refine qn rfl ho hv rfl ?_;simp only[go_sem];refine qn rfl (gSs lj) (gSs lk) rfl ?_;simp only[List.set_set,go_sem];refine qn rfl (gSs lj) (gSs lk) rfl ?_;simp only[List.set_set,go_sem];refine qn rfl (gSs lj) (gSs lk) rfl ?_;simp only[List.set_set,go_sem];refine qn rfl (gSs lj) (gSs lk) rfl ?_;simp only[List.set_set,go_sem];exact hK
end
section
variable {h:List qC} {K:AV->List qC->Prop} {jid k:Nat} {vs:List AV} {i0 i1 i2 i3 i4 i5:Int} {vc vq vb:AV} {J:qF}
theorem qoR(ho:h[jid]?=some (.row 10 vs true))(hv:vs[k]?=some (jc i0 i1 i2 i3 i4 i5 vc vq vb (.lst 5 (J.Net.Agents.map qB.enc) false)))(hc:Cv h (jc i0 i1 i2 i3 i4 i5 vc vq vb (.lst 5 (J.Net.Agents.map qB.enc) false)) J.enc)
  (hz:J.Net.sz<=1048576) (h0:0<J.Net.Agents.length) (hTP:∀z∈J.Net.Agents,0<z.Ports.length)
  (hK:∀H H' tid rid,(∀b s m,Can b ⟨s,m,H⟩ ⟨s,m,H'⟩)->H.length=H'.length->Keep (Lo h.length) h H->Keep (Lo h.length) h H'->NE 3 [sQ 1 tid 0,iI (J.Net.Agents.length:Nat)] (λj=>j<h.length\/j=tid) rid H' J.Net.Agents->H'[tid]?=some (.row 1 [] true)->h.length<=tid->K (.ptr rid 0 0) H):
  SCall Gm 1266 [.ptr jid k 9] h K:=by
 have hv':=hv;unfold jc at hv';refine SCall.outph (w:=1) (sI Kq ?_);simp only[Kq,qM,go_sem];simp only[ho,hv',go_sem];refine Q9 (vs':=[.ept J.enc 9]) (Cvs.cons (.ptr ho (by decide) hv hc) Cvs.nil) (Fresh.lk0 qF.tr qF.q9_1 (by rw[qD.ln];decide) (n489 J.Net hz)) ?_;have eL:(lay J.Net.enc h.length)=(.agg [sQ 5 h.length J.Net.Agents.length],.row 5 (qK (J.Net.Agents.map qB.enc) (h.length+1)).1 true::(qK (J.Net.Agents.map qB.enc) (h.length+1)).2):=by rw[qD.layE,lAn];rfl
 rw[eL];simp only[go_sem];obtain⟨H0,eH⟩:∃H0,H0=h++qC.row 5 (qK (J.Net.Agents.map qB.enc) (h.length+1)).1 true::(qK (J.Net.Agents.map qB.enc) (h.length+1)).2:=⟨_,rfl⟩;rw[<-eH];have f1:H0[h.length]?=some (.row 5 (qK (J.Net.Agents.map qB.enc) (h.length+1)).1 true):=by rw[eH,gAr (nLr _),nSs];rfl
 have f2:∀i o,(qK (J.Net.Agents.map qB.enc) (h.length+1)).2[i]?=some o->H0[h.length+1+i]?=some o:=λi o ho=>by rw[eH,gAr (by omega),show h.length+1+i-h.length=i+1 by omega,List.getElem?_cons_succ];exact ho
 have f3:H0.length=h.length+1+2*J.Net.Agents.length:=by rw[eH];simp[Wc];omega
 have f4:∀j,j<h.length->H0[j]?=h[j]?:=λj hj=>by rw[eH,gAl hj]
 clear eH eL;refine WX rfl ?_;simp only[go_sem];obtain⟨H3,e3⟩:∃H3,H3=H0++[qC.row 3 [.agg [sQ 5 h.length J.Net.Agents.length,.nils,iI (J.Net.Agents.length:Nat)]] true]:=⟨_,rfl⟩;rw[<-e3];have g1:∀j,j<H0.length->H3[j]?=H0[j]?:=λj hj=>by rw[e3,gAl hj]
 have g3:H3[H0.length]?=some (qC.row 3 [.agg [sQ 5 h.length J.Net.Agents.length,.nils,iI (J.Net.Agents.length:Nat)]] true):=by rw[e3];exact gCl
 have g4:H3.length=H0.length+1:=by rw[e3];simp
 clear e3;refine⟨_,(H3++[qC.row 1 [] true]).set H0.length (qC.row 3 [.agg [sQ 5 h.length J.Net.Agents.length,sQ 1 (H0.length+1) 0,iI (J.Net.Agents.length:Nat)]] true),.refl _,
  WkH.at' (by rw[gAl (by omega)];exact g3) (.cons (Wk.agg (Wks.same (.cons (Wk.ph (by simp;omega)) (Wks.same .nil)))) .nil), ?_⟩
 obtain⟨H4,e4⟩:∃H4,H4=(H3++[qC.row 1 [] true]).set H0.length (qC.row 3 [.agg [sQ 5 h.length J.Net.Agents.length,sQ 1 (H0.length+1) 0,iI (J.Net.Agents.length:Nat)]] true):=⟨_,rfl⟩;rw[<-e4];have d0:∀j,j<H0.length->H4[j]?=H0[j]?:=λj hj=>by rw[e4,gSn (by omega),gAl (by omega)];exact g1 j hj
 have d3:H4[H0.length]?=some (qC.row 3 [.agg [sQ 5 h.length J.Net.Agents.length,sQ 1 (H0.length+1) 0,iI (J.Net.Agents.length:Nat)]] true):=by rw[e4,gSs (by simp;omega)]
 have d4:H4.length=H0.length+2:=by rw[e4];simp;omega
 have d5:H4[H0.length+1]?=some (qC.row 1 [] true):=by rw[e4,gSn (by omega),gAr (by omega),g4,nSs];rfl
 clear e4;obtain⟨h2,c2,n2,k2,l2,k3⟩:=NA.ofLay (w:=3) (post:=[sQ 1 (H0.length+1) 0,iI (J.Net.Agents.length:Nat)]) (base:=λj=>j<h.length\/j=H0.length+1) (nid:=H0.length) (aid:=h.length) (N:=J.Net.Agents) (h:=H4) d3
  (by rw[d0 _ (by omega)];exact f1)
  (λi o hi=>by
   have:=qR hi;rw[Wc]at this;rw[d0 _ (by omega)];exact f2 i o hi) hTP h0 (.inr (by omega)) (by omega) (λj q r=>by omega) (λj q=>by omega)
 have kH:Keep (Lo h.length) h H4:=⟨by omega,λj hj=>by have hj':j<h.length:=hj;rw[d0 j (by omega),f4 j hj']⟩;refine hK H4 h2 (H0.length+1) H0.length c2 l2.symm kH ⟨by omega,λj hj=>?_⟩ ⟨_,_,n2⟩ ((k3 _ (.inr (by omega))).trans d5) (by omega);have hj':j<h.length:=hj;rw[k3 _ (.inl hj')];exact kH.k j hj
end
theorem qiX{u v:qB}(hu:qe u=true)(hv:qe v=true)(h:zY u.Kind u.Level v.Kind v.Level=2):qN u v=qN v u:=by
 rw[qb5 hu hv h];unfold qN;rw[if_neg (by rintro⟨a,b,_⟩;have:=(qeK hu hv a b).2;omega)]
section
variable {w:Nat} {post post':List AV} {P P':Nat->Prop} {nid aid rid:Nat} {ps:List Nat} {h h':List qC} {N:Ags} {T:List Int} {R:Nat->Bool} {bk:List qD} {a b A B:Nat} {x y u v:qB} {K:AV->List qC->Prop}
theorem NA.repost(hN:NA w post P nid aid ps h N)(ho:h'[nid]?=some (.row w [.agg (sQ 5 aid N.length::post')] true))(hk:∀j,j<h.length->¬P j->j≠nid->h'[j]?=h[j]?)(hl:h.length<=h'.length)(hP:∀j,P' j->P j\/h.length<=j)(bl:∀j,P' j->j<h'.length):NA w post' P' nid aid ps h' N:=by
 have np:∀j,j<h.length->¬P j->¬P' j:=λj hj hn q=>(hP j q).elim hn (by omega);have ea:h'[aid]?=h[aid]?:=hk _ hN.lta hN.b2 (Ne.symm hN.n1);have ep:∀q∈ps,h'[q]?=h[q]?:=λq hq=>hk _ (hN.ltp hq) (hN.b3 q hq) (λe=>hN.n2 (e▸hq));exact⟨ho,ea.trans hN.a,hN.l,λk x q h1 h2 h3=>(ep q (lMo h2)).trans (hN.p k x q h1 h2 h3),hN.nd,hN.n1,hN.n2,hN.n3,np _ hN.lt hN.b1,np _ hN.lta hN.b2,λq hq=>np _ (hN.ltp hq) (hN.b3 q hq),λq hq=>by
  obtain⟨el,e⟩:=hN.b4 q hq;exact⟨el,(ep q hq).trans e⟩,bl⟩
def LR(P:Nat->Prop)(rid:Nat)(N:Ags)(T:List Int)(h:List qC):Prop:=∃tid pk,NE 3 [sQ 1 tid T.length,iI pk] (λj=>P j\/j=tid) rid h N/\h[tid]?=some (.row 1 (T.map qQ) true)/\¬P tid
theorem LR.bl(hL:LR P rid N T h):∀j,P j->j<h.length:=by obtain⟨tid,pk,hN,_,_⟩:=hL;exact λj hj=>hN.bl j (.inl hj)
theorem qo7(hL:LR P rid N T h)(sp:SP R N){ks:List Nat}(rk:RK R ks)(hks:ks.length<=1000)(hbk:ju bk=true)(hu:N[A]?=some u)(hv:N[B]?=some v)(hor:(zI u v=true/\a=B/\b=A/\x=v/\y=u)\/(zI u v=false/\a=A/\b=B/\x=u/\y=v))
  (hA:Act R N a b x y) (a0:a≠0) (b0:b≠0) (hf:zY x.Kind x.Level y.Kind y.Level≠2) (hl:N.length<=10000) (hT:T.length<=4000)
  (hK1:we bk R N x y≠0->K (iI (we bk R N x y)) h)
  (hK2:zW R bk N a b x y->we bk R N x y=0->∀h',LR P rid (j9 bk N a b x y) (T++[qN x y]) h'->Keep P h h'->K (iI 0) h'):
  SCall Gm 1450 [.lst 1 (bk.map qD.enc) false,.ptr rid 0 0,.agg [iI (A:Nat),iI (B:Nat)]] h K:=by
 obtain⟨tid,pk,hN,ht,ntp⟩:=hL;have lA0:=qR hu;have lB0:=qR hv;have qx:=(sp.hol.k _ _ hA.x hA.ra).1;have qy:=(sp.hol.k _ _ hA.y hA.rb).1;have ecl:qN u v=qN x y:=by
  rcases hor with⟨e,_,_,rfl,rfl⟩ | ⟨e,_,_,rfl,rfl⟩
  ·exact qiX qy qx (by unfold zI at e;simpa using e)
  ·rfl
 have hpc:Cvs h [sQ 1 tid T.length,iI pk] [lQ T,iI pk]:=Cvs.cons (Cv.row ht (by simp) (qa shI.tree _) (by decide)) (Cvs.cons (.refl rfl) Cvs.nil);have htp:∀(X:List Int)(z:Int),AV.trees [lQ X,iI z]=true:=λX z=>by simp only[AV.trees,AV.tree,qa shI.tree,Bool.and_self]
 refine sI qAD ?_;simp only[qAD,qM,go_sem];refine qZ rfl ?_;simp only[go_sem];obtain⟨aid,ps,hNA⟩:=hN;have hN:NE 3 [sQ 1 tid T.length,iI pk] (λj=>P j\/j=tid) rid h N:=⟨_,_,hNA⟩;simp only[hNA.o,zH lA0,zH lB0,go_sem];refine jx (Cvs.cons (hNA.cva hu) (Cvs.cons (hNA.cva hv) Cvs.nil)) c744 rfl ?_;rw[ecl];simp only[go_sem];refine qU (s979 hN (by decide) hpc (htp _ _) sp hbk hu hv hor hA a0 b0 hf hl (λe=>?_) (λe1 e2=>?_) (λG g hN2 kg=>?_))
 ·have ec:we bk R N x y=(ql bk x y).2:=by unfold we;rw[if_pos e]
  rw[ec]at hK1;simp only[go_sem];simp only[decide_eq_false e,go_sem];exact hK1 e
 ·have ec:we bk R N x y=4:=by unfold we;rw[if_neg (λq=>q e1),if_pos e2]
  rw[ec]at hK1;simp only[go_sem];simp only[show decide ((4:Int)=0)=false from rfl,go_sem];exact hK1 (by decide)
 have ec:we bk R N x y=0:=by
  have g1:=G.g;have g2:=G.full;unfold we;rw[if_neg (λq=>q g1),if_neg (by omega)]
 have hK:=hK2 G ec;clear hK1 hK2;simp only[go_sem];obtain⟨aid2,ps2,n2⟩:=hN2;have ltd:=qR ht;have htg:g[tid]?=some (.row 1 (T.map qQ) true):=(kg.k tid (.inr rfl)).trans ht;have lg:=kg.l;have lr:=n2.lt;have nrt:rid≠tid:=λe=>n2.b1 (.inr e);simp only[n2.o,go_sem];refine jO (len:=T.length) (x:=iI (qN x y)) (el:=T.map qQ) Zr (by rw[gAl (by omega)];exact htg) (by simp) (by omega) ?_;obtain⟨G1,hG1⟩:∃G1,G1=(g++[qC.row 1 [iI (qN x y)] true]).set tid .dead++[qC.row 1 (T.map qQ++[iI (qN x y)]) true]:=⟨_,rfl⟩;have lG1:G1.length=g.length+2:=by rw[hG1];simp
 have eG1:∀j,j<g.length->j≠tid->G1[j]?=g[j]?:=λj hj hn=>by rw[hG1,gAl (by simp;omega),gSn (Ne.symm hn),gAl hj]
 have eT1:G1[g.length+1]?=some (.row 1 ((T++[qN x y]).map qQ) true):=by rw[hG1,gAr (by simp)];simp[qQ]
 rw[<-hG1];have lgl:(g++[qC.row 1 [iI (qN x y)] true]).length=g.length+1:=by simp
 rw[lgl];clear hG1 lgl;have oG1:G1[rid]?=_:=(eG1 rid lr nrt).trans n2.o;simp only[go_sem];refine qn (e':=.agg [.slice 5 aid2 0 (j9 bk N a b x y).length false,sQ 1 (g.length+1) (T.length+1),iI pk]) rfl oG1 rfl rfl ?_;obtain⟨G2,hG2⟩:∃G2,G2=G1.set rid (.row 3 [.agg [.slice 5 aid2 0 (j9 bk N a b x y).length false,sQ 1 (g.length+1) (T.length+1),iI pk]] true):=⟨_,rfl⟩;have oG2:G2[rid]?=some (.row 3 [.agg [.slice 5 aid2 0 (j9 bk N a b x y).length false,sQ 1 (g.length+1) (T.length+1),iI pk]] true):=by rw[hG2,gSs (by omega)]
 have eG2:∀j,j≠rid->G2[j]?=G1[j]?:=λj hj=>by rw[hG2,gSn (Ne.symm hj)]
 have lG2:G2.length=g.length+2:=by rw[hG2,lLs,lG1]
 simp only[lSz];rw[<-hG2];clear hG2;have blP:∀j,P j->j<h.length:=λj hj=>hNA.bl j (.inl hj);have n3:NA 3 [sQ 1 (g.length+1) (T.length+1),iI pk] (λj=>P j\/j=g.length+1) rid aid2 ps2 G2 (j9 bk N a b x y):=
  n2.repost oG2 (λj hj hn hr=>by rw[eG2 j hr];exact eG1 j hj λe=>hn (.inr e)) (by omega) (λj q=>q.elim (λq=>.inl (.inl q)) λq=>.inr (by omega)) (λj q=>q.elim (λq=>by have:=blP j q;omega) λq=>by omega)
 have eT2:G2[g.length+1]?=some (.row 1 ((T++[qN x y]).map qQ) true):=by rw[eG2 _ (by omega)];exact eT1
 have hpc2:Cvs G2 [sQ 1 (g.length+1) (T.length+1),iI pk] [lQ (T++[qN x y]),iI pk]:=Cvs.cons (Cv.row eT2 (by simp) (qa shI.tree _) (by decide)) (Cvs.cons (.refl rfl) Cvs.nil);have hN3:NE 3 [sQ 1 (g.length+1) (T.length+1),iI pk] (λj=>P j\/j=g.length+1) rid G2 (j9 bk N a b x y):=⟨_,_,n3⟩;have sp2:=sp.step G;have nsz:(qD.mk (j9 bk N a b x y)).sz<=1048576:=by
  have:=VL (f:=qB.sz) (k:=8) λz hz=>sp2.sz hz;have:=(rk.dead hA (c:=qN x y)).cnt sp2.hol.rl;have:=sp2.hol.c;have hdl:(zX (qN x y) a b).length<=2:=by unfold zX;split<;>simp
  simp only[lAp]at*;unfold qD.sz;simp only;omega
 simp only[go_sem];simp only[oG2,go_sem];refine jx (Cvs.cons (hN3.cvn (by decide) hpc2) Cvs.nil) (Pure.lk0 (qC7 (htp _ _)) qC6 Nat.zero_lt_one (qbR (n:=⟨j9 bk N a b x y⟩) nsz)) rfl ?_;simp only[go_sem];refine qL c856 ?_;simp only[go_sem];generalize (if ((Jh (j9 bk N a b x y):Nat):Int)<pk then pk else((Jh (j9 bk N a b x y):Nat):Int))=pk2;refine qn (e':=.agg [.slice 5 aid2 0 (j9 bk N a b x y).length false,sQ 1 (g.length+1) (T.length+1),iI pk2]) rfl oG2 rfl rfl ?_;simp only[lSz,go_sem];have e1:(T++[qN x y]).length=T.length+1:=by simp
 have kk:∀j,j<g.length->j≠rid->j≠tid->(G2.set rid (.row 3 [.agg [.slice 5 aid2 0 (j9 bk N a b x y).length false,sQ 1 (g.length+1) (T.length+1),iI pk2]] true))[j]?=g[j]?:=λj hj h1 h2=>by
  rw[gSn (Ne.symm h1),eG2 j h1];exact eG1 j hj h2
 refine hK _ ⟨g.length+1,pk2,⟨aid2,ps2, ?_⟩, ?_,λq=>by have:=blP _ q;omega⟩ ⟨by rw[lLs];omega,λj hj=>?_⟩
 ·rw[e1];exact n3.repost (gSs (by omega)) (λj hj hn hr=>gSn (Ne.symm hr)) (by rw[lLs];exact nLr _) (λj q=>.inl q) (λj q=>by rw[lLs];exact n3.bl j q)
 ·rw[gSn (by omega)];exact eT2
 ·have hj1:=blP j hj;rw[kk j (by omega) (λe=>hNA.b1 (.inl (e▸hj))) (λe=>ntp (e▸hj))];exact kg.k j (.inl hj)
end
section
variable {P:Nat->Prop} {rid sid most:Nat} {h:List qC} {N:Ags} {T sch:List Int} {R:Nat->Bool} {bk:List qD} {K:AV->List qC->Prop} {RES:Ags×List Int×Bool×Int}
theorem LR.app(hL:LR P rid N T h)(ex:List qC):LR P rid N T (h++ex):=by
 obtain⟨tid,pk,hN,ht,np⟩:=hL;exact⟨tid,pk,hN.app ex,by rw[gAl (qR ht)];exact ht,np⟩
theorem SP.pos(h:SP R N):∀x∈N,x.Kind≠0->0<x.Ports.length:=λx hx hk=>by
 obtain⟨k,hk2,e⟩:=List.getElem_of_mem hx;have hx:=gSi.2 ⟨hk2,e⟩;cases q:R k with
 | true=>exact absurd ((h.kind hx).2 q) hk
 | false=>exact(zi (h.hol.k k x hx q).1).2
def SJ(bk:List qD)(sch:List Int)(P:Nat->Prop)(rid most:Nat)(RES:Ags×List Int×Bool×Int)(h g:List qC)(t:Nat):Prop:=
 ∃M R ks T,LR P rid M T g/\SP R M/\RK R ks/\Keep P h g/\T.length=t/\t<=most/\ks.length<=2*t/\(∀v∈T,1<=v/\v<=7)/\J0 T (jN bk sch (most-t) t (qc M R))=RES
theorem qoS{n:Nat}(hn:sch.length=n)(hL:LR P rid N [] h)(sp:SP R N)(hr:RK R [])(hbk:ju bk=true)(hs:wm sch=true)(hsc:h[sid]?=some (.row 1 (sch.map qQ) true))(hP:P sid)(hm:most<=200)(hRES:jN bk sch most 0 (qc N R)=RES)
  (hK:∀h' M R',LR P rid M RES.2.1 h'->SP R' M->Keep P h h'->qc M R'=RES.1->M.length<=1000->(∀v∈RES.2.1,1<=v/\v<=7)->RES.2.1.length<=most->K (.tup [.bool RES.2.2.1,iI RES.2.2.2]) h'):
  SCall Gm 1267 [.lst 1 (bk.map qD.enc) false,.ptr rid 0 0,sQ 1 sid n,iI (most:Nat)] h K:=by
 subst hn;refine sI Kr ?_;simp only[Kr,qM,go_sem];refine Sem.loop (α:=List qC×Nat) (λq=>SJ bk sch P rid most RES h q.1 q.2) (λq=>(⟨[(0,.lst 1 (bk.map qD.enc) false),(1,.ptr rid 0 0),(2,sQ 1 sid sch.length),(3,iI (most:Nat))],[],q.1⟩:VSt)) (λq=>most-q.2) (h,0) (by kernel_rfl)
  ⟨N,R,[],[],hL,sp,hr,Keep.refl,rfl,nZl _,by simp,by simp,by rw[<-hRES];simp[J0]⟩ csA ?_
 rintro⟨g,t⟩ ⟨M,R,ks,T,hL,sp,rk,kg,rfl,ht,hks,h17,hres⟩;simp only at hL kg ht hks hres;have hcn:=rk.cnt sp.hol.rl;have hcc:=sp.hol.c;have hML:M.length<=1000:=by omega
 have nsz:(qD.mk M).sz<=100000:=by
  have:=VL (f:=qB.sz) (k:=8) λz hz=>sp.sz hz;unfold qD.sz;simp only;omega
 have hpp:=Xs sp.hol;rw[<-qDO sp]at hpp;have hplen:=Y1 M (M.length-1);have hL0:=hL;obtain⟨tid,pk,⟨aid,ps,hNA⟩,htd,ntp⟩:=hL;have hpc:Cvs g [sQ 1 tid T.length,iI pk] [lQ T,iI pk]:=Cvs.cons (Cv.row htd (by simp) (qa shI.tree _) (by decide)) (Cvs.cons (.refl rfl) Cvs.nil);have htp:AV.trees [lQ T,iI pk]=true:=by simp only[AV.trees,AV.tree,qa shI.tree,Bool.and_self]
 have hN:NE 3 [sQ 1 tid T.length,iI pk] (λj=>P j\/j=tid) rid g M:=⟨_,_,hNA⟩;simp only[go_sem];simp only[hNA.o,decide_eq_false (show ¬(1200:Int)<((M.length:Nat):Int) by omega),go_sem];refine Q9 (vs':=[.ept (Um M [lQ T,iI pk]) 0]) (Cvs.cons (hN.cvn (by decide) hpc) Cvs.nil) (Fresh.lk0 (qC7 htp) qC6 Nat.zero_lt_one (n742 (n:=⟨M⟩) (by omega) sp.pos)) ?_;have eL:∀(n:Nat)(ps:List qV),lay (.lst 2 (ps.map qV.enc) false) n=(sQ 2 n ps.length,[.row 2 (ps.map qV.enc) true]):=λn ps=>by
  simp only[lay,(U2 ps).1,lMp]
 rw[eL];simp only[go_sem];have hLg:=hL0.app [.row 2 ((zE M (M.length-1)).map qV.enc) true];have hpr:(g++[qC.row 2 ((zE M (M.length-1)).map qV.enc) true])[g.length]?=some (.row 2 ((zE M (M.length-1)).map qV.enc) true):=gCl;have hsg:(g++[qC.row 2 ((zE M (M.length-1)).map qV.enc) true])[sid]?=some (.row 1 (sch.map qQ) true):=by
  have:=(kg.k sid hP).trans hsc;rw[gAl (qR this)];exact this
 have kG:Keep P g (g++[qC.row 2 ((zE M (M.length-1)).map qV.enc) true]):=Keep.app hL0.bl;have kHG:=kg.trans kG;have hoG:(g++[qC.row 2 ((zE M (M.length-1)).map qV.enc) true])[rid]?=some (.row 3 [.agg [sQ 5 aid M.length,sQ 1 tid T.length,iI pk]] true):=by rw[gAl hNA.lt];exact hNA.o
 generalize g++[qC.row 2 ((zE M (M.length-1)).map qV.enc) true]=G at hLg hpr hsg kG kHG hoG|-;have hfin:∀(e:Bool)(c:Int),(qc M R,T,e,c)=RES->K (.tup [.bool e,iI c]) G:=λe c er=>by
  have:=hK G M R;rw[<-er]at this;exact this hLg sp kHG rfl hML h17 (by simp only;omega)
 generalize hpl:zE M (M.length-1)=pl at hpp hplen hpr|-;have hplR:zZ R M (M.length-1)=pl:=by rw[<-hpl,qDO sp]
 by_cases h0:pl.length=0
 ·have hne:JJ ⟨qc M R⟩=[]:=by rw[<-hpp,lEz h0];rfl
  rw[qfX hne]at hres;simp only[h0,show decide (((0:Nat):Int)=0)=true from rfl,go_sem];exact hfin _ _ (by rw[<-hres];simp[J0])
 have hne:JJ ⟨qc M R⟩≠[]:=λq=>by
  rw[q]at hpp;have:=congrArg List.length hpp;simp at this;exact h0 (by rw[this];rfl)
 simp only[decide_eq_false (show ¬((pl.length:Nat):Int)=0 by omega),go_sem];simp only[hoG,go_sem];by_cases h2:most<=T.length
 ·have e0:most-T.length=0:=by omega
  rw[e0]at hres;unfold jN at hres;rw[decide_eq_false hne]at hres;simp only[decide_eq_true (show ((most:Nat):Int)<=((T.length:Nat):Int) by omega),go_sem];exact hfin _ _ (by rw[<-hres];simp[J0])
 simp only[decide_eq_false (show ¬((most:Nat):Int)<=((T.length:Nat):Int) by omega),go_sem];obtain⟨a,c,A,B,x,y,u,v,hA,a0,c0,hf,hsel,hu,hv2,hor,hnx,ea,ec⟩:=qeH (sch:=sch) (k:=T.length) (λ_ _ _ _=>U0) sp.hol hne;rw[hplR]at hsel;have sl:=KI (xs:=sch) (k:=(T.length:Int)) (m:=pl.length) (by omega);have hpe:pl[wF sch (T.length:Int) pl.length]?=some ⟨(A:Int),(B:Int)⟩:=by
  unfold JM at hsel;rw[gEg sl,Option.getD_some]at hsel;rw[gEg sl,hsel]
 have hpe2:(pl.map qV.enc)[wF sch (T.length:Int) pl.length]?=some (.agg [iI (A:Nat),iI (B:Nat)]):=by rw[gMp,hpe];rfl
 have ecp:Zh bk (qc M R) (wL sch (qc M R) T.length)=we bk R M x y:=by rw[hnx];exact qBU ea ec
 obtain⟨f,hf1⟩:∃f,most-T.length=f+1:=⟨most-T.length-1,by omega⟩;rw[hf1]at hres;unfold jN at hres;rw[if_neg hne,ecp]at hres;have tl:∀(s:qv),get s 0=some (.lst 1 (bk.map qD.enc) false)->get s 1=some (.ptr rid 0 0)->get s 2=some (sQ 1 sid sch.length)->get s 3=some (iI (most:Nat))->
   wR ⟨Gm,h.length,[],[]⟩ (some (1450,[.lst 1 (bk.map qD.enc) false,.ptr rid 0 0,.agg [iI (A:Nat),iI (B:Nat)]])) false (some 59) [qA.mk 7 (some 13) none (AOp.mov (Ao.t 59)) []]
    [.code ((qG.reg true [qA.mk 0 (some 60) none (AOp.mov (Ao.t 13)) [],qA.mk 1 (some 61) none (AOp.bin BinOp.neq (Ao.t 60) (Ao.c (AV.int IntKind.i64 0))) []]).seq (qG.cond (Ao.t 61) ((qG.reg true [qA.mk 0 (some 62) none (AOp.mov (Ao.t 13)) [],qA.mk 1 (some 8) none (AOp.mov (Ao.c (AV.bool false))) [],qA.mk 2 (some 9) none (AOp.mov (Ao.t 62)) []]).seq qG.ret) qG.skip)),.blk 1] ⟨s,[],G⟩
    (ZM ⟨Gm,h.length,[],[]⟩ (λq:List qC×Nat=>SJ bk sch P rid most RES h q.1 q.2) (λq=>(⟨[(0,.lst 1 (bk.map qD.enc) false),(1,.ptr rid 0 0),(2,sQ 1 sid sch.length),(3,iI (most:Nat))],[],q.1⟩:VSt)) (λq=>most-q.2) (g,T.length) [.blk 0] (Jq [.t 8,.t 9] K)):=by
  intro s g0 g1 g2 g3;refine qU (qo7 hLg sp rk (by omega) hbk hu hv2 hor hA a0 c0 hf (by omega) (by omega) (λhcd=>?_) (λGp hcd h' hL' k'=>?_))
  ·simp only[go_sem];simp only[decide_eq_false hcd,go_sem];rw[if_pos hcd]at hres;exact hfin _ _ (by rw[<-hres];simp[J0])
  ·simp only[go_sem];rw[if_neg (λq=>q hcd)]at hres;have hdl:(zX (qN x y) a c).length<=2:=by unfold zX;split<;>simp
   refine qb (h',T.length+1) ⟨_,_,_,_,hL',sp.step Gp,rk.dead hA,kHG.trans k',by simp,by simp only;omega,by simp only[lAp];omega,λz hz=>?_, ?_⟩ (by simp only;omega) (Can.sub (by simp[go_sem,g0,g1,g2,g3]) (by simp[go_sem]))
   ·rcases zw.1 hz with q | q
    ·exact h17 z q
    ·simp only[List.mem_cons,List.mem_nil_iff,or_false]at q;rw[q];exact Gp.cls
   ·rw[<-hres,qpY Gp ea ec,hnx,show most-(T.length+1)=f by omega];simp only[J0,ea,ec,lAa,lCa,lNa];rw[show qN (qu R x) (qu R y)=qN x y from rfl]
 apply qI<;>intro hc<;>simp only[hc,go_sem]
 ·have h1:0<sch.length:=by have:=odT hc;omega
  have hlt:=Nat.mod_lt T.length h1;have w1:((T.length:Nat):Int).tmod ((sch.length:Nat):Int)=((T.length%sch.length:Nat):Int):=(Int.ofNat_tmod _ _).symm;have hse:(sch.map qQ)[T.length%sch.length]?=some (iI (sch[T.length%sch.length])):=by rw[gMp,gEg hlt];rfl
  rw[if_neg (by omega),w1];simp only[go_sem];simp only[J8 hlt,hsg,hse,go_sem];rw[if_neg (by omega),qEN (qf9 hs hlt)];have e2:sch[T.length%sch.length].toNat%pl.length=wF sch (T.length:Int) pl.length:=by
   rw[wF,if_neg (by intro h;rw[h]at h1;cases h1),iTn,gEg hlt];rfl
  rw[e2];simp only[go_sem];simp only[JW sl,hpr,hpe2,go_sem];exact tl _ (by simp[go_sem]) (by simp[go_sem]) (by simp[go_sem]) (by simp[go_sem])
 ·have h1:sch=[]:=by have:=odF hc;exact lEz (by omega)
  have e2:wF sch (T.length:Int) pl.length=0:=by rw[wF,if_pos h1]
  rw[e2]at hpe2;simp only[show idx 2 (some (sQ 2 g.length pl.length)) (some (iI 0))=some (.ptr g.length 0 0)from qdH (by omega) (by omega),hpr,hpe2,go_sem];exact tl _ (by simp[go_sem]) (by simp[go_sem]) (by simp[go_sem]) (by simp[go_sem])
end
theorem Cv.mono{h h':List qC}(hm:∀(i w:Nat)(el:List AV),h[i]?=some (.row w el true)->h'[i]?=some (.row w el true)){v t:AV}(hc:Cv h v t):Cv h' v t:=by
 induction hc with
 | refl ht=>exact .refl ht
 | nils=>exact .nils
 | slc ho hl hw hs hc ih=>exact .slc (hm _ _ _ ho) hl hw hs ih
 | ptr ho hw he hc ih=>exact .ptr (hm _ _ _ ho) hw he ih
 | agg hl hc ih=>exact .agg hl ih
 | fn hl hc ih=>exact .fn hl ih
 | tup hl hc ih=>exact .tup hl ih
 | sub ht hp hy=>exact .sub ht hp hy
theorem qeX{S:List Nat}{h:List qC}{i w:Nat}{el:List AV}(e:(only S h)[i]?=some (.row w el true)):i∈S/\h[i]?=some (.row w el true):=by
 obtain⟨a,b⟩:=w5 e (by simp);exact⟨lCm.1 a,b⟩
theorem Cv.onl{S:List Nat}{h:List qC}{v t:AV}(hc:Cv (only S h) v t):Cv h v t:=hc.mono λ_ _ _ e=>(qeX e).2
theorem Cv.onh{S:List Nat}{h h':List qC}{v t:AV}(hc:Cv (only S h) v t)(hh:∀i,i∈S->h'[i]?=h[i]?):Cv (only S h') v t:=hc.mono λi w el e=>by
 obtain⟨a,b⟩:=qeX e;rw[QY a,hh i a];exact b
def JC(S:List Nat)(h:List qC)(v:AV)(j:qF):Prop:=∃c S0 vq vb vn,S=c::S0/\v=jc j.Id j.Weight j.State j.Code j.Left j.Slices (sQ 1 c j.Counts.length) vq vb vn/\h[c]?=some (.row 1 (j.Counts.map qQ) true)/\c∉S0/\
 Cv (only S0 h) vq (lQ j.Schedule)/\Cv (only S0 h) vb (.lst 1 (j.Book.map qD.enc) false)/\Cv (only S0 h) vn (.lst 5 (j.Net.Agents.map qB.enc) false)
section
variable {S:List Nat} {h h':List qC} {v:AV} {j:qF}
theorem JC.heap(x:JC S h v j)(hh:∀i,i∈S->h'[i]?=h[i]?):JC S h' v j:=by
 obtain⟨c,S0,vq,vb,vn,rfl,rfl,e,n,q1,q2,q3⟩:=x;have h0:∀i,i∈S0->h'[i]?=h[i]?:=λi hi=>hh i (List.mem_cons_of_mem _ hi);exact⟨c,S0,vq,vb,vn,rfl,rfl,(hh c (by simp)).trans e,n,q1.onh h0,q2.onh h0,q3.onh h0⟩
theorem Cv.ints{x:Int}:Cv h (iI x) (iI x):=.refl rfl
theorem qdJ{i0 i1 i2 i3 i4 i5:Int}{a b c d a' b' c' d':AV}(h1:Cv h a a')(h2:Cv h b b')(h3:Cv h c c')(h4:Cv h d d'):Cv h (jc i0 i1 i2 i3 i4 i5 a b c d) (jc i0 i1 i2 i3 i4 i5 a' b' c' d'):=by
 unfold jc;have:=Cvs.cons (Cv.ints (h:=h) (x:=i0)) (Cvs.cons (Cv.ints (x:=i1)) (Cvs.cons (Cv.ints (x:=i2)) (Cvs.cons (Cv.ints (x:=i3)) (Cvs.cons (Cv.ints (x:=i4)) (Cvs.cons (Cv.ints (x:=i5)) (Cvs.cons h1 (Cvs.cons h2 (Cvs.cons h3 (Cvs.cons h4 Cvs.nil)))))))));exact .agg this.1 this.2
theorem qdM:j.enc=jc j.Id j.Weight j.State j.Code j.Left j.Slices (lQ j.Counts) (lQ j.Schedule) (.lst 1 (j.Book.map qD.enc) false) (.lst 5 (j.Net.Agents.map qB.enc) false):=rfl
theorem JC.cv(x:JC S h v j):Cv h v j.enc:=by
 obtain⟨c,S0,vq,vb,vn,rfl,rfl,e,n,q1,q2,q3⟩:=x;rw[qdM];exact qdJ (Cv.row e (by simp) (qa shI.tree _) (by decide)) q1.onl q2.onl q3.onl
theorem JC.of{S:List (Option Nat)}(x:qd S h v j.enc)(hn:none∉S):JC (S.filterMap id) h v j:=by
 have hd:=x.d;obtain⟨cj,sj,bj,aj,Sb,Sn,rfl,rfl,h1,h2,h3,h4⟩:=x.job hn;have e:(some cj::some sj::(Sb++Sn)).filterMap id=cj::(sj::(Sb++Sn).filterMap id):=rfl;have hm:∀i,some i∈Sb++Sn->i∈sj::(Sb++Sn).filterMap id:=λi hi=>List.mem_cons_of_mem _ (List.mem_filterMap.2 ⟨some i,hi,rfl⟩);have hcn:=qF.cnx j;simp only[qF.enc,AV.cn,AV.cns,bAt]at hcn;refine⟨cj,_,_,_,_,e,rfl,h1,λq=>?_,Cv.row (by rw[QY (by simp)];exact h2) (by simp) (qa shI.tree _) (by decide), ?_, ?_⟩
 ·refine WT (a:=[some cj]) (b:=some sj::(Sb++Sn)) hd (j:=cj) (by simp) ?_;rcases List.mem_cons.1 q with rfl | q
  ·simp
  ·obtain⟨y,hy,e⟩:=List.mem_filterMap.1 q;exact List.mem_cons_of_mem _ (by simp only[id]at e;rw[e]at hy;exact hy)
 ·exact qd.cv (h3.heap λi hi=>QY (hm i (List.mem_append_left _ hi))) (λq=>hn (by simp[q])) (by simp only[AV.cn,bAt];simp_all)
 ·exact qd.cv (h4.heap λi hi=>QY (hm i (List.mem_append_right _ hi))) (λq=>hn (by simp[q])) (by simp only[AV.cn,bAt];simp_all)
end
structure QS(qid jid:Nat)(vs:List AV)(SS:List (List Nat))(q:qP)(h:List qC):Prop where
 o:h[qid]?=some (.row 4 [.agg [iI q.Quantum,iI q.NextId,iI q.Turn,sQ 10 jid q.Jobs.length]] true)
 r:h[jid]?=some (.row 10 vs true)
 lv:vs.length=q.Jobs.length
 ls:SS.length=q.Jobs.length
 j:∀(k:Nat)(j:qF),q.Jobs[k]?=some j->∃v S,vs[k]?=some v/\SS[k]?=some S/\JC S h v j
 d:∀(k l:Nat)(A B:List Nat)(i:Nat),k≠l->SS[k]?=some A->SS[l]?=some B->i∈A->i∉B
 n:∀(k:Nat)(S:List Nat),SS[k]?=some S->∀i,i∈S->i<h.length/\i≠qid/\i≠jid
 ne:qid≠jid
section
variable {qid jid:Nat} {vs:List AV} {SS:List (List Nat)} {q:qP} {h:List qC}
theorem QS.of{Z:List (Option Nat)->Prop}{SO:List (List (Option Nat))}(x:QM Z qid jid vs SO q h)(hn:∀(k:Nat)(S:List (Option Nat)),SO[k]?=some S->NoN S):QS qid jid vs (SO.map λS=>S.filterMap id) q h:=by
 have mm:∀{S:List (Option Nat)}{i:Nat},i∈S.filterMap id->some i∈S:=λ{S i} hi=>by
  obtain⟨y,hy,e⟩:=List.mem_filterMap.1 hi;simp only[id]at e;rw[e]at hy;exact hy
 have at_:∀{k:Nat}{A:List Nat},(SO.map λS=>S.filterMap id)[k]?=some A->∃S,SO[k]?=some S/\A=S.filterMap id:=λ{k A} hk=>by
  rw[gMp,oMi]at hk;obtain⟨S,h1,h2⟩:=hk;exact⟨S,h1,h2.symm⟩
 refine⟨x.o,x.r,x.lv,by rw[lMp];exact x.ls,λk j hj=>?_,λk l A B i ne hA hB hi hj=>?_,λk A hA i hi=>?_,x.ne⟩
 ·obtain⟨v,S,q1,q2,q3,_⟩:=x.j k j hj;exact⟨v,_,q1,by rw[gMp,q2];rfl,JC.of q3 (hn k S q2)⟩
 ·obtain⟨A',a1,rfl⟩:=at_ hA;obtain⟨B',b1,rfl⟩:=at_ hB;exact x.d k l A' B' i ne a1 b1 (mm hi) (mm hj)
 ·obtain⟨A',a1,rfl⟩:=at_ hA;exact x.n k A' a1 i (mm hi)
theorem qEY{α:Type}{P:α×α->Prop}:∀{as bs:List α},(∀(k:Nat)(a b:α),as[k]?=some a->bs[k]?=some b->P (a,b))->∀p∈as.zip bs,P p
 |[],_,_,p,hp=>by simp at hp
 | _::_,[],_,p,hp=>by simp at hp
 | a::as,b::bs,hs,p,hp=>by
  simp only[List.zip_cons_cons,List.mem_cons]at hp;rcases hp with rfl | hp
  ·exact hs 0 _ _ rfl rfl
  ·exact qEY (λk a b h1 h2=>hs (k+1) a b h1 h2) p hp
theorem QS.cvq(x:QS qid jid vs SS q h):Cv h (.agg [iI q.Quantum,iI q.NextId,iI q.Turn,sQ 10 jid q.Jobs.length]) q.enc:=by
 have l:=x.lv;have e:(vs.drop 0).take q.Jobs.length=vs:=by rw[List.drop_zero,<-l,lTl]
 have hs:Cv h (sQ 10 jid q.Jobs.length) (.lst 10 (q.Jobs.map qF.enc) false):=by
  refine .slc x.r (by omega) (by decide) (by rw[e,lMp];exact l) ?_;rw[e];refine qEY λk a b h1 h2=>?_;rw[gMp,oMi]at h2;obtain⟨j,hj,rfl⟩:=h2;obtain⟨v,S,q1,_,q3⟩:=x.j k j hj;rw[q1]at h1;cases h1;exact q3.cv
 have:=Cvs.cons (Cv.ints (h:=h) (x:=q.Quantum)) (Cvs.cons (Cv.ints (x:=q.NextId)) (Cvs.cons (Cv.ints (x:=q.Turn)) (Cvs.cons hs Cvs.nil)));exact .agg this.1 this.2
theorem QS.cv(x:QS qid jid vs SS q h):Cv h (.ptr qid 0 0) (.ept q.enc 0):=.ptr x.o (by decide) rfl x.cvq
theorem QS.slice{h':List qC}{t:Nat}{j j':qF}{S S':List Nat}{v':AV}(hQ:QS qid jid vs SS q h)(hj:q.Jobs[t]?=some j)(hS:SS[t]?=some S)(h1:h'[jid]?=some (.row 10 (vs.set t v') true))(h2:JC S' h' v' j')
  (h4:∀i,i∈S'->i<h'.length/\(i∈S\/h.length<=i)) (h5:h.length<=h'.length) (h6:∀i,i<h.length->i≠jid->i∉S->h'[i]?=h[i]?):QS qid jid (vs.set t v') (SS.set t S') {q with Jobs:=q.Jobs.set t j'} h':=by
 have lt:=qR hj;have lq:=qR hQ.o;have lr:=qR hQ.r;have old:∀(k:Nat)(A:List Nat),k≠t->SS[k]?=some A->∀i,i∈A->i<h.length/\i≠jid/\i∉S:=λk A hk hA i hi=>by
  have:=hQ.n k A hA i hi;exact⟨this.1,this.2.2,hQ.d k t A S i hk hA hS hi⟩
 refine⟨?_,h1,by simp[hQ.lv],by simp[hQ.ls],λk jj hk=>?_,λk l A B i ne hA hB hi hj2=>?_,λk A hA i hi=>?_,hQ.ne⟩
 ·rw[h6 qid lq hQ.ne (λe=>(hQ.n t S hS qid e).2.1 rfl)];simpa using hQ.o
 ·simp only at hk;rw[gSt]at hk;by_cases e:t=k
  ·subst e;rw[if_pos rfl,if_pos lt]at hk;cases hk;exact⟨v',S',by rw[gSs (by rw[hQ.lv];exact lt)],by rw[gSs (by rw[hQ.ls];exact lt)],h2⟩
  ·rw[if_neg e]at hk;obtain⟨v,A,q1,q2,q3⟩:=hQ.j k jj hk;refine⟨v,A,by rw[gSn e];exact q1,by rw[gSn e];exact q2,q3.heap λi hi=>?_⟩;obtain⟨o1,o2,o3⟩:=old k A (Ne.symm e) q2 i hi;exact h6 i o1 o2 o3
 ·rw[gSt]at hA hB;by_cases e1:t=k
  ·rw[if_pos e1,if_pos (by rw[hQ.ls];exact lt)]at hA;cases hA;rw[if_neg (by omega)]at hB;have o:=old l B (by omega) hB i hj2;rcases(h4 i hi).2 with q1 | q1
   ·exact o.2.2 q1
   ·omega
  ·rw[if_neg e1]at hA;by_cases e2:t=l
   ·rw[if_pos e2,if_pos (by rw[hQ.ls];exact lt)]at hB;cases hB;have o:=old k A (by omega) hA i hi;rcases(h4 i hj2).2 with q1 | q1
    ·exact o.2.2 q1
    ·omega
   ·rw[if_neg e2]at hB;exact hQ.d k l A B i ne hA hB hi hj2
 ·rw[gSt]at hA;by_cases e:t=k
  ·rw[if_pos e,if_pos (by rw[hQ.ls];exact lt)]at hA;cases hA;obtain⟨o1,o2⟩:=h4 i hi;rcases o2 with q1 | q1
   ·have:=hQ.n t S hS i q1;exact⟨o1,this.2⟩
   ·exact⟨o1,by omega,by omega⟩
  ·rw[if_neg e]at hA;have:=hQ.n k A hA i hi;exact⟨by omega,this.2⟩
end
theorem qpD{xs:List Int}{d:Nat}(h:wm xs=true):wm (Jb xs d)=true:=by
 have hx:=λ(i:Nat)(hi:i<xs.length)=>(gMm hi:xs[i]∈xs);simp only[wm,bAt,lAt,Qy]at h|-;refine⟨h.1,λv hv=>?_⟩;obtain⟨i,hi,rfl⟩:=List.getElem_of_mem hv;rw[Qy]at hi;have e:=qD1 (xs:=xs) (d:=d) hi;rw[gEg (by rw[Qy];exact hi)]at e;rw[Option.some.inj e];have hm:=Nat.mod_lt (d+i) (show 0<xs.length by omega);rw[lGd,gEg hm,Option.getD_some];exact h.2 _ (gMm hm)
section
variable {w:Nat} {post:List AV} {P:Nat->Prop} {nid aid rid jid k c most i:Nat} {ps S S0:List Nat} {h:List qC} {N:Ags} {T:List Int} {v:AV} {vs:List AV} {j:qF} {K:AV->List qC->Prop} {o:qC} {qm:Int}
theorem NA.cvo(hN:NA w post P nid aid ps h N):Cv (only (aid::ps) h) (sQ 5 aid N.length) (.lst 5 (N.map qB.enc) false):=by
 have el:=Ql hN.l;refine .slc (by rw[QY (by simp)];exact hN.a) (by omega) (by decide) (by simp[el]) ?_;rw[List.drop_zero,<-el,lTl];exact qB9 hN.l λk x q h1 h2 h3=>by rw[QY (List.mem_cons_of_mem _ (lMo h2))];exact hN.p k x q h1 h2 h3
theorem LR.set(hL:LR P rid N T h)(hi:P i):LR P rid N T (h.set i o):=by
 obtain⟨tid,pk,hN,ht,np⟩:=hL;exact⟨tid,pk,hN.re (λj hj hn=>gSn λe=>hn (.inl (by rw[<-e];exact hi))) (by simp) (λj q=>.inl q) (λj q=>by rw[lLs];exact hN.bl j q),by rw[gSn (λe=>np (by rw[<-e];exact hi))];exact ht,np⟩
abbrev jF(j:qF)(c:Nat):AV:=jc j.Id j.Weight j.State j.Code j.Left j.Slices (sQ 1 c j.Counts.length) (lQ j.Schedule) (.lst 1 (j.Book.map qD.enc) false) (.lst 5 (j.Net.Agents.map qB.enc) false)
abbrev jE(j:qF)(c:Nat)(l s:Int):AV:=jc j.Id j.Weight j.State j.Code l s (sQ 1 c j.Counts.length) (lQ j.Schedule) (.lst 1 (j.Book.map qD.enc) false) (.lst 5 (j.Net.Agents.map qB.enc) false)
theorem qlG(hc:h[c]?=some (.row 1 (j.Counts.map qQ) true)):Cv h (jF j c) j.enc:=by
 rw[qdM];exact qdJ (Cv.row hc (by simp) (qa shI.tree _) (by decide)) (.refl (by simp only[AV.tree,qa shI.tree])) (.refl (by simp only[AV.tree];exact qa qD.isSh.tree _)) (.refl (by simp only[AV.tree];exact qa qB.isSh.tree _))
theorem qkU(x:JC S h v j)(ho:h[jid]?=some (.row 10 vs true))(hv:vs[k]?=some v)(hS:∀i,i∈S->i<h.length/\i≠jid):∃c S0 h1,S=c::S0/\(∀b s m,Can b ⟨s,m,h⟩ ⟨s,m,h1⟩)/\h1[jid]?=some (.row 10 (vs.set k (jF j c)) true)/\
  h1[c]?=some (.row 1 (j.Counts.map qQ) true)/\h1.length=h.length/\∀i,i≠jid->i∉S->h1[i]?=h[i]?:=by
 obtain⟨c,S0,vq,vb,vn,rfl,rfl,e,n,q1,q2,q3⟩:=x;have lj:=qR ho;have lk:=qR hv;have hc:=hS c (by simp);refine⟨c,S0,(without S0 h).set jid (.row 10 (vs.set k (jF j c)) true),rfl,λb s m=>Can.giveH S0 ?_ ho (by omega) ⟨by simp,qEY λk' a b h1 h2=>?_⟩, ?_, ?_,by rw[lLs,QG],λi hi hn=>?_⟩
 ·rw[<-Bool.not_eq_true,lCm];exact λq=>(hS jid (List.mem_cons_of_mem _ q)).2 rfl
 ·rw[gSt]at h2;by_cases ek:k=k'
  ·subst ek;rw[if_pos rfl,if_pos lk]at h2;rw[hv]at h1;cases h1;cases h2;unfold jF jc;have:=HCv.list (.same (H:=only S0 h) (iI j.Id)) (HCv.list (.same (iI j.Weight)) (HCv.list (.same (iI j.State)) (HCv.list (.same (iI j.Code)) (HCv.list (.same (iI j.Left)) (HCv.list (.same (iI j.Slices)) (HCv.list (.same (sQ 1 c j.Counts.length))
    (HCv.list (.cv q1 (by simp only[AV.tree,qa shI.tree])) (HCv.list (.cv q2 (by simp only[AV.tree];exact qa qD.isSh.tree _)) (HCv.list (.cv q3 (by simp only[AV.tree];exact qa qB.isSh.tree _)) (HCv.refls []))))))))))
   exact .agg this.1 this.2
  ·rw[if_neg ek,h1]at h2;cases h2;exact .same _
 ·rw[gSs (by rw[QG];exact lj)]
 ·rw[gSn (Ne.symm hc.2),Jy n];exact e
 ·rw[gSn (Ne.symm hi),Jy λq=>hn (List.mem_cons_of_mem _ q)]
theorem s962(ho:h[jid]?=some (.row 10 vs true))(hv:vs[k]?=some v)(hj:JC S h v j)(hS:∀i,i∈S->i<h.length/\i≠jid)(kj:JV j)(hm:most<=200)(hml:(most:Int)<=j.Left)(hq1:1<=qm*j.Weight)(hq2:qm*j.Weight<=200)(hmm:(most:Int)=min (qm*j.Weight) j.Left)
  (hK:∀h' v' S',h'[jid]?=some (.row 10 (vs.set k v') true)->JC S' h' v' (w7 j most)->(∀i,i∈S'->i<h'.length/\(i∈S\/h.length<=i))->h.length<=h'.length->(∀i,i<h.length->i≠jid->i∉S->h'[i]?=h[i]?)->K (.tup []) h'):
  SCall Gm 962 [.ptr jid k 0,iI qm] h K:=by
 obtain⟨c,S0,h1,rfl,hcan,o1,c1,l1,k1⟩:=qkU hj ho hv hS;obtain⟨ksch,kbk,knet,kcnt,l0,l4,sl0,bud,sm0,w1,w4,slm⟩:=kj;have hsz:=Z7 knet;have lj:=qR ho;have lk:=qR hv;have hcS:=hS c (by simp);have cA:∀x,(vs.set k x)[k]?=some x:=λx=>gSs lk;obtain⟨⟨L,T,en,cd⟩,hRES⟩:∃RES,RES=jN j.Book j.Schedule most (qj j.Counts).toNat j.Net.Agents:=⟨_,rfl⟩;refine SCall.runC [] [] (gk _ F962) (by kernel_rfl) rfl (hcan _ _ _) ?_;simp only[F962,qM,go_sem];have e1:IntKind.i64.wrap (j.Slices+1)=j.Slices+1:=wsA;unfold jF jc at o1;simp only[o1,cA,e1,go_sem];refine qn (e':=jE j c j.Left (j.Slices+1)) rfl o1 (cA _) rfl ?_;rw[List.set_set];obtain⟨hA,ehA⟩:∃hA,hA=h1.set jid (.row 10 (vs.set k (jE j c j.Left (j.Slices+1))) true):=⟨_,rfl⟩;have oA:hA[jid]?=some (.row 10 (vs.set k (jE j c j.Left (j.Slices+1))) true):=by rw[ehA,gSs (by omega)]
 have cR:hA[c]?=some (.row 1 (j.Counts.map qQ) true):=by rw[ehA,gSn (Ne.symm hcS.2)];exact c1
 have kA:∀i,i≠jid->i∉c::S0->hA[i]?=h[i]?:=λi hi hn=>by rw[ehA,gSn (Ne.symm hi)];exact k1 i hi hn
 have lA:hA.length=h.length:=by rw[ehA,lLs,l1]
 rw[<-ehA];clear ehA o1 c1 k1 l1 hcan;simp only[go_sem];refine qU (qoR (J:={j with Slices:=j.Slices+1}) oA (cA _) (qlG (j:={j with Slices:=j.Slices+1}) cR) (by simp only;omega) (Wg knet) (λz hz=>(zi (JT (JX knet) z hz)).2) λH H' tid rid hc2 eH kH kH' hN ht ht2=>?_);simp only at hN;have oH:H[jid]?=some (.row 10 (vs.set k (jE j c j.Left (j.Slices+1))) true):=(kH.k jid (by rw[lA];exact lj)).trans oA;have cH:H[c]?=_:=(kH.k c (by rw[lA];exact hcS.1)).trans cR;have oH':H'[jid]?=some (.row 10 (vs.set k (jE j c j.Left (j.Slices+1))) true):=(kH'.k jid (by rw[lA];exact lj)).trans oA;have cH':H'[c]?=_:=(kH'.k c (by rw[lA];exact hcS.1)).trans cR;have fH':∀i,i<h.length->H'[i]?=hA[i]?:=λi hi=>kH'.k i (by rw[lA];exact hi);have lH':=kH'.l;rw[lA]at lH' hN ht2;simp only[go_sem];unfold jE jc at oH oH';simp only[oH,cA,go_sem];refine jx (Cvs.cons (Cv.row cH (by simp) (qa shI.tree _) (by decide)) Cvs.nil) (Vm kcnt) rfl ?_;simp only[go_sem];obtain⟨d,hd⟩:∃d:Nat,qj j.Counts=(d:Int):=⟨(qj j.Counts).toNat,by omega⟩;have hd2:(qj j.Counts).toNat=d:=by omega
 rw[hd];have lsch:j.Schedule.length<=200:=by simp only[wm,bAt,dTe]at ksch;exact ksch.1
 refine Sem.loop (α:=Nat×List qC×Nat) (λq=>q.1<=j.Schedule.length/\Keep (Lo H'.length) H' q.2.1/\H'.length<=q.2.2/\q.2.1[q.2.2]?=some (.row 1 (((Jb j.Schedule d).take q.1).map qQ) true))
  (λq=>(⟨[(0,.ptr jid k 0),(1,iI qm),(4,.ptr rid 0 0),(5,iI (d:Nat)),(6,sQ 1 q.2.2 q.1),(7,iI (q.1:Nat))],[],q.2.1⟩:VSt)) (λq=>j.Schedule.length-q.1) (0,H'++[.row 1 [] true],H'.length) (by kernel_rfl)
  ⟨nZl _,⟨by simp,λi hi=>gAl hi⟩,nLr _,gCl⟩
  ((hc2 _ _ _).trans (Can.ph (WkN.same rfl (WkN.same rfl (WkN.same rfl (WkN.same rfl (WkN.cons rfl (Wk.ph2 (by simp)) (WkN.same rfl WkN.nil)))))) WkN.nil)) ?_
 rintro⟨i,g,sid⟩ ⟨hi,kg,hsid,hs⟩;simp only at hi kg hsid hs;have og:g[jid]?=_:=(kg.k jid (show jid<H'.length by omega)).trans oH';simp only[go_sem];simp only[og,cA,go_sem];apply qI<;>intro hc<;>simp only[hc,go_sem]
 ·have hlt:i<j.Schedule.length:=by have:=odT hc;omega
  clear hc;have hmd:=Nat.mod_lt (d+i) (show 0<j.Schedule.length by omega);have w1':IntKind.i64.wrap ((d:Int)+(i:Int))=((d+i:Nat):Int):=by rw[wsA];omega
  have w2':(((d+i:Nat):Int)).tmod ((j.Schedule.length:Nat):Int)=(((d+i)%j.Schedule.length:Nat):Int):=(Int.ofNat_tmod _ _).symm;have hr:=qD1 (xs:=j.Schedule) (d:=d) hlt;have hse:(j.Schedule.map qQ)[(d+i)%j.Schedule.length]?=some (iI (j.Schedule.getD ((d+i)%j.Schedule.length) 0)):=by
   rw[gMp,lGd,gEg hmd];rfl
  generalize j.Schedule.getD ((d+i)%j.Schedule.length) 0=z at hr hse;simp only[og,cA,w1',go_sem];rw[if_neg (by omega),w2'];simp only[hse,oMs,go_sem];have ls:=qR hs;refine jO (len:=i) (x:=iI z) (el:=((Jb j.Schedule d).take i).map qQ) Zr (by rw[gAl ls];exact hs) (by rw[lMp,lLt,Qy];omega) (by omega) ?_;simp only[go_sem];simp only[wuA (n:=i)];have lg:=kg.l;refine qb (i+1,_,(g++[qC.row 1 [AV.int .i64 z] true]).length) ⟨hlt,⟨by simp;omega,λu hu=>?_⟩, ?_, ?_⟩ (by simp only;omega) csA
  ·have hu':u<H'.length:=hu;rw[gAl (by simp;omega),gSn (by omega),gAl (by omega)];exact kg.k u hu
  ·simp only[lAp,lCo,lNi];omega
  ·have et:(Jb j.Schedule d).take (i+1)=(Jb j.Schedule d).take i++[z]:=by
    rw[lTs (by rw[Qy];exact hlt)];congr 2;rw[gEg (by rw[Qy];exact hlt)]at hr;exact Option.some.inj hr
   rw[et,lMa,gAr (by simp)];simp[qQ]
 ·obtain rfl:i=j.Schedule.length:=by have:=odF hc;omega
  clear hc hi;rw[List.take_of_length_le (by rw[Qy];exact nLr _)]at hs;have lgl:=kg.l;have ew:IntKind.i64.wrap (qm*j.Weight)=qm*j.Weight:=wsA;have em:(if qm*j.Weight<j.Left then qm*j.Weight else j.Left)=(most:Int):=by
   rw[hmm];generalize qm*j.Weight=z;rw[Int.min_def];split<;>split<;>omega
  simp only[og,cA,ew,go_sem];refine qL c978 ?_;rw[em];simp only[go_sem];have ltid:=qR ht;have hL0:LR (λi=>i<h.length\/i=sid) rid j.Net.Agents [] g:=⟨tid,_,hN.re (λu hu _=>kg.k u hu) lgl (λu hu=>by rcases hu with(q | q) | q;exact .inl (.inl q);exact .inr (by omega);exact .inl (.inr q)) (λu hu=>by rcases hu with(q | q) | q;omega;(rw[q];exact qR hs);omega),
   (kg.k tid ltid).trans ht,λq=>by rcases q with q | q<;>omega⟩
  have hRES':jN j.Book (Jb j.Schedule d) most 0 (qc j.Net.Agents λ_=>false)=(L,T,en,cd):=by
   rw[qDN (QW knet) (λ_ _=>id),qfY,nAz,hRES,hd2]
  have sp0:SP (λ_=>false) j.Net.Agents:=⟨Hol.of knet,λu x hx hk=>by cases hk⟩;refine qU (qoS (Qy (xs:=j.Schedule) (d:=d)) hL0 sp0 RK.nil kbk (qpD ksch) hs (.inr rfl) hm hRES' λg2 M R' hL2 sp2 kg2 ep hM h17 hTl=>?_);simp only at hL2 ep h17 hTl;simp only[go_sem];have og2:g2[jid]?=_:=(kg2.k jid (.inl lj)).trans og;have c2:g2[c]?=some (.row 1 (j.Counts.map qQ) true):=(kg2.k c (.inl hcS.1)).trans ((kg.k c (show c<H'.length by omega)).trans cH');have f2:∀u,u<h.length->u≠jid->u∉c::S0->g2[u]?=h[u]?:=λu hu h1 h2=>(kg2.k u (.inl hu)).trans ((kg.k u (show u<H'.length by omega)).trans ((fH' u hu).trans (kA u h1 h2)));have lg2:h.length<=g2.length:=by have:=kg2.l;omega
  clear og hs kg2 kg sp0 hL0 hRES' oH oH' cH cH' kH kH' hN ht;obtain⟨tid2,pk2,⟨aid2,ps2,n2⟩,ht2',np2⟩:=id hL2;simp only[n2.o,go_sem];refine Q9 (vs':=[lQ T]) (Cvs.cons (Cv.row ht2' (by simp) (qa shI.tree _) (by decide)) Cvs.nil) (n571 h17 (by omega)) ?_;have eL:lay (lQ (qY T)) g2.length=(.slice 1 g2.length 0 (qY T).length false,[.row 1 ((qY T).map qQ) true]):=by simp only[lay,(Qo (qY T)).1,lMp]
  rw[eL];simp only[go_sem];obtain⟨g3,eg3⟩:∃g3,g3=g2++[qC.row 1 ((qY T).map qQ) true]:=⟨_,rfl⟩;have e3:∀u,u<g2.length->g3[u]?=g2[u]?:=λu hu=>by rw[eg3,gAl hu]
  have o3:g3[jid]?=_:=(e3 jid (by omega)).trans og2;have c3:g3[c]?=_:=(e3 c (by omega)).trans c2;have t3:g3[g2.length]?=some (.row 1 ((qY T).map qQ) true):=by rw[eg3];exact gCl
  have L3:LR (λi=>i<h.length\/i=sid) rid M T g3:=by rw[eg3];exact hL2.app _
  have l3:g3.length=g2.length+1:=by rw[eg3];simp
  rw[<-eg3];clear eg3 eL;have l7:=Zf (T:=T);have c7:=(Zg kcnt).2;have hcc:g2.length≠c:=by omega
  have h0G:g3.set c (.row 1 ((JR j.Counts (qY T) 0).map qQ) true)=g3:=by rw[qaS];exact KJ c3
  refine Sem.loop (λi:Nat=>i<=(qY T).length/\True) (λi=>(⟨[(0,.ptr jid k 0),(4,.ptr rid 0 0),(8,.bool en),(9,iI cd),(10,.slice 1 g2.length 0 (qY T).length false),(11,iI (i:Nat))],[],g3.set c (.row 1 ((JR j.Counts (qY T) i).map qQ) true)⟩:VSt)) (λi=>(qY T).length-i) 0 (by kernel_rfl) ⟨nZl _,trivial⟩
   (by rw[h0G];exact csA) ?_
  rintro i ⟨hi,_⟩;have eJ:∀r,(g3.set c r)[jid]?=g3[jid]?:=λr=>gSn hcS.2;have eC:∀r,(g3.set c r)[g2.length]?=g3[g2.length]?:=λr=>gSn (Ne.symm hcc);have eS:∀r,(g3.set c r)[c]?=some r:=λr=>gSs (by omega);simp only[go_sem];apply qI<;>intro hc<;>simp only[hc,go_sem]
  ·have hlt:i<(qY T).length:=by have:=odT hc;omega
   clear hc;have hx:((qY T).map qQ)[i]?=some (iI ((qY T)[i])):=by rw[gMp,gEg hlt];rfl
   have hlc2:i<j.Counts.length:=by omega
   have hy:((JR j.Counts (qY T) i).map qQ)[i]?=some (iI (j.Counts[i])):=by rw[gMp,qaT hlc2];rfl
   have hb1:=YU (T:=T) _ (gMm hlt);have hb2:=(Zg kcnt).1 _ (gMm hlc2);have ew:IntKind.i64.wrap (j.Counts[i]+(qY T)[i])=j.Counts[i]+(qY T)[i]:=wsA;simp only[eJ,o3,cA,go_sem];simp only[J8 hlt,J8 hlc2,eS,eC,t3,hx,hy,ew,go_sem];refine qn rfl (eS _) hy rfl ?_;rw[List.set_set,show (AV.int .i64 (j.Counts[i]+(qY T)[i]))=qQ (j.Counts[i]+(qY T)[i])from rfl,<-List.map_set,qaV hlc2 hlt];simp only[go_sem];simp only[wuA (n:=i)];exact qb (i+1) ⟨by omega,trivial⟩ (by omega) csA
  ·have hlt:i=(qY T).length:=by have:=odF hc;omega
   clear hc;subst hlt;rw[qaU (by omega)];obtain⟨G,hG⟩:∃G,G=g3.set c (.row 1 ((zu j.Counts (qY T)).map qQ) true):=⟨_,rfl⟩;have LG:LR (λi=>i<h.length\/i=sid) rid M T G:=by rw[hG];exact L3.set (.inl hcS.1)
   have oG:=(show G[jid]?=g3[jid]? by rw[hG];exact eJ _).trans o3;have cG:G[c]?=some (.row 1 ((zu j.Counts (qY T)).map qQ) true):=by rw[hG];exact eS _
   have fG:∀u,u<h.length->u≠jid->u∉c::S0->G[u]?=h[u]?:=λu hu h1 h2=>by
    rw[hG,gSn (λe=>h2 (by rw[e];simp)),e3 u (by omega)];exact f2 u hu h1 h2
   have lG:h.length<=G.length:=by rw[hG,lLs];omega
   rw[<-hG];clear hG eJ eC eS h0G o3 c3 t3 L3 e3 l3 f2 og2 c2;obtain⟨tid3,pk3,⟨aid3,ps3,n3⟩,ht3,np3⟩:=id LG;have e2:IntKind.i64.wrap (j.Left-(T.length:Nat))=j.Left-(T.length:Nat):=wsA;simp only[oG,cA,n3.o,e2,go_sem];refine qn (e':=jE j c (j.Left-(T.length:Nat)) (j.Slices+1)) rfl oG (cA _) rfl ?_;rw[List.set_set];obtain⟨G5,e5⟩:∃G5,G5=G.set jid (.row 10 (vs.set k (jE j c (j.Left-(T.length:Nat)) (j.Slices+1))) true):=⟨_,rfl⟩;have L5:LR (λi=>i<h.length\/i=sid) rid M T G5:=by rw[e5];exact LG.set (.inl lj)
   have o5:G5[jid]?=some (.row 10 (vs.set k (jE j c (j.Left-(T.length:Nat)) (j.Slices+1))) true):=by rw[e5,gSs (by omega)]
   have c5:=(show G5[c]?=G[c]? by rw[e5,gSn (Ne.symm hcS.2)]).trans cG;have f5:∀u,u<h.length->u≠jid->u∉c::S0->G5[u]?=h[u]?:=λu hu h1 h2=>by rw[e5,gSn (Ne.symm h1)];exact fG u hu h1 h2
   have l5:h.length<=G5.length:=by rw[e5,lLs];exact lG
   rw[<-e5];clear e5 oG cG fG lG LG n3 ht3;obtain⟨tid5,pk5,hN5,ht5,np5⟩:=L5;simp only[go_sem];refine qU (s981 (R:=R') hN5 (λu x hx=>sp2.kind hx) (λu x hx hk=>(zi (sp2.hol.k u x hx hk).1).2) (λu x hx hk s q hq=>by have:=sp2.hol.ports u x hx hk s q hq;exact⟨this.1,this.2.1⟩) (λz hz=>by have:=sp2.sz hz;omega) (by omega) λG6 hN6 k6=>?_);rw[ep]at hN6;obtain⟨aid6,ps6,n6⟩:=hN6;have o6:G6[jid]?=_:=(k6.k jid (.inl (.inl lj))).trans o5;have c6:G6[c]?=_:=(k6.k c (.inl (.inl hcS.1))).trans c5;have f6:∀u,u<h.length->u≠jid->u∉c::S0->G6[u]?=h[u]?:=λu hu h1 h2=>(k6.k u (.inl (.inl hu))).trans (f5 u hu h1 h2);have l6:h.length<=G6.length:=by have:=k6.l;omega
   have b6:∀u,u∈aid6::ps6->h.length<=u/\u<G6.length:=λu hu=>by
    rcases List.mem_cons.1 hu with rfl | hu
    ·exact⟨by have:=n6.b2;simp only[not_or]at this;omega,n6.lta⟩
    ·exact⟨by have:=n6.b3 u hu;simp only[not_or]at this;omega,n6.ltp hu⟩
   have n6o:=n6.o;simp only[go_sem];have nc6:c∉aid6::ps6:=λq=>by have:=b6 c q;omega
   have mk:∀(j':qF)(S2:List Nat)(vq vb vn:AV),j'.Counts=zu j.Counts (qY T)->c∉S2->Cv (only S2 G6) vq (.lst 1 (j'.Schedule.map qQ) false)->Cv (only S2 G6) vb (.lst 1 (j'.Book.map qD.enc) false)->Cv (only S2 G6) vn (.lst 5 (j'.Net.Agents.map qB.enc) false)->
     JC (c::S2) G6 (jc j'.Id j'.Weight j'.State j'.Code j'.Left j'.Slices (sQ 1 c j.Counts.length) vq vb vn) j':=λj' S2 vq vb vn e n q1 q2 q3=>⟨c,S2,vq,vb,vn,rfl,by rw[e,WN],by rw[e];exact c6,n,q1,q2,q3⟩
   have fin:∀(x:AV)(S2:List Nat),JC (c::S2) G6 x (w7 j most)->(∀u,u∈S2->h.length<=u/\u<G6.length)->K (.tup []) (G6.set jid (.row 10 (vs.set k x) true)):=λx S2 hx hb=>by
    refine hK _ x (c::S2) (gSs (by omega)) (hx.heap λu hu=>gSn ?_) (λu hu=>?_) (by rw[lLs];exact l6) (λu hu h1 h2=>by rw[gSn (Ne.symm h1)];exact f6 u hu h1 h2)
    ·rcases List.mem_cons.1 hu with rfl | hu
     ·exact Ne.symm hcS.2
     ·have:=hb u hu;omega
    ·rw[lLs];rcases List.mem_cons.1 hu with rfl | hu
     ·exact⟨by omega,.inl (by simp)⟩
     ·have:=hb u hu;exact⟨this.2,.inr this.1⟩
   have esl:w7 j most=if cd≠0 then j8 {j with Slices:=j.Slices+1,Left:=j.Left-T.length,Counts:=zu j.Counts (qY T)} 3 cd []else if en=true then j8 {j with Slices:=j.Slices+1,Left:=j.Left-T.length,Counts:=zu j.Counts (qY T)} 2 0 L
     else if j.Left-T.length=0 then j8 {j with Slices:=j.Slices+1,Left:=j.Left-T.length,Counts:=zu j.Counts (qY T)} 3 12 []else{j with Slices:=j.Slices+1,Left:=j.Left-T.length,Counts:=zu j.Counts (qY T),Net:=⟨L⟩}:=by
    unfold w7;rw[<-hRES]
   rw[esl]at fin;unfold jE jc at o6;by_cases hc0:cd=0
   ·rw[if_neg (λq=>q hc0)]at fin;simp only[hc0,show decide ((0:Int)=0)=true from rfl,go_sem];by_cases hen:en=true
    ·rw[if_pos hen]at fin;simp only[hen,go_sem];simp only[n6o,go_sem];refine qU (qD5 (u:=sQ 5 aid6 L.length) o6 (cA _) ?_);rw[List.set_set];simp only[go_sem];exact fin _ (aid6::ps6) (mk (j8 {j with Slices:=j.Slices+1,Left:=j.Left-T.length,Counts:=zu j.Counts (qY T)} 2 0 L) (aid6::ps6) .nils .nils _ rfl nc6 .nils .nils n6.cvo) b6
    ·have hen2:en=false:=by simpa using hen
     rw[if_neg hen]at fin;simp only[hen2,go_sem];simp only[o6,cA,go_sem];by_cases hl0:j.Left-(T.length:Nat)=0
     ·rw[if_pos hl0]at fin;simp only[decide_eq_true hl0,go_sem];refine qU (qD5 (u:=.nils) o6 (cA _) ?_);rw[List.set_set];simp only[go_sem];exact fin _ [] (mk (j8 {j with Slices:=j.Slices+1,Left:=j.Left-T.length,Counts:=zu j.Counts (qY T)} 3 12 []) [] .nils .nils .nils rfl (by simp) .nils .nils .nils) (by simp)
     ·rw[if_neg hl0]at fin;simp only[decide_eq_false hl0,go_sem];simp only[n6o,go_sem];refine qn (e':=jc j.Id j.Weight j.State j.Code (j.Left-(T.length:Nat)) (j.Slices+1) (sQ 1 c j.Counts.length) (lQ j.Schedule) (.lst 1 (j.Book.map qD.enc) false) (sQ 5 aid6 L.length)) rfl o6 (cA _) rfl ?_;rw[List.set_set];simp only[go_sem];exact fin _ (aid6::ps6) (mk {j with Slices:=j.Slices+1,Left:=j.Left-T.length,Counts:=zu j.Counts (qY T),Net:=⟨L⟩} (aid6::ps6) _ _ _ rfl nc6 (.refl (by simp only[AV.tree,qa shI.tree])) (.refl (by simp only[AV.tree];exact qa qD.isSh.tree _)) n6.cvo) b6
   ·rw[if_pos hc0]at fin;simp only[decide_eq_false hc0,go_sem];refine qU (qD5 (u:=.nils) o6 (cA _) ?_);rw[List.set_set];simp only[go_sem];exact fin _ [] (mk (j8 {j with Slices:=j.Slices+1,Left:=j.Left-T.length,Counts:=zu j.Counts (qY T)} 3 cd []) [] .nils .nils .nils rfl (by simp) .nils .nils .nils) (by simp)
end
section
variable {qid jid:Nat} {vs:List AV} {SS:List (List Nat)} {q:qP} {h:List qC} {K:AV->List qC->Prop}
theorem s587{t:Nat}{j:qF}(hQ:QS qid jid vs SS q h)(ok:QV q)(e:jt q=(t:Int))(hj:q.Jobs[t]?=some j)(hs:j.State=1)(hK2:∀h' vs' SS',QS qid jid vs' SS' (Jl q) h'->K (.tup []) h'):SCall Gm 587 [.ptr qid 0 0,iI (t:Nat)] h K:=by
 have hl:=ok.l;have jv:=ok.j j (lMo hj) hs;obtain⟨b1,b2,b3,b4⟩:=qC5 ok jv;have lt:=qR hj;obtain⟨v,S,v1,v2,v3⟩:=hQ.j t j hj;have est:Jl q={q with Jobs:=q.Jobs.set t (w7 j (ZN q j)),Turn:=(((t+1)%q.Jobs.length:Nat):Int)}:=by unfold Jl;rw[e,iTn,hj]
 rw[est]at hK2;have h1:=ok.q1;have h5:=ok.q5;have w1:1<=j.Weight:=jv.2.2.2.2.2.2.2.2.2.1;have w4:j.Weight<=4:=jv.2.2.2.2.2.2.2.2.2.2.1;have m1:1<=q.Quantum*j.Weight:=Int.le_trans (by omega) (Int.mul_le_mul h1 w1 (by omega) (by omega));have m2:q.Quantum*j.Weight<=200:=Int.le_trans (Int.mul_le_mul h5 w4 (by omega) (by omega)) (by omega);refine sI F587 ?_;simp only[F587,qM,go_sem];simp only[hQ.o,zQ lt,nZa,go_sem];refine qU (s962 hQ.r v1 v3 (λi hi=>by have:=hQ.n t S v2 i hi;exact⟨this.1,this.2.2⟩) jv b1 b2 m1 m2 b4 λh' v' S' r1 r2 r4 r5 r6=>?_);have hQ2:=hQ.slice hj v2 r1 r2 r4 r5 r6;have o2:=hQ2.o;simp only[lLs]at o2;have hn:¬((q.Jobs.length:Nat):Int)=0:=by omega
 have w2:(((t+1:Nat):Int)).tmod ((q.Jobs.length:Nat):Int)=(((t+1)%q.Jobs.length:Nat):Int):=(Int.ofNat_tmod _ _).symm;simp only[go_sem];simp only[o2,wuA (n:=t),go_sem];rw[if_neg hn,w2];simp only[go_sem];refine qn rfl o2 rfl rfl ?_;simp only[go_sem];have lq:=qR o2;refine hK2 _ _ _ ⟨?_,by rw[gSn hQ2.ne];exact hQ2.r,hQ2.lv,hQ2.ls,λk jj hk=>?_,hQ2.d,λk A hA i hi=>by rw[lLs];exact hQ2.n k A hA i hi,hQ2.ne⟩
 ·rw[gSs lq];simp[AV.cells]
 ·obtain⟨w,A,q1,q2,q3⟩:=hQ2.j k jj hk;exact⟨w,A,q1,q2,q3.heap λi hi=>gSn (Ne.symm (hQ2.n k A q2 i hi).2.1)⟩
end
theorem qc2{h:List qC}{a b c v:AV}(hc:Cv h (.tup [a,b,c]) v):Fin (some [a,b,c]) h v:=by
 unfold Fin;exact hc
theorem qjE{qid jid:Nat}{vs:List AV}{SS:List (List Nat)}{q:qP}{h:List qC}{n e:Int}(hQ:QS qid jid vs SS q h):Fin (some [.agg [iI q.Quantum,iI q.NextId,iI q.Turn,sQ 10 jid q.Jobs.length],iI n,iI e]) h (Qv (q,n,e)):=by
 have:=Cvs.cons hQ.cvq (Cvs.cons (Cv.ints (x:=n)) (Cvs.cons (Cv.ints (x:=e)) Cvs.nil));exact qc2 (.tup this.1 this.2)
theorem qBX{h:List qC}{e:Int}:Fin (some [.agg [iI 0,iI 0,iI 0,.nils],iI 0,iI e]) h (Qv (YB,0,e)):=by
 have a:=Cvs.cons (Cv.ints (h:=h) (x:=0)) (Cvs.cons (Cv.ints (x:=0)) (Cvs.cons (Cv.ints (x:=0)) (Cvs.cons (Cv.nils (w:=10) (c:=false)) Cvs.nil)));have:=Cvs.cons (Cv.agg a.1 a.2) (Cvs.cons (Cv.ints (x:=0)) (Cvs.cons (Cv.ints (x:=e)) Cvs.nil));exact qc2 (.tup this.1 this.2)
theorem c241{q:qP}{n:Int}(hz:q.sz<=1048576):Pure Gm 241 [q.enc,iI n] (Qv (Jv q n)):=by
 refine Pure.intro [2] [] (gk _ F241) (by kernel_rfl) rfl (by simp[AV.trees,AV.tree,go_sem]) (by simp[Qv,AV.tree,AV.trees,go_sem]) ?_;simp only[F241,qM,go_sem];refine WX rfl ?_;simp only[lNa,lSz,go_sem];refine qL (c584 hz) ?_;simp only[go_sem];apply qI<;>intro hc<;>simp only[hc,go_sem]
 ·have h0:wl q=false:=by simpa using hc
  unfold Jv;rw[if_pos h0];refine lsA ?_;simp only[go_sem];exact qBX
 ·have ok:wl q=true:=by simpa using hc
  clear hc;have hV:=qDW ok;refine qL JB ?_;simp only[go_sem];apply qI<;>intro hc<;>simp only[hc,go_sem]
  ·have h0:inI n 0 4000=false:=by simpa using hc
   unfold Jv;rw[if_neg (by rw[ok];decide),if_pos h0];refine lsA ?_;simp only[go_sem];exact qBX
  ·have h0:inI n 0 4000=true:=by simpa using hc
   have hn:=zK.1 h0;clear hc;refine zk (n586 hz) ?_;simp only[nZa,go_sem];obtain⟨vs,SS,hQ,hno⟩:=QM.start q [.dead];have hQ:=QS.of hQ hno;rw[show [qC.dead].length=1 from rfl]at hQ;have e1:(lay q.enc 1).1=.agg [iI q.Quantum,iI q.NextId,iI q.Turn,sQ 10 1 q.Jobs.length]:=congrArg Prod.fst (qP.layE q _);rw[e1];refine qn (e':=.agg [iI q.Quantum,iI q.NextId,iI q.Turn,sQ 10 1 q.Jobs.length]) rfl gCl rfl rfl ?_;rw[lSr _ _ (nLr _),nSs,lSz,lSz];have er:Jv q n=wX n.toNat q 0:=by unfold Jv;rw[if_neg (by rw[ok];decide),if_neg (by rw[h0];decide)]
   rw[er];generalize [qC.dead]++(lay q.enc 1).2++[qC.row 4 [.agg [iI q.Quantum,iI q.NextId,iI q.Turn,sQ 10 1 q.Jobs.length]] true]=g at hQ|-;generalize ([qC.dead]++(lay q.enc 1).2).length=qid at hQ|-;obtain⟨m,rfl⟩:∃m:Nat,n=m:=⟨n.toNat,by omega⟩;simp only[iTn];simp only[go_sem];refine Sem.loop (α:=Nat×qP×List qC) (λz=>z.1<=m/\QV z.2.1/\(∃vs SS,QS qid 1 vs SS z.2.1 z.2.2)/\wX m q 0=wX (m-z.1) z.2.1 z.1)
    (λz=>(⟨[(1,iI (m:Nat)),(7,.ptr qid 0 0),(8,iI (z.1:Nat))],[(4,.agg [iI 0,iI 0,iI 0,.nils])],z.2.2⟩:VSt)) (λz=>m-z.1) (0,q,g) (by kernel_rfl) ⟨nZl _,hV,⟨_,_,hQ⟩,rfl⟩ csA ?_
   rintro⟨c,p,g2⟩ ⟨hc,hV2,⟨vs2,SS2,hQ2⟩,hr⟩;simp only at hc hV2 hQ2 hr;rw[hr];simp only[go_sem];refine jx (Cvs.cons hQ2.cv Cvs.nil) (qiO hV2) rfl ?_;simp only[go_sem];rcases X7 (q:=p)with e | ⟨t,j,e,hj,hs⟩
   ·rw[e];simp only[show decide ((-1:Int)<0)=true from rfl,go_sem];have er1:wX (m-c) p c=(p,(c:Int),0):=by
     cases m-c<;>(unfold wX;rw[if_pos e])
    rw[er1];simp only[hQ2.o,go_sem];refine lsA ?_;simp only[go_sem];exact qjE hQ2
   ·have ne:¬jt p= -1:=by omega
    rw[e];simp only[decide_eq_false (show ¬((t:Nat):Int)<0 by omega),go_sem];apply qI<;>intro hc2<;>simp only[hc2,go_sem]
    ·have:c=m:=by have:=odT hc2;omega
     subst this;rw[nSs];unfold wX;rw[if_neg ne];refine lsA ?_;simp only[go_sem];exact qBX
    ·have hcm:c≠m:=by have:=odF hc2;omega
     refine qU (s587 hQ2 hV2 e hj hs λh' vs' SS' hQ'=>?_);simp only[go_sem,wuA (n:=c)];refine qb (c+1,Jl p,h') ⟨by simp only;omega,qEG hV2 (by omega),⟨_,_,hQ'⟩, ?_⟩ (by simp only;omega) csA;simp only;obtain⟨f,hf⟩:∃f,m-c=f+1:=⟨m-c-1,by omega⟩;rw[hf,show m-(c+1)=f by omega];exact qf0 ne
def jW(j:qF):Nat:=j.Counts.length+j.Schedule.length+(j.Book.length+qH qD.sz j.Book)+(j.Net.sz+(5400-j.Net.sz))
def qW(q:qP):Nat:=q.Jobs.length+qH jW q.Jobs
theorem sz_W(j:qF):j.sz<=jW j/\jW j<=j.sz+5400:=by unfold qF.sz jW;omega
theorem qpT{j:qF}{m:Nat}(hj:JV j):jW (w7 j m)<=jW j:=by
 obtain⟨ksch,kbk,knet,_⟩:=hj;have h1:=(Z7 (qD3 (sch:=j.Schedule) kbk (f:=m) (k:=(qj j.Counts).toNat) (L:=j.Net.Agents) knet).1).1;have h0:(qD.mk []).sz=0:=rfl;unfold w7;simp only;split
 ·simp only[jW,j8,WN,lNi,qH,h0];omega
 ·split
  ·simp only[jW,j8,WN,lNi,qH];omega
  ·split
   ·simp only[jW,j8,WN,lNi,qH,h0];omega
   ·simp only[jW,WN];omega
theorem qgP{α:Type}{f:α->Nat}:∀{xs:List α}{i:Nat}{x y:α},xs[i]?=some x->f y<=f x->qH f (xs.set i y)<=qH f xs
 |[],i,x,y,h,_=>by simp at h
 | a::xs,0,x,y,h,hf=>by
  simp only[List.getElem?_cons_zero,oSi]at h;subst h;simp only[lSz,qH];omega
 | a::xs,i+1,x,y,h,hf=>by
  have:=qgP (xs:=xs) (i:=i) (by simpa using h) hf;simp only[List.set_cons_succ,qH];omega
theorem qpZ{q:qP}(hV:QV q)(h0:0<=jt q):qW (Jl q)<=qW q:=by
 rcases X7 (q:=q)with e | ⟨t,j,e,hj,hs⟩
 ·omega
 ·unfold Jl;rw[e,iTn,hj];have:=qgP (f:=jW) hj (qpT (m:=ZN q j) (hV.j j (lMo hj) hs));simp only[qW,lLs];omega
theorem qEL:∀(xs:List qF),qH qF.sz xs<=qH jW xs/\qH jW xs<=qH qF.sz xs+5400*xs.length
 |[]=>by simp[qH]
 | x::xs=>by
  have:=qEL xs;have:=sz_W x;simp only[qH,lCo];omega
theorem qfK(q:qP):q.sz<=qW q:=by unfold qP.sz qW;have:=qEL q.Jobs;omega
theorem qnT{q:qP}(hV:QV q):qW q<=q.sz+32400:=by unfold qP.sz qW;have:=qEL q.Jobs;have:=hV.l;omega
theorem qEX:YB.sz=0:=rfl
theorem qfZ:∀{f c:Nat}{q:qP},QV q->(wX f q c).1.sz<=qW q
 | 0,c,q,hV=>by
  unfold wX;split
  ·exact qfK q
  ·rw[qEX];omega
 | f+1,c,q,hV=>by
  unfold wX;split
  ·exact qfK q
  ·rename_i ne;have h0:0<=jt q:=by rcases X7 (q:=q)with e | ⟨t,j,e,_⟩<;>omega
   have:=qfZ (f:=f) (c:=c+1) (qEG hV h0);have:=qpZ hV h0;omega
theorem qoP{q:qP}{n:Int}:(Jv q n).1.sz<=q.sz+32400:=by
 unfold Jv;split
 ·rw[qEX];omega
 ·rename_i ok;have hV:=qDW (by simpa using ok);split
  ·rw[qEX];omega
  ·have:=qfZ (f:=n.toNat) (c:=0) hV;have:=qnT hV;omega
theorem qdS{e:AV}{k k':IntKind}{n n':Int}{m:Nat}:lay (.tup [e,.int k n,.int k' n']) m=(.tup [(lay e m).1,.int k n,.int k' n'],(lay e m).2):=by simp[lay,qK]
theorem Js(x:qP)(n:Nat):(lay x.enc n).1.part 0 (some 4)=some (lay x.enc n).1:=qlW (qP.plx x) ⟨_,rfl⟩ rfl
theorem qCO(x:qP)(n:Nat):(lay x.enc n).1.cells.length=4:=by rw[ZK (qP.plx x)];rfl
theorem qCN(x:qP)(n:Nat):∃cs,(lay x.enc n).1=.agg cs:=⟨_,congrArg Prod.fst (qP.layE x n)⟩
theorem qlT(x:qP)(n:Nat):(lay (x.mkV 1).enc n).1=(lay x.enc n).1:=by simp[qP.layE,qP.mkV,wz]
theorem c37{q:qP}{n:Int}(hb:q.bd):Pure Gm 37 [q.enc,iI n] (.bool true):=by
 refine pI F37 (by simp[AV.trees,AV.tree,qP.tr,go_sem]) rfl ?_;simp only[F37,qM,go_sem];refine qZ rfl ?_;simp only[go_sem];refine qL (c231 q hb 1048576 (by omega)) ?_;simp only[go_sem];apply qI<;>intro hc<;>simp only[hc,go_sem]
 ·exact qO rfl rfl
 ·have hz:q.sz<=1048576:=by
   have:=odF hc;rw[wV]at this;omega
  have hA2:=qoP (q:=q) (n:=n);have kp:=c241 (q:=q) (n:=n) hz;have k1:=n242 (q:=q) (n:=n) hz;generalize Jv q n=A at hA2 kp k1;unfold Qv at kp k1;refine qL (c233 q hz) ?_;simp only[go_sem];refine qL kp ?_;simp only[go_sem];refine lsA ?_;simp only[go_sem];refine zk (n233 q hz) ?_;simp only[go_sem];refine qg (k:=4) (by rfl) (qCO _ _) (qCN _ _) (by decide) ?_;simp only[go_sem,Js];refine Q9 (Cvs.cons (Yi (pre:=[]) (post:=[]) (qP.plx q) (qP.cnx q) (by simp)) (Cvs.cons (.refl rfl) Cvs.nil)) k1 ?_;simp only[go_sem,qdS,Js,lNa,qf];refine qg (k:=4) (by rfl) (qCO _ _) (qCN _ _) (by decide) ?_;simp only[go_sem,Js];have hL:(lay q.enc 0).2.length=q.enc.rows:=qf _ _;have cg:∀{h post:List qC}{x:qP},x.enc.rows=q.enc.rows->h=(lay x.enc 0).2++((lay A.1.enc q.enc.rows).2++post)->Cv h (lay A.1.enc q.enc.rows).1 A.1.enc:=λ{h post x} hx hh=>by
   have hl:(lay x.enc 0).2.length=q.enc.rows:=(qf _ _).trans hx;rw[<-hl]at hh|-;exact Yi (qP.plx A.1) (qP.cnx A.1) hh
  refine jx (Cvs.cons (cg (post:=[]) (x:=q) rfl (by simp)) (Cvs.cons (.refl (by simp[go_sem])) Cvs.nil)) (Vn A.1 (by omega)) rfl ?_;simp only[go_sem];simp only[Js,go_sem];refine qL (c233 q hz) ?_;simp only[go_sem];refine jx (Cvs.cons (Yi (pre:=[]) (qP.plx q) (qP.cnx q) rfl) (Cvs.cons (.refl (by simp[go_sem])) Cvs.nil)) (Vn q (by omega)) rfl ?_;simp only[go_sem];simp only[Js,go_sem];have hct:=q.ctVle;refine Qh (k236 q 1 (by omega) (by omega) (by omega)) (pre:=[]) (post:=(lay A.1.enc q.enc.rows).2) rfl rfl rfl ?_;simp only[go_sem];have hneg:decide ((1:Int)+((q.ctV:Nat):Int)<0)=false:=decide_eq_false (by omega);simp only[hneg,go_sem,Js];refine jx (Cvs.cons (cg (post:=[]) (x:=q.mkV 1) (qP.rowsV q 1) (by simp)) (Cvs.cons (.refl (by simp[go_sem])) Cvs.nil)) (Vn A.1 (by omega)) rfl ?_;simp only[go_sem];simp only[Js,go_sem];have hcA:=A.1.ctVle;have hlV:(lay (q.mkV 1).enc 0).2.length=q.enc.rows:=(qf _ _).trans (qP.rowsV q 1);refine Qh (k236 A.1 1 (by omega) (by omega) (by omega)) (pre:=(lay (q.mkV 1).enc 0).2) (post:=[]) hlV (by simp) rfl ?_;simp only[go_sem];simp only[Js,go_sem];have cm:∀{h post:List qC},h=(lay (q.mkV 1).enc 0).2++((lay (A.1.mkV 1).enc q.enc.rows).2++post)->Cv h (lay A.1.enc q.enc.rows).1 (A.1.mkV 1).enc:=λ{h post} hh=>by
   rw[<-qlT A.1,<-hlV]at*;exact Yi (qP.plx _) (qP.cnx _) hh
  refine jx (Cvs.cons (cm (post:=[]) rfl) (Cvs.cons (.refl rfl) Cvs.nil)) (q237 A.1 1 (by omega) (by omega) (by omega)) rfl ?_;simp only[go_sem];have hneg2:decide ((1:Int)+((A.1.ctV:Nat):Int)<0)=false:=decide_eq_false (by omega);simp only[hneg2,go_sem,Js];refine qL (c233 q hz) ?_;simp only[go_sem];refine zk k1 ?_;simp only[go_sem,qdS,Js,lAn];refine qg (k:=4) (by rfl) (qCO _ _) (qCN _ _) (by decide) ?_;simp only[go_sem,Js];refine jx (Cvs.cons (Yi (pre:=(lay (q.mkV 1).enc 0).2++(lay (A.1.mkV 1).enc q.enc.rows).2) (post:=[]) (qP.plx A.1) (qP.cnx A.1) (by simp)) (Cvs.cons (.refl (by simp[go_sem])) Cvs.nil)) (Vn A.1 (by omega)) rfl ?_;simp only[go_sem];simp only[Js,go_sem];refine jx (Cvs.cons (cm (lAa _ _ _)) (Cvs.cons (.refl rfl) Cvs.nil)) (q237 A.1 1 (by omega) (by omega) (by omega)) rfl ?_;simp only[go_sem];simp only[hneg2,go_sem,Js];exact qO rfl rfl
end Go.Ab
