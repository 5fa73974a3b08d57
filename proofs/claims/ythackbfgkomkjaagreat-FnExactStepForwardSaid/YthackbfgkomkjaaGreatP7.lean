/- Texts Dbg14 .. Net13: the abstract machine, its laws and contracts of functions: lemmas for the statement. No condition. -/
import Derived.Test.YthackbfgkomkjaaGreatP6
set_option linter.unusedSimpArgs false
set_option linter.unusedVariables false
namespace Go.Ab
open Go
set_option maxRecDepth 10000
set_option maxHeartbeats 2000000
theorem qfV{x:qA}(hn:x.Ports.length<=1048576):Pure Gm 1388 [.int .i64 x.Kind,.int .i64 (x.Ports.length:Int)] (.int .i64 (fieldsOf x)):=qfU hn
theorem Yr{x:qA}(h1:¬(x.Ports.length:Int)=0)(h2:wL x.Kind (fieldsOf x)=x.Ports.length)(h3:jq x.Kind x.Level=true):qk x=zu x:=by
 have h:(0:Int)<x.Ports.length:=by omega
 unfold qk;rw[h2,h3];simp only[decide_eq_true h,decide_true,Bool.true_and]
theorem qfD{x:qA}(hd:x.Data.length<=1048576)(hn:x.Ports.length<=1048576):Pure Gm 1097 [x.enc] (.bool (qk x)):=by
 refine pI Ua (by simp[AV.trees,go_sem]) rfl ?_;simp only[Ua,qQ,go_sem]
 repeat' (first
  | (refine qW rfl ?_;simp only[go_sem])
  | (first | (refine qg ?_ ?_<;>intro hc<;>simp only[hc,go_sem]) | (refine qM ?_ ?_<;>intro hc<;>simp only[hc,go_sem]))
  | (refine qO (qfV hn) ?_;simp only[go_sem])
  | (refine qO qfT ?_;simp only[go_sem])
  | (refine qO qAR ?_;simp only[go_sem])
  | (refine qO (c397 (f:=.fn 1390 []) (fun n=> !jv n) rfl x.Data (fun _ _=>⟨1390,[],rfl,qfW⟩) hd) ?_;simp only[Q5,go_sem])
  | (refine qO qfB ?_;simp only[go_sem])
  | (refine qO qZ1 ?_;simp only[go_sem])
  | (refine qO c796 ?_;simp only[go_sem])
  | refine qR rfl ?_)
 case refine_1.refine_1.refine_2.refine_2.refine_2.refine_1.refine_1.refine_1=>
  obtain⟨d,hd1⟩:∃d,x.Data=[d]:=List.length_eq_one_iff.1 (by have:=odT hc;omega);simp only[hd1,lMc,List.map_nil,qK,go_sem];simp only[oMs,go_sem];refine qO qZ1 ?_;simp only[go_sem];refine qR rfl ?_;simp only[Bool.not_eq_false',dTe,decide_eq_false_iff_not]at*;rw[Yr (by assumption) (by assumption) (by assumption)];simp[zu, *]
 all_goals simp only[Bool.not_true,Bool.not_false,bNt,Bool.not_eq_false',dTe,decide_eq_false_iff_not]at*
 all_goals first
  | (rw[Yr (by assumption) (by assumption) (by assumption)];simp only[AV.bool.injEq];rw[Bool.eq_iff_iff];simp[zu, *];done)
  | (rw[Yr (by assumption) (by assumption) (by assumption)];simp only[AV.bool.injEq];rw[Bool.eq_iff_iff];simp[zu,inI, *];omega)
  | (rw[Yr (by assumption) (by assumption) (by assumption)];simp only[AV.bool.injEq];rw[Bool.eq_iff_iff];simp[zu,inI, *];done)
  | (simp[qk, *];done)
  | (simp[qk, *];omega)
  | trace_state
theorem c711{xs:List qA}(hl:xs.length+qH qA.sz xs<=1048576):Pure Gm 711 [.lst 5 (xs.map qA.enc) false] (.bool (wE xs)):=by
 refine pI kY (by simp[AV.trees,AV.tree,qV qA.isSh.tree]) rfl ?_;simp only[kY,qQ,go_sem];have fin (h1:1<=xs.length) (h2:xs.length<=600):wE xs=ji xs 0:=by
  unfold wE inI;rw[decide_eq_true (by omega),decide_eq_true (by omega)];rfl
 first | (apply qg<;>intro hc<;>simp only[hc,go_sem]) | (apply qM<;>intro hc<;>simp only[hc,go_sem])
 ·first | (apply qg<;>intro hc<;>simp only[hc,go_sem]) | (apply qM<;>intro hc<;>simp only[hc,go_sem])
  ·refine qR rfl ?_;simp only[AV.bool.injEq,wE,inI];simp at*;omega
  ·have h1:1<=xs.length:=by simp at*;omega
   have h2:xs.length<=600:=by simp at*;omega
   rw[fin h1 h2];refine Sem.loop (fun i:Nat=>i<=xs.length/\ji xs 0=ji (xs.drop i) i) (fun i=>(⟨[(13,.lst 5 (xs.map qA.enc) false),(14,.int .i64 (xs.length:Int)),(15,.int .i64 (i:Nat))],[],[]⟩:VSt)) (fun i=>xs.length-i) 0 (by kernel_rfl) ⟨nZl _,by simp⟩ (Can.sub (by simp[go_sem]) (by simp[go_sem])) ?_;rintro i ⟨hi,hI⟩;simp only[go_sem];apply qM<;>intro hc<;>simp only[hc,go_sem]
   ·have hlt:i<xs.length:=by have:=odT hc;omega
    simp only[gMp,gEg hlt,oMs,go_sem];have hs:xs[i].Data.length+xs[i].Ports.length<=qH qA.sz xs:=zq (f:=qA.sz) (gMm hlt);refine qU (k:=5) (by rfl) (by rfl) (by exact⟨_,rfl⟩) (by decide) ?_;simp only[go_sem];refine qO (qfD (by omega) (by omega)) ?_;simp only[go_sem]
    first | (apply qg<;>intro hc<;>simp only[hc,go_sem]) | (apply qM<;>intro hc<;>simp only[hc,go_sem])
    ·first | (apply qg<;>intro hc<;>simp only[hc,go_sem]) | (apply qM<;>intro hc<;>simp only[hc,go_sem])
     ·refine qR rfl ?_;rw[hI,jF hlt];simp_all[ji]
     ·simp only[qc (show i<4611686018427387904 by omega)];refine qd (i+1) ⟨by omega, ?_⟩ (by omega) (Can.sub (by simp[go_sem]) (by simp[go_sem]));rw[hI,jF hlt];simp_all[ji]
    ·refine qR rfl ?_;rw[hI,jF hlt];simp_all[ji]
   ·obtain rfl:i=xs.length:=by have:=odF hc;omega
    refine qR rfl ?_;rw[hI];simp[ji]
 ·refine qR rfl ?_;simp only[AV.bool.injEq,wE,inI];simp at*;omega
theorem c555{n:qC}{a s:Nat}(ha:a<n.Agents.length)(hs:s<n.Agents[a].Ports.length):Pure Gm 555 [.ept n.enc 0,qG.enc ⟨(a:Int),(s:Int)⟩] (n.Agents[a].Ports[s].enc):=by
 refine pI Ze (by simp[AV.trees,AV.tree,qC.tr,qG.tr]) (by exact qG.tr) ?_;simp only[Ze,qQ,go_sem];refine qW rfl ?_;simp only[go_sem];simp only[gMp,gEg ha,oMs,go_sem];simp only[gEg hs,oMs,go_sem];refine qU (k:=2) (by rfl) (by rfl) (by exact⟨_,rfl⟩) (by decide) ?_;simp only[go_sem];refine qR qG.tr ?_;rfl
theorem qc7{xs:List qA}{p:qG}(h:we xs p=true):∃a s:Nat,p=⟨a,s⟩/\∃ha:a<xs.length,s<xs[a].Ports.length:=by
 simp only[we,bAt]at h;have e1:=zK.1 h.1;have e2:=zK.1 h.2;have ha:p.Agent.toNat<xs.length:=by omega
 simp only[Jk,gEg ha]at e2;refine⟨p.Agent.toNat,p.Slot.toNat, ?_,ha,by omega⟩;rw[Int.toNat_of_nonneg e1.1,Int.toNat_of_nonneg e2.1]
theorem c714{xs:List qA}{p:qG}:Pure Gm 714 [.lst 5 (xs.map qA.enc) false,p.enc] (.bool (we xs p)):=by
 refine pI ke (by simp[AV.trees,AV.tree,qV qA.isSh.tree,qG.tr]) rfl ?_;simp only[ke,qQ,go_sem];refine qW rfl ?_;simp only[go_sem];have big (h0:0<=p.Agent) (h1:p.Agent<xs.length):we xs p=(decide (0<=p.Slot)&&decide (p.Slot<(Jk xs p.Agent:Int))):=by
  simp only[we,inI];rw[Bool.eq_iff_iff];simp;omega
 first | (apply qg<;>intro hc<;>simp only[hc,go_sem]) | (apply qM<;>intro hc<;>simp only[hc,go_sem])
 ·first | (apply qg<;>intro hc<;>simp only[hc,go_sem]) | (apply qM<;>intro hc<;>simp only[hc,go_sem])
  ·first | (apply qg<;>intro hc<;>simp only[hc,go_sem]) | (apply qM<;>intro hc<;>simp only[hc,go_sem])
   ·have h0:0<=p.Agent:=by simp at*;omega
    have h1:p.Agent<xs.length:=by simp at*;omega
    have hlt:p.Agent.toNat<xs.length:=by omega
    rw[Jx h0];simp only[gMp,gEg hlt,oMs,go_sem];refine qR rfl ?_;rw[big h0 h1];simp_all[Jk]
   ·refine qR rfl ?_;rw[big (by simp at*;omega) (by simp at*;omega)];simp_all
    try (intro h;omega)
  ·refine qR rfl ?_;simp only[we,inI,AV.bool.injEq];simp at*;omega
 ·refine qR rfl ?_;simp only[we,inI,AV.bool.injEq];simp at*;omega
theorem c713{n:qC}{a s:Nat}(ha:a<n.Agents.length)(hs:s<n.Agents[a].Ports.length):Pure Gm 713 [qG.enc ⟨(a:Int),(s:Int)⟩,.ept n.enc 0] (.bool (!wh n.Agents ⟨(a:Int),(s:Int)⟩ n.Agents[a].Ports[s])):=by
 refine pI kZ (by simp[AV.trees,AV.tree,qC.tr,qG.tr]) rfl ?_;simp only[kZ,qQ,go_sem];refine qW rfl ?_;simp only[go_sem];refine qO (c555 ha hs) ?_;simp only[go_sem];refine qU (k:=2) (by rfl) (by rfl) (by exact⟨_,rfl⟩) (by decide) ?_;simp only[go_sem];obtain⟨q,hq⟩:∃q,q=n.Agents[a].Ports[s]:=⟨_,rfl⟩;rw[<-hq]
 first | (apply qg<;>intro hc<;>simp only[hc,go_sem]) | (apply qM<;>intro hc<;>simp only[hc,go_sem])
 ·refine qO c714 ?_;simp only[go_sem]
  first | (apply qg<;>intro hc<;>simp only[hc,go_sem]) | (apply qM<;>intro hc<;>simp only[hc,go_sem])
  ·have hp:we n.Agents q=true:=by simpa using hc
   obtain⟨a2,s2,rfl,ha2,hs2⟩:=qc7 hp;refine qO (c555 ha2 hs2) ?_;simp only[go_sem];refine qR rfl ?_;simp_all[wh,Qs]
  ·refine qR rfl ?_;simp_all[wh]
 ·refine qR rfl ?_;simp_all[wh]
theorem qDA{α:Type}(f:α->Nat):∀(xs ys:List α),qH f (xs++ys)=qH f xs+qH f ys
 |[],ys=>by simp[qH]
 | x::xs,ys=>by simp only[lCa,qH,qDA f xs ys];omega
theorem qeG{α:Type}(f:α->Nat)(xs:List α)(i:Nat):qH f (xs.take i)<=qH f xs:=by
 have:=qDA f (xs.take i) (xs.drop i);rw[List.take_append_drop]at this;omega
def wD(i k:Nat):List qG:=(List.range k).map fun s:Nat=>⟨(i:Int),(s:Int)⟩
theorem qmF(i k:Nat):wD i (k+1)=wD i k++[⟨(i:Int),(k:Int)⟩]:=by simp[wD,List.range_succ]
def jP(xs:List qA):Nat->List qG
 | 0=>[]
 | i+1=>jP xs i++wD i (Jk xs (i:Int))
theorem qCR(xs:List qA):∀i,i<=xs.length->(jP xs i).length<=qH qA.sz (xs.take i)
 | 0,_=>nZl _
 | i+1,h=>by
  have:=qCR xs i (by omega);have hi:i<xs.length:=by omega
  have e:xs.take (i+1)=xs.take i++[xs[i]]:=by simp[List.take_append_getElem]
  have e2:qH qA.sz (xs.take i++[xs[i]])=qH qA.sz (xs.take i)+qA.sz xs[i]:=by
   rw[qDA];rfl
  have e3:xs[i].Ports.length<=qA.sz xs[i]:=by unfold qA.sz;omega
  rw[e,e2];simp[jP,wD,Jk,gEg hi];omega
theorem c554{n:qC}(hz:n.sz<=1048576):Pure Gm 554 [.ept n.enc 0] (.lst 2 ((jP n.Agents n.Agents.length).map qG.enc) false):=by
 refine pI kP (by simp[AV.trees,AV.tree,qC.tr]) (by simp[AV.tree,qV qG.isSh.tree]) ?_;simp only[kP,qQ,go_sem];unfold qC.sz at hz;refine Sem.loop (fun i:Nat=>i<=n.Agents.length) (fun i=>(⟨[(10,.lst 5 (n.Agents.map qA.enc) false),(11,.int .i64 (n.Agents.length:Int)),(12,.int .i64 (i:Nat)),(3,.slice 2 0 0 (jP n.Agents i).length false)],[],[.row 2 ((jP n.Agents i).map qG.enc) true]⟩:VSt)) (fun i=>n.Agents.length-i) 0 (by kernel_rfl) (nZl _) (Can.renum [none] rfl ⟨.ph,trivial⟩ ⟨⟨_,rfl,.tree (by simp[AV.tree,qV qA.isSh.tree])⟩,⟨_,rfl,.tree rfl⟩,⟨_,rfl,.tree rfl⟩,⟨_,rfl,.ph rfl⟩,trivial⟩ trivial) ?_;rintro i hi;simp only[go_sem];apply qM<;>intro hc<;>simp only[hc,go_sem]
 ·have hlt:i<n.Agents.length:=by have:=odT hc;omega
  simp only[gMp,gEg hlt,oMs,go_sem];refine qU (k:=5) (by rfl) (by rfl) (by exact⟨_,rfl⟩) (by decide) ?_;simp only[go_sem];have e0:jP n.Agents i++wD i 0=jP n.Agents i:=by simp[wD]
  have hpl:n.Agents[i].Ports.length<=qH qA.sz n.Agents:=by
   have h1:qA.sz n.Agents[i]<=qH qA.sz n.Agents:=zq (f:=qA.sz) (gMm hlt);have h2:n.Agents[i].Ports.length<=qA.sz n.Agents[i]:=by unfold qA.sz;omega
   omega
  have htl:=qCR n.Agents i (by omega);have htt:=qeG qA.sz n.Agents i;refine Sem.loop (fun k:Nat=>k<=n.Agents[i].Ports.length) (fun k=>(⟨[(10,.lst 5 (n.Agents.map qA.enc) false),(11,.int .i64 (n.Agents.length:Int)),(12,.int .i64 (i:Nat)),(4,.int .i64 (i:Nat)),(19,.int .i64 (n.Agents[i].Ports.length:Int)),(20,.int .i64 (k:Nat)),(3,.slice 2 0 0 (jP n.Agents i++wD i k).length false)],[],[.row 2 ((jP n.Agents i++wD i k).map qG.enc) true]⟩:VSt)) (fun k=>n.Agents[i].Ports.length-k) 0 (by kernel_rfl) (nZl _) (by simp only[e0];exact Can.sub (by simp[go_sem]) (by simp[go_sem])) ?_;rintro k hk;simp only[go_sem];apply qM<;>intro hc<;>simp only[hc,go_sem]
  ·have hkl:k<n.Agents[i].Ports.length:=by have:=odT hc;omega
   refine zy (el:=(jP n.Agents i++wD i k).map qG.enc) rfl rfl (by simp) (by simp[wD];omega) ?_;simp only[go_sem];simp only[qc (show k<4611686018427387904 by omega)];refine qd (k+1) (by omega) (by omega) ?_;have e1:jP n.Agents i++wD i (k+1)=(jP n.Agents i++wD i k)++[⟨(i:Int),(k:Int)⟩]:=by rw[qmF,lAa]
   simp only[e1,lAp,lCo,lNi,nZa];refine Can.renum [some 2] rfl ⟨.row rfl ?_,trivial⟩ ⟨⟨_,rfl,.tree (by simp[AV.tree,qV qA.isSh.tree])⟩,⟨_,rfl,.tree rfl⟩,⟨_,rfl,.tree rfl⟩,⟨_,rfl,.tree rfl⟩,⟨_,rfl,.tree rfl⟩,⟨_,rfl,.tree rfl⟩,⟨_,rfl,.slice rfl⟩,trivial⟩ trivial;have t:=qV qG.isSh.tree ((jP n.Agents i++wD i k)++[⟨(i:Int),(k:Int)⟩]);rw[lMa]at t;rw[show ((jP n.Agents i++wD i k)++[(⟨(i:Int),(k:Int)⟩:qG)]).map qG.enc=(jP n.Agents i++wD i k).map qG.enc++[(⟨(i:Int),(k:Int)⟩:qG)].map qG.enc from lMa];exact VR2s.trees t
  ·obtain rfl:k=n.Agents[i].Ports.length:=by have:=odF hc;omega
   simp only[qc (show i<4611686018427387904 by omega)];refine qd (i+1) (by omega) (by omega) ?_;have e2:jP n.Agents (i+1)=jP n.Agents i++wD i n.Agents[i].Ports.length:=by simp[jP,Jk,gEg hlt]
   rw[e2];exact Can.sub (by simp[go_sem]) (by simp[go_sem])
 ·obtain rfl:i=n.Agents.length:=by have:=odF hc;omega
  refine QJ (Cv.row rfl (by simp) (qV qG.isSh.tree _) (by omega))
def z9(xs:List qA)(me:qG):qG:=(Qs xs me).getD ⟨0,0⟩
def YE(xs:List qA)(me:qG):Bool:=wh xs me (z9 xs me)
theorem qi9{i k:Nat}{q:qG}:q∈wD i k↔∃s:Nat,s<k/\q=⟨i,s⟩:=by
 simp only[wD,List.mem_map,lMr];constructor
 ·rintro⟨s,h,rfl⟩;exact⟨s,h,rfl⟩
 ·rintro⟨s,h,rfl⟩;exact⟨s,h,rfl⟩
theorem Vl{xs:List qA}{q:qG}:∀{m:Nat},m<=xs.length->(q∈jP xs m↔∃(i:Nat)(hi:i<xs.length),i<m/\∃s:Nat,s<xs[i].Ports.length/\q=⟨i,s⟩)
 | 0,_=>by simp[jP]
 | m+1,hm=>by
  have hml:m<xs.length:=by omega
  simp only[jP,wV,Vl (xs:=xs) (q:=q) (m:=m) (by omega),qi9,Jk,iTn,gEg hml];constructor
  ·rintro(⟨i,hi,h1,h2⟩ | h)
   ·exact⟨i,hi,by omega,h2⟩
   ·exact⟨m,hml,by omega,h⟩
  ·rintro⟨i,hi,h1,h2⟩;by_cases e:i=m
   ·subst e;exact .inr h2
   ·exact .inl ⟨i,hi,by omega,h2⟩
theorem qCQ{xs:List qA}{a s:Nat}(ha:a<xs.length)(hs:s<xs[a].Ports.length):z9 xs ⟨a,s⟩=xs[a].Ports[s]:=by
 simp[z9,Qs,gEg ha,gEg hs]
theorem qDE{xs:List qA}{i:Nat}:∀{qs:List qG}{j:Nat},(∀(m:Nat)(hm:m<qs.length),wh xs ⟨i,(j+m:Nat)⟩ qs[m]=true)->JW xs i qs j=true
 |[],_,_=>rfl
 | q::qs,j,h=>by
  simp only[JW,bAt];refine⟨h 0 (by simp),qDE fun m hm=> ?_⟩;have:=h (m+1) (by simp;omega);rw[show j+(m+1)=j+1+m by omega]at this;simpa using this
theorem qCD{xs:List qA}:∀{l:List qA}{i:Nat},(∀(k:Nat)(hk:k<l.length),JW xs (i+k) l[k].Ports 0=true)->J3 xs l i=true
 |[],_,_=>rfl
 | x::l,i,h=>by
  simp only[J3,bAt];refine⟨h 0 (by simp),qCD fun k hk=> ?_⟩;have:=h (k+1) (by simp;omega);rw[show i+(k+1)=i+1+k by omega]at this;simpa using this
theorem qkR(xs:List qA):((jP xs xs.length).all (YE xs))=J3 xs xs 0:=by
 rw[Bool.eq_iff_iff,lAt];constructor
 ·intro h;refine qCD fun k hk=>qDE fun m hm=> ?_;have:=h ⟨k,m⟩ ((Vl (nLr _)).2 ⟨k,hk,hk,m,hm,rfl⟩);rw[YE,qCQ hk hm]at this;simpa using this
 ·intro h q hq;obtain⟨i,hi,_,s,hs,rfl⟩:=(Vl (nLr _)).1 hq;rw[YE,qCQ hi hs];have:=UR (Vo h i hi) s hs;simpa using this
theorem c319{n:qC}(hz:n.sz<=1048576):Pure Gm 319 [n.enc] (.bool (qq n)):=by
 refine Pure.intro [1] [] (gk _ Kl) (by kernel_rfl) rfl (by simp[AV.trees,qC.tr]) rfl ?_;simp only[Kl,qQ,go_sem];have hz':=hz;unfold qC.sz at hz;have hl:(jP n.Agents n.Agents.length).length<=1048576:=by
  have h1:=qCR n.Agents n.Agents.length (nLr _);have h2:=qeG qA.sz n.Agents n.Agents.length;omega
 refine Wh rfl ?_;simp only[go_sem,lNa,lSz];refine qO (c711 (by omega)) ?_;simp only[go_sem];apply qM<;>intro hc<;>simp only[hc,go_sem]
 ·refine qR rfl ?_;have:wE n.Agents=false:=by simpa using hc
  simp[qq,this]
 ·refine qO (c554 hz') ?_;simp only[go_sem];refine qO (c712 (f:=.fn 713 [.ept n.enc 0]) (fun me=> !YE n.Agents me) (by simp[AV.tree,AV.trees,qC.tr]) _ (fun x hx=> ?_) hl) ?_
  ·obtain⟨i,hi,_,s,hs,rfl⟩:=(Vl (nLr _)).1 hx;refine⟨713,_,rfl, ?_⟩;have c:=c713 hi hs;rw[YE,qCQ hi hs];exact c
  ·simp only[Q5,go_sem];refine qR rfl ?_;have:wE n.Agents=true:=by simpa using hc
   rw[qkR];simp[qq,this]
theorem c860{n:qC}(hz:n.sz<=1048576):Pure Gm 860 [n.enc] (.bool (!qq n)):=by
 refine pI F860 (by simp[AV.trees,qC.tr]) rfl ?_;simp only[F860,qQ,go_sem];refine qW rfl ?_;simp only[go_sem];refine qO (c319 hz) ?_;simp only[go_sem];exact qR rfl rfl
theorem c505{xs:List qC}(hl:xs.length<=1048576)(hz:∀n∈xs,n.sz<=1048576):Pure Gm 505 [.lst 1 (xs.map qC.enc) false] (.bool (j7 xs)):=by
 refine pI kM (by simp[AV.trees,AV.tree,qV qC.isSh.tree]) rfl ?_;simp only[kM,qQ,go_sem]
 first | (apply qg<;>intro hc<;>simp only[hc,go_sem]) | (apply qM<;>intro hc<;>simp only[hc,go_sem])
 ·refine qO (c859 (f:=.fn 860 []) (fun n=> !qq n) rfl xs (fun x hx=>⟨860,[],rfl,c860 (hz x hx)⟩) hl) ?_;simp only[Q5,go_sem];refine qR rfl ?_;simp only[j7,AV.bool.injEq];simp at*;omega
 ·refine qR rfl ?_;simp only[j7,AV.bool.injEq];simp at*;omega
theorem qfJ{o:qE}{a:Int}:Pure Gm 1114 [o.enc,.int .i64 a] (.bool (ZV o a)):=by
 refine pI Uf (by simp[AV.trees,AV.tree,qE.tr]) rfl ?_;simp only[Uf,qQ,go_sem];refine qW rfl ?_;simp only[go_sem];refine jM (vs':=[.int .i64 a,.lst 1 ([o.Step].map qK) false]) (Cvs.cons (.refl rfl) (Cvs.cons (Cv.row rfl rfl rfl (by decide)) Cvs.nil)) (c436 (by simp)) rfl ?_;simp only[go_sem]
 repeat' (first | (first | (apply qg<;>intro hc<;>simp only[hc,go_sem]) | (apply qM<;>intro hc<;>simp only[hc,go_sem])) | refine qR rfl ?_)
 all_goals (simp only[ZV,inI,AV.bool.injEq];rw[Bool.eq_iff_iff];simp[inI]at*;try omega)
theorem qfI{o:qE}{a:Int}:Pure Gm 1113 [o.enc,.ept (.int .i64 a) 0] (.bool (!ZV o a)):=by
 refine pI Ue (by simp[AV.trees,AV.tree,qE.tr]) rfl ?_;simp only[Ue,qQ,go_sem];refine qW rfl ?_;simp only[go_sem];refine qO qfJ ?_;simp only[go_sem];exact qR rfl rfl
theorem c747{n:qC}{os:List qE}{a:Int}(hz:n.sz<=1048576)(hl:os.length<=1048576):Pure Gm 747 [n.enc,.lst 3 (os.map qE.enc) false,.int .i64 a] (.bool (wa n os a)):=by
 refine Pure.intro [5] [] (gk _ kw) (by kernel_rfl) rfl (by simp[AV.trees,AV.tree,qV qE.isSh.tree,qC.tr]) rfl ?_;simp only[kw,qQ,go_sem];refine qW rfl ?_;simp only[go_sem];refine Wh rfl ?_;simp only[go_sem,lNa,lSz];refine qO (c319 hz) ?_;simp only[go_sem]
 first | (apply qg<;>intro hc<;>simp only[hc,go_sem]) | (apply qM<;>intro hc<;>simp only[hc,go_sem])
 ·first | (apply qg<;>intro hc<;>simp only[hc,go_sem]) | (apply qM<;>intro hc<;>simp only[hc,go_sem])
  ·refine qO (qfH (f:=.fn 1113 [.ept (.int .i64 a) 0]) (fun o=> !ZV o a) rfl os (fun x hx=>⟨1113,_,rfl,qfI⟩) hl) ?_;simp only[Q5,go_sem];refine qR rfl ?_;simp_all[wa]
  ·refine qR rfl ?_;simp_all[wa]
 ·refine qR rfl ?_;simp_all[wa]
theorem c428{b:qI}:Pure Gm 428 [b.enc] (.bool (w7 b)):=by
 refine pI K3 (by simp[AV.trees,qI.tr]) rfl ?_;simp only[K3,qQ,go_sem];refine qW rfl ?_;simp only[go_sem]
 repeat' (first | (first | (apply qg<;>intro hc<;>simp only[hc,go_sem]) | (apply qM<;>intro hc<;>simp only[hc,go_sem])) | (refine qO c796 ?_;simp only[go_sem]) | refine qR rfl ?_)
 all_goals (simp only[AV.bool.injEq];rw[Bool.eq_iff_iff];simp only[Bool.not_true,dTe,decide_eq_false_iff_not]at*;simp[w7,inI,jv, *];try omega)
theorem c749{b:qI}:Pure Gm 749 [b.enc] (.bool (!w7 b)):=by
 refine pI kz (by simp[AV.trees,qI.tr]) rfl ?_;simp only[kz,qQ,go_sem];refine qW rfl ?_;simp only[go_sem];refine qO c428 ?_;simp only[go_sem];exact qR rfl rfl
abbrev Ags:=List qA
abbrev pt(a s:Nat):qG:=⟨(a:Int),(s:Int)⟩
theorem JA{a s b t:Nat}:pt a s=pt b t↔a=b/\s=t:=by simp only[pt,qG.mk.injEq];omega
def atP(N:Ags)(a s:Nat):Option qG:=(N[a]?).bind fun x=>x.Ports[s]?
theorem W5{N:Ags}{a s:Nat}{q:qG}(h:atP N a s=some q):z9 N (pt a s)=q:=by
 unfold z9 Qs atP at*;simp only[pt,iTn];cases hx:N[a]? with
 | none=>simp[hx]at h
 | some x=>simp only[hx,oBs]at h;simp[h]
theorem qc5{N:Ags}{a s:Nat}:Qs N (pt a s)=atP N a s:=by
 unfold Qs atP;simp only[pt,iTn];cases N[a]?<;>rfl
def QO(N:Ags)(p q:qG):Ags:=match N[p.Agent.toNat]? with
 | some x=>N.set p.Agent.toNat {x with Ports:=x.Ports.set p.Slot.toNat q}
 | none=>N
def zj(N:Ags)(p q:qG):Ags:=QO (QO N p q) q p
def jH(N:Ags)(old now:qG):Ags:=zj N now (z9 N old)
def jn(N:Ags)(x y:qG):Ags:=if z9 N x=y then N else zj N (z9 N x) (z9 N y)
def qT(k l v:Int)(d:List Int)(n:Nat):qA:=⟨k,l,v,d,List.replicate n ⟨0,0⟩⟩
def Has(N:Ags)(a s:Nat):Prop:=∃q,atP N a s=some q
theorem jY{N:Ags}{a s:Nat}{q:qG}:atP N a s=some q↔∃x,N[a]?=some x/\x.Ports[s]?=some q:=by
 unfold atP;simp[Option.bind_eq_some_iff]
theorem jm{N:Ags}{a s:Nat}:Has N a s↔∃x,N[a]?=some x/\s<x.Ports.length:=by
 unfold Has;constructor
 ·rintro⟨q,h⟩;obtain⟨x,hx,hq⟩:=jY.1 h;exact⟨x,hx,(gSi.1 hq).1⟩
 ·rintro⟨x,hx,hs⟩;exact⟨x.Ports[s],jY.2 ⟨x,hx,gEg hs⟩⟩
theorem qd4{N:Ags}{a s:Nat}{q:qG}{x:qA}(hx:N[a]?=some x):QO N (pt a s) q=N.set a {x with Ports:=x.Ports.set s q}:=by
 unfold QO;simp only[pt,iTn,hx]
theorem qC3{N:Ags}{p q:qG}:(QO N p q).length=N.length:=by unfold QO;split<;>simp
theorem Wo{N:Ags}{p q:qG}:(zj N p q).length=N.length:=by simp[zj,qC3]
theorem qjD{N:Ags}{p q:qG}:(jH N p q).length=N.length:=by simp[jH,Wo]
def jR(x:qA):Int×Int×Int×List Int×Nat:=(x.Kind,x.Level,x.Value,x.Data,x.Ports.length)
def SameA(N M:Ags):Prop:=M.map jR=N.map jR
theorem SameA.refl(N:Ags):SameA N N:=rfl
theorem SameA.trans{A B C:Ags}(h:SameA A B)(k:SameA B C):SameA A C:=Eq.trans k h
theorem SameA.len{A B:Ags}(h:SameA A B):B.length=A.length:=by simpa using congrArg List.length h
theorem SameA.at{A B:Ags}(h:SameA A B){a:Nat}{x:qA}(hx:A[a]?=some x):∃y,B[a]?=some y/\jR y=jR x:=by
 have e:=congrArg (fun l=>l[a]?) h;simp only[gMp,hx,oMs]at e;cases hy:B[a]? with
 | none=>simp[hy]at e
 | some y=>rw[hy]at e;exact⟨y,rfl,by simpa using e⟩
theorem SameA.back{A B:Ags}(h:SameA A B):SameA B A:=Eq.symm h
theorem SameA.app{A B C D:Ags}(h:SameA A B)(k:SameA C D):SameA (A++C) (B++D):=by
 unfold SameA at*;simp[h,k]
theorem XG(N:Ags)(p q:qG):SameA N (QO N p q):=by
 unfold SameA QO;split
 ·rename_i x hx;apply List.ext_getElem?;intro i;simp only[gMp,gSt];split
  ·rename_i e;subst e;split
   ·simp[hx,jR]
   ·rename_i hn;rw[gEn (by omega)]at hx;cases hx
  ·rfl
 ·rfl
theorem zr(N:Ags)(p q:qG):SameA N (zj N p q):=(XG N p q).trans (XG _ q p)
theorem wx(N:Ags)(p q:qG):SameA N (jH N p q):=zr _ _ _
theorem JJ(N:Ags)(p q:qG):SameA N (jn N p q):=by unfold jn;split;exact rfl;exact zr _ _ _
theorem SameA.has{A B:Ags}(h:SameA A B){a s:Nat}:Has A a s↔Has B a s:=by
 have f:∀{A B:Ags},SameA A B->Has A a s->Has B a s:=by
  intro A B h hh;obtain⟨x,hx,hs⟩:=jm.1 hh;obtain⟨y,hy,e⟩:=h.at hx;have:y.Ports.length=x.Ports.length:=congrArg (fun c=>c.2.2.2.2) e;exact jm.2 ⟨y,hy,by omega⟩
 exact⟨f h,f h.back⟩
theorem qZP{N:Ags}{a s b t:Nat}{q:qG}(hh:Has N a s):atP (QO N (pt a s) q) b t=if b=a/\t=s then some q else atP N b t:=by
 obtain⟨x,hx,hs⟩:=jm.1 hh;rw[qd4 hx];unfold atP;by_cases hb:b=a
 ·subst hb;have hl:=(gSi.1 hx).1;rw[gSs hl,hx];simp only[oBs,gSt,true_and];by_cases ht:t=s
  ·subst ht;simp[hs]
  ·rw[if_neg (fun e=>ht e.symm),if_neg ht]
 ·rw[gSn (fun e=>hb e.symm),if_neg (fun e=>hb e.1)]
theorem wP{N:Ags}{a s c k b t:Nat}(h1:Has N a s)(h2:Has N c k):
  atP (zj N (pt a s) (pt c k)) b t=if b=c/\t=k then some (pt a s)else if b=a/\t=s then some (pt c k)else atP N b t:=by
 unfold zj;rw[qZP ((XG _ _ _).has.1 h2),qZP h1]
def W(N:Ags)(X:Nat->Nat->Prop):Prop:=∀a s q,atP N a s=some q->¬X a s->∃b t,q=pt b t/\atP N b t=some (pt a s)/\¬X b t/\¬(b=a/\t=s)
theorem W.mono{N:Ags}{X Y:Nat->Nat->Prop}(h:W N X)(e:∀a s,Has N a s->(X a s↔Y a s)):W N Y:=by
 intro a s q hq hY;obtain⟨b,t,e1,e2,e3,e4⟩:=h a s q hq fun hx=>hY ((e a s ⟨q,hq⟩).1 hx);exact⟨b,t,e1,e2,fun hy=>e3 ((e b t ⟨_,e2⟩).2 hy),e4⟩
theorem W.link{N:Ags}{X:Nat->Nat->Prop}(h:W N X){a s c k:Nat}(h1:Has N a s)(h2:Has N c k)(x1:X a s)(x2:X c k)(hne:¬(a=c/\s=k)):
  W (zj N (pt a s) (pt c k)) fun b t=>X b t/\¬(b=a/\t=s)/\¬(b=c/\t=k):=by
 intro b t q hq hX;rw[wP h1 h2]at hq;split at hq
 ·rename_i e;obtain⟨rfl,rfl⟩:=e;cases hq;refine⟨a,s,rfl, ?_,by simp,hne⟩;rw[wP h1 h2,if_neg hne,if_pos ⟨rfl,rfl⟩]
 ·rename_i e;split at hq
  ·rename_i e';obtain⟨rfl,rfl⟩:=e';cases hq;refine⟨c,k,rfl, ?_,by simp,fun e=>hne ⟨e.1.symm,e.2.symm⟩⟩;rw[wP h1 h2,if_pos ⟨rfl,rfl⟩]
  ·rename_i e';obtain⟨b',t',e1,e2,e3,e4⟩:=h b t q hq fun hx=>hX ⟨hx,e',e⟩;refine⟨b',t',e1, ?_,fun hx=>e3 hx.1,e4⟩;rw[wP h1 h2,if_neg,if_neg,e2]
   ·rintro⟨rfl,rfl⟩;exact e3 x1
   ·rintro⟨rfl,rfl⟩;exact e3 x2
theorem W.live{N:Ags}{X:Nat->Nat->Prop}(h:W N X){a s:Nat}(h1:Has N a s)(x1:¬X a s):∃c k,z9 N (pt a s)=pt c k/\atP N a s=some (pt c k)/\Has N c k/\¬X c k/\atP N c k=some (pt a s)/\¬(c=a/\k=s):=by
 obtain⟨q,hq⟩:=h1;obtain⟨b,t,rfl,e2,e3,e4⟩:=h a s q hq x1;exact⟨b,t,W5 hq,hq,⟨_,e2⟩,e3,e2,e4⟩
theorem W.move{N:Ags}{X:Nat->Nat->Prop}(h:W N X){a s c k:Nat}(h1:Has N a s)(h2:Has N c k)(x1:¬X a s)(x2:X c k):
  W (jH N (pt a s) (pt c k)) fun b t=>(X b t/\¬(b=c/\t=k))\/(b=a/\t=s):=by
 obtain⟨p,r,e,ea,hp,xp,ep,ne⟩:=h.live h1 x1;unfold jH;rw[e];have n1:¬(p=c/\r=k):=by rintro⟨rfl,rfl⟩;exact xp x2
 intro b t q hq hX;have hX1:¬(b=a/\t=s):=fun e=>hX (.inr e);rw[wP h2 hp]at hq;split at hq
 ·rename_i e;obtain⟨rfl,rfl⟩:=e;cases hq;refine⟨c,k,rfl, ?_, ?_,fun e=>n1 ⟨e.1.symm,e.2.symm⟩⟩
  ·rw[wP h2 hp,if_neg (fun e=>n1 ⟨e.1.symm,e.2.symm⟩),if_pos ⟨rfl,rfl⟩]
  ·rintro(⟨_,q⟩ | ⟨rfl,rfl⟩)
   ·exact q ⟨rfl,rfl⟩
   ·exact x1 x2
 ·rename_i e1;split at hq
  ·rename_i e';obtain⟨rfl,rfl⟩:=e';cases hq;refine⟨p,r,rfl, ?_, ?_,n1⟩
   ·rw[wP h2 hp,if_pos ⟨rfl,rfl⟩]
   ·rintro(⟨q,_⟩ | q)
    ·exact xp q
    ·exact ne q
  ·rename_i e';obtain⟨b',t',e1',e2,e3,e4⟩:=h b t q hq fun hx=>hX (.inl ⟨hx,e'⟩);subst e1';refine⟨b',t',rfl, ?_, ?_,e4⟩
   ·rw[wP h2 hp,if_neg,if_neg,e2]
    ·rintro⟨rfl,rfl⟩;exact e3 x2
    ·rintro⟨rfl,rfl⟩;rw[ep]at e2;exact hX1 (by have:=Option.some.inj e2;exact((JA.1 this).imp Eq.symm Eq.symm))
   ·rintro(⟨q,_⟩ | ⟨rfl,rfl⟩)
    ·exact e3 q
    ·rw[ea]at e2;have:=JA.1 (Option.some.inj e2);exact e1 ⟨this.1.symm,this.2.symm⟩
theorem W.drop2{N:Ags}{X:Nat->Nat->Prop}(h:W N X){a s c k:Nat}(h1:atP N a s=some (pt c k))(h2:atP N c k=some (pt a s)):W N fun b t=>X b t\/(b=a/\t=s)\/(b=c/\t=k):=by
 intro b t q hq hX;obtain⟨b',t',e1,e2,e3,e4⟩:=h b t q hq fun hx=>hX (.inl hx);refine⟨b',t',e1,e2, ?_,e4⟩;rintro(x | ⟨rfl,rfl⟩ | ⟨rfl,rfl⟩)
 ·exact e3 x
 ·rw[h1]at e2;have:=JA.1 (Option.some.inj e2);exact hX (.inr (.inr ⟨this.1.symm,this.2.symm⟩))
 ·rw[h2]at e2;have:=JA.1 (Option.some.inj e2);exact hX (.inr (.inl ⟨this.1.symm,this.2.symm⟩))
theorem W.join{N:Ags}{X:Nat->Nat->Prop}(h:W N X){a s c k:Nat}(h1:Has N a s)(h2:Has N c k)(x1:¬X a s)(x2:¬X c k)(hne:¬(a=c/\s=k)):
  W (jn N (pt a s) (pt c k)) fun b t=>X b t\/(b=a/\t=s)\/(b=c/\t=k):=by
 obtain⟨p,r,e,ea,hp,xp,ep,ne⟩:=h.live h1 x1;obtain⟨p',r',e',ea',hp',xp',ep',ne'⟩:=h.live h2 x2;unfold jn;rw[e,e'];split
 ·rename_i q;obtain⟨rfl,rfl⟩:=JA.1 q;exact h.drop2 ea ep
 ·rename_i q;have q1:¬(p=c/\r=k):=fun w=>q (JA.2 w);have d1:¬(p=p'/\r=r'):=by
   rintro⟨rfl,rfl⟩;rw[ep]at ep';exact hne (JA.1 (Option.some.inj ep'))
  have d2:¬(p'=a/\r'=s):=by
   rintro⟨rfl,rfl⟩;rw[ea]at ep';exact q1 (JA.1 (Option.some.inj ep'))
  have:=((h.drop2 ea ep).drop2 ea' ep').link hp hp' (.inl (.inr (.inr ⟨rfl,rfl⟩))) (.inr (.inr ⟨rfl,rfl⟩)) d1;refine this.mono fun b t _=> ?_;constructor
  ·rintro⟨((x | x | x) | x | x),y,z⟩
   ·exact .inl x
   ·exact .inr (.inl x)
   ·exact absurd x y
   ·exact .inr (.inr x)
   ·exact absurd x z
  ·rintro(x | ⟨rfl,rfl⟩ | ⟨rfl,rfl⟩)
   ·exact⟨.inl (.inl x),(by rintro⟨rfl,rfl⟩;exact xp x),(by rintro⟨rfl,rfl⟩;exact xp' x)⟩
   ·exact⟨.inl (.inr (.inl ⟨rfl,rfl⟩)),fun e=>ne ⟨e.1.symm,e.2.symm⟩,fun e=>d2 ⟨e.1.symm,e.2.symm⟩⟩
   ·exact⟨.inr (.inl ⟨rfl,rfl⟩),fun e=>q1 ⟨e.1.symm,e.2.symm⟩,fun e=>ne' ⟨e.1.symm,e.2.symm⟩⟩
theorem QX{N M:Ags}{a s:Nat}(h:a<N.length):atP (N++M) a s=atP N a s:=by
 unfold atP;rw[gAl h]
theorem qZO{N M:Ags}{a s:Nat}:atP (N++M) (N.length+a) s=atP M a s:=by
 unfold atP;rw[gAr (by omega)];simp
theorem w6{N:Ags}{a s:Nat}{q:qG}(h:atP N a s=some q):a<N.length:=by
 obtain⟨x,hx,_⟩:=jY.1 h;exact(gSi.1 hx).1
theorem Has.lt{N:Ags}{a s:Nat}(h:Has N a s):a<N.length:=by obtain⟨q,h⟩:=h;exact w6 h
theorem Has.app{N M:Ags}{a s:Nat}(h:Has N a s):Has (N++M) a s:=by
 have:=h.lt;obtain⟨q,h⟩:=h;exact⟨q,by rw[QX this];exact h⟩
theorem W.add{N:Ags}{X:Nat->Nat->Prop}(h:W N X)(x:qA):W (N++[x]) fun b t=>(X b t/\b<N.length)\/b=N.length:=by
 intro a s q hq hX;have hl:=w6 hq;simp only[lAp,lCo,lNi]at hl;have ha:a<N.length:=by
  rcases Nat.lt_or_ge a N.length with q | q
  ·exact q
  ·exact absurd (.inr (by omega)) hX
 rw[QX ha]at hq;obtain⟨b,t,e1,e2,e3,e4⟩:=h a s q hq fun hx=>hX (.inl ⟨hx,ha⟩);have hb:=w6 e2;refine⟨b,t,e1,by rw[QX hb];exact e2, ?_,e4⟩;rintro(⟨x,_⟩ | x)
 ·exact e3 x
 ·omega
theorem zd{N:Ags}{k l v:Int}{d:List Int}{n s:Nat}(h:s<n):Has (N++[qT k l v d n]) N.length s:=
 jm.2 ⟨qT k l v d n,by simp,by simpa[qT]using h⟩
theorem Xo{E:Ev}{d:Option Nat}{w:Nat}{z v:AV}{l:List qB}{ks:List Fr1}{s m:qo}{h:List qD}{e:Env}{Q:qh->VSt->Prop}(hl:v.cells.length=w)(hr:wm E d (.row w [v] true) (.slice w h.length 0 1 false) l ks ⟨s,m,h⟩ Q):Bsl E d w 1 (fil e w (List.replicate 1 z) 0 (some v) []) l ks ⟨s,m,h⟩ Q:=by
 rw[show fil e w (List.replicate 1 z) 0 (some v) []=some [v] by simp[fil,z6,hl,List.replicate],qe9];exact hr
theorem c402(xs:List Int)(hz:xs.length<=4194304):Pure Gm 402 [.lst 1 (xs.map qK) false] (.lst 1 (xs.map qK) false):=by
 refine pI XY (by simp[AV.trees,AV.tree,qV shI.tree]) (by simp[AV.tree,qV shI.tree]) ?_;simp only[XY,qQ,go_sem];refine Yw Els.lst (by simp;omega) ?_;simp only[go_sem];refine QJ (Cv.row rfl ?_ (qV shI.tree _) (by omega));simp
theorem c837(x:qA)(hz:x.sz<=1048576):Pure Gm 837 [.ept x.enc 0] (x.enc):=by
 refine pI Zf (by simp[AV.trees,AV.tree,go_sem]) (by simp only[qA.tr]) ?_;simp only[Zf,qQ,go_sem];unfold qA.sz at hz;refine qO (c402 x.Data (by omega)) ?_;simp only[go_sem];refine Zi Els.lst (by simp;omega) ?_;simp only[go_sem];refine qU (k:=5) (by rfl) (by rfl) (by exact⟨_,rfl⟩) (by decide) ?_;simp only[go_sem];refine QJ (.agg rfl ?_);refine zE (.refl rfl) (zE (.refl rfl) (zE (.refl rfl) (zE (.refl ?_) (zE (Cv.row rfl ?_ (qV qG.isSh.tree _) (by decide)) (fun p hp=>by simp at hp)))))
 ·simp[AV.tree,qV shI.tree]
 ·simp
theorem c489(n:qC)(hz:n.sz<=1048576):Pure Gm 489 [.ept n.enc 0] (n.enc):=by
 refine pI XZ (by simp[AV.trees,AV.tree,go_sem]) (by simp only[qC.tr]) ?_;simp only[XZ,qQ,go_sem];unfold qC.sz at hz;refine Sem.loop (fun i:Nat=>i<=n.Agents.length) (fun i=>(⟨[(0,.ept n.enc 0),(4,.int .i64 (i:Nat))],[(2,.agg [.nils]),(3,.agg [.slice 5 0 0 i false])],[.row 5 ((n.Agents.take i).map qA.enc) true]⟩:VSt)) (fun i=>n.Agents.length-i) 0 (by kernel_rfl) (nZl _) (Can.renum [none] rfl ⟨.ph,trivial⟩ ⟨⟨_,rfl,.tree (by simp only[AV.tree,qC.tr])⟩,⟨_,rfl,.tree rfl⟩,trivial⟩ ⟨⟨_,rfl,.tree rfl⟩,⟨_,rfl,.agg rfl (VR2s.cons (.ph rfl) VR2s.nil).2⟩,trivial⟩) ?_;rintro i hi;simp only[go_sem];apply qM<;>intro hc<;>simp only[hc,go_sem]
 ·have hlt:i<n.Agents.length:=by have:=odT hc;omega
  have hsz:qA.sz n.Agents[i]<=qH qA.sz n.Agents:=zq (f:=qA.sz) (gMm hlt);simp only[gMp,gEg hlt,oMs,go_sem];refine qO (c837 n.Agents[i] (by omega)) ?_;simp only[go_sem];refine zy (len:=i) (el:=(n.Agents.take i).map qA.enc) rfl rfl (by simp;omega) (by omega) ?_;simp only[go_sem];simp only[qc (show i<4611686018427387904 by omega)];refine qd (i+1) (by omega) (by omega) ?_;have e:n.Agents.take (i+1)=n.Agents.take i++[n.Agents[i]]:=by simp[List.take_append_getElem]
  refine Can.renum [some 2] rfl ⟨.row rfl ?_,trivial⟩ ⟨⟨_,rfl,.tree (by simp only[AV.tree,qC.tr])⟩,⟨_,rfl,.tree rfl⟩,trivial⟩ ⟨⟨_,rfl,.tree rfl⟩,⟨_,rfl,.agg rfl (VR2s.cons (.slice rfl) VR2s.nil).2⟩,trivial⟩;have t:=qV qA.isSh.tree (n.Agents.take (i+1));rw[e,lMa]at t|-;exact VR2s.trees t
 ·obtain rfl:i=n.Agents.length:=by have:=odF hc;omega
  simp only[lTl];refine QJ (.agg rfl ?_);refine zE (Cv.row rfl ?_ (qV qA.isSh.tree _) (by decide)) (fun p hp=>by simp at hp);simp
theorem c795(x:qF)(hz:x.sz<=1048576):Pure Gm 795 [.ept x.enc 0] (x.enc):=by
 refine pI Xd (by simp[AV.trees,AV.tree,go_sem]) (by simp only[qF.tr]) ?_;simp only[Xd,qQ,go_sem];unfold qF.sz at hz;have conv:Cvs (only [] []) [.ept x.enc 1] [.ept x.Net.enc 0]:=Cvs.cons (.sub qF.tr (qF.q1_1) (by rw[qC.ln];decide)) Cvs.nil
 refine Q7 conv (c489 x.Net (by omega)) ?_
 simp only[go_sem];refine Zi Els.lst (by simp;omega) ?_;simp only[go_sem];refine qU (k:=3) (by rfl) (by rfl) (by exact⟨_,rfl⟩) (by decide) ?_;simp only[go_sem];refine QJ (.agg rfl ?_);refine zE (.refl rfl) (zE (.refl ?_) (zE (Cv.row rfl ?_ (qV qE.isSh.tree _) (by decide)) (fun p hp=>by simp at hp)))
 ·simp[AV.tree,qV qA.isSh.tree]
 ·simp
theorem qG.plx(x:qG):x.enc.pl=true:=by simp[qG.enc,AV.pl,AV.pls]
theorem qG.cnx(x:qG):x.enc.cn=true:=by simp[qG.enc,AV.cn,AV.cns]
theorem qG.layE(x:qG)(n:Nat):lay x.enc n=(.agg [.int .i64 x.Agent,.int .i64 x.Slot],[]):=by
 simp[qG.enc,lay,qN]
theorem qG.rowsE(x:qG):x.enc.rows=0:=by simp[qG.enc,AV.rows,AV.rowss]
def qG.mrk(_x:qG)(k:Int):qG:={Agent:=k,Slot:=k+1}
def qG.ct(_x:qG):Nat:=1+1
def qG.mkV(x:qG)(_k:Int):qG:={Agent:=x.Agent,Slot:=x.Slot}
def qG.ctV(_x:qG):Nat:=0
theorem qG.rowsM(x:qG)(k:Int):(x.mrk k).enc.rows=x.enc.rows:=by simp[qG.rowsE,qG.mrk]
theorem qG.rowsV(x:qG)(k:Int):(x.mkV k).enc.rows=x.enc.rows:=by simp[qG.rowsE,qG.mkV]
theorem qG.ctle(x:qG):x.ct<=16:=by simp[qG.ct]
theorem qA.plx(x:qA):x.enc.pl=true:=by simp[qA.enc,AV.pl,AV.pls,qn (enc:=qK) (fun _=>rfl),qn qG.plx]
theorem qA.cnx(x:qA):x.enc.cn=true:=by simp[qA.enc,AV.cn,AV.cns,ju (enc:=qK) (fun _=>rfl),ju qG.cnx]
theorem qA.layE(x:qA)(n:Nat):lay x.enc n=(.agg [.int .i64 x.Kind,.int .i64 x.Level,.int .i64 x.Value,.slice 1 (n) 0 x.Data.length false,.slice 2 (n+AV.rows (.lst 1 (x.Data.map qK) false)) 0 x.Ports.length false],(lay (.lst 1 (x.Data.map qK) false) (n)).2++((lay (.lst 2 (x.Ports.map qG.enc) false) (n+AV.rows (.lst 1 (x.Data.map qK) false))).2++[])):=by
 simp[qA.enc,lay,qN,zQ,AV.rows,Nat.add_comm,Nat.add_left_comm]
theorem qA.rowsE(x:qA):x.enc.rows=AV.rows (.lst 1 (x.Data.map qK) false)+AV.rows (.lst 2 (x.Ports.map qG.enc) false):=by simp[qA.enc,AV.rows,AV.rowss,Nat.add_assoc]
def qA.mrk(x:qA)(k:Int):qA:={Kind:=k,Level:=k+1,Value:=k+1+1,Data:=mkL mkI ctI x.Data (k+1+1+1),Ports:=mkL qG.mrk qG.ct x.Ports (k+1+1+1+((qH ctI x.Data:Nat):Int))}
def qA.ct(x:qA):Nat:=1+1+1+qH ctI x.Data+qH qG.ct x.Ports
def qA.mkV(x:qA)(k:Int):qA:={Kind:=x.Kind,Level:=x.Level,Value:=x.Value,Data:=mkL mkI ctI x.Data (k),Ports:=mkL qG.mrk qG.ct x.Ports (k+((qH ctI x.Data:Nat):Int))}
def qA.ctV(x:qA):Nat:=qH ctI x.Data+qH qG.ct x.Ports
theorem qA.rowsM(x:qA)(k:Int):(x.mrk k).enc.rows=x.enc.rows:=by simp[qA.rowsE,qA.mrk,AV.rows,qY qG.mrk qG.ct (enc:=qG.enc) qG.rowsM,qY mkI ctI (enc:=qK) (fun _ _=>rfl)]
theorem qA.rowsV(x:qA)(k:Int):(x.mkV k).enc.rows=x.enc.rows:=by simp[qA.rowsE,qA.mkV,AV.rows,qY qG.mrk qG.ct (enc:=qG.enc) qG.rowsM,qY mkI ctI (enc:=qK) (fun _ _=>rfl)]
theorem qA.ctle(x:qA):x.ct<=16+16*x.sz:=by
 have h0:=JU (c:=ctI) (fun _=>by simp[ctI]) x.Data;have h1:=JU (c:=qG.ct) (fun y=>by have:=qG.ctle y;simpa using this) x.Ports;simp only[qA.ct,qA.sz];omega
theorem qA.ctVle(x:qA):x.ctV<=16*x.sz:=by
 have h0:=JU (c:=ctI) (fun _=>by simp[ctI]) x.Data;have h1:=JU (c:=qG.ct) (fun y=>by have:=qG.ctle y;simpa using this) x.Ports;simp only[qA.ctV,qA.sz];omega
theorem qC.plx(x:qC):x.enc.pl=true:=by simp[qC.enc,AV.pl,AV.pls,qn qA.plx]
theorem qC.cnx(x:qC):x.enc.cn=true:=by simp[qC.enc,AV.cn,AV.cns,ju qA.cnx]
theorem qC.layE(x:qC)(n:Nat):lay x.enc n=(.agg [.slice 5 (n) 0 x.Agents.length false],(lay (.lst 5 (x.Agents.map qA.enc) false) (n)).2++[]):=by
 simp[qC.enc,lay,qN]
theorem qC.rowsE(x:qC):x.enc.rows=AV.rows (.lst 5 (x.Agents.map qA.enc) false):=by simp[qC.enc,AV.rows,AV.rowss]
def qC.mrk(x:qC)(k:Int):qC:={Agents:=mkL qA.mrk qA.ct x.Agents (k)}
def qC.ct(x:qC):Nat:=qH qA.ct x.Agents
def qC.mkV(x:qC)(k:Int):qC:={Agents:=mkL qA.mrk qA.ct x.Agents (k)}
def qC.ctV(x:qC):Nat:=qH qA.ct x.Agents
theorem qC.rowsM(x:qC)(k:Int):(x.mrk k).enc.rows=x.enc.rows:=by simp[qC.rowsE,qC.mrk,AV.rows,qY qA.mrk qA.ct (enc:=qA.enc) qA.rowsM]
theorem qC.rowsV(x:qC)(k:Int):(x.mkV k).enc.rows=x.enc.rows:=by simp[qC.rowsE,qC.mkV,AV.rows,qY qA.mrk qA.ct (enc:=qA.enc) qA.rowsM]
theorem qC.ctle(x:qC):x.ct<=16+16*x.sz:=by
 have h0:=QA (c:=qA.ct) (z:=qA.sz) qA.ctle x.Agents;simp only[qC.ct,qC.sz];omega
theorem qC.ctVle(x:qC):x.ctV<=16*x.sz:=by
 have h0:=QA (c:=qA.ct) (z:=qA.sz) qA.ctle x.Agents;simp only[qC.ctV,qC.sz];omega
theorem qE.plx(x:qE):x.enc.pl=true:=by simp[qE.enc,AV.pl,AV.pls]
theorem qE.cnx(x:qE):x.enc.cn=true:=by simp[qE.enc,AV.cn,AV.cns]
theorem qE.layE(x:qE)(n:Nat):lay x.enc n=(.agg [.int .i64 x.Step,.int .i64 x.Def,.int .i64 x.Source],[]):=by
 simp[qE.enc,lay,qN]
theorem qE.rowsE(x:qE):x.enc.rows=0:=by simp[qE.enc,AV.rows,AV.rowss]
def qE.mrk(_x:qE)(k:Int):qE:={Step:=k,Def:=k+1,Source:=k+1+1}
def qE.ct(_x:qE):Nat:=1+1+1
def qE.mkV(x:qE)(_k:Int):qE:={Step:=x.Step,Def:=x.Def,Source:=x.Source}
def qE.ctV(_x:qE):Nat:=0
theorem qE.rowsM(x:qE)(k:Int):(x.mrk k).enc.rows=x.enc.rows:=by simp[qE.rowsE,qE.mrk]
theorem qE.rowsV(x:qE)(k:Int):(x.mkV k).enc.rows=x.enc.rows:=by simp[qE.rowsE,qE.mkV]
theorem qE.ctle(x:qE):x.ct<=16:=by simp[qE.ct]
theorem qI.plx(x:qI):x.enc.pl=true:=by simp[qI.enc,AV.pl,AV.pls]
theorem qI.cnx(x:qI):x.enc.cn=true:=by simp[qI.enc,AV.cn,AV.cns]
theorem qI.layE(x:qI)(n:Nat):lay x.enc n=(.agg [.int .i64 x.Kind,.int .i64 x.Value],[]):=by
 simp[qI.enc,lay,qN]
theorem qI.rowsE(x:qI):x.enc.rows=0:=by simp[qI.enc,AV.rows,AV.rowss]
def qI.mrk(_x:qI)(k:Int):qI:={Kind:=k,Value:=k+1}
def qI.ct(_x:qI):Nat:=1+1
def qI.mkV(x:qI)(_k:Int):qI:={Kind:=x.Kind,Value:=x.Value}
def qI.ctV(_x:qI):Nat:=0
theorem qI.rowsM(x:qI)(k:Int):(x.mrk k).enc.rows=x.enc.rows:=by simp[qI.rowsE,qI.mrk]
theorem qI.rowsV(x:qI)(k:Int):(x.mkV k).enc.rows=x.enc.rows:=by simp[qI.rowsE,qI.mkV]
theorem qI.ctle(x:qI):x.ct<=16:=by simp[qI.ct]
theorem qF.plx(x:qF):x.enc.pl=true:=by simp[qF.enc,AV.pl,AV.pls,qn qA.plx,qn qE.plx]
theorem qF.cnx(x:qF):x.enc.cn=true:=by simp[qF.enc,AV.cn,AV.cns,ju qA.cnx,ju qE.cnx]
theorem qF.layE(x:qF)(n:Nat):lay x.enc n=(.agg [.int .i64 x.At,.slice 5 (n) 0 x.Net.Agents.length false,.slice 3 (n+AV.rows (.lst 5 (x.Net.Agents.map qA.enc) false)) 0 x.Origins.length false],(lay (.lst 5 (x.Net.Agents.map qA.enc) false) (n)).2++((lay (.lst 3 (x.Origins.map qE.enc) false) (n+AV.rows (.lst 5 (x.Net.Agents.map qA.enc) false))).2++[])):=by
 simp[qF.enc,lay,qN,zQ,AV.rows,Nat.add_comm,Nat.add_left_comm]
theorem qF.rowsE(x:qF):x.enc.rows=AV.rows (.lst 5 (x.Net.Agents.map qA.enc) false)+AV.rows (.lst 3 (x.Origins.map qE.enc) false):=by simp[qF.enc,AV.rows,AV.rowss,Nat.add_assoc]
def qF.mrk(x:qF)(k:Int):qF:={At:=k,Net:={Agents:=mkL qA.mrk qA.ct x.Net.Agents (k+1)},Origins:=mkL qE.mrk qE.ct x.Origins (k+1+((qH qA.ct x.Net.Agents:Nat):Int))}
def qF.ct(x:qF):Nat:=1+qH qA.ct x.Net.Agents+qH qE.ct x.Origins
def qF.mkV(x:qF)(k:Int):qF:={At:=x.At,Net:={Agents:=mkL qA.mrk qA.ct x.Net.Agents (k)},Origins:=mkL qE.mrk qE.ct x.Origins (k+((qH qA.ct x.Net.Agents:Nat):Int))}
def qF.ctV(x:qF):Nat:=qH qA.ct x.Net.Agents+qH qE.ct x.Origins
theorem qF.rowsM(x:qF)(k:Int):(x.mrk k).enc.rows=x.enc.rows:=by simp[qF.rowsE,qF.mrk,AV.rows,qY qA.mrk qA.ct (enc:=qA.enc) qA.rowsM,qY qE.mrk qE.ct (enc:=qE.enc) qE.rowsM]
theorem qF.rowsV(x:qF)(k:Int):(x.mkV k).enc.rows=x.enc.rows:=by simp[qF.rowsE,qF.mkV,AV.rows,qY qA.mrk qA.ct (enc:=qA.enc) qA.rowsM,qY qE.mrk qE.ct (enc:=qE.enc) qE.rowsM]
theorem qF.ctle(x:qF):x.ct<=16+16*x.sz:=by
 have h0:=QA (c:=qA.ct) (z:=qA.sz) qA.ctle x.Net.Agents;have h1:=JU (c:=qE.ct) (fun y=>by have:=qE.ctle y;simpa using this) x.Origins;simp only[qF.ct,qF.sz,qC.sz];omega
theorem qF.ctVle(x:qF):x.ctV<=16*x.sz:=by
 have h0:=QA (c:=qA.ct) (z:=qA.sz) qA.ctle x.Net.Agents;have h1:=JU (c:=qE.ct) (fun y=>by have:=qE.ctle y;simpa using this) x.Origins;simp only[qF.ctV,qF.sz,qC.sz];omega
theorem qJ.plx(x:qJ):x.enc.pl=true:=by simp[qJ.enc,AV.pl,AV.pls,qn (enc:=qK) (fun _=>rfl),qn qA.plx,qn qI.plx,qn qF.plx,qn qC.plx,qn qE.plx]
theorem qJ.cnx(x:qJ):x.enc.cn=true:=by simp[qJ.enc,AV.cn,AV.cns,ju (enc:=qK) (fun _=>rfl),ju qA.cnx,ju qI.cnx,ju qF.cnx,ju qC.cnx,ju qE.cnx]
theorem qJ.layE(x:qJ)(n:Nat):lay x.enc n=(.agg [.slice 1 (n) 0 x.Book.length false,.slice 1 (n+AV.rows (.lst 1 (x.Book.map qC.enc) false)) 0 x.Schedule.length false,.int .i64 x.Every,.int .i64 x.At,.slice 5 (n+AV.rows (.lst 1 (x.Book.map qC.enc) false)+AV.rows (.lst 1 (x.Schedule.map qK) false)) 0 x.Net.Agents.length false,.slice 3 (n+AV.rows (.lst 1 (x.Book.map qC.enc) false)+AV.rows (.lst 1 (x.Schedule.map qK) false)+AV.rows (.lst 5 (x.Net.Agents.map qA.enc) false)) 0 x.Origins.length false,.slice 2 (n+AV.rows (.lst 1 (x.Book.map qC.enc) false)+AV.rows (.lst 1 (x.Schedule.map qK) false)+AV.rows (.lst 5 (x.Net.Agents.map qA.enc) false)+AV.rows (.lst 3 (x.Origins.map qE.enc) false)) 0 x.Breaks.length false,.slice 3 (n+AV.rows (.lst 1 (x.Book.map qC.enc) false)+AV.rows (.lst 1 (x.Schedule.map qK) false)+AV.rows (.lst 5 (x.Net.Agents.map qA.enc) false)+AV.rows (.lst 3 (x.Origins.map qE.enc) false)+AV.rows (.lst 2 (x.Breaks.map qI.enc) false)) 0 x.Points.length false],(lay (.lst 1 (x.Book.map qC.enc) false) (n)).2++((lay (.lst 1 (x.Schedule.map qK) false) (n+AV.rows (.lst 1 (x.Book.map qC.enc) false))).2++((lay (.lst 5 (x.Net.Agents.map qA.enc) false) (n+AV.rows (.lst 1 (x.Book.map qC.enc) false)+AV.rows (.lst 1 (x.Schedule.map qK) false))).2++((lay (.lst 3 (x.Origins.map qE.enc) false) (n+AV.rows (.lst 1 (x.Book.map qC.enc) false)+AV.rows (.lst 1 (x.Schedule.map qK) false)+AV.rows (.lst 5 (x.Net.Agents.map qA.enc) false))).2++((lay (.lst 2 (x.Breaks.map qI.enc) false) (n+AV.rows (.lst 1 (x.Book.map qC.enc) false)+AV.rows (.lst 1 (x.Schedule.map qK) false)+AV.rows (.lst 5 (x.Net.Agents.map qA.enc) false)+AV.rows (.lst 3 (x.Origins.map qE.enc) false))).2++((lay (.lst 3 (x.Points.map qF.enc) false) (n+AV.rows (.lst 1 (x.Book.map qC.enc) false)+AV.rows (.lst 1 (x.Schedule.map qK) false)+AV.rows (.lst 5 (x.Net.Agents.map qA.enc) false)+AV.rows (.lst 3 (x.Origins.map qE.enc) false)+AV.rows (.lst 2 (x.Breaks.map qI.enc) false))).2++[])))))):=by
 simp[qJ.enc,lay,qN,zQ,AV.rows,Nat.add_assoc,Nat.add_comm,Nat.add_left_comm]
theorem qJ.rowsE(x:qJ):x.enc.rows=AV.rows (.lst 1 (x.Book.map qC.enc) false)+AV.rows (.lst 1 (x.Schedule.map qK) false)+AV.rows (.lst 5 (x.Net.Agents.map qA.enc) false)+AV.rows (.lst 3 (x.Origins.map qE.enc) false)+AV.rows (.lst 2 (x.Breaks.map qI.enc) false)+AV.rows (.lst 3 (x.Points.map qF.enc) false):=by simp[qJ.enc,AV.rows,AV.rowss,Nat.add_assoc]
def qJ.mrk(x:qJ)(k:Int):qJ:={Book:=mkL qC.mrk qC.ct x.Book (k),Schedule:=mkL mkI ctI x.Schedule (k+((qH qC.ct x.Book:Nat):Int)),Every:=k+((qH qC.ct x.Book:Nat):Int)+((qH ctI x.Schedule:Nat):Int),At:=k+((qH qC.ct x.Book:Nat):Int)+((qH ctI x.Schedule:Nat):Int)+1,Net:={Agents:=mkL qA.mrk qA.ct x.Net.Agents (k+((qH qC.ct x.Book:Nat):Int)+((qH ctI x.Schedule:Nat):Int)+1+1)},Origins:=mkL qE.mrk qE.ct x.Origins (k+((qH qC.ct x.Book:Nat):Int)+((qH ctI x.Schedule:Nat):Int)+1+1+((qH qA.ct x.Net.Agents:Nat):Int)),Breaks:=mkL qI.mrk qI.ct x.Breaks (k+((qH qC.ct x.Book:Nat):Int)+((qH ctI x.Schedule:Nat):Int)+1+1+((qH qA.ct x.Net.Agents:Nat):Int)+((qH qE.ct x.Origins:Nat):Int)),Points:=mkL qF.mrk qF.ct x.Points (k+((qH qC.ct x.Book:Nat):Int)+((qH ctI x.Schedule:Nat):Int)+1+1+((qH qA.ct x.Net.Agents:Nat):Int)+((qH qE.ct x.Origins:Nat):Int)+((qH qI.ct x.Breaks:Nat):Int))}
def qJ.ct(x:qJ):Nat:=qH qC.ct x.Book+qH ctI x.Schedule+1+1+qH qA.ct x.Net.Agents+qH qE.ct x.Origins+qH qI.ct x.Breaks+qH qF.ct x.Points
def qJ.mkV(x:qJ)(k:Int):qJ:={Book:=mkL qC.mrk qC.ct x.Book (k),Schedule:=mkL mkI ctI x.Schedule (k+((qH qC.ct x.Book:Nat):Int)),Every:=x.Every,At:=x.At,Net:={Agents:=mkL qA.mrk qA.ct x.Net.Agents (k+((qH qC.ct x.Book:Nat):Int)+((qH ctI x.Schedule:Nat):Int))},Origins:=mkL qE.mrk qE.ct x.Origins (k+((qH qC.ct x.Book:Nat):Int)+((qH ctI x.Schedule:Nat):Int)+((qH qA.ct x.Net.Agents:Nat):Int)),Breaks:=mkL qI.mrk qI.ct x.Breaks (k+((qH qC.ct x.Book:Nat):Int)+((qH ctI x.Schedule:Nat):Int)+((qH qA.ct x.Net.Agents:Nat):Int)+((qH qE.ct x.Origins:Nat):Int)),Points:=mkL qF.mrk qF.ct x.Points (k+((qH qC.ct x.Book:Nat):Int)+((qH ctI x.Schedule:Nat):Int)+((qH qA.ct x.Net.Agents:Nat):Int)+((qH qE.ct x.Origins:Nat):Int)+((qH qI.ct x.Breaks:Nat):Int))}
def qJ.ctV(x:qJ):Nat:=qH qC.ct x.Book+qH ctI x.Schedule+qH qA.ct x.Net.Agents+qH qE.ct x.Origins+qH qI.ct x.Breaks+qH qF.ct x.Points
theorem qJ.rowsM(x:qJ)(k:Int):(x.mrk k).enc.rows=x.enc.rows:=by simp[qJ.rowsE,qJ.mrk,AV.rows,qY qA.mrk qA.ct (enc:=qA.enc) qA.rowsM,qY qI.mrk qI.ct (enc:=qI.enc) qI.rowsM,qY qF.mrk qF.ct (enc:=qF.enc) qF.rowsM,qY qC.mrk qC.ct (enc:=qC.enc) qC.rowsM,qY qE.mrk qE.ct (enc:=qE.enc) qE.rowsM,qY mkI ctI (enc:=qK) (fun _ _=>rfl)]
theorem qJ.rowsV(x:qJ)(k:Int):(x.mkV k).enc.rows=x.enc.rows:=by simp[qJ.rowsE,qJ.mkV,AV.rows,qY qA.mrk qA.ct (enc:=qA.enc) qA.rowsM,qY qI.mrk qI.ct (enc:=qI.enc) qI.rowsM,qY qF.mrk qF.ct (enc:=qF.enc) qF.rowsM,qY qC.mrk qC.ct (enc:=qC.enc) qC.rowsM,qY qE.mrk qE.ct (enc:=qE.enc) qE.rowsM,qY mkI ctI (enc:=qK) (fun _ _=>rfl)]
theorem qJ.ctle(x:qJ):x.ct<=16+16*x.sz:=by
 have h0:=QA (c:=qC.ct) (z:=qC.sz) qC.ctle x.Book;have h1:=JU (c:=ctI) (fun _=>by simp[ctI]) x.Schedule;have h2:=QA (c:=qA.ct) (z:=qA.sz) qA.ctle x.Net.Agents;have h3:=JU (c:=qE.ct) (fun y=>by have:=qE.ctle y;simpa using this) x.Origins;have h4:=JU (c:=qI.ct) (fun y=>by have:=qI.ctle y;simpa using this) x.Breaks;have h5:=QA (c:=qF.ct) (z:=qF.sz) qF.ctle x.Points;simp only[qJ.ct,qJ.sz,qC.sz];omega
theorem qJ.ctVle(x:qJ):x.ctV<=16*x.sz:=by
 have h0:=QA (c:=qC.ct) (z:=qC.sz) qC.ctle x.Book;have h1:=JU (c:=ctI) (fun _=>by simp[ctI]) x.Schedule;have h2:=QA (c:=qA.ct) (z:=qA.sz) qA.ctle x.Net.Agents;have h3:=JU (c:=qE.ct) (fun y=>by have:=qE.ctle y;simpa using this) x.Origins;have h4:=JU (c:=qI.ct) (fun y=>by have:=qI.ctle y;simpa using this) x.Breaks;have h5:=QA (c:=qF.ct) (z:=qF.sz) qF.ctle x.Points;simp only[qJ.ctV,qJ.sz,qC.sz];omega
theorem n147(xs:List Int)(hl:xs.length<=1048576):Fresh Gm 147 [.lst 1 (xs.map qK) false] (.lst 1 (xs.map qK) false):=qmR (gk _ KS) xs hl
theorem qjG(x:qG):Fresh Gm 1419 [x.enc] x.enc:=by
 refine fI XW (by simp[AV.trees,qG.tr]) (qG.plx x) ?_;simp only[XW,qQ,go_sem];refine qW rfl ?_;simp only[go_sem];refine qU rfl rfl ⟨_,rfl⟩ (by decide) ?_;simp only[go_sem];exact jU (pre:=[]) (post:=[]) (qG.plx x) (by simp[zI,qG.layE]) (by simp[qG.layE])
theorem qjE(xs:List qG)(hl:xs.length<=1048576):Fresh Gm 1178 [.lst 2 (xs.map qG.enc) false] (.lst 2 (xs.map qG.enc) false):=
 XM qG.isSh qG.plx rfl rfl (by simp) (gk _ Ul) xs (fun x hm=>qjG x) (by omega)
theorem n858(x:qA)(hz:x.sz<=1048576):Fresh Gm 858 [x.enc] x.enc:=by
 refine fI Xe (by simp[AV.trees,qA.tr]) (qA.plx x) ?_;simp only[Xe,qQ,go_sem];refine qW rfl ?_;simp only[go_sem];unfold qA.sz at hz;refine zW (n147 _ (by omega)) ?_;simp only[go_sem,zU];refine zW (qjE _ (by omega)) ?_;simp only[go_sem,zU];refine qU rfl rfl ⟨_,rfl⟩ (by decide) ?_;simp only[go_sem];exact jU (pre:=[]) (post:=[]) (qA.plx x) (by simp[zI,qA.layE,qb]) (by simp[qA.layE,qb])
theorem n504(xs:List qA)(hl:xs.length+qH qA.sz xs<=1048576):Fresh Gm 504 [.lst 5 (xs.map qA.enc) false] (.lst 5 (xs.map qA.enc) false):=
 XM qA.isSh qA.plx rfl rfl (by simp) (gk _ kL) xs (fun x hm=>n858 x (by have:=zq (f:=qA.sz) hm;omega)) (by omega)
theorem n185(x:qC)(hz:x.sz<=1048576):Fresh Gm 185 [x.enc] x.enc:=by
 refine fI XX (by simp[AV.trees,qC.tr]) (qC.plx x) ?_;simp only[XX,qQ,go_sem];refine qW rfl ?_;simp only[go_sem];unfold qC.sz at hz;refine zW (n504 _ (by omega)) ?_;simp only[go_sem,zU];exact jU (pre:=[]) (post:=[]) (qC.plx x) (by simp[zI,qC.layE]) (by simp[qC.layE])
theorem n184(xs:List qC)(hl:xs.length+qH qC.sz xs<=1048576):Fresh Gm 184 [.lst 1 (xs.map qC.enc) false] (.lst 1 (xs.map qC.enc) false):=
 XM qC.isSh qC.plx rfl rfl (by simp) (gk _ Kc) xs (fun x hm=>n185 x (by have:=zq (f:=qC.sz) hm;omega)) (by omega)
theorem n745(x:qE):Fresh Gm 745 [x.enc] x.enc:=by
 refine fI Xa (by simp[AV.trees,qE.tr]) (qE.plx x) ?_;simp only[Xa,qQ,go_sem];refine qW rfl ?_;simp only[go_sem];refine qU rfl rfl ⟨_,rfl⟩ (by decide) ?_;simp only[go_sem];exact jU (pre:=[]) (post:=[]) (qE.plx x) (by simp[zI,qE.layE]) (by simp[qE.layE])
theorem n370(xs:List qE)(hl:xs.length<=1048576):Fresh Gm 370 [.lst 3 (xs.map qE.enc) false] (.lst 3 (xs.map qE.enc) false):=
 XM qE.isSh qE.plx rfl rfl (by simp) (gk _ Kq) xs (fun x hm=>n745 x) (by omega)
theorem n134(x:qI):Fresh Gm 134 [x.enc] x.enc:=by
 refine fI XV (by simp[AV.trees,qI.tr]) (qI.plx x) ?_;simp only[XV,qQ,go_sem];refine qW rfl ?_;simp only[go_sem];refine qU rfl rfl ⟨_,rfl⟩ (by decide) ?_;simp only[go_sem];exact jU (pre:=[]) (post:=[]) (qI.plx x) (by simp[zI,qI.layE]) (by simp[qI.layE])
theorem n371(xs:List qI)(hl:xs.length<=1048576):Fresh Gm 371 [.lst 2 (xs.map qI.enc) false] (.lst 2 (xs.map qI.enc) false):=
 XM qI.isSh qI.plx rfl rfl (by simp) (gk _ Kr) xs (fun x hm=>n134 x) (by omega)
theorem n746(x:qF)(hz:x.sz<=1048576):Fresh Gm 746 [x.enc] x.enc:=by
 refine fI Xb (by simp[AV.trees,qF.tr]) (qF.plx x) ?_;simp only[Xb,qQ,go_sem];refine qW rfl ?_;simp only[go_sem];unfold qF.sz at hz;refine zW (n185 _ (by omega)) ?_;simp only[go_sem,qC.layE];refine zW (n370 _ (by omega)) ?_;simp only[go_sem,zU];refine qU rfl rfl ⟨_,rfl⟩ (by decide) ?_;simp only[go_sem];exact jU (pre:=[]) (post:=[]) (qF.plx x) (by simp[zI,qF.layE,qb]) (by simp[qF.layE,qb])
theorem n372(xs:List qF)(hl:xs.length+qH qF.sz xs<=1048576):Fresh Gm 372 [.lst 3 (xs.map qF.enc) false] (.lst 3 (xs.map qF.enc) false):=
 XM qF.isSh qF.plx rfl rfl (by simp) (gk _ Ks) xs (fun x hm=>n746 x (by have:=zq (f:=qF.sz) hm;omega)) (by omega)
theorem n106(x:qJ)(hz:x.sz<=1048576):Fresh Gm 106 [x.enc] x.enc:=by
 refine fI XT (by simp[AV.trees,qJ.tr]) (qJ.plx x) ?_;simp only[XT,qQ,go_sem];refine qW rfl ?_;simp only[go_sem];unfold qJ.sz at hz;refine zW (n184 _ (by omega)) ?_;simp only[go_sem,zU];refine zW (n147 _ (by omega)) ?_;simp only[go_sem,zU];refine zW (n185 _ (by omega)) ?_;simp only[go_sem,qC.layE];refine zW (n370 _ (by omega)) ?_;simp only[go_sem,zU];refine zW (n371 _ (by omega)) ?_;simp only[go_sem,zU];refine zW (n372 _ (by omega)) ?_;simp only[go_sem,zU];refine qU rfl rfl ⟨_,rfl⟩ (by decide) ?_;simp only[go_sem];exact jU (pre:=[]) (post:=[]) (qJ.plx x) (by simp[zI,qJ.layE,qb,Nat.add_assoc]) (by simp[qJ.layE,qb,Nat.add_assoc])
theorem k90(xs:List Int)(k:Int)(h0:0<=k)(hk:k+(qH ctI xs:Nat)<=4611686018427387904)(hz:xs.length<=1073741824):Mark Gm 90 (.lst 1 (xs.map qK) false) (.lst 1 ((mkL mkI ctI xs k).map qK) false) k (k+(qH ctI xs:Nat)):=qi7 (gk _ F90) rfl xs k h0 hk hz
theorem k885(xs:List qG)(k:Int)(h0:0<=k)(hk:k+(qH qG.ct xs:Nat)<=4611686018427387904)(hz:xs.length<=1073741824):Mark Gm 885 (.lst 2 (xs.map qG.enc) false) (.lst 2 ((mkL qG.mrk qG.ct xs k).map qG.enc) false) k (k+(qH qG.ct xs:Nat)):=by
 refine Mark.intro (gk _ F885) (by kernel_rfl) rfl (qn qG.plx xs) (qn qG.plx _) (by simp only[AV.rows,qY qG.mrk qG.ct (enc:=qG.enc) qG.rowsM]) ?_;simp only[F885,qQ,zU,go_sem,nZa];refine Sem.loop (fun i:Nat=>i<=xs.length) (fun i=>(⟨[(0,.slice 2 0 0 xs.length false),(1,.int .i64 (k+((qH qG.ct (xs.take i):Nat):Int))),(5,.int .i64 (i:Nat))],[],(lay (.lst 2 ((mkL qG.mrk qG.ct (xs.take i) k++xs.drop i).map qG.enc) false) 0).2⟩:VSt)) (fun i=>xs.length-i) 0 (by kernel_rfl) (nZl _) (by simp only[List.take_zero,mkL,lNa,List.drop_zero,qH,Int.ofNat_zero,Int.add_zero];exact Can.sub (by simp[go_sem]) (by simp[go_sem])) ?_;intro i hi;simp only[go_sem];apply qM<;>intro hc<;>simp only[hc,go_sem]
 ·have hlt:i<xs.length:=by have:=odT hc;omega
  have hct:=Jo qG.ct hlt;have hcl:=Jn qG.ct xs (i+1);have hrow:=qG.rowsM;rw[lDc hlt,Jc];obtain⟨K,hK⟩:∃K:Int,K=k+((qH qG.ct (xs.take i):Nat):Int):=⟨_,rfl⟩;have hend:k+((qH qG.ct (xs.take (i+1)):Nat):Int)=K+((qG.ct xs[i]:Nat):Int):=by rw[hct,hK];omega
  have hKb:0<=K/\K+((qG.ct xs[i]:Nat):Int)<=4611686018427387904:=by rw[<-hend];omega
  have hmk:(mkL qG.mrk qG.ct (xs.take (i+1)) k++xs.drop (i+1))=mkL qG.mrk qG.ct (xs.take i) k++qG.mrk xs[i] K::xs.drop (i+1):=by rw[Z1 qG.mrk qG.ct hlt,<-hK,lAa];rfl
  have hrx:=hrow xs[i] K;rw[<-hK];obtain⟨y,hy⟩:∃y,y=xs[i]:=⟨_,rfl⟩;rw[<-hy]at hmk hend hKb hrx|-;have hcy:qG.ct y=1+1:=rfl;rw[hcy]at hend hKb;have hA:(qN ((mkL qG.mrk qG.ct (xs.take i) k).map qG.enc) 1).1.length=i:=by rw[z7,lMp,js];simp;omega
  have hoA:=zQ ((mkL qG.mrk qG.ct (xs.take i) k).map qG.enc) 1;have e2:=Jc (enc:=qG.enc) (w:=2) (c:=false) (A:=mkL qG.mrk qG.ct (xs.take i) k) (B:=xs.drop (i+1)) (z:=qG.mrk y K);rw[hrx]at e2;rw[qG.layE]at e2|-;obtain⟨p,hp⟩:∃p,p=1+AV.rowss ((mkL qG.mrk qG.ct (xs.take i) k).map qG.enc):=⟨_,rfl⟩;rw[<-hp]at e2|-;generalize (qN ((xs.drop (i+1)).map qG.enc) (p+y.enc.rows)).1=vB at e2|-;generalize (qN ((xs.drop (i+1)).map qG.enc) (p+y.enc.rows)).2=oB at e2|-;generalize (qN ((mkL qG.mrk qG.ct (xs.take i) k).map qG.enc) 1).1=vA at e2 hA|-;generalize (qN ((mkL qG.mrk qG.ct (xs.take i) k).map qG.enc) 1).2=oA at e2 hoA|-;simp only[zi hlt,go_sem,nZa];refine q8 (e':=.agg [.int .i64 (K),.int .i64 y.Slot]) (by rfl) (by rfl) (jK hA) (by rfl) ?_;simp only[jz hA,zi hlt,lSz,go_sem,nZa];rw[qf (n:=K+1) (by omega) (by omega)]
  try simp only[jK hA,jz hA,zi hlt,lSz,go_sem,nZa]
  refine q8 (e':=.agg [.int .i64 (K),.int .i64 (K+1)]) (by rfl) (by rfl) (jK hA) (by rfl) ?_;simp only[jz hA,lSz,go_sem];rw[qf (n:=K+1+1) (by omega) (by omega)];simp only[qc (show i<4611686018427387904 by omega)];refine qd (i+1) (by omega) (by omega) ?_;have e3:K+1+1=k+((qH qG.ct (xs.take (i+1)):Nat):Int):=by first | (rw[hend];done) | (rw[hend];omega)
  rw[e3];rw[hmk,e2];simp only[qG.mrk,AV.rows,lNa];exact Can.sub (by simp[go_sem]) (by simp[go_sem])
 ·have hge:i=xs.length:=by have:=odF hc;omega
  subst hge;refine Qg (by rw[lTl]) ?_;rw[lTl,List.drop_length,lAn]
theorem k524(xs:List qA)(k:Int)(h0:0<=k)(hk:k+(qH qA.ct xs:Nat)<=4611686018427387904)(hz:xs.length+qH qA.sz xs<=1073741824):Mark Gm 524 (.lst 5 (xs.map qA.enc) false) (.lst 5 ((mkL qA.mrk qA.ct xs k).map qA.enc) false) k (k+(qH qA.ct xs:Nat)):=by
 refine Mark.intro (gk _ kN) (by kernel_rfl) rfl (qn qA.plx xs) (qn qA.plx _) (by simp only[AV.rows,qY qA.mrk qA.ct (enc:=qA.enc) qA.rowsM]) ?_;simp only[kN,qQ,zU,go_sem,nZa];refine Sem.loop (fun i:Nat=>i<=xs.length) (fun i=>(⟨[(0,.slice 5 0 0 xs.length false),(1,.int .i64 (k+((qH qA.ct (xs.take i):Nat):Int))),(5,.int .i64 (i:Nat))],[],(lay (.lst 5 ((mkL qA.mrk qA.ct (xs.take i) k++xs.drop i).map qA.enc) false) 0).2⟩:VSt)) (fun i=>xs.length-i) 0 (by kernel_rfl) (nZl _) (by simp only[List.take_zero,mkL,lNa,List.drop_zero,qH,Int.ofNat_zero,Int.add_zero];exact Can.sub (by simp[go_sem]) (by simp[go_sem])) ?_;intro i hi;simp only[go_sem];apply qM<;>intro hc<;>simp only[hc,go_sem]
 ·have hlt:i<xs.length:=by have:=odT hc;omega
  have hct:=Jo qA.ct hlt;have hcl:=Jn qA.ct xs (i+1);have hrow:=qA.rowsM;rw[lDc hlt,Jc];have hsz:qA.sz xs[i]<=qH qA.sz xs:=zq (f:=qA.sz) (gMm hlt);obtain⟨K,hK⟩:∃K:Int,K=k+((qH qA.ct (xs.take i):Nat):Int):=⟨_,rfl⟩;have hend:k+((qH qA.ct (xs.take (i+1)):Nat):Int)=K+((qA.ct xs[i]:Nat):Int):=by rw[hct,hK];omega
  have hKb:0<=K/\K+((qA.ct xs[i]:Nat):Int)<=4611686018427387904:=by rw[<-hend];omega
  have hmk:(mkL qA.mrk qA.ct (xs.take (i+1)) k++xs.drop (i+1))=mkL qA.mrk qA.ct (xs.take i) k++qA.mrk xs[i] K::xs.drop (i+1):=by rw[Z1 qA.mrk qA.ct hlt,<-hK,lAa];rfl
  have hrx:=hrow xs[i] K;rw[<-hK];obtain⟨y,hy⟩:∃y,y=xs[i]:=⟨_,rfl⟩;rw[<-hy]at hmk hend hKb hrx hsz|-;have hcy:qA.ct y=1+1+1+qH ctI y.Data+qH qG.ct y.Ports:=rfl;rw[hcy]at hend hKb;simp only[qA.sz]at hsz;have hA:(qN ((mkL qA.mrk qA.ct (xs.take i) k).map qA.enc) 1).1.length=i:=by rw[z7,lMp,js];simp;omega
  have hoA:=zQ ((mkL qA.mrk qA.ct (xs.take i) k).map qA.enc) 1;have e2:=Jc (enc:=qA.enc) (w:=5) (c:=false) (A:=mkL qA.mrk qA.ct (xs.take i) k) (B:=xs.drop (i+1)) (z:=qA.mrk y K);rw[hrx]at e2;rw[qA.layE]at e2|-;obtain⟨p,hp⟩:∃p,p=1+AV.rowss ((mkL qA.mrk qA.ct (xs.take i) k).map qA.enc):=⟨_,rfl⟩;rw[<-hp]at e2|-;generalize (qN ((xs.drop (i+1)).map qA.enc) (p+y.enc.rows)).1=vB at e2|-;generalize (qN ((xs.drop (i+1)).map qA.enc) (p+y.enc.rows)).2=oB at e2|-;generalize (qN ((mkL qA.mrk qA.ct (xs.take i) k).map qA.enc) 1).1=vA at e2 hA|-;generalize (qN ((mkL qA.mrk qA.ct (xs.take i) k).map qA.enc) 1).2=oA at e2 hoA|-;simp only[zi hlt,go_sem,nZa];refine q8 (e':=.agg [.int .i64 (K),.int .i64 y.Level,.int .i64 y.Value,.slice 1 (p) 0 y.Data.length false,.slice 2 (p+AV.rows (.lst 1 (y.Data.map qK) false)) 0 y.Ports.length false]) (by rfl) (by rfl) (jK hA) (by rfl) ?_;simp only[jz hA,zi hlt,lSz,go_sem,nZa];rw[qf (n:=K+1) (by omega) (by omega)]
  try simp only[jK hA,jz hA,zi hlt,lSz,go_sem,nZa]
  refine q8 (e':=.agg [.int .i64 (K),.int .i64 (K+1),.int .i64 y.Value,.slice 1 (p) 0 y.Data.length false,.slice 2 (p+AV.rows (.lst 1 (y.Data.map qK) false)) 0 y.Ports.length false]) (by rfl) (by rfl) (jK hA) (by rfl) ?_;simp only[jz hA,zi hlt,lSz,go_sem,nZa];rw[qf (n:=K+1+1) (by omega) (by omega)]
  try simp only[jK hA,jz hA,zi hlt,lSz,go_sem,nZa]
  refine q8 (e':=.agg [.int .i64 (K),.int .i64 (K+1),.int .i64 (K+1+1),.slice 1 (p) 0 y.Data.length false,.slice 2 (p+AV.rows (.lst 1 (y.Data.map qK) false)) 0 y.Ports.length false]) (by rfl) (by rfl) (jK hA) (by rfl) ?_;simp only[jK hA,jz hA,zi hlt,lSz,go_sem,nZa];rw[qf (n:=K+1+1+1) (by omega) (by omega)]
  try simp only[jK hA,jz hA,zi hlt,lSz,go_sem,nZa]
  refine JF (n:=p) (pre:=.row 5 (vA++.agg [.int .i64 (K),.int .i64 (K+1),.int .i64 (K+1+1),.slice 1 (p) 0 y.Data.length false,.slice 2 (p+AV.rows (.lst 1 (y.Data.map qK) false)) 0 y.Ports.length false]::vB) true::(oA++[])) (post:=((lay (.lst 2 (y.Ports.map qG.enc) false) (p+AV.rows (.lst 1 (y.Data.map qK) false))).2++[])++oB) (t:=(.lst 1 (y.Data.map qK) false)) (t':=(.lst 1 ((mkL mkI ctI y.Data (K+1+1+1)).map qK) false)) (k90 y.Data (K+1+1+1) (by omega) (by omega) (by omega)) ?_ ?_ (by rw[zU,lMp]) ?_
  ·first | rfl | (simp only[lCo,lAp,lNi,hoA,AV.rows];done) | (simp only[lCo,lAp,lNi,hoA,AV.rows];omega)
  ·first | rfl | (simp only[lAa,lAn,lCa];done)
  simp only[jK hA,zi hlt,lCa,go_sem,nZa];refine JF (n:=p+AV.rows (.lst 1 (y.Data.map qK) false)) (pre:=.row 5 (vA++.agg [.int .i64 (K),.int .i64 (K+1),.int .i64 (K+1+1),.slice 1 (p) 0 y.Data.length false,.slice 2 (p+AV.rows (.lst 1 (y.Data.map qK) false)) 0 y.Ports.length false]::vB) true::(oA++((lay (.lst 1 ((mkL mkI ctI y.Data (K+1+1+1)).map qK) false) (p)).2))) (post:=([])++oB) (t:=(.lst 2 (y.Ports.map qG.enc) false)) (t':=(.lst 2 ((mkL qG.mrk qG.ct y.Ports (K+1+1+1+((qH ctI y.Data:Nat):Int))).map qG.enc) false)) (k885 y.Ports (K+1+1+1+((qH ctI y.Data:Nat):Int)) (by omega) (by omega) (by omega)) ?_ ?_ (by rw[zU,lMp]) ?_
  ·first | rfl | (simp only[lCo,lAp,hoA,qb,AV.rows,qY mkI ctI (enc:=qK) (fun _ _=>rfl)];done) | (simp only[lCo,lAp,hoA,qb,AV.rows,qY mkI ctI (enc:=qK) (fun _ _=>rfl)];omega)
  ·first | rfl | (simp only[lAa,lNa,lAn,lCa];done)
  simp only[lCa,go_sem];simp only[qc (show i<4611686018427387904 by omega)];refine qd (i+1) (by omega) (by omega) ?_;have e3:K+1+1+1+((qH ctI y.Data:Nat):Int)+((qH qG.ct y.Ports:Nat):Int)=k+((qH qA.ct (xs.take (i+1)):Nat):Int):=by first | (rw[hend];done) | (rw[hend];omega)
  rw[e3];rw[hmk,e2];simp only[qA.mrk,js,AV.rows,lAa,lNa,lAn,qY mkI ctI (enc:=qK) (fun _ _=>rfl)];exact Can.sub (by simp[go_sem]) (by simp[go_sem])
 ·have hge:i=xs.length:=by have:=odF hc;omega
  subst hge;refine Qg (by rw[lTl]) ?_;rw[lTl,List.drop_length,lAn]
theorem k198(x:qC)(k:Int)(h0:0<=k)(hk:k+(x.ctV:Nat)<=4611686018427387904)(hz:x.sz<=1073741824):Mark Gm 198 x.enc (x.mkV k).enc k (k+(x.ctV:Nat)):=by
 refine Mark.intro (gk _ Ke) (by kernel_rfl) rfl (qC.plx x) (qC.plx _) (qC.rowsV x k) ?_;rw[qC.layE,qC.layE];simp only[Ke,qQ,go_sem,nZa];refine qW rfl ?_;simp only[go_sem];unfold qC.ctV at hk;simp only[qC.sz]at hz;refine JF (n:=0) (pre:=[]) (post:=[]) (t:=(.lst 5 (x.Agents.map qA.enc) false)) (t':=(.lst 5 ((mkL qA.mrk qA.ct x.Agents (k)).map qA.enc) false)) (k524 x.Agents (k) (by omega) (by omega) (by omega)) ?_ ?_ (by rw[zU,lMp]) ?_
 ·first | rfl | (simp only[lAp,lNi,qb,AV.rows,qY qA.mrk qA.ct (enc:=qA.enc) qA.rowsM];done) | (simp only[lAp,lNi,qb,AV.rows,qY qA.mrk qA.ct (enc:=qA.enc) qA.rowsM];omega)
 ·first | rfl | (simp only[lAa,lNa,lAn];done)
 simp only[lNa,lAn,go_sem];refine Qg (by first | rfl | (simp only[qC.ctV];done) | (simp only[qC.ctV];omega)) ?_;simp only[qC.mkV]
theorem k225(xs:List qC)(k:Int)(h0:0<=k)(hk:k+(qH qC.ct xs:Nat)<=4611686018427387904)(hz:xs.length+qH qC.sz xs<=1073741824):Mark Gm 225 (.lst 1 (xs.map qC.enc) false) (.lst 1 ((mkL qC.mrk qC.ct xs k).map qC.enc) false) k (k+(qH qC.ct xs:Nat)):=by
 refine Mark.intro (gk _ Kg) (by kernel_rfl) rfl (qn qC.plx xs) (qn qC.plx _) (by simp only[AV.rows,qY qC.mrk qC.ct (enc:=qC.enc) qC.rowsM]) ?_;simp only[Kg,qQ,zU,go_sem,nZa];refine Sem.loop (fun i:Nat=>i<=xs.length) (fun i=>(⟨[(0,.slice 1 0 0 xs.length false),(1,.int .i64 (k+((qH qC.ct (xs.take i):Nat):Int))),(5,.int .i64 (i:Nat))],[],(lay (.lst 1 ((mkL qC.mrk qC.ct (xs.take i) k++xs.drop i).map qC.enc) false) 0).2⟩:VSt)) (fun i=>xs.length-i) 0 (by kernel_rfl) (nZl _) (by simp only[List.take_zero,mkL,lNa,List.drop_zero,qH,Int.ofNat_zero,Int.add_zero];exact Can.sub (by simp[go_sem]) (by simp[go_sem])) ?_;intro i hi;simp only[go_sem];apply qM<;>intro hc<;>simp only[hc,go_sem]
 ·have hlt:i<xs.length:=by have:=odT hc;omega
  have hct:=Jo qC.ct hlt;have hcl:=Jn qC.ct xs (i+1);have hrow:=qC.rowsM;rw[lDc hlt,Jc];have hsz:qC.sz xs[i]<=qH qC.sz xs:=zq (f:=qC.sz) (gMm hlt);obtain⟨K,hK⟩:∃K:Int,K=k+((qH qC.ct (xs.take i):Nat):Int):=⟨_,rfl⟩;have hend:k+((qH qC.ct (xs.take (i+1)):Nat):Int)=K+((qC.ct xs[i]:Nat):Int):=by rw[hct,hK];omega
  have hKb:0<=K/\K+((qC.ct xs[i]:Nat):Int)<=4611686018427387904:=by rw[<-hend];omega
  have hmk:(mkL qC.mrk qC.ct (xs.take (i+1)) k++xs.drop (i+1))=mkL qC.mrk qC.ct (xs.take i) k++qC.mrk xs[i] K::xs.drop (i+1):=by rw[Z1 qC.mrk qC.ct hlt,<-hK,lAa];rfl
  have hrx:=hrow xs[i] K;rw[<-hK];obtain⟨y,hy⟩:∃y,y=xs[i]:=⟨_,rfl⟩;rw[<-hy]at hmk hend hKb hrx hsz|-;have hcy:qC.ct y=qH qA.ct y.Agents:=rfl;rw[hcy]at hend hKb;simp only[qC.sz]at hsz;have hA:(qN ((mkL qC.mrk qC.ct (xs.take i) k).map qC.enc) 1).1.length=i:=by rw[z7,lMp,js];simp;omega
  have hoA:=zQ ((mkL qC.mrk qC.ct (xs.take i) k).map qC.enc) 1;have e2:=Jc (enc:=qC.enc) (w:=1) (c:=false) (A:=mkL qC.mrk qC.ct (xs.take i) k) (B:=xs.drop (i+1)) (z:=qC.mrk y K);rw[hrx]at e2;rw[qC.layE]at e2|-;obtain⟨p,hp⟩:∃p,p=1+AV.rowss ((mkL qC.mrk qC.ct (xs.take i) k).map qC.enc):=⟨_,rfl⟩;rw[<-hp]at e2|-;generalize (qN ((xs.drop (i+1)).map qC.enc) (p+y.enc.rows)).1=vB at e2|-;generalize (qN ((xs.drop (i+1)).map qC.enc) (p+y.enc.rows)).2=oB at e2|-;generalize (qN ((mkL qC.mrk qC.ct (xs.take i) k).map qC.enc) 1).1=vA at e2 hA|-;generalize (qN ((mkL qC.mrk qC.ct (xs.take i) k).map qC.enc) 1).2=oA at e2 hoA|-;simp only[jK hA,zi hlt,go_sem,nZa];refine JF (n:=p) (pre:=.row 1 (vA++.agg [.slice 5 (p) 0 y.Agents.length false]::vB) true::(oA++[])) (post:=([])++oB) (t:=(.lst 5 (y.Agents.map qA.enc) false)) (t':=(.lst 5 ((mkL qA.mrk qA.ct y.Agents (K)).map qA.enc) false)) (k524 y.Agents (K) (by omega) (by omega) (by omega)) ?_ ?_ (by rw[zU,lMp]) ?_
  ·first | rfl | (simp only[lCo,lAp,lNi,hoA];done) | (simp only[lCo,lAp,lNi,hoA];omega)
  ·first | rfl | (simp only[lNa,lAn,lCa];done)
  simp only[lCa,go_sem];simp only[qc (show i<4611686018427387904 by omega)];refine qd (i+1) (by omega) (by omega) ?_;have e3:K+((qH qA.ct y.Agents:Nat):Int)=k+((qH qC.ct (xs.take (i+1)):Nat):Int):=by first | (rw[hend];done) | (rw[hend];omega)
  rw[e3];rw[hmk,e2];simp only[qC.mrk,js,AV.rows,lNa,lAn];exact Can.sub (by simp[go_sem]) (by simp[go_sem])
 ·have hge:i=xs.length:=by have:=odF hc;omega
  subst hge;refine Qg (by rw[lTl]) ?_;rw[lTl,List.drop_length,lAn]
theorem k430(xs:List qE)(k:Int)(h0:0<=k)(hk:k+(qH qE.ct xs:Nat)<=4611686018427387904)(hz:xs.length<=1073741824):Mark Gm 430 (.lst 3 (xs.map qE.enc) false) (.lst 3 ((mkL qE.mrk qE.ct xs k).map qE.enc) false) k (k+(qH qE.ct xs:Nat)):=by
 refine Mark.intro (gk _ K5) (by kernel_rfl) rfl (qn qE.plx xs) (qn qE.plx _) (by simp only[AV.rows,qY qE.mrk qE.ct (enc:=qE.enc) qE.rowsM]) ?_;simp only[K5,qQ,zU,go_sem,nZa];refine Sem.loop (fun i:Nat=>i<=xs.length) (fun i=>(⟨[(0,.slice 3 0 0 xs.length false),(1,.int .i64 (k+((qH qE.ct (xs.take i):Nat):Int))),(5,.int .i64 (i:Nat))],[],(lay (.lst 3 ((mkL qE.mrk qE.ct (xs.take i) k++xs.drop i).map qE.enc) false) 0).2⟩:VSt)) (fun i=>xs.length-i) 0 (by kernel_rfl) (nZl _) (by simp only[List.take_zero,mkL,lNa,List.drop_zero,qH,Int.ofNat_zero,Int.add_zero];exact Can.sub (by simp[go_sem]) (by simp[go_sem])) ?_;intro i hi;simp only[go_sem];apply qM<;>intro hc<;>simp only[hc,go_sem]
 ·have hlt:i<xs.length:=by have:=odT hc;omega
  have hct:=Jo qE.ct hlt;have hcl:=Jn qE.ct xs (i+1);have hrow:=qE.rowsM;rw[lDc hlt,Jc];obtain⟨K,hK⟩:∃K:Int,K=k+((qH qE.ct (xs.take i):Nat):Int):=⟨_,rfl⟩;have hend:k+((qH qE.ct (xs.take (i+1)):Nat):Int)=K+((qE.ct xs[i]:Nat):Int):=by rw[hct,hK];omega
  have hKb:0<=K/\K+((qE.ct xs[i]:Nat):Int)<=4611686018427387904:=by rw[<-hend];omega
  have hmk:(mkL qE.mrk qE.ct (xs.take (i+1)) k++xs.drop (i+1))=mkL qE.mrk qE.ct (xs.take i) k++qE.mrk xs[i] K::xs.drop (i+1):=by rw[Z1 qE.mrk qE.ct hlt,<-hK,lAa];rfl
  have hrx:=hrow xs[i] K;rw[<-hK];obtain⟨y,hy⟩:∃y,y=xs[i]:=⟨_,rfl⟩;rw[<-hy]at hmk hend hKb hrx|-;have hcy:qE.ct y=1+1+1:=rfl;rw[hcy]at hend hKb;have hA:(qN ((mkL qE.mrk qE.ct (xs.take i) k).map qE.enc) 1).1.length=i:=by rw[z7,lMp,js];simp;omega
  have hoA:=zQ ((mkL qE.mrk qE.ct (xs.take i) k).map qE.enc) 1;have e2:=Jc (enc:=qE.enc) (w:=3) (c:=false) (A:=mkL qE.mrk qE.ct (xs.take i) k) (B:=xs.drop (i+1)) (z:=qE.mrk y K);rw[hrx]at e2;rw[qE.layE]at e2|-;obtain⟨p,hp⟩:∃p,p=1+AV.rowss ((mkL qE.mrk qE.ct (xs.take i) k).map qE.enc):=⟨_,rfl⟩;rw[<-hp]at e2|-;generalize (qN ((xs.drop (i+1)).map qE.enc) (p+y.enc.rows)).1=vB at e2|-;generalize (qN ((xs.drop (i+1)).map qE.enc) (p+y.enc.rows)).2=oB at e2|-;generalize (qN ((mkL qE.mrk qE.ct (xs.take i) k).map qE.enc) 1).1=vA at e2 hA|-;generalize (qN ((mkL qE.mrk qE.ct (xs.take i) k).map qE.enc) 1).2=oA at e2 hoA|-;simp only[zi hlt,go_sem,nZa];refine q8 (e':=.agg [.int .i64 (K),.int .i64 y.Def,.int .i64 y.Source]) (by rfl) (by rfl) (jK hA) (by rfl) ?_;simp only[jz hA,zi hlt,lSz,go_sem,nZa];rw[qf (n:=K+1) (by omega) (by omega)]
  try simp only[jK hA,jz hA,zi hlt,lSz,go_sem,nZa]
  refine q8 (e':=.agg [.int .i64 (K),.int .i64 (K+1),.int .i64 y.Source]) (by rfl) (by rfl) (jK hA) (by rfl) ?_;simp only[jz hA,zi hlt,lSz,go_sem,nZa];rw[qf (n:=K+1+1) (by omega) (by omega)]
  try simp only[jK hA,jz hA,zi hlt,lSz,go_sem,nZa]
  refine q8 (e':=.agg [.int .i64 (K),.int .i64 (K+1),.int .i64 (K+1+1)]) (by rfl) (by rfl) (jK hA) (by rfl) ?_;simp only[jz hA,lSz,go_sem];rw[qf (n:=K+1+1+1) (by omega) (by omega)];simp only[qc (show i<4611686018427387904 by omega)];refine qd (i+1) (by omega) (by omega) ?_;have e3:K+1+1+1=k+((qH qE.ct (xs.take (i+1)):Nat):Int):=by first | (rw[hend];done) | (rw[hend];omega)
  rw[e3];rw[hmk,e2];simp only[qE.mrk,AV.rows,lNa];exact Can.sub (by simp[go_sem]) (by simp[go_sem])
 ·have hge:i=xs.length:=by have:=odF hc;omega
  subst hge;refine Qg (by rw[lTl]) ?_;rw[lTl,List.drop_length,lAn]
theorem k431(xs:List qI)(k:Int)(h0:0<=k)(hk:k+(qH qI.ct xs:Nat)<=4611686018427387904)(hz:xs.length<=1073741824):Mark Gm 431 (.lst 2 (xs.map qI.enc) false) (.lst 2 ((mkL qI.mrk qI.ct xs k).map qI.enc) false) k (k+(qH qI.ct xs:Nat)):=by
 refine Mark.intro (gk _ K6) (by kernel_rfl) rfl (qn qI.plx xs) (qn qI.plx _) (by simp only[AV.rows,qY qI.mrk qI.ct (enc:=qI.enc) qI.rowsM]) ?_;simp only[K6,qQ,zU,go_sem,nZa];refine Sem.loop (fun i:Nat=>i<=xs.length) (fun i=>(⟨[(0,.slice 2 0 0 xs.length false),(1,.int .i64 (k+((qH qI.ct (xs.take i):Nat):Int))),(5,.int .i64 (i:Nat))],[],(lay (.lst 2 ((mkL qI.mrk qI.ct (xs.take i) k++xs.drop i).map qI.enc) false) 0).2⟩:VSt)) (fun i=>xs.length-i) 0 (by kernel_rfl) (nZl _) (by simp only[List.take_zero,mkL,lNa,List.drop_zero,qH,Int.ofNat_zero,Int.add_zero];exact Can.sub (by simp[go_sem]) (by simp[go_sem])) ?_;intro i hi;simp only[go_sem];apply qM<;>intro hc<;>simp only[hc,go_sem]
 ·have hlt:i<xs.length:=by have:=odT hc;omega
  have hct:=Jo qI.ct hlt;have hcl:=Jn qI.ct xs (i+1);have hrow:=qI.rowsM;rw[lDc hlt,Jc];obtain⟨K,hK⟩:∃K:Int,K=k+((qH qI.ct (xs.take i):Nat):Int):=⟨_,rfl⟩;have hend:k+((qH qI.ct (xs.take (i+1)):Nat):Int)=K+((qI.ct xs[i]:Nat):Int):=by rw[hct,hK];omega
  have hKb:0<=K/\K+((qI.ct xs[i]:Nat):Int)<=4611686018427387904:=by rw[<-hend];omega
  have hmk:(mkL qI.mrk qI.ct (xs.take (i+1)) k++xs.drop (i+1))=mkL qI.mrk qI.ct (xs.take i) k++qI.mrk xs[i] K::xs.drop (i+1):=by rw[Z1 qI.mrk qI.ct hlt,<-hK,lAa];rfl
  have hrx:=hrow xs[i] K;rw[<-hK];obtain⟨y,hy⟩:∃y,y=xs[i]:=⟨_,rfl⟩;rw[<-hy]at hmk hend hKb hrx|-;have hcy:qI.ct y=1+1:=rfl;rw[hcy]at hend hKb;have hA:(qN ((mkL qI.mrk qI.ct (xs.take i) k).map qI.enc) 1).1.length=i:=by rw[z7,lMp,js];simp;omega
  have hoA:=zQ ((mkL qI.mrk qI.ct (xs.take i) k).map qI.enc) 1;have e2:=Jc (enc:=qI.enc) (w:=2) (c:=false) (A:=mkL qI.mrk qI.ct (xs.take i) k) (B:=xs.drop (i+1)) (z:=qI.mrk y K);rw[hrx]at e2;rw[qI.layE]at e2|-;obtain⟨p,hp⟩:∃p,p=1+AV.rowss ((mkL qI.mrk qI.ct (xs.take i) k).map qI.enc):=⟨_,rfl⟩;rw[<-hp]at e2|-;generalize (qN ((xs.drop (i+1)).map qI.enc) (p+y.enc.rows)).1=vB at e2|-;generalize (qN ((xs.drop (i+1)).map qI.enc) (p+y.enc.rows)).2=oB at e2|-;generalize (qN ((mkL qI.mrk qI.ct (xs.take i) k).map qI.enc) 1).1=vA at e2 hA|-;generalize (qN ((mkL qI.mrk qI.ct (xs.take i) k).map qI.enc) 1).2=oA at e2 hoA|-;simp only[zi hlt,go_sem,nZa];refine q8 (e':=.agg [.int .i64 (K),.int .i64 y.Value]) (by rfl) (by rfl) (jK hA) (by rfl) ?_;simp only[jz hA,zi hlt,lSz,go_sem,nZa];rw[qf (n:=K+1) (by omega) (by omega)]
  try simp only[jK hA,jz hA,zi hlt,lSz,go_sem,nZa]
  refine q8 (e':=.agg [.int .i64 (K),.int .i64 (K+1)]) (by rfl) (by rfl) (jK hA) (by rfl) ?_;simp only[jz hA,lSz,go_sem];rw[qf (n:=K+1+1) (by omega) (by omega)];simp only[qc (show i<4611686018427387904 by omega)];refine qd (i+1) (by omega) (by omega) ?_;have e3:K+1+1=k+((qH qI.ct (xs.take (i+1)):Nat):Int):=by first | (rw[hend];done) | (rw[hend];omega)
  rw[e3];rw[hmk,e2];simp only[qI.mrk,AV.rows,lNa];exact Can.sub (by simp[go_sem]) (by simp[go_sem])
 ·have hge:i=xs.length:=by have:=odF hc;omega
  subst hge;refine Qg (by rw[lTl]) ?_;rw[lTl,List.drop_length,lAn]
theorem k432(xs:List qF)(k:Int)(h0:0<=k)(hk:k+(qH qF.ct xs:Nat)<=4611686018427387904)(hz:xs.length+qH qF.sz xs<=1073741824):Mark Gm 432 (.lst 3 (xs.map qF.enc) false) (.lst 3 ((mkL qF.mrk qF.ct xs k).map qF.enc) false) k (k+(qH qF.ct xs:Nat)):=by
 refine Mark.intro (gk _ K7) (by kernel_rfl) rfl (qn qF.plx xs) (qn qF.plx _) (by simp only[AV.rows,qY qF.mrk qF.ct (enc:=qF.enc) qF.rowsM]) ?_;simp only[K7,qQ,zU,go_sem,nZa];refine Sem.loop (fun i:Nat=>i<=xs.length) (fun i=>(⟨[(0,.slice 3 0 0 xs.length false),(1,.int .i64 (k+((qH qF.ct (xs.take i):Nat):Int))),(5,.int .i64 (i:Nat))],[],(lay (.lst 3 ((mkL qF.mrk qF.ct (xs.take i) k++xs.drop i).map qF.enc) false) 0).2⟩:VSt)) (fun i=>xs.length-i) 0 (by kernel_rfl) (nZl _) (by simp only[List.take_zero,mkL,lNa,List.drop_zero,qH,Int.ofNat_zero,Int.add_zero];exact Can.sub (by simp[go_sem]) (by simp[go_sem])) ?_;intro i hi;simp only[go_sem];apply qM<;>intro hc<;>simp only[hc,go_sem]
 ·have hlt:i<xs.length:=by have:=odT hc;omega
  have hct:=Jo qF.ct hlt;have hcl:=Jn qF.ct xs (i+1);have hrow:=qF.rowsM;rw[lDc hlt,Jc];have hsz:qF.sz xs[i]<=qH qF.sz xs:=zq (f:=qF.sz) (gMm hlt);obtain⟨K,hK⟩:∃K:Int,K=k+((qH qF.ct (xs.take i):Nat):Int):=⟨_,rfl⟩;have hend:k+((qH qF.ct (xs.take (i+1)):Nat):Int)=K+((qF.ct xs[i]:Nat):Int):=by rw[hct,hK];omega
  have hKb:0<=K/\K+((qF.ct xs[i]:Nat):Int)<=4611686018427387904:=by rw[<-hend];omega
  have hmk:(mkL qF.mrk qF.ct (xs.take (i+1)) k++xs.drop (i+1))=mkL qF.mrk qF.ct (xs.take i) k++qF.mrk xs[i] K::xs.drop (i+1):=by rw[Z1 qF.mrk qF.ct hlt,<-hK,lAa];rfl
  have hrx:=hrow xs[i] K;rw[<-hK];obtain⟨y,hy⟩:∃y,y=xs[i]:=⟨_,rfl⟩;rw[<-hy]at hmk hend hKb hrx hsz|-;have hcy:qF.ct y=1+qH qA.ct y.Net.Agents+qH qE.ct y.Origins:=rfl;rw[hcy]at hend hKb;simp only[qF.sz,qC.sz]at hsz;have hA:(qN ((mkL qF.mrk qF.ct (xs.take i) k).map qF.enc) 1).1.length=i:=by rw[z7,lMp,js];simp;omega
  have hoA:=zQ ((mkL qF.mrk qF.ct (xs.take i) k).map qF.enc) 1;have e2:=Jc (enc:=qF.enc) (w:=3) (c:=false) (A:=mkL qF.mrk qF.ct (xs.take i) k) (B:=xs.drop (i+1)) (z:=qF.mrk y K);rw[hrx]at e2;rw[qF.layE]at e2|-;obtain⟨p,hp⟩:∃p,p=1+AV.rowss ((mkL qF.mrk qF.ct (xs.take i) k).map qF.enc):=⟨_,rfl⟩;rw[<-hp]at e2|-;generalize (qN ((xs.drop (i+1)).map qF.enc) (p+y.enc.rows)).1=vB at e2|-;generalize (qN ((xs.drop (i+1)).map qF.enc) (p+y.enc.rows)).2=oB at e2|-;generalize (qN ((mkL qF.mrk qF.ct (xs.take i) k).map qF.enc) 1).1=vA at e2 hA|-;generalize (qN ((mkL qF.mrk qF.ct (xs.take i) k).map qF.enc) 1).2=oA at e2 hoA|-;simp only[zi hlt,go_sem,nZa];refine q8 (e':=.agg [.int .i64 (K),.slice 5 (p) 0 y.Net.Agents.length false,.slice 3 (p+AV.rows (.lst 5 (y.Net.Agents.map qA.enc) false)) 0 y.Origins.length false]) (by rfl) (by rfl) (jK hA) (by rfl) ?_;simp only[jK hA,jz hA,zi hlt,lSz,go_sem,nZa];rw[qf (n:=K+1) (by omega) (by omega)]
  try simp only[jK hA,jz hA,zi hlt,lSz,go_sem,nZa]
  refine JF (n:=p) (pre:=.row 3 (vA++.agg [.int .i64 (K),.slice 5 (p) 0 y.Net.Agents.length false,.slice 3 (p+AV.rows (.lst 5 (y.Net.Agents.map qA.enc) false)) 0 y.Origins.length false]::vB) true::(oA++[])) (post:=((lay (.lst 3 (y.Origins.map qE.enc) false) (p+AV.rows (.lst 5 (y.Net.Agents.map qA.enc) false))).2++[])++oB) (t:=(.lst 5 (y.Net.Agents.map qA.enc) false)) (t':=(.lst 5 ((mkL qA.mrk qA.ct y.Net.Agents (K+1)).map qA.enc) false)) (k524 y.Net.Agents (K+1) (by omega) (by omega) (by omega)) ?_ ?_ (by rw[zU,lMp]) ?_
  ·first | rfl | (simp only[lCo,lAp,lNi,hoA,AV.rows];done) | (simp only[lCo,lAp,lNi,hoA,AV.rows];omega)
  ·first | rfl | (simp only[lAa,lAn,lCa];done)
  simp only[jK hA,zi hlt,lCa,go_sem,nZa];refine JF (n:=p+AV.rows (.lst 5 (y.Net.Agents.map qA.enc) false)) (pre:=.row 3 (vA++.agg [.int .i64 (K),.slice 5 (p) 0 y.Net.Agents.length false,.slice 3 (p+AV.rows (.lst 5 (y.Net.Agents.map qA.enc) false)) 0 y.Origins.length false]::vB) true::(oA++((lay (.lst 5 ((mkL qA.mrk qA.ct y.Net.Agents (K+1)).map qA.enc) false) (p)).2))) (post:=([])++oB) (t:=(.lst 3 (y.Origins.map qE.enc) false)) (t':=(.lst 3 ((mkL qE.mrk qE.ct y.Origins (K+1+((qH qA.ct y.Net.Agents:Nat):Int))).map qE.enc) false)) (k430 y.Origins (K+1+((qH qA.ct y.Net.Agents:Nat):Int)) (by omega) (by omega) (by omega)) ?_ ?_ (by rw[zU,lMp]) ?_
  ·first | rfl | (simp only[lCo,lAp,hoA,qb,AV.rows,qY qA.mrk qA.ct (enc:=qA.enc) qA.rowsM];done) | (simp only[lCo,lAp,hoA,qb,AV.rows,qY qA.mrk qA.ct (enc:=qA.enc) qA.rowsM];omega)
  ·first | rfl | (simp only[lAa,lNa,lAn,lCa];done)
  simp only[lCa,go_sem];simp only[qc (show i<4611686018427387904 by omega)];refine qd (i+1) (by omega) (by omega) ?_;have e3:K+1+((qH qA.ct y.Net.Agents:Nat):Int)+((qH qE.ct y.Origins:Nat):Int)=k+((qH qF.ct (xs.take (i+1)):Nat):Int):=by first | (rw[hend];done) | (rw[hend];omega)
  rw[e3];rw[hmk,e2];simp only[qF.mrk,js,AV.rows,lAa,lNa,lAn,qY qA.mrk qA.ct (enc:=qA.enc) qA.rowsM];exact Can.sub (by simp[go_sem]) (by simp[go_sem])
 ·have hge:i=xs.length:=by have:=odF hc;omega
  subst hge;refine Qg (by rw[lTl]) ?_;rw[lTl,List.drop_length,lAn]
theorem k136(x:qJ)(k:Int)(h0:0<=k)(hk:k+(x.ctV:Nat)<=4611686018427387904)(hz:x.sz<=1073741824):Mark Gm 136 x.enc (x.mkV k).enc k (k+(x.ctV:Nat)):=by
 refine Mark.intro (gk _ U6) (by kernel_rfl) rfl (qJ.plx x) (qJ.plx _) (qJ.rowsV x k) ?_;rw[qJ.layE,qJ.layE];simp only[U6,qQ,go_sem,nZa];refine qW rfl ?_;simp only[go_sem];unfold qJ.ctV at hk;simp only[qJ.sz,qC.sz]at hz;refine JF (n:=0) (pre:=[]) (post:=(lay (.lst 1 (x.Schedule.map qK) false) (AV.rows (.lst 1 (x.Book.map qC.enc) false))).2++((lay (.lst 5 (x.Net.Agents.map qA.enc) false) (AV.rows (.lst 1 (x.Book.map qC.enc) false)+AV.rows (.lst 1 (x.Schedule.map qK) false))).2++((lay (.lst 3 (x.Origins.map qE.enc) false) (AV.rows (.lst 1 (x.Book.map qC.enc) false)+AV.rows (.lst 1 (x.Schedule.map qK) false)+AV.rows (.lst 5 (x.Net.Agents.map qA.enc) false))).2++((lay (.lst 2 (x.Breaks.map qI.enc) false) (AV.rows (.lst 1 (x.Book.map qC.enc) false)+AV.rows (.lst 1 (x.Schedule.map qK) false)+AV.rows (.lst 5 (x.Net.Agents.map qA.enc) false)+AV.rows (.lst 3 (x.Origins.map qE.enc) false))).2++((lay (.lst 3 (x.Points.map qF.enc) false) (AV.rows (.lst 1 (x.Book.map qC.enc) false)+AV.rows (.lst 1 (x.Schedule.map qK) false)+AV.rows (.lst 5 (x.Net.Agents.map qA.enc) false)+AV.rows (.lst 3 (x.Origins.map qE.enc) false)+AV.rows (.lst 2 (x.Breaks.map qI.enc) false))).2++[]))))) (t:=(.lst 1 (x.Book.map qC.enc) false)) (t':=(.lst 1 ((mkL qC.mrk qC.ct x.Book (k)).map qC.enc) false)) (k225 x.Book (k) (by omega) (by omega) (by omega)) ?_ ?_ (by rw[zU,lMp]) ?_
 ·first | rfl | (simp only[lAp,lNi,qb,AV.rows,qY qA.mrk qA.ct (enc:=qA.enc) qA.rowsM,qY qI.mrk qI.ct (enc:=qI.enc) qI.rowsM,qY qF.mrk qF.ct (enc:=qF.enc) qF.rowsM,qY qC.mrk qC.ct (enc:=qC.enc) qC.rowsM,qY qE.mrk qE.ct (enc:=qE.enc) qE.rowsM,qY mkI ctI (enc:=qK) (fun _ _=>rfl)];done) | (simp only[lAp,lNi,qb,AV.rows,qY qA.mrk qA.ct (enc:=qA.enc) qA.rowsM,qY qI.mrk qI.ct (enc:=qI.enc) qI.rowsM,qY qF.mrk qF.ct (enc:=qF.enc) qF.rowsM,qY qC.mrk qC.ct (enc:=qC.enc) qC.rowsM,qY qE.mrk qE.ct (enc:=qE.enc) qE.rowsM,qY mkI ctI (enc:=qK) (fun _ _=>rfl)];omega)
 ·first | rfl | (simp only[lAa,lNa,lAn];done)
 simp only[lNa,lAn,go_sem];refine JF (n:=AV.rows (.lst 1 (x.Book.map qC.enc) false)) (pre:=(lay (.lst 1 ((mkL qC.mrk qC.ct x.Book (k)).map qC.enc) false) (0)).2) (post:=(lay (.lst 5 (x.Net.Agents.map qA.enc) false) (AV.rows (.lst 1 (x.Book.map qC.enc) false)+AV.rows (.lst 1 (x.Schedule.map qK) false))).2++((lay (.lst 3 (x.Origins.map qE.enc) false) (AV.rows (.lst 1 (x.Book.map qC.enc) false)+AV.rows (.lst 1 (x.Schedule.map qK) false)+AV.rows (.lst 5 (x.Net.Agents.map qA.enc) false))).2++((lay (.lst 2 (x.Breaks.map qI.enc) false) (AV.rows (.lst 1 (x.Book.map qC.enc) false)+AV.rows (.lst 1 (x.Schedule.map qK) false)+AV.rows (.lst 5 (x.Net.Agents.map qA.enc) false)+AV.rows (.lst 3 (x.Origins.map qE.enc) false))).2++((lay (.lst 3 (x.Points.map qF.enc) false) (AV.rows (.lst 1 (x.Book.map qC.enc) false)+AV.rows (.lst 1 (x.Schedule.map qK) false)+AV.rows (.lst 5 (x.Net.Agents.map qA.enc) false)+AV.rows (.lst 3 (x.Origins.map qE.enc) false)+AV.rows (.lst 2 (x.Breaks.map qI.enc) false))).2++[])))) (t:=(.lst 1 (x.Schedule.map qK) false)) (t':=(.lst 1 ((mkL mkI ctI x.Schedule (k+((qH qC.ct x.Book:Nat):Int))).map qK) false)) (k90 x.Schedule (k+((qH qC.ct x.Book:Nat):Int)) (by omega) (by omega) (by omega)) ?_ ?_ (by rw[zU,lMp]) ?_
 ·first | rfl | (simp only[qb,AV.rows,qY qC.mrk qC.ct (enc:=qC.enc) qC.rowsM];done) | (simp only[lAp,lNi,qb,AV.rows,qY qA.mrk qA.ct (enc:=qA.enc) qA.rowsM,qY qI.mrk qI.ct (enc:=qI.enc) qI.rowsM,qY qF.mrk qF.ct (enc:=qF.enc) qF.rowsM,qY qC.mrk qC.ct (enc:=qC.enc) qC.rowsM,qY qE.mrk qE.ct (enc:=qE.enc) qE.rowsM,qY mkI ctI (enc:=qK) (fun _ _=>rfl)];omega)
 ·first | rfl | (simp only[lAn];done)
 simp only[lAn,go_sem];refine JF (n:=AV.rows (.lst 1 (x.Book.map qC.enc) false)+AV.rows (.lst 1 (x.Schedule.map qK) false)) (pre:=(lay (.lst 1 ((mkL qC.mrk qC.ct x.Book (k)).map qC.enc) false) (0)).2++(lay (.lst 1 ((mkL mkI ctI x.Schedule (k+((qH qC.ct x.Book:Nat):Int))).map qK) false) (AV.rows (.lst 1 (x.Book.map qC.enc) false))).2) (post:=(lay (.lst 3 (x.Origins.map qE.enc) false) (AV.rows (.lst 1 (x.Book.map qC.enc) false)+AV.rows (.lst 1 (x.Schedule.map qK) false)+AV.rows (.lst 5 (x.Net.Agents.map qA.enc) false))).2++((lay (.lst 2 (x.Breaks.map qI.enc) false) (AV.rows (.lst 1 (x.Book.map qC.enc) false)+AV.rows (.lst 1 (x.Schedule.map qK) false)+AV.rows (.lst 5 (x.Net.Agents.map qA.enc) false)+AV.rows (.lst 3 (x.Origins.map qE.enc) false))).2++((lay (.lst 3 (x.Points.map qF.enc) false) (AV.rows (.lst 1 (x.Book.map qC.enc) false)+AV.rows (.lst 1 (x.Schedule.map qK) false)+AV.rows (.lst 5 (x.Net.Agents.map qA.enc) false)+AV.rows (.lst 3 (x.Origins.map qE.enc) false)+AV.rows (.lst 2 (x.Breaks.map qI.enc) false))).2++[]))) (t:=x.Net.enc) (t':=(x.Net.mkV (k+((qH qC.ct x.Book:Nat):Int)+((qH ctI x.Schedule:Nat):Int))).enc) (k198 x.Net (k+((qH qC.ct x.Book:Nat):Int)+((qH ctI x.Schedule:Nat):Int)) (by omega) (by simp only[qC.ctV];omega) (by simp only[qC.sz];omega)) ?_ ?_ ?_ ?_
 ·first | rfl | (simp only[lAp,qb,AV.rows,qY qC.mrk qC.ct (enc:=qC.enc) qC.rowsM,qY mkI ctI (enc:=qK) (fun _ _=>rfl)];done) | (simp only[lAp,lNi,qb,AV.rows,qY qA.mrk qA.ct (enc:=qA.enc) qA.rowsM,qY qI.mrk qI.ct (enc:=qI.enc) qI.rowsM,qY qF.mrk qF.ct (enc:=qF.enc) qF.rowsM,qY qC.mrk qC.ct (enc:=qC.enc) qC.rowsM,qY qE.mrk qE.ct (enc:=qE.enc) qE.rowsM,qY mkI ctI (enc:=qK) (fun _ _=>rfl)];omega)
 ·first | rfl | (simp only[qC.layE,lAa,lAn];done)
 ·rw[qC.layE]
 simp only[qC.layE,qC.mkV,qC.ctV,lAa,lAn,go_sem];refine JF (n:=AV.rows (.lst 1 (x.Book.map qC.enc) false)+AV.rows (.lst 1 (x.Schedule.map qK) false)+AV.rows (.lst 5 (x.Net.Agents.map qA.enc) false)) (pre:=(lay (.lst 1 ((mkL qC.mrk qC.ct x.Book (k)).map qC.enc) false) (0)).2++(lay (.lst 1 ((mkL mkI ctI x.Schedule (k+((qH qC.ct x.Book:Nat):Int))).map qK) false) (AV.rows (.lst 1 (x.Book.map qC.enc) false))).2++(lay (.lst 5 ((mkL qA.mrk qA.ct x.Net.Agents (k+((qH qC.ct x.Book:Nat):Int)+((qH ctI x.Schedule:Nat):Int))).map qA.enc) false) (AV.rows (.lst 1 (x.Book.map qC.enc) false)+AV.rows (.lst 1 (x.Schedule.map qK) false))).2) (post:=(lay (.lst 2 (x.Breaks.map qI.enc) false) (AV.rows (.lst 1 (x.Book.map qC.enc) false)+AV.rows (.lst 1 (x.Schedule.map qK) false)+AV.rows (.lst 5 (x.Net.Agents.map qA.enc) false)+AV.rows (.lst 3 (x.Origins.map qE.enc) false))).2++((lay (.lst 3 (x.Points.map qF.enc) false) (AV.rows (.lst 1 (x.Book.map qC.enc) false)+AV.rows (.lst 1 (x.Schedule.map qK) false)+AV.rows (.lst 5 (x.Net.Agents.map qA.enc) false)+AV.rows (.lst 3 (x.Origins.map qE.enc) false)+AV.rows (.lst 2 (x.Breaks.map qI.enc) false))).2++[])) (t:=(.lst 3 (x.Origins.map qE.enc) false)) (t':=(.lst 3 ((mkL qE.mrk qE.ct x.Origins (k+((qH qC.ct x.Book:Nat):Int)+((qH ctI x.Schedule:Nat):Int)+((qH qA.ct x.Net.Agents:Nat):Int))).map qE.enc) false)) (k430 x.Origins (k+((qH qC.ct x.Book:Nat):Int)+((qH ctI x.Schedule:Nat):Int)+((qH qA.ct x.Net.Agents:Nat):Int)) (by omega) (by omega) (by omega)) ?_ ?_ (by rw[zU,lMp]) ?_
 ·first | rfl | (simp only[lAp,qb,AV.rows,qY qA.mrk qA.ct (enc:=qA.enc) qA.rowsM,qY qC.mrk qC.ct (enc:=qC.enc) qC.rowsM,qY mkI ctI (enc:=qK) (fun _ _=>rfl)];done) | (simp only[lAp,lNi,qb,AV.rows,qY qA.mrk qA.ct (enc:=qA.enc) qA.rowsM,qY qI.mrk qI.ct (enc:=qI.enc) qI.rowsM,qY qF.mrk qF.ct (enc:=qF.enc) qF.rowsM,qY qC.mrk qC.ct (enc:=qC.enc) qC.rowsM,qY qE.mrk qE.ct (enc:=qE.enc) qE.rowsM,qY mkI ctI (enc:=qK) (fun _ _=>rfl)];omega)
 ·first | rfl | (simp only[lAa,lAn];done)
 simp only[lAa,lAn,go_sem];refine JF (n:=AV.rows (.lst 1 (x.Book.map qC.enc) false)+AV.rows (.lst 1 (x.Schedule.map qK) false)+AV.rows (.lst 5 (x.Net.Agents.map qA.enc) false)+AV.rows (.lst 3 (x.Origins.map qE.enc) false)) (pre:=(lay (.lst 1 ((mkL qC.mrk qC.ct x.Book (k)).map qC.enc) false) (0)).2++(lay (.lst 1 ((mkL mkI ctI x.Schedule (k+((qH qC.ct x.Book:Nat):Int))).map qK) false) (AV.rows (.lst 1 (x.Book.map qC.enc) false))).2++(lay (.lst 5 ((mkL qA.mrk qA.ct x.Net.Agents (k+((qH qC.ct x.Book:Nat):Int)+((qH ctI x.Schedule:Nat):Int))).map qA.enc) false) (AV.rows (.lst 1 (x.Book.map qC.enc) false)+AV.rows (.lst 1 (x.Schedule.map qK) false))).2++(lay (.lst 3 ((mkL qE.mrk qE.ct x.Origins (k+((qH qC.ct x.Book:Nat):Int)+((qH ctI x.Schedule:Nat):Int)+((qH qA.ct x.Net.Agents:Nat):Int))).map qE.enc) false) (AV.rows (.lst 1 (x.Book.map qC.enc) false)+AV.rows (.lst 1 (x.Schedule.map qK) false)+AV.rows (.lst 5 (x.Net.Agents.map qA.enc) false))).2) (post:=(lay (.lst 3 (x.Points.map qF.enc) false) (AV.rows (.lst 1 (x.Book.map qC.enc) false)+AV.rows (.lst 1 (x.Schedule.map qK) false)+AV.rows (.lst 5 (x.Net.Agents.map qA.enc) false)+AV.rows (.lst 3 (x.Origins.map qE.enc) false)+AV.rows (.lst 2 (x.Breaks.map qI.enc) false))).2++[]) (t:=(.lst 2 (x.Breaks.map qI.enc) false)) (t':=(.lst 2 ((mkL qI.mrk qI.ct x.Breaks (k+((qH qC.ct x.Book:Nat):Int)+((qH ctI x.Schedule:Nat):Int)+((qH qA.ct x.Net.Agents:Nat):Int)+((qH qE.ct x.Origins:Nat):Int))).map qI.enc) false)) (k431 x.Breaks (k+((qH qC.ct x.Book:Nat):Int)+((qH ctI x.Schedule:Nat):Int)+((qH qA.ct x.Net.Agents:Nat):Int)+((qH qE.ct x.Origins:Nat):Int)) (by omega) (by omega) (by omega)) ?_ ?_ (by rw[zU,lMp]) ?_
 ·first | rfl | (simp only[lAp,qb,AV.rows,qY qA.mrk qA.ct (enc:=qA.enc) qA.rowsM,qY qC.mrk qC.ct (enc:=qC.enc) qC.rowsM,qY qE.mrk qE.ct (enc:=qE.enc) qE.rowsM,qY mkI ctI (enc:=qK) (fun _ _=>rfl)];done) | (simp only[lAp,lNi,qb,AV.rows,qY qA.mrk qA.ct (enc:=qA.enc) qA.rowsM,qY qI.mrk qI.ct (enc:=qI.enc) qI.rowsM,qY qF.mrk qF.ct (enc:=qF.enc) qF.rowsM,qY qC.mrk qC.ct (enc:=qC.enc) qC.rowsM,qY qE.mrk qE.ct (enc:=qE.enc) qE.rowsM,qY mkI ctI (enc:=qK) (fun _ _=>rfl)];omega)
 ·first | rfl | (simp only[lAa,lAn];done)
 simp only[lAa,lAn,go_sem];refine JF (n:=AV.rows (.lst 1 (x.Book.map qC.enc) false)+AV.rows (.lst 1 (x.Schedule.map qK) false)+AV.rows (.lst 5 (x.Net.Agents.map qA.enc) false)+AV.rows (.lst 3 (x.Origins.map qE.enc) false)+AV.rows (.lst 2 (x.Breaks.map qI.enc) false)) (pre:=(lay (.lst 1 ((mkL qC.mrk qC.ct x.Book (k)).map qC.enc) false) (0)).2++(lay (.lst 1 ((mkL mkI ctI x.Schedule (k+((qH qC.ct x.Book:Nat):Int))).map qK) false) (AV.rows (.lst 1 (x.Book.map qC.enc) false))).2++(lay (.lst 5 ((mkL qA.mrk qA.ct x.Net.Agents (k+((qH qC.ct x.Book:Nat):Int)+((qH ctI x.Schedule:Nat):Int))).map qA.enc) false) (AV.rows (.lst 1 (x.Book.map qC.enc) false)+AV.rows (.lst 1 (x.Schedule.map qK) false))).2++(lay (.lst 3 ((mkL qE.mrk qE.ct x.Origins (k+((qH qC.ct x.Book:Nat):Int)+((qH ctI x.Schedule:Nat):Int)+((qH qA.ct x.Net.Agents:Nat):Int))).map qE.enc) false) (AV.rows (.lst 1 (x.Book.map qC.enc) false)+AV.rows (.lst 1 (x.Schedule.map qK) false)+AV.rows (.lst 5 (x.Net.Agents.map qA.enc) false))).2++(lay (.lst 2 ((mkL qI.mrk qI.ct x.Breaks (k+((qH qC.ct x.Book:Nat):Int)+((qH ctI x.Schedule:Nat):Int)+((qH qA.ct x.Net.Agents:Nat):Int)+((qH qE.ct x.Origins:Nat):Int))).map qI.enc) false) (AV.rows (.lst 1 (x.Book.map qC.enc) false)+AV.rows (.lst 1 (x.Schedule.map qK) false)+AV.rows (.lst 5 (x.Net.Agents.map qA.enc) false)+AV.rows (.lst 3 (x.Origins.map qE.enc) false))).2) (post:=[]) (t:=(.lst 3 (x.Points.map qF.enc) false)) (t':=(.lst 3 ((mkL qF.mrk qF.ct x.Points (k+((qH qC.ct x.Book:Nat):Int)+((qH ctI x.Schedule:Nat):Int)+((qH qA.ct x.Net.Agents:Nat):Int)+((qH qE.ct x.Origins:Nat):Int)+((qH qI.ct x.Breaks:Nat):Int))).map qF.enc) false)) (k432 x.Points (k+((qH qC.ct x.Book:Nat):Int)+((qH ctI x.Schedule:Nat):Int)+((qH qA.ct x.Net.Agents:Nat):Int)+((qH qE.ct x.Origins:Nat):Int)+((qH qI.ct x.Breaks:Nat):Int)) (by omega) (by omega) (by omega)) ?_ ?_ (by rw[zU,lMp]) ?_
 ·first | rfl | (simp only[lAp,qb,AV.rows,qY qA.mrk qA.ct (enc:=qA.enc) qA.rowsM,qY qI.mrk qI.ct (enc:=qI.enc) qI.rowsM,qY qC.mrk qC.ct (enc:=qC.enc) qC.rowsM,qY qE.mrk qE.ct (enc:=qE.enc) qE.rowsM,qY mkI ctI (enc:=qK) (fun _ _=>rfl)];done) | (simp only[lAp,lNi,qb,AV.rows,qY qA.mrk qA.ct (enc:=qA.enc) qA.rowsM,qY qI.mrk qI.ct (enc:=qI.enc) qI.rowsM,qY qF.mrk qF.ct (enc:=qF.enc) qF.rowsM,qY qC.mrk qC.ct (enc:=qC.enc) qC.rowsM,qY qE.mrk qE.ct (enc:=qE.enc) qE.rowsM,qY mkI ctI (enc:=qK) (fun _ _=>rfl)];omega)
 ·first | rfl | (simp only[lAa,lAn];done)
 simp only[lAa,lAn,go_sem];refine Qg (by first | rfl | (simp only[qJ.ctV];done) | (simp only[qJ.ctV];omega)) ?_;simp only[qJ.mkV,AV.rows,qY qA.mrk qA.ct (enc:=qA.enc) qA.rowsM,qY qI.mrk qI.ct (enc:=qI.enc) qI.rowsM,qY qC.mrk qC.ct (enc:=qC.enc) qC.rowsM,qY qE.mrk qE.ct (enc:=qE.enc) qE.rowsM,qY mkI ctI (enc:=qK) (fun _ _=>rfl)]
theorem q92(xs:List Int)(k:Int)(h0:0<=k)(hk:k+(qH ctI xs:Nat)<=4611686018427387904)(hz:xs.length<=1073741824):Pure Gm 92 [.lst 1 ((mkL mkI ctI xs k).map qK) false,.int .i64 k] (.int .i64 (k+(qH ctI xs:Nat))):=qh9 (gk _ F92) rfl xs k h0 hk hz
theorem q886(xs:List qG)(k:Int)(h0:0<=k)(hk:k+(qH qG.ct xs:Nat)<=4611686018427387904)(hz:xs.length<=1073741824):Pure Gm 886 [(.lst 2 ((mkL qG.mrk qG.ct xs k).map qG.enc) false),.int .i64 k] (.int .i64 (k+(qH qG.ct xs:Nat))):=by
 refine pI F886 (by simp[AV.trees,AV.tree,qV qG.isSh.tree]) rfl ?_;simp only[F886,qQ,go_sem,nZa];refine Sem.loop (fun i:Nat=>i<=xs.length) (fun i=>(⟨[(0,(.lst 2 ((mkL qG.mrk qG.ct xs k).map qG.enc) false)),(1,.int .i64 (k+((qH qG.ct (xs.take i):Nat):Int))),(5,.int .i64 (i:Nat))],[],[]⟩:VSt)) (fun i=>xs.length-i) 0 (by kernel_rfl) (nZl _) (by simp only[List.take_zero,qH,Int.ofNat_zero,Int.add_zero];exact Can.sub (by simp[go_sem]) (by simp[go_sem])) ?_;intro i hi;simp only[js,go_sem];apply qM<;>intro hc<;>simp only[hc,go_sem]
 ·have hlt:i<xs.length:=by have:=odT hc;omega
  have hct:=Jo qG.ct hlt;have hcl:=Jn qG.ct xs (i+1);have hget:=Z0 qG.mrk qG.ct hlt k;obtain⟨K,hK⟩:∃K:Int,K=k+((qH qG.ct (xs.take i):Nat):Int):=⟨_,rfl⟩;have hend:k+((qH qG.ct (xs.take (i+1)):Nat):Int)=K+((qG.ct xs[i]:Nat):Int):=by rw[hct,hK];omega
  have hKb:0<=K/\K+((qG.ct xs[i]:Nat):Int)<=4611686018427387904:=by rw[<-hend];omega
  rw[<-hK]at hget|-;obtain⟨y,hy⟩:∃y,y=xs[i]:=⟨_,rfl⟩;rw[<-hy]at hget hend hKb;have hcy:qG.ct y=1+1:=rfl;rw[hcy]at hend hKb;simp only[gMp,hget,oMs,go_sem,nZa]
  try simp only[gMp,hget,oMs,qG.mrk,go_sem,nZa]
  rw[qf (n:=K+1) (by omega) (by omega)]
  try simp only[go_sem]
  try simp only[gMp,hget,oMs,qG.mrk,go_sem,nZa]
  rw[qf (n:=K+1+1) (by omega) (by omega)]
  try simp only[gMp,hget,oMs,qG.mrk,go_sem,nZa]
  simp only[qc (show i<4611686018427387904 by omega)];refine qd (i+1) (by omega) (by omega) ?_;have e3:K+1+1=k+((qH qG.ct (xs.take (i+1)):Nat):Int):=by first | (rw[hend];done) | (rw[hend];omega)
  rw[e3];exact Can.sub (by simp[go_sem]) (by simp[go_sem])
 ·have hge:i=xs.length:=by have:=odF hc;omega
  subst hge;refine qR rfl ?_;rw[lTl]
theorem q525(xs:List qA)(k:Int)(h0:0<=k)(hk:k+(qH qA.ct xs:Nat)<=4611686018427387904)(hz:xs.length+qH qA.sz xs<=1073741824):Pure Gm 525 [(.lst 5 ((mkL qA.mrk qA.ct xs k).map qA.enc) false),.int .i64 k] (.int .i64 (k+(qH qA.ct xs:Nat))):=by
 refine pI kO (by simp[AV.trees,AV.tree,qV qA.isSh.tree]) rfl ?_;simp only[kO,qQ,go_sem,nZa];refine Sem.loop (fun i:Nat=>i<=xs.length) (fun i=>(⟨[(0,(.lst 5 ((mkL qA.mrk qA.ct xs k).map qA.enc) false)),(1,.int .i64 (k+((qH qA.ct (xs.take i):Nat):Int))),(5,.int .i64 (i:Nat))],[],[]⟩:VSt)) (fun i=>xs.length-i) 0 (by kernel_rfl) (nZl _) (by simp only[List.take_zero,qH,Int.ofNat_zero,Int.add_zero];exact Can.sub (by simp[go_sem]) (by simp[go_sem])) ?_;intro i hi;simp only[js,go_sem];apply qM<;>intro hc<;>simp only[hc,go_sem]
 ·have hlt:i<xs.length:=by have:=odT hc;omega
  have hct:=Jo qA.ct hlt;have hcl:=Jn qA.ct xs (i+1);have hget:=Z0 qA.mrk qA.ct hlt k;have hsz:qA.sz xs[i]<=qH qA.sz xs:=zq (f:=qA.sz) (gMm hlt);obtain⟨K,hK⟩:∃K:Int,K=k+((qH qA.ct (xs.take i):Nat):Int):=⟨_,rfl⟩;have hend:k+((qH qA.ct (xs.take (i+1)):Nat):Int)=K+((qA.ct xs[i]:Nat):Int):=by rw[hct,hK];omega
  have hKb:0<=K/\K+((qA.ct xs[i]:Nat):Int)<=4611686018427387904:=by rw[<-hend];omega
  rw[<-hK]at hget|-;obtain⟨y,hy⟩:∃y,y=xs[i]:=⟨_,rfl⟩;rw[<-hy]at hget hend hKb hsz;have hcy:qA.ct y=1+1+1+qH ctI y.Data+qH qG.ct y.Ports:=rfl;rw[hcy]at hend hKb;simp only[qA.sz]at hsz;simp only[gMp,hget,oMs,go_sem,nZa]
  try simp only[gMp,hget,oMs,qA.mrk,go_sem,nZa]
  rw[qf (n:=K+1) (by omega) (by omega)]
  try simp only[gMp,hget,oMs,qA.mrk,go_sem,nZa]
  try simp only[gMp,hget,oMs,qA.mrk,go_sem,nZa]
  rw[qf (n:=K+1+1) (by omega) (by omega)]
  try simp only[gMp,hget,oMs,qA.mrk,go_sem,nZa]
  try simp only[gMp,hget,oMs,qA.mrk,go_sem,nZa]
  rw[qf (n:=K+1+1+1) (by omega) (by omega)]
  try simp only[gMp,hget,oMs,qA.mrk,go_sem,nZa]
  try simp only[gMp,hget,oMs,qA.mrk,go_sem,nZa]
  refine qO (q92 y.Data (K+1+1+1) (by omega) (by omega) (by omega)) ?_;simp only[go_sem];rw[show decide (K+1+1+1+((qH ctI y.Data:Nat):Int)<0)=false from decide_eq_false (by omega)];simp only[gMp,hget,oMs,qA.mrk,go_sem,nZa]
  try simp only[gMp,hget,oMs,qA.mrk,go_sem,nZa]
  refine qO (q886 y.Ports (K+1+1+1+((qH ctI y.Data:Nat):Int)) (by omega) (by omega) (by omega)) ?_;simp only[go_sem];rw[show decide (K+1+1+1+((qH ctI y.Data:Nat):Int)+((qH qG.ct y.Ports:Nat):Int)<0)=false from decide_eq_false (by omega)];simp only[go_sem];simp only[qc (show i<4611686018427387904 by omega)];refine qd (i+1) (by omega) (by omega) ?_;have e3:K+1+1+1+((qH ctI y.Data:Nat):Int)+((qH qG.ct y.Ports:Nat):Int)=k+((qH qA.ct (xs.take (i+1)):Nat):Int):=by first | (rw[hend];done) | (rw[hend];omega)
  rw[e3];exact Can.sub (by simp[go_sem]) (by simp[go_sem])
 ·have hge:i=xs.length:=by have:=odF hc;omega
  subst hge;refine qR rfl ?_;rw[lTl]
theorem q199(x:qC)(k:Int)(h0:0<=k)(hk:k+(x.ctV:Nat)<=4611686018427387904)(hz:x.sz<=1073741824):Pure Gm 199 [(x.mkV k).enc,.int .i64 k] (.int .i64 (k+(x.ctV:Nat))):=by
 refine pI Kf (by simp[AV.trees,AV.tree,qC.tr]) rfl ?_;simp only[Kf,qQ,go_sem,nZa];refine qW rfl ?_;simp only[go_sem];unfold qC.ctV at hk;simp only[qC.sz]at hz;refine qO (q525 x.Agents (k) (by omega) (by omega) (by omega)) ?_;simp only[go_sem]
 try (rw[show decide (k+((qH qA.ct x.Agents:Nat):Int)<0)=false from decide_eq_false (by omega)];simp only[go_sem])
 refine qR rfl ?_
 first | rfl | (simp only[qC.ctV,AV.int.injEq,true_and];done) | (simp only[qC.ctV,AV.int.injEq,true_and];omega)
theorem q230(xs:List qC)(k:Int)(h0:0<=k)(hk:k+(qH qC.ct xs:Nat)<=4611686018427387904)(hz:xs.length+qH qC.sz xs<=1073741824):Pure Gm 230 [(.lst 1 ((mkL qC.mrk qC.ct xs k).map qC.enc) false),.int .i64 k] (.int .i64 (k+(qH qC.ct xs:Nat))):=by
 refine pI Kh (by simp[AV.trees,AV.tree,qV qC.isSh.tree]) rfl ?_;simp only[Kh,qQ,go_sem,nZa];refine Sem.loop (fun i:Nat=>i<=xs.length) (fun i=>(⟨[(0,(.lst 1 ((mkL qC.mrk qC.ct xs k).map qC.enc) false)),(1,.int .i64 (k+((qH qC.ct (xs.take i):Nat):Int))),(5,.int .i64 (i:Nat))],[],[]⟩:VSt)) (fun i=>xs.length-i) 0 (by kernel_rfl) (nZl _) (by simp only[List.take_zero,qH,Int.ofNat_zero,Int.add_zero];exact Can.sub (by simp[go_sem]) (by simp[go_sem])) ?_;intro i hi;simp only[js,go_sem];apply qM<;>intro hc<;>simp only[hc,go_sem]
 ·have hlt:i<xs.length:=by have:=odT hc;omega
  have hct:=Jo qC.ct hlt;have hcl:=Jn qC.ct xs (i+1);have hget:=Z0 qC.mrk qC.ct hlt k;have hsz:qC.sz xs[i]<=qH qC.sz xs:=zq (f:=qC.sz) (gMm hlt);obtain⟨K,hK⟩:∃K:Int,K=k+((qH qC.ct (xs.take i):Nat):Int):=⟨_,rfl⟩;have hend:k+((qH qC.ct (xs.take (i+1)):Nat):Int)=K+((qC.ct xs[i]:Nat):Int):=by rw[hct,hK];omega
  have hKb:0<=K/\K+((qC.ct xs[i]:Nat):Int)<=4611686018427387904:=by rw[<-hend];omega
  rw[<-hK]at hget|-;obtain⟨y,hy⟩:∃y,y=xs[i]:=⟨_,rfl⟩;rw[<-hy]at hget hend hKb hsz;have hcy:qC.ct y=qH qA.ct y.Agents:=rfl;rw[hcy]at hend hKb;simp only[qC.sz]at hsz;simp only[gMp,hget,oMs,go_sem,nZa]
  try simp only[qC.mrk,go_sem]
  refine qO (q525 y.Agents (K) (by omega) (by omega) (by omega)) ?_;simp only[go_sem];rw[show decide (K+((qH qA.ct y.Agents:Nat):Int)<0)=false from decide_eq_false (by omega)];simp only[go_sem];simp only[qc (show i<4611686018427387904 by omega)];refine qd (i+1) (by omega) (by omega) ?_;have e3:K+((qH qA.ct y.Agents:Nat):Int)=k+((qH qC.ct (xs.take (i+1)):Nat):Int):=by first | (rw[hend];done) | (rw[hend];omega)
  rw[e3];exact Can.sub (by simp[go_sem]) (by simp[go_sem])
 ·have hge:i=xs.length:=by have:=odF hc;omega
  subst hge;refine qR rfl ?_;rw[lTl]
theorem q433(xs:List qE)(k:Int)(h0:0<=k)(hk:k+(qH qE.ct xs:Nat)<=4611686018427387904)(hz:xs.length<=1073741824):Pure Gm 433 [(.lst 3 ((mkL qE.mrk qE.ct xs k).map qE.enc) false),.int .i64 k] (.int .i64 (k+(qH qE.ct xs:Nat))):=by
 refine pI K8 (by simp[AV.trees,AV.tree,qV qE.isSh.tree]) rfl ?_;simp only[K8,qQ,go_sem,nZa];refine Sem.loop (fun i:Nat=>i<=xs.length) (fun i=>(⟨[(0,(.lst 3 ((mkL qE.mrk qE.ct xs k).map qE.enc) false)),(1,.int .i64 (k+((qH qE.ct (xs.take i):Nat):Int))),(5,.int .i64 (i:Nat))],[],[]⟩:VSt)) (fun i=>xs.length-i) 0 (by kernel_rfl) (nZl _) (by simp only[List.take_zero,qH,Int.ofNat_zero,Int.add_zero];exact Can.sub (by simp[go_sem]) (by simp[go_sem])) ?_;intro i hi;simp only[js,go_sem];apply qM<;>intro hc<;>simp only[hc,go_sem]
 ·have hlt:i<xs.length:=by have:=odT hc;omega
  have hct:=Jo qE.ct hlt;have hcl:=Jn qE.ct xs (i+1);have hget:=Z0 qE.mrk qE.ct hlt k;obtain⟨K,hK⟩:∃K:Int,K=k+((qH qE.ct (xs.take i):Nat):Int):=⟨_,rfl⟩;have hend:k+((qH qE.ct (xs.take (i+1)):Nat):Int)=K+((qE.ct xs[i]:Nat):Int):=by rw[hct,hK];omega
  have hKb:0<=K/\K+((qE.ct xs[i]:Nat):Int)<=4611686018427387904:=by rw[<-hend];omega
  rw[<-hK]at hget|-;obtain⟨y,hy⟩:∃y,y=xs[i]:=⟨_,rfl⟩;rw[<-hy]at hget hend hKb;have hcy:qE.ct y=1+1+1:=rfl;rw[hcy]at hend hKb;simp only[gMp,hget,oMs,go_sem,nZa]
  try simp only[gMp,hget,oMs,qE.mrk,go_sem,nZa]
  rw[qf (n:=K+1) (by omega) (by omega)]
  try simp only[gMp,hget,oMs,qE.mrk,go_sem,nZa]
  try simp only[gMp,hget,oMs,qE.mrk,go_sem,nZa]
  rw[qf (n:=K+1+1) (by omega) (by omega)]
  try simp only[go_sem]
  try simp only[gMp,hget,oMs,qE.mrk,go_sem,nZa]
  rw[qf (n:=K+1+1+1) (by omega) (by omega)]
  try simp only[gMp,hget,oMs,qE.mrk,go_sem,nZa]
  simp only[qc (show i<4611686018427387904 by omega)];refine qd (i+1) (by omega) (by omega) ?_;have e3:K+1+1+1=k+((qH qE.ct (xs.take (i+1)):Nat):Int):=by first | (rw[hend];done) | (rw[hend];omega)
  rw[e3];exact Can.sub (by simp[go_sem]) (by simp[go_sem])
 ·have hge:i=xs.length:=by have:=odF hc;omega
  subst hge;refine qR rfl ?_;rw[lTl]
theorem q434(xs:List qI)(k:Int)(h0:0<=k)(hk:k+(qH qI.ct xs:Nat)<=4611686018427387904)(hz:xs.length<=1073741824):Pure Gm 434 [(.lst 2 ((mkL qI.mrk qI.ct xs k).map qI.enc) false),.int .i64 k] (.int .i64 (k+(qH qI.ct xs:Nat))):=by
 refine pI K9 (by simp[AV.trees,AV.tree,qV qI.isSh.tree]) rfl ?_;simp only[K9,qQ,go_sem,nZa];refine Sem.loop (fun i:Nat=>i<=xs.length) (fun i=>(⟨[(0,(.lst 2 ((mkL qI.mrk qI.ct xs k).map qI.enc) false)),(1,.int .i64 (k+((qH qI.ct (xs.take i):Nat):Int))),(5,.int .i64 (i:Nat))],[],[]⟩:VSt)) (fun i=>xs.length-i) 0 (by kernel_rfl) (nZl _) (by simp only[List.take_zero,qH,Int.ofNat_zero,Int.add_zero];exact Can.sub (by simp[go_sem]) (by simp[go_sem])) ?_;intro i hi;simp only[js,go_sem];apply qM<;>intro hc<;>simp only[hc,go_sem]
 ·have hlt:i<xs.length:=by have:=odT hc;omega
  have hct:=Jo qI.ct hlt;have hcl:=Jn qI.ct xs (i+1);have hget:=Z0 qI.mrk qI.ct hlt k;obtain⟨K,hK⟩:∃K:Int,K=k+((qH qI.ct (xs.take i):Nat):Int):=⟨_,rfl⟩;have hend:k+((qH qI.ct (xs.take (i+1)):Nat):Int)=K+((qI.ct xs[i]:Nat):Int):=by rw[hct,hK];omega
  have hKb:0<=K/\K+((qI.ct xs[i]:Nat):Int)<=4611686018427387904:=by rw[<-hend];omega
  rw[<-hK]at hget|-;obtain⟨y,hy⟩:∃y,y=xs[i]:=⟨_,rfl⟩;rw[<-hy]at hget hend hKb;have hcy:qI.ct y=1+1:=rfl;rw[hcy]at hend hKb;simp only[gMp,hget,oMs,go_sem,nZa]
  try simp only[gMp,hget,oMs,qI.mrk,go_sem,nZa]
  rw[qf (n:=K+1) (by omega) (by omega)]
  try simp only[go_sem]
  try simp only[gMp,hget,oMs,qI.mrk,go_sem,nZa]
  rw[qf (n:=K+1+1) (by omega) (by omega)]
  try simp only[gMp,hget,oMs,qI.mrk,go_sem,nZa]
  simp only[qc (show i<4611686018427387904 by omega)];refine qd (i+1) (by omega) (by omega) ?_;have e3:K+1+1=k+((qH qI.ct (xs.take (i+1)):Nat):Int):=by first | (rw[hend];done) | (rw[hend];omega)
  rw[e3];exact Can.sub (by simp[go_sem]) (by simp[go_sem])
 ·have hge:i=xs.length:=by have:=odF hc;omega
  subst hge;refine qR rfl ?_;rw[lTl]
theorem q435(xs:List qF)(k:Int)(h0:0<=k)(hk:k+(qH qF.ct xs:Nat)<=4611686018427387904)(hz:xs.length+qH qF.sz xs<=1073741824):Pure Gm 435 [(.lst 3 ((mkL qF.mrk qF.ct xs k).map qF.enc) false),.int .i64 k] (.int .i64 (k+(qH qF.ct xs:Nat))):=by
 refine pI kD (by simp[AV.trees,AV.tree,qV qF.isSh.tree]) rfl ?_;simp only[kD,qQ,go_sem,nZa];refine Sem.loop (fun i:Nat=>i<=xs.length) (fun i=>(⟨[(0,(.lst 3 ((mkL qF.mrk qF.ct xs k).map qF.enc) false)),(1,.int .i64 (k+((qH qF.ct (xs.take i):Nat):Int))),(5,.int .i64 (i:Nat))],[],[]⟩:VSt)) (fun i=>xs.length-i) 0 (by kernel_rfl) (nZl _) (by simp only[List.take_zero,qH,Int.ofNat_zero,Int.add_zero];exact Can.sub (by simp[go_sem]) (by simp[go_sem])) ?_;intro i hi;simp only[js,go_sem];apply qM<;>intro hc<;>simp only[hc,go_sem]
 ·have hlt:i<xs.length:=by have:=odT hc;omega
  have hct:=Jo qF.ct hlt;have hcl:=Jn qF.ct xs (i+1);have hget:=Z0 qF.mrk qF.ct hlt k;have hsz:qF.sz xs[i]<=qH qF.sz xs:=zq (f:=qF.sz) (gMm hlt);obtain⟨K,hK⟩:∃K:Int,K=k+((qH qF.ct (xs.take i):Nat):Int):=⟨_,rfl⟩;have hend:k+((qH qF.ct (xs.take (i+1)):Nat):Int)=K+((qF.ct xs[i]:Nat):Int):=by rw[hct,hK];omega
  have hKb:0<=K/\K+((qF.ct xs[i]:Nat):Int)<=4611686018427387904:=by rw[<-hend];omega
  rw[<-hK]at hget|-;obtain⟨y,hy⟩:∃y,y=xs[i]:=⟨_,rfl⟩;rw[<-hy]at hget hend hKb hsz;have hcy:qF.ct y=1+qH qA.ct y.Net.Agents+qH qE.ct y.Origins:=rfl;rw[hcy]at hend hKb;simp only[qF.sz,qC.sz]at hsz;simp only[gMp,hget,oMs,go_sem,nZa]
  try simp only[gMp,hget,oMs,qF.mrk,go_sem,nZa]
  rw[qf (n:=K+1) (by omega) (by omega)]
  try simp only[gMp,hget,oMs,qF.mrk,go_sem,nZa]
  try simp only[gMp,hget,oMs,qF.mrk,go_sem,nZa]
  refine qO (q525 y.Net.Agents (K+1) (by omega) (by omega) (by omega)) ?_;simp only[go_sem];rw[show decide (K+1+((qH qA.ct y.Net.Agents:Nat):Int)<0)=false from decide_eq_false (by omega)];simp only[gMp,hget,oMs,qF.mrk,go_sem,nZa]
  try simp only[gMp,hget,oMs,qF.mrk,go_sem,nZa]
  refine qO (q433 y.Origins (K+1+((qH qA.ct y.Net.Agents:Nat):Int)) (by omega) (by omega) (by omega)) ?_;simp only[go_sem];rw[show decide (K+1+((qH qA.ct y.Net.Agents:Nat):Int)+((qH qE.ct y.Origins:Nat):Int)<0)=false from decide_eq_false (by omega)];simp only[go_sem];simp only[qc (show i<4611686018427387904 by omega)];refine qd (i+1) (by omega) (by omega) ?_;have e3:K+1+((qH qA.ct y.Net.Agents:Nat):Int)+((qH qE.ct y.Origins:Nat):Int)=k+((qH qF.ct (xs.take (i+1)):Nat):Int):=by first | (rw[hend];done) | (rw[hend];omega)
  rw[e3];exact Can.sub (by simp[go_sem]) (by simp[go_sem])
 ·have hge:i=xs.length:=by have:=odF hc;omega
  subst hge;refine qR rfl ?_;rw[lTl]
theorem q137(x:qJ)(k:Int)(h0:0<=k)(hk:k+(x.ctV:Nat)<=4611686018427387904)(hz:x.sz<=1073741824):Pure Gm 137 [(x.mkV k).enc,.int .i64 k] (.int .i64 (k+(x.ctV:Nat))):=by
 refine pI U7 (by simp[AV.trees,AV.tree,qJ.tr]) rfl ?_;simp only[U7,qQ,go_sem,nZa];refine qW rfl ?_;simp only[go_sem];unfold qJ.ctV at hk;simp only[qJ.sz,qC.sz]at hz;refine qO (q230 x.Book (k) (by omega) (by omega) (by omega)) ?_;simp only[go_sem]
 try (rw[show decide (k+((qH qC.ct x.Book:Nat):Int)<0)=false from decide_eq_false (by omega)];simp only[go_sem])
 refine qO (q92 x.Schedule (k+((qH qC.ct x.Book:Nat):Int)) (by omega) (by omega) (by omega)) ?_;simp only[go_sem]
 try (rw[show decide (k+((qH qC.ct x.Book:Nat):Int)+((qH ctI x.Schedule:Nat):Int)<0)=false from decide_eq_false (by omega)];simp only[go_sem])
 refine qO (q199 x.Net (k+((qH qC.ct x.Book:Nat):Int)+((qH ctI x.Schedule:Nat):Int)) (by omega) (by simp only[qC.ctV];omega) (by simp only[qC.sz];omega)) ?_;simp only[qC.ctV,go_sem]
 try (rw[show decide (k+((qH qC.ct x.Book:Nat):Int)+((qH ctI x.Schedule:Nat):Int)+((qH qA.ct x.Net.Agents:Nat):Int)<0)=false from decide_eq_false (by omega)];simp only[go_sem])
 refine qO (q433 x.Origins (k+((qH qC.ct x.Book:Nat):Int)+((qH ctI x.Schedule:Nat):Int)+((qH qA.ct x.Net.Agents:Nat):Int)) (by omega) (by omega) (by omega)) ?_;simp only[go_sem]
 try (rw[show decide (k+((qH qC.ct x.Book:Nat):Int)+((qH ctI x.Schedule:Nat):Int)+((qH qA.ct x.Net.Agents:Nat):Int)+((qH qE.ct x.Origins:Nat):Int)<0)=false from decide_eq_false (by omega)];simp only[go_sem])
 refine qO (q434 x.Breaks (k+((qH qC.ct x.Book:Nat):Int)+((qH ctI x.Schedule:Nat):Int)+((qH qA.ct x.Net.Agents:Nat):Int)+((qH qE.ct x.Origins:Nat):Int)) (by omega) (by omega) (by omega)) ?_;simp only[go_sem]
 try (rw[show decide (k+((qH qC.ct x.Book:Nat):Int)+((qH ctI x.Schedule:Nat):Int)+((qH qA.ct x.Net.Agents:Nat):Int)+((qH qE.ct x.Origins:Nat):Int)+((qH qI.ct x.Breaks:Nat):Int)<0)=false from decide_eq_false (by omega)];simp only[go_sem])
 refine qO (q435 x.Points (k+((qH qC.ct x.Book:Nat):Int)+((qH ctI x.Schedule:Nat):Int)+((qH qA.ct x.Net.Agents:Nat):Int)+((qH qE.ct x.Origins:Nat):Int)+((qH qI.ct x.Breaks:Nat):Int)) (by omega) (by omega) (by omega)) ?_;simp only[go_sem]
 try (rw[show decide (k+((qH qC.ct x.Book:Nat):Int)+((qH ctI x.Schedule:Nat):Int)+((qH qA.ct x.Net.Agents:Nat):Int)+((qH qE.ct x.Origins:Nat):Int)+((qH qI.ct x.Breaks:Nat):Int)+((qH qF.ct x.Points:Nat):Int)<0)=false from decide_eq_false (by omega)];simp only[go_sem])
 refine qR rfl ?_
 first | rfl | (simp only[qJ.ctV,AV.int.injEq,true_and];done) | (simp only[qJ.ctV,AV.int.injEq,true_and];omega)
theorem qjC{E:Ev}{d w:Nat}{z:AV}{k k':IntKind}{n m:Nat}{l:List qB}{ks:List Fr1}{s lo:qo}{h:List qD}{Q:qh->VSt->Prop}(hnm:n<=m)(hm:m<=4294967296)
  (hr:wm E (some d) (.row w (List.replicate n z) true) (.slice w h.length 0 n false) l ks ⟨s,lo,h⟩ Q):Mks E (some d) w z (some (.int k (n:Nat))) (some (.int k' (m:Nat))) l ks ⟨s,lo,h⟩ Q:=by
 unfold Mks;refine⟨by omega,by omega,by simp only[LIM];omega, ?_⟩;simpa only [iTn]using hr
theorem flat{α:Type}{enc:α->AV}(h:∀x n,lay (enc x) n=(enc x,[])):∀(xs:List α)(n:Nat),qN (xs.map enc) n=(xs.map enc,[])
 |[],_=>rfl
 | x::xs,n=>by simp only[lMc,qN,h,lNi,nAz,flat h xs,lNa]
theorem qG.flat(xs:List qG)(n:Nat):qN (xs.map qG.enc) n=(xs.map qG.enc,[]):=Go.Ab.flat (fun x n=>qG.layE x n) xs n
theorem qE.flat(xs:List qE)(n:Nat):qN (xs.map qE.enc) n=(xs.map qE.enc,[]):=Go.Ab.flat (fun x n=>qE.layE x n) xs n
theorem qI.flat(xs:List qI)(n:Nat):qN (xs.map qI.enc) n=(xs.map qI.enc,[]):=Go.Ab.flat (fun x n=>qI.layE x n) xs n
theorem n401(xs:List Int)(hz:xs.length<=4194304):Fresh Gm 401 [.lst 1 (xs.map qK) false] (.lst 1 (xs.map qK) false):=
 Y6 (w:=1) (gk _ F401) (lI xs) (qn (fun _=>rfl) xs) (qV shI.tree xs) (by simpa using hz)
theorem qjF(xs:List qG)(hz:xs.length<=4194304):Fresh Gm 1373 [.lst 2 (xs.map qG.enc) false] (.lst 2 (xs.map qG.enc) false):=
 Y6 (w:=2) (gk _ qKF) (qG.flat xs) (qn qG.plx xs) (qV qG.isSh.tree xs) (by simpa using hz)
theorem n799(xs:List qE)(hz:xs.length<=4194304):Fresh Gm 799 [.lst 3 (xs.map qE.enc) false] (.lst 3 (xs.map qE.enc) false):=
 Y6 (w:=3) (gk _ F799) (qE.flat xs) (qn qE.plx xs) (qV qE.isSh.tree xs) (by simpa using hz)
theorem n800(xs:List qI)(hz:xs.length<=4194304):Fresh Gm 800 [.lst 2 (xs.map qI.enc) false] (.lst 2 (xs.map qI.enc) false):=
 Y6 (w:=2) (gk _ F800) (qI.flat xs) (qn qI.plx xs) (qV qI.isSh.tree xs) (by simpa using hz)
theorem qcG(x:qA)(hz:x.sz<=1048576):Fresh Gm 1085 [x.enc] x.enc:=by
 unfold qA.sz at hz;refine fI UY (by simp[AV.trees,go_sem]) (qA.plx x) ?_;simp only[UY,qQ,go_sem];refine qW rfl ?_;simp only[qA.enc];simp only[go_sem];refine zW (n401 x.Data (by omega)) ?_;simp only[go_sem,zU];refine zW (qjF x.Ports (by omega)) ?_;simp only[go_sem,zU];refine qU rfl rfl ⟨_,rfl⟩ (by decide) ?_;simp only[go_sem];exact jU (pre:=[]) (post:=[]) (t:=x.enc) (qA.plx x) (by simp[zI,qA.layE,qb]) (by simp[qA.layE,qb])
theorem Ws(n:qC)(hz:n.sz<=1048576):Fresh Gm 798 [n.enc] n.enc:=by
 unfold qC.sz at hz;refine fI F798 (by simp[AV.trees,go_sem]) (qC.plx n) ?_;simp only[F798,qQ,go_sem];refine qW rfl ?_;simp only[go_sem];refine qjC (n:=0) (by omega) (by omega) ?_;simp only[go_sem];refine Sem.loop (fun i:Nat=>i<=n.Agents.length) (fun i=>(⟨[(14,.int .i64 (i:Nat)),(13,.int .i64 (n.Agents.length:Nat)),(12,.lst 5 (n.Agents.map qA.enc) false)],[(3,.agg [.slice 5 0 0 i false]),(2,.agg [.nils])],.row 5 (qN ((n.Agents.take i).map qA.enc) 1).1 true::(qN ((n.Agents.take i).map qA.enc) 1).2⟩:VSt)) (fun i=>n.Agents.length-i) 0 (by kernel_rfl) (nZl _) (Can.sub (by simp[go_sem]) (by simp[go_sem])) ?_;rintro i hi;simp only[go_sem];apply qM<;>intro hc<;>simp only[hc,go_sem]
 ·have hlt:i<n.Agents.length:=by have:=odT hc;omega
  have hsz:qA.sz n.Agents[i]<=qH qA.sz n.Agents:=zq (f:=qA.sz) (gMm hlt);simp only[gMp,gEg hlt,oMs,go_sem];refine qU (k:=5) (by rfl) (by rfl) (by exact⟨_,rfl⟩) (by decide) ?_;simp only[go_sem];refine zW (qcG n.Agents[i] (by omega)) ?_;simp only[go_sem];refine Xo (by rw[ZJ (qA.plx _)];rfl) ?_;simp only[go_sem];have hA:(qN ((n.Agents.take i).map qA.enc) 1).1.length=i:=by rw[z7];simp;omega
  refine zy (len:=i) (el:=(qN ((n.Agents.take i).map qA.enc) 1).1) qBX rfl hA (by omega) ?_;simp only[go_sem];simp only[qc (show i<4611686018427387904 by omega)];refine qd (i+1) (by omega) (by omega) ?_;have e:(n.Agents.take (i+1)).map qA.enc=(n.Agents.take i).map qA.enc++[qA.enc n.Agents[i]]:=by
   rw[lTs hlt,lMa];rfl
  refine Can.push (w:=5) (ps:=[]) (A:=(n.Agents.take i).map qA.enc) (t:=n.Agents[i].enc) (b:=0) rfl (qn qA.plx _) (qA.plx _) rfl rfl ?_ ?_
   ⟨⟨_,rfl,.tree rfl⟩,⟨_,rfl,.tree rfl⟩,⟨_,rfl,.tree (by simp[AV.tree,qV qA.isSh.tree])⟩,trivial⟩ ⟨⟨_,rfl,.agg rfl (VR2s.cons (.slice (W8.trans ?_)) VR2s.nil).2⟩,⟨_,rfl,.tree rfl⟩,trivial⟩
  ·simp only[qN,zQ,lCa,lNa,lSz,lAa,nZa,Nat.add_comm 1]
  ·rw[e];simp only[qN,lNa,nZa]
  ·simp only[lAp,lCo,lNi,zQ,qb];congr 2;omega
 ·obtain rfl:i=n.Agents.length:=by have:=odF hc;omega
  simp only[lTl];exact jU (t:=n.enc) (pre:=[]) (post:=[]) (qC.plx n) (by simp[zI,qC.layE]) (by simp[qC.layE,lay])
theorem n797(xs:List qC)(hz:xs.length<=1048576/\∀x∈xs,x.sz<=1048576):Fresh Gm 797 [.lst 1 (xs.map qC.enc) false] (.lst 1 (xs.map qC.enc) false):=by
 refine fI F797 (by simp[AV.trees,AV.tree,qV qC.isSh.tree]) (qn qC.plx xs) ?_;simp only[F797,qQ,go_sem];refine Sem.loop (fun i:Nat=>i<=xs.length) (fun i=>(⟨[(8,.int .i64 (i:Nat)),(7,.int .i64 (xs.length:Nat)),(6,.lst 1 (xs.map qC.enc) false),(3,.slice 1 0 0 i false)],[],.row 1 (qN ((xs.take i).map qC.enc) 1).1 true::(qN ((xs.take i).map qC.enc) 1).2⟩:VSt)) (fun i=>xs.length-i) 0 (by kernel_rfl) (nZl _) (Can.renum [none] rfl ⟨.ph,trivial⟩ ⟨⟨_,rfl,.tree rfl⟩,⟨_,rfl,.tree rfl⟩,⟨_,rfl,.tree (by simp[AV.tree,qV qC.isSh.tree])⟩,⟨_,rfl,.ph rfl⟩,trivial⟩ trivial) ?_;rintro i hi;simp only[go_sem];apply qM<;>intro hc<;>simp only[hc,go_sem]
 ·have hlt:i<xs.length:=by have:=odT hc;omega
  have hsz:=hz.2 _ (gMm hlt);simp only[gMp,gEg hlt,oMs,go_sem];refine zW (Ws xs[i] (by omega)) ?_;simp only[go_sem];refine Xo (by rw[ZJ (qC.plx _)];rfl) ?_;simp only[go_sem];have hA:(qN ((xs.take i).map qC.enc) 1).1.length=i:=by rw[z7];simp;omega
  refine zy (len:=i) (el:=(qN ((xs.take i).map qC.enc) 1).1) qBX rfl hA (by omega) ?_;simp only[go_sem];simp only[qc (show i<4611686018427387904 by omega)];refine qd (i+1) (by omega) (by omega) ?_;have e:(xs.take (i+1)).map qC.enc=(xs.take i).map qC.enc++[qC.enc xs[i]]:=by
   rw[lTs hlt,lMa];rfl
  refine Can.push (w:=1) (ps:=[]) (A:=(xs.take i).map qC.enc) (t:=xs[i].enc) (b:=0) rfl (qn qC.plx _) (qC.plx _) rfl rfl ?_ ?_
   ⟨⟨_,rfl,.tree rfl⟩,⟨_,rfl,.tree rfl⟩,⟨_,rfl,.tree (by simp[AV.tree,qV qC.isSh.tree])⟩,⟨_,rfl,.slice (W8.trans ?_)⟩,trivial⟩ trivial
  ·simp only[qN,zQ,lCa,lNa,lSz,lAa,nZa,Nat.add_comm 1]
  ·rw[e];simp only[qN,lNa,nZa]
  ·simp only[lAp,lCo,lNi,zQ,qb];congr 2;omega
 ·obtain rfl:i=xs.length:=by have:=odF hc;omega
  simp only[lTl];exact jU (t:=.lst 1 (xs.map qC.enc) false) (pre:=[]) (post:=[]) (qn qC.plx xs) (by simp[zI,lay]) (by simp[lay])
theorem qjH(d:qJ)(hb:d.Book.length<=1048576/\∀x∈d.Book,x.sz<=1048576)(hz:d.Schedule.length<=1048576/\d.Net.sz<=1048576/\d.Origins.length<=1048576/\d.Breaks.length<=1048576)(hp:d.Points.length<=1048576/\∀p∈d.Points,p.Net.sz<=1048576/\p.Origins.length<=1048576):Fresh Gm 429 [d.enc] d.enc:=by
 refine fI K4 (by simp[AV.trees,go_sem]) (qJ.plx d) ?_;simp only[K4,qQ,go_sem];refine qW rfl ?_;simp only[qJ.enc];simp only[go_sem];refine zW (n797 d.Book hb) ?_;simp only[go_sem,zU,lNa];refine zW (n401 d.Schedule (by omega)) ?_;simp only[go_sem,zU,qb];refine zW (Ws d.Net (by omega)) ?_;simp only[go_sem,qC.layE,lAn,lAp,qb];refine zW (n799 d.Origins (by omega)) ?_;simp only[go_sem,zU,lAp,qb];refine zW (n800 d.Breaks (by omega)) ?_;simp only[go_sem,zU,lAp,qb];have hB:0<AV.rows (.lst 1 (d.Book.map qC.enc) false):=by simp only[AV.rows];omega
 have hS:0<AV.rows (.lst 1 (d.Schedule.map qK) false):=by simp only[AV.rows];omega
 have hN:0<AV.rows (.lst 5 (d.Net.Agents.map qA.enc) false):=by simp only[AV.rows];omega
 have hO:0<AV.rows (.lst 3 (d.Origins.map qE.enc) false):=by simp only[AV.rows];omega
 have hK:0<AV.rows (.lst 2 (d.Breaks.map qI.enc) false):=by simp only[AV.rows];omega
 have hps:AV.pls [.lst 1 (d.Book.map qC.enc) false,.lst 1 (d.Schedule.map qK) false,.lst 5 (d.Net.Agents.map qA.enc) false,.lst 3 (d.Origins.map qE.enc) false,.lst 2 (d.Breaks.map qI.enc) false]=true:=by simp only[AV.pls,AV.pl,qn qC.plx,qn (enc:=qK) (fun _=>rfl),qn qA.plx,qn qE.plx,qn qI.plx,Bool.and_self]
 have hb:AV.rowss [.lst 1 (d.Book.map qC.enc) false,.lst 1 (d.Schedule.map qK) false,.lst 5 (d.Net.Agents.map qA.enc) false,.lst 3 (d.Origins.map qE.enc) false,.lst 2 (d.Breaks.map qI.enc) false]=AV.rows (.lst 1 (d.Book.map qC.enc) false)+AV.rows (.lst 1 (d.Schedule.map qK) false)+AV.rows (.lst 5 (d.Net.Agents.map qA.enc) false)+AV.rows (.lst 3 (d.Origins.map qE.enc) false)+AV.rows (.lst 2 (d.Breaks.map qI.enc) false):=by simp only[AV.rowss];omega
 have hL:(qN [.lst 1 (d.Book.map qC.enc) false,.lst 1 (d.Schedule.map qK) false,.lst 5 (d.Net.Agents.map qA.enc) false,.lst 3 (d.Origins.map qE.enc) false,.lst 2 (d.Breaks.map qI.enc) false] 0).2.length=AV.rows (.lst 1 (d.Book.map qC.enc) false)+AV.rows (.lst 1 (d.Schedule.map qK) false)+AV.rows (.lst 5 (d.Net.Agents.map qA.enc) false)+AV.rows (.lst 3 (d.Origins.map qE.enc) false)+AV.rows (.lst 2 (d.Breaks.map qI.enc) false):=by rw[zQ,hb]
 refine Sem.loop (fun i:Nat=>i<=d.Points.length) (fun i=>(⟨[(31,.int .i64 (i:Nat)),(30,.int .i64 (d.Points.length:Nat)),(29,.lst 3 (d.Points.map qF.enc) false)],[(1,.agg [.slice 1 0 0 d.Book.length false,.slice 1 (AV.rows (.lst 1 (d.Book.map qC.enc) false)) 0 d.Schedule.length false,.int .i64 d.Every,.int .i64 d.At,.slice 5 (AV.rows (.lst 1 (d.Book.map qC.enc) false)+AV.rows (.lst 1 (d.Schedule.map qK) false)) 0 d.Net.Agents.length false,.slice 3 (AV.rows (.lst 1 (d.Book.map qC.enc) false)+AV.rows (.lst 1 (d.Schedule.map qK) false)+AV.rows (.lst 5 (d.Net.Agents.map qA.enc) false)) 0 d.Origins.length false,.slice 2 (AV.rows (.lst 1 (d.Book.map qC.enc) false)+AV.rows (.lst 1 (d.Schedule.map qK) false)+AV.rows (.lst 5 (d.Net.Agents.map qA.enc) false)+AV.rows (.lst 3 (d.Origins.map qE.enc) false)) 0 d.Breaks.length false,.slice 3 (AV.rows (.lst 1 (d.Book.map qC.enc) false)+AV.rows (.lst 1 (d.Schedule.map qK) false)+AV.rows (.lst 5 (d.Net.Agents.map qA.enc) false)+AV.rows (.lst 3 (d.Origins.map qE.enc) false)+AV.rows (.lst 2 (d.Breaks.map qI.enc) false)) 0 i false]),(2,.agg [.nils,.nils,.int .i64 0,.int .i64 0,.nils,.nils,.nils,.nils])],(qN [.lst 1 (d.Book.map qC.enc) false,.lst 1 (d.Schedule.map qK) false,.lst 5 (d.Net.Agents.map qA.enc) false,.lst 3 (d.Origins.map qE.enc) false,.lst 2 (d.Breaks.map qI.enc) false] 0).2++.row 3 (qN ((d.Points.take i).map qF.enc) (AV.rows (.lst 1 (d.Book.map qC.enc) false)+AV.rows (.lst 1 (d.Schedule.map qK) false)+AV.rows (.lst 5 (d.Net.Agents.map qA.enc) false)+AV.rows (.lst 3 (d.Origins.map qE.enc) false)+AV.rows (.lst 2 (d.Breaks.map qI.enc) false)+1)).1 true::(qN ((d.Points.take i).map qF.enc) (AV.rows (.lst 1 (d.Book.map qC.enc) false)+AV.rows (.lst 1 (d.Schedule.map qK) false)+AV.rows (.lst 5 (d.Net.Agents.map qA.enc) false)+AV.rows (.lst 3 (d.Origins.map qE.enc) false)+AV.rows (.lst 2 (d.Breaks.map qI.enc) false)+1)).2⟩:VSt)) (fun i=>d.Points.length-i) 0 (by kernel_rfl) (nZl _) (Can.start hps hb ?_ ⟨⟨_,rfl,.tree rfl⟩,⟨_,rfl,.tree rfl⟩,⟨_,rfl,.tree (by simp[AV.tree,qV qF.isSh.tree])⟩,trivial⟩ ⟨⟨_,rfl,.agg rfl (VR2s.cons (.slice (JD (by omega))) (VR2s.cons (.slice (JD (by omega))) (VR2s.cons (.tree rfl) (VR2s.cons (.tree rfl) (VR2s.cons (.slice (JD (by omega))) (VR2s.cons (.slice (JD (by omega))) (VR2s.cons (.slice (JD (by omega))) (VR2s.cons (.ph qC7) VR2s.nil)))))))).2⟩,⟨_,rfl,.tree rfl⟩,trivial⟩) ?_
 ·simp only[qN,qb,nZa,lAn,lAa]
 rintro i hi;simp only[go_sem];apply qM<;>intro hc<;>simp only[hc,go_sem]
 ·have hlt:i<d.Points.length:=by have:=odT hc;omega
  have hsz:=hp.2 _ (gMm hlt);simp only[gMp,gEg hlt,oMs,go_sem];refine qU (k:=3) (by rfl) (by rfl) (by exact⟨_,rfl⟩) (by decide) ?_;simp only[go_sem];have en:(qN [.lst 1 (d.Book.map qC.enc) false,.lst 1 (d.Schedule.map qK) false,.lst 5 (d.Net.Agents.map qA.enc) false,.lst 3 (d.Origins.map qE.enc) false,.lst 2 (d.Breaks.map qI.enc) false] 0).2.length+((qN ((d.Points.take i).map qF.enc) (AV.rows (.lst 1 (d.Book.map qC.enc) false)+AV.rows (.lst 1 (d.Schedule.map qK) false)+AV.rows (.lst 5 (d.Net.Agents.map qA.enc) false)+AV.rows (.lst 3 (d.Origins.map qE.enc) false)+AV.rows (.lst 2 (d.Breaks.map qI.enc) false)+1)).2.length+1)=AV.rows (.lst 1 (d.Book.map qC.enc) false)+AV.rows (.lst 1 (d.Schedule.map qK) false)+AV.rows (.lst 5 (d.Net.Agents.map qA.enc) false)+AV.rows (.lst 3 (d.Origins.map qE.enc) false)+AV.rows (.lst 2 (d.Breaks.map qI.enc) false)+1+AV.rowss ((d.Points.take i).map qF.enc):=by rw[hL,zQ];omega
  refine zW (Ws d.Points[i].Net (by omega)) ?_;simp only[go_sem,qC.layE,lAn,lAp,en];refine zW (n799 d.Points[i].Origins (by omega)) ?_;simp only[go_sem,zU,lAp,qb,en];have hA:(qN ((d.Points.take i).map qF.enc) (AV.rows (.lst 1 (d.Book.map qC.enc) false)+AV.rows (.lst 1 (d.Schedule.map qK) false)+AV.rows (.lst 5 (d.Net.Agents.map qA.enc) false)+AV.rows (.lst 3 (d.Origins.map qE.enc) false)+AV.rows (.lst 2 (d.Breaks.map qI.enc) false)+1)).1.length=i:=by rw[z7];simp;omega
  refine zy (len:=i) (el:=(qN ((d.Points.take i).map qF.enc) (AV.rows (.lst 1 (d.Book.map qC.enc) false)+AV.rows (.lst 1 (d.Schedule.map qK) false)+AV.rows (.lst 5 (d.Net.Agents.map qA.enc) false)+AV.rows (.lst 3 (d.Origins.map qE.enc) false)+AV.rows (.lst 2 (d.Breaks.map qI.enc) false)+1)).1) (x:=(lay d.Points[i].enc (AV.rows (.lst 1 (d.Book.map qC.enc) false)+AV.rows (.lst 1 (d.Schedule.map qK) false)+AV.rows (.lst 5 (d.Net.Agents.map qA.enc) false)+AV.rows (.lst 3 (d.Origins.map qE.enc) false)+AV.rows (.lst 2 (d.Breaks.map qI.enc) false)+1+AV.rowss ((d.Points.take i).map qF.enc))).1) ?_ ?_ hA (by omega) ?_
  ·simp only[qF.layE];rw[gAr (by simp only[lAp,qb,lCo];omega)];simp only[lAp,qb,lCo,en];simp
  ·simp only[lAa,lCa];exact qB9 hL
  simp only[go_sem,lAp,qb,en];simp only[qc (show i<4611686018427387904 by omega)];refine qd (i+1) (by omega) (by omega) ?_;have e:(d.Points.take (i+1)).map qF.enc=(d.Points.take i).map qF.enc++[qF.enc d.Points[i]]:=by
   rw[lTs hlt,lMa];rfl
  refine Can.push (w:=3) (ps:=[.lst 1 (d.Book.map qC.enc) false,.lst 1 (d.Schedule.map qK) false,.lst 5 (d.Net.Agents.map qA.enc) false,.lst 3 (d.Origins.map qE.enc) false,.lst 2 (d.Breaks.map qI.enc) false]) (A:=(d.Points.take i).map qF.enc) (t:=d.Points[i].enc) hps (qn qF.plx _) (qF.plx _) hb rfl ?_ ?_
   ⟨⟨_,rfl,.tree rfl⟩,⟨_,rfl,.tree rfl⟩,⟨_,rfl,.tree (by simp[AV.tree,qV qF.isSh.tree])⟩,trivial⟩ ⟨⟨_,rfl,.agg rfl (VR2s.cons (.slice (JB (by omega))) (VR2s.cons (.slice (JB (by omega))) (VR2s.cons (.tree rfl) (VR2s.cons (.tree rfl) (VR2s.cons (.slice (JB (by omega))) (VR2s.cons (.slice (JB (by omega))) (VR2s.cons (.slice (JB (by omega))) (VR2s.cons (.slice (W8.trans ?_)) VR2s.nil)))))))).2⟩,⟨_,rfl,.tree rfl⟩,trivial⟩
  ·simp only[lAa,lCa];rw[qCA hL];simp only[qF.layE,lAa,lCa,lNa,lAn]
  ·rw[e]
  ·simp only[qF.rowsE];congr 2;omega
 ·obtain rfl:i=d.Points.length:=by have:=odF hc;omega
  simp only[lTl];refine qU (k:=8) (by rfl) (by rfl) (by exact⟨_,rfl⟩) (by decide) ?_;simp only[go_sem];exact jU (t:=d.enc) (pre:=[]) (post:=[]) (qJ.plx d) (by simp[zI,qJ.layE,Nat.add_assoc]) (by simp only[lNi,qJ.layE,qN,qb,nZa,lNa,lAn,lAa];rfl)
theorem n402(xs:List Int)(hz:xs.length<=4194304):Fresh Gm 402 [.lst 1 (xs.map qK) false] (.lst 1 (xs.map qK) false):=by
 refine fI XY (by simp[AV.trees,AV.tree,qV shI.tree]) (qn (fun _=>rfl) xs) ?_;simp only[XY,qQ,go_sem];refine Yw Els.lst (by simp;omega) ?_;simp only[go_sem];exact jU (t:=.lst 1 (xs.map qK) false) (pre:=[]) (post:=[]) (qn (fun _=>rfl) xs) (by simp[zI,lay]) (by simp[lay,lI])
theorem n837(x:qA)(hz:x.sz<=1048576):Fresh Gm 837 [.ept x.enc 0] x.enc:=by
 unfold qA.sz at hz;refine fI Zf (by simp[AV.trees,AV.tree,go_sem]) (qA.plx x) ?_;simp only[Zf,qQ,go_sem];refine zW (n402 x.Data (by omega)) ?_;simp only[go_sem,zU,lNa];refine Zi Els.lst (by simp;omega) ?_;simp only[go_sem,qb];refine qU (k:=5) (by rfl) (by rfl) (by exact⟨_,rfl⟩) (by decide) ?_;simp only[go_sem];exact jU (t:=x.enc) (pre:=[]) (post:=[]) (qA.plx x) (by simp[zI,qA.layE]) (by simp[qA.layE,lay,qG.flat])
theorem Vm(n:qC)(hz:n.sz<=1048576):Fresh Gm 489 [.ept n.enc 0] n.enc:=by
 unfold qC.sz at hz;refine fI XZ (by simp[AV.trees,AV.tree,go_sem]) (qC.plx n) ?_;simp only[XZ,qQ,go_sem];refine Sem.loop (fun i:Nat=>i<=n.Agents.length) (fun i=>(⟨[(0,.ept n.enc 0),(4,.int .i64 (i:Nat))],[(2,.agg [.nils]),(3,.agg [.slice 5 0 0 i false])],.row 5 (qN ((n.Agents.take i).map qA.enc) 1).1 true::(qN ((n.Agents.take i).map qA.enc) 1).2⟩:VSt)) (fun i=>n.Agents.length-i) 0 (by kernel_rfl) (nZl _) (Can.renum [none] rfl ⟨.ph,trivial⟩ ⟨⟨_,rfl,.tree (by simp only[AV.tree,qC.tr])⟩,⟨_,rfl,.tree rfl⟩,trivial⟩ ⟨⟨_,rfl,.tree rfl⟩,⟨_,rfl,.agg rfl (VR2s.cons (.ph rfl) VR2s.nil).2⟩,trivial⟩) ?_;rintro i hi;simp only[go_sem];apply qM<;>intro hc<;>simp only[hc,go_sem]
 ·have hlt:i<n.Agents.length:=by have:=odT hc;omega
  have hsz:qA.sz n.Agents[i]<=qH qA.sz n.Agents:=zq (f:=qA.sz) (gMm hlt);simp only[gMp,gEg hlt,oMs,go_sem];refine zW (n837 n.Agents[i] (by omega)) ?_;simp only[go_sem];refine Xo (by rw[ZJ (qA.plx _)];rfl) ?_;simp only[go_sem];have hA:(qN ((n.Agents.take i).map qA.enc) 1).1.length=i:=by rw[z7];simp;omega
  refine zy (len:=i) (el:=(qN ((n.Agents.take i).map qA.enc) 1).1) qBX rfl hA (by omega) ?_;simp only[go_sem];simp only[qc (show i<4611686018427387904 by omega)];refine qd (i+1) (by omega) (by omega) ?_;have e:(n.Agents.take (i+1)).map qA.enc=(n.Agents.take i).map qA.enc++[qA.enc n.Agents[i]]:=by
   rw[lTs hlt,lMa];rfl
  refine Can.push (w:=5) (ps:=[]) (A:=(n.Agents.take i).map qA.enc) (t:=n.Agents[i].enc) (b:=0) rfl (qn qA.plx _) (qA.plx _) rfl rfl ?_ ?_
   ⟨⟨_,rfl,.tree (by simp only[AV.tree,qC.tr])⟩,⟨_,rfl,.tree rfl⟩,trivial⟩ ⟨⟨_,rfl,.tree rfl⟩,⟨_,rfl,.agg rfl (VR2s.cons (.slice (W8.trans ?_)) VR2s.nil).2⟩,trivial⟩
  ·simp only[qN,zQ,lCa,lNa,lSz,lAa,nZa,Nat.add_comm 1]
  ·rw[e];simp only[qN,lNa,nZa]
  ·simp only[lAp,lCo,lNi,zQ,qb];congr 2;omega
 ·obtain rfl:i=n.Agents.length:=by have:=odF hc;omega
  simp only[lTl];exact jU (t:=n.enc) (pre:=[]) (post:=[]) (qC.plx n) (by simp[zI,qC.layE]) (by simp[qC.layE,lay])
theorem n795(x:qF)(hz:x.sz<=1048576):Fresh Gm 795 [.ept x.enc 0] x.enc:=by
 unfold qF.sz at hz;refine fI Xd (by simp[AV.trees,AV.tree,go_sem]) (qF.plx x) ?_;simp only[Xd,qQ,go_sem];have conv:Cvs [] [.ept x.enc 1] [.ept x.Net.enc 0]:=Cvs.cons (.sub qF.tr (qF.q1_1) (by rw[qC.ln];decide)) Cvs.nil
 refine Js conv (Vm x.Net (by omega)) ?_
 simp only[go_sem,qC.layE,lNa,lAn];refine Zi Els.lst (by simp;omega) ?_;simp only[go_sem,qb];refine qU (k:=3) (by rfl) (by rfl) (by exact⟨_,rfl⟩) (by decide) ?_;simp only[go_sem];exact jU (t:=x.enc) (pre:=[]) (post:=[]) (qF.plx x) (by simp[zI,qF.layE]) (by simp[qF.layE,lay,qE.flat])
theorem qe{α:Type}{xs:List α}{i:Nat}{x:α}(h:xs[i]?=some x):i<xs.length:=(gSi.1 h).1
def encR(x:qA)(p:Nat):AV:=.agg [.int .i64 x.Kind,.int .i64 x.Level,.int .i64 x.Value,.lst 1 (x.Data.map qK) false,.slice 2 p 0 x.Ports.length false]
section
variable {x:qA} {p:Nat}
@[go_sem] theorem encR.ln:(encR x p).cells.length=5:=nr rfl
@[go_sem] theorem encR.all:(encR x p).part 0 (some 5)=some (encR x p):=nr rfl
@[go_sem] theorem encR.cs:(encR x p).cells=[.int .i64 x.Kind,.int .i64 x.Level,.int .i64 x.Value,.lst 1 (x.Data.map qK) false,.slice 2 p 0 x.Ports.length false]:=nr rfl
@[go_sem] theorem encR.p0:(encR x p).part 0 none=some (.int .i64 x.Kind):=nr rfl
@[go_sem] theorem encR.p1:(encR x p).part 1 none=some (.int .i64 x.Level):=nr rfl
@[go_sem] theorem encR.p2:(encR x p).part 2 none=some (.int .i64 x.Value):=nr rfl
@[go_sem] theorem encR.p3:(encR x p).part 3 none=some (.lst 1 (x.Data.map qK) false):=nr rfl
@[go_sem] theorem encR.p4:(encR x p).part 4 none=some (.slice 2 p 0 x.Ports.length false):=nr rfl
theorem encR.isAgg:∃cs,encR x p=.agg cs:=⟨_,rfl⟩
end
def zS:Ags->List Nat->List AV
 | x::N,p::ps=>encR x p::zS N ps
 | _,_=>[]
theorem qBG:∀{N:Ags}{ps:List Nat}{k:Nat}{x:qA}{p:Nat},N[k]?=some x->ps[k]?=some p->(zS N ps)[k]?=some (encR x p)
 | x::N,p::ps,0,_,_,h1,h2=>by cases h1;cases h2;rfl
 | x::N,p::ps,k+1,_,_,h1,h2=>qBG (N:=N) (ps:=ps) (k:=k) h1 h2
 |[],_,_,_,_,h1,_=>by simp at h1
 | _::_,[],_,_,_,_,h2=>by simp at h2
theorem Qd:∀{N:Ags}{ps:List Nat},ps.length=N.length->(zS N ps).length=N.length
 | x::N,p::ps,h=>by simp[zS,Qd (N:=N) (ps:=ps) (by simpa using h)]
 |[],[],_=>rfl
 |[],_::_,h=>by simp at h
 | _::_,[],h=>by simp at h
theorem qaU:∀{N M:Ags}{ps qs:List Nat},ps.length=N.length->zS (N++M) (ps++qs)=zS N ps++zS M qs
 | x::N,M,p::ps,qs,h=>by simp[zS,qaU (N:=N) (ps:=ps) (by simpa using h)]
 |[],_,[],_,_=>rfl
 |[],_,_::_,_,h=>by simp at h
 | _::_,_,[],_,h=>by simp at h
theorem VF{x y:qA}{p:Nat}(h:jR y=jR x):encR y p=encR x p:=by
 simp only[jR,Prod.mk.injEq]at h;obtain⟨h1,h2,h3,h4,h5⟩:=h;unfold encR;rw[h1,h2,h3,h4,h5]
theorem qaV:∀{N M:Ags}{ps:List Nat},SameA N M->zS M ps=zS N ps
 |[],[],_,_=>rfl
 |[],_::_,_,h=>by simp[SameA]at h
 | _::_,[],_,h=>by simp[SameA]at h
 | x::N,y::M,[],h=>rfl
 | x::N,y::M,p::ps,h=>by
  unfold SameA at h;simp only[lMc,List.cons.injEq]at h;simp only[zS,VF h.1,qaV (N:=N) (M:=M) (ps:=ps) h.2]
structure NA(w:Nat)(post:List AV)(base nid aid:Nat)(ps:List Nat)(h:List qD)(N:Ags):Prop where
 o:h[nid]?=some (.row w [.agg (.slice 5 aid 0 N.length false::post)] true)
 a:h[aid]?=some (.row 5 (zS N ps) true)
 l:ps.length=N.length
 p:∀(k:Nat)(x:qA)(q:Nat),N[k]?=some x->ps[k]?=some q->h[q]?=some (.row 2 (x.Ports.map qG.enc) true)
 nd:ps.Nodup
 n1:nid≠aid
 n2:nid∉ps
 n3:aid∉ps
 b1:base<=nid
 b2:base<=aid
 b3:∀q∈ps,base<=q
def NE(w:Nat)(post:List AV)(base nid:Nat)(h:List qD)(N:Ags):Prop:=∃aid ps,NA w post base nid aid ps h N
structure Keep(base:Nat)(h h':List qD):Prop where
 l:h.length<=h'.length
 k:∀j,j<base->h'[j]?=h[j]?
theorem Keep.refl{b:Nat}{h:List qD}:Keep b h h:=⟨nLr _,fun _ _=>rfl⟩
theorem Keep.trans{b:Nat}{h h1 h2:List qD}(x:Keep b h h1)(y:Keep b h1 h2):Keep b h h2:=⟨nLt x.l y.l,fun j hj=>(y.k j hj).trans (x.k j hj)⟩
theorem Keep.app{b:Nat}{h ex:List qD}(hb:b<=h.length):Keep b h (h++ex):=⟨by simp,fun j hj=>gAl (by omega)⟩
theorem Keep.set{b i:Nat}{h:List qD}{o:qD}(hb:b<=i):Keep b h (h.set i o):=⟨by simp,fun j hj=>gSn (by omega)⟩
section
variable {w:Nat} {post:List AV} {base nid aid:Nat} {ps:List Nat} {h h':List qD} {N:Ags}
theorem NA.lt(hN:NA w post base nid aid ps h N):nid<h.length:=qe hN.o
theorem NA.lta(hN:NA w post base nid aid ps h N):aid<h.length:=qe hN.a
theorem NA.ltp(hN:NA w post base nid aid ps h N){q:Nat}(hq:q∈ps):q<h.length:=by
 obtain⟨k,hk,e⟩:=List.getElem_of_mem hq;have hk':k<N.length:=by rw[<-hN.l];exact hk
 exact qe (hN.p k N[k] q (gEg hk') (by rw[gEg hk,e]))
theorem NA.bl(hN:NA w post base nid aid ps h N):base<=h.length:=by have:=hN.lt;have:=hN.b1;omega
theorem NE.bl(hN:NE w post base nid h N):base<=h.length:=by obtain⟨_,_,hN⟩:=hN;exact hN.bl
theorem NA.at(hN:NA w post base nid aid ps h N){k:Nat}{x:qA}(hx:N[k]?=some x):∃q,ps[k]?=some q/\(zS N ps)[k]?=some (encR x q)/\h[q]?=some (.row 2 (x.Ports.map qG.enc) true):=by
 have hk:=qe hx;rw[<-hN.l]at hk;exact⟨ps[k],gEg hk,qBG hx (gEg hk),hN.p k x _ hx (gEg hk)⟩
theorem NA.heap(hN:NA w post base nid aid ps h N)(e1:h'[nid]?=h[nid]?)(e2:h'[aid]?=h[aid]?)(e3:∀q∈ps,h'[q]?=h[q]?):NA w post base nid aid ps h' N:=
 {hN with o:=e1.trans hN.o,a:=e2.trans hN.a,p:=fun k x q hx hq=>(e3 q (lMo hq)).trans (hN.p k x q hx hq)}
theorem NA.app(hN:NA w post base nid aid ps h N)(ex:List qD):NA w post base nid aid ps (h++ex) N:=
 hN.heap (gAl hN.lt) (gAl hN.lta) fun q hq=>gAl (hN.ltp hq)
theorem NE.app(hN:NE w post base nid h N)(ex:List qD):NE w post base nid (h++ex) N:=by
 obtain⟨aid,ps,hN⟩:=hN;exact⟨aid,ps,hN.app ex⟩
theorem NE.keep(hN:NE w post base nid h N)(hk:Keep h.length h h'):NE w post base nid h' N:=by
 obtain⟨aid,ps,hN⟩:=hN;exact⟨aid,ps,hN.heap (hk.k _ hN.lt) (hk.k _ hN.lta) fun q hq=>hk.k _ (hN.ltp hq)⟩
theorem Keep.up{b c:Nat}{h h':List qD}(hb:b<=c)(hk:Keep c h h'):Keep b h h':=⟨hk.l,fun j hj=>hk.k j (by omega)⟩
theorem NA.write(hN:NA w post base nid aid ps h N){a s q0:Nat}{x:qA}{r:qG}(hx:N[a]?=some x)(hq:ps[a]?=some q0):
  NA w post base nid aid ps (h.set q0 (.row 2 ((x.Ports.set s r).map qG.enc) true)) (QO N (pt a s) r):=by
 have hm:=lMo hq;have h0:=hN.ltp hm;have e1:nid≠q0:=fun e=>hN.n2 (e▸hm);have e2:aid≠q0:=fun e=>hN.n3 (e▸hm);refine⟨?_, ?_,by rw[qC3];exact hN.l,fun k y q hy hq'=> ?_,hN.nd,hN.n1,hN.n2,hN.n3,hN.b1,hN.b2,hN.b3⟩
 ·rw[gSn (Ne.symm e1),qC3];exact hN.o
 ·rw[gSn (Ne.symm e2),qaV (XG N (pt a s) r)];exact hN.a
 ·rw[qd4 hx]at hy;by_cases hk:k=a
  ·subst hk;rw[hq]at hq';cases hq';rw[gSs (qe hx)]at hy;cases hy;rw[gSs h0]
  ·rw[gSn (fun e=>hk e.symm)]at hy;have:q0≠q:=by
    intro e;subst e;have k1:=qe hq;have k2:=qe hq';have f1:=(gSi.1 hq).2;have f2:=(gSi.1 hq').2;exact hk (((List.getElem_inj hN.nd).1 (f1.trans f2.symm)).symm)
   rw[gSn this];exact hN.p k y q hy hq'
theorem NA.push(hN:NA w post base nid aid ps h N){x:qA}{q:Nat}(hq:h[q]?=some (.row 2 (x.Ports.map qG.enc) true))(b:base<=q)(q1:q≠nid)(q2:q≠aid)(q3:q∉ps){h2:List qD}
  (e1:h2[nid]?=some (.row w [.agg (.slice 5 h.length 0 (N.length+1) false::post)] true)) (e2:h2[h.length]?=some (.row 5 (zS N ps++[encR x q]) true)) (e3:∀j,j<h.length->j≠nid->j≠aid->h2[j]?=h[j]?):
  NA w post base nid h.length (ps++[q]) h2 (N++[x]):=by
 have k0:=hN.lt;have k1:=hN.lta;have k2:=qe hq;refine⟨by simpa using e1,by rw[qaU hN.l];exact e2,by simp[hN.l],fun k y r hy hr=> ?_, ?_,by omega, ?_, ?_,hN.b1,nLt hN.b1 (Nat.le_of_lt k0), ?_⟩
 ·rcases Nat.lt_or_ge k N.length with hk | hk
  ·rw[gAl hk]at hy;rw[gAl (by rw[hN.l];exact hk)]at hr;have hm:=lMo hr;rw[e3 r (hN.ltp hm) (fun e=>hN.n2 (e▸hm)) (fun e=>hN.n3 (e▸hm))];exact hN.p k y r hy hr
  ·rw[gAr hk]at hy;rw[gAr (by rw[hN.l];exact hk),hN.l]at hr;have:k-N.length=0:=by have:=qe hy;simp at this;omega
   rw[this]at hy hr;cases hy;cases hr;rw[e3 q k2 q1 q2];exact hq
 ·rw[List.nodup_append];exact⟨hN.nd,by simp,fun a ha b hb=>by simp at hb;subst hb;intro e;exact q3 (e▸ha)⟩
 ·simp only[wV,lMg,not_or];exact⟨hN.n2,Ne.symm q1⟩
 ·simp only[wV,lMg,not_or];exact⟨fun e=>by have:=hN.ltp e;omega,by omega⟩
 ·intro r hr;rcases wV.1 hr with hr | hr
  ·exact hN.b3 r hr
  ·simp at hr;subst hr;exact b
end
theorem zR{a s:Int}:Pure Gm 952 [.int .i64 a,.int .i64 s] ((⟨a,s⟩:qG).enc):=by
 refine pI F952 (by simp[AV.trees,AV.tree,go_sem]) rfl ?_;simp only[F952,qQ,go_sem];refine qU rfl rfl ⟨_,rfl⟩ (by decide) ?_;simp only[go_sem];exact qR qG.tr rfl
section
variable {w:Nat} {post:List AV} {base nid:Nat} {h:List qD} {N:Ags} {K:AV->List qD->Prop} {a s c k:Nat}
theorem zH{len id a:Nat}(h:a<len):idx 5 (some (.slice 5 id 0 len false)) (some (.int .i64 (a:Int)))=some (.ptr id a 0):=by rw[zi h,nZa]
theorem Jb{len id a:Nat}(h:a<len):idx 2 (some (.slice 2 id 0 len false)) (some (.int .i64 (a:Int)))=some (.ptr id a 0):=by rw[zi h,nZa]
theorem W6{x:qA}{s:Nat}(h:s<x.Ports.length):(x.Ports.map qG.enc)[s]?=some (x.Ports[s].enc):=by rw[gMp,gEg h];rfl
theorem V3{p q:qG}:p.enc.put 0 q.enc=some q.enc:=by cases p;cases q;rfl
theorem UE{x:qA}{s:Nat}{q:qG}:(x.Ports.map qG.enc).set s q.enc=(x.Ports.set s q).map qG.enc:=by rw[List.map_set]
theorem s490(hN:NE w post base nid h N)(hp:Has N a s)(hK:K (z9 N (pt a s)).enc h):SCall Gm 490 [.ptr nid 0 0,(pt a s).enc] h K:=by
 obtain⟨aid,ps,hN⟩:=hN;obtain⟨x,hx,hs⟩:=jm.1 hp;obtain⟨q,hq,ha,hr⟩:=hN.at hx;have e:z9 N (pt a s)=x.Ports[s]:=W5 (jY.2 ⟨x,hx,gEg hs⟩);rw[e]at hK;refine sI kJ ?_;simp only[kJ,qQ,go_sem];refine qW rfl ?_;simp only[go_sem,hN.o,pt,zH (qe hx),hN.a,ha,Jb hs,hr,W6 hs];refine qU rfl rfl ⟨_,rfl⟩ (by decide) ?_;simp only[go_sem];exact hK
theorem XE(hN:NE w post base nid h N)(h1:Has N a s)(h2:Has N c k)(hK:∀h',NE w post base nid h' (zj N (pt a s) (pt c k))->Keep base h h'->K (.tup []) h'):SCall Gm 491 [.ptr nid 0 0,(pt a s).enc,(pt c k).enc] h K:=by
 obtain⟨aid,ps,hN⟩:=hN;obtain⟨x,hx,hs⟩:=jm.1 h1;obtain⟨q,hq,ha,hr⟩:=hN.at hx;have b1:=hN.b3 _ (lMo hq);have hN1:=hN.write (s:=s) (r:=pt c k) hx hq;obtain⟨y,hy,hk⟩:=jm.1 ((XG N (pt a s) (pt c k)).has.1 h2);obtain⟨q',hq',ha',hr'⟩:=hN1.at hy;have b2:=hN1.b3 _ (lMo hq');have hN2:=hN1.write (s:=k) (r:=pt a s) hy hq';refine sI kK ?_;simp only[kK,qQ,go_sem];refine qW rfl ?_;simp only[go_sem];refine qW rfl ?_;simp only[go_sem,hN.o,pt,zH (qe hx),hN.a,ha,Jb hs];refine q8 rfl hr (W6 hs) V3 ?_;rw[UE];simp only[go_sem,hN1.o,zH (qe hy),hN1.a,ha',Jb hk];refine q8 rfl hr' (W6 hk) V3 ?_;rw[UE];simp only[go_sem];exact hK _ ⟨aid,ps,hN2⟩ ((Keep.set b1).trans (Keep.set b2))
theorem J8(hN:NE w post base nid h N)(h1:Has N a s)(h2:Has N c k)(h3:∃b t,z9 N (pt a s)=pt b t/\Has N b t)(hK:∀h',NE w post base nid h' (jH N (pt a s) (pt c k))->Keep base h h'->K (.tup []) h'):SCall Gm 1300 [.ptr nid 0 0,(pt a s).enc,(pt c k).enc] h K:=by
 obtain⟨b,t,e,h3⟩:=h3;refine sI Ur ?_;simp only[Ur,qQ,go_sem];refine qW rfl ?_;simp only[go_sem];refine qW rfl ?_;simp only[go_sem];refine qZ (s490 hN h1 ?_);simp only[go_sem,e];refine qZ (XE hN h2 h3 fun h' hN' hk=> ?_);simp only[go_sem];exact hK _ (by unfold jH;rw[e];exact hN') hk
theorem V9(hN:NE w post base nid h N)(h1:Has N a s)(h2:Has N c k)(h3:∃b t,z9 N (pt a s)=pt b t/\Has N b t)(h4:∃b t,z9 N (pt c k)=pt b t/\Has N b t)
  (hK:∀h',NE w post base nid h' (jn N (pt a s) (pt c k))->Keep base h h'->K (.tup []) h'):SCall Gm 1298 [.ptr nid 0 0,(pt a s).enc,(pt c k).enc] h K:=by
 obtain⟨b,t,e,h3⟩:=h3;obtain⟨b',t',e',h4⟩:=h4;refine sI Up ?_;simp only[Up,qQ,go_sem];refine qW rfl ?_;simp only[go_sem];refine qW rfl ?_;simp only[go_sem];refine qZ (s490 hN h1 ?_);simp only[go_sem,e];refine qU rfl rfl ⟨_,rfl⟩ (by decide) ?_;simp only[go_sem];refine qZ (s490 hN h2 ?_);simp only[go_sem,e'];refine qU rfl rfl ⟨_,rfl⟩ (by decide) ?_;simp only[go_sem];apply qM<;>intro hc<;>simp only[hc,go_sem]
 ·refine qZ (XE hN h3 h4 fun h' hN' hk=> ?_);simp only[go_sem];refine hK _ ?_ hk;unfold jn;rw[e,e',if_neg (fun q=>by rw[q]at hc;simp at hc)];exact hN'
 ·refine hK _ ?_ Keep.refl;unfold jn;rw[e,if_pos (by simpa using hc)];exact hN
end
theorem Z7{b pid w:Nat}{h g:List qD}{el:List AV}{x:AV}{tmp:qD}(hk:Keep b h g)(hh:b<=h.length)(hb:b<=pid)(h1:g[pid]?=some (.row w el true)):
  Keep b h (((g++[tmp]).set pid .dead)++[.row w (el++[x]) true])/\(((g++[tmp]).set pid .dead)++[.row w (el++[x]) true])[g.length+1]?=some (.row w (el++[x]) true):=by
 have hl:=hk.l;refine⟨⟨by simp;omega,fun j hj=> ?_⟩, ?_⟩
 ·rw[gAl (by simp;omega),gSn (by omega),gAl (by omega)];exact hk.k j hj
 ·rw[gAr (by simp)];simp
theorem JT{pid w:Nat}{g:List qD}{el:List AV}{tmp:qD}(h1:g[pid]?=some (.row w el true)):(g++[tmp])[pid]?=some (.row w el true)/\(g++[tmp])[g.length]?=some tmp:=by
 exact⟨by rw[gAl (qe h1)];exact h1,by simp⟩
theorem YU{a b c d:Nat}{e:Bool}{v:AV}{post:List AV}:(AV.agg (v::post)).put 0 (.slice a b c d e)=some (.agg (.slice a b c d e::post)):=by simp[AV.put,AV.cells]
theorem NA.pushed{w base nid aid b:Nat}{post:List AV}{ps:List Nat}{g:List qD}{N:Ags}{x:qA}{q:Nat}{tmp:qD}(hN:NA w post base nid aid ps g N)(hq:g[q]?=some (.row 2 (x.Ports.map qG.enc) true))(hb:base<=b)(b1:b<=q)
  (b2:∀{r},r∈ps->r<b) (b3:nid<b) (b4:aid<b):
  (((g++[tmp]).set aid .dead)++[qD.row 5 (zS N ps++[encR x q]) true])[nid]?=some (.row w [.agg (.slice 5 aid 0 N.length false::post)] true)/\
  NA w post base nid (g.length+1) (ps++[q]) ((((g++[tmp]).set aid .dead)++[qD.row 5 (zS N ps++[encR x q]) true]).set nid (.row w [.agg (.slice 5 (g.length+1) 0 (N.length+1) false::post)] true)) (N++[x])/\
  Keep base g ((((g++[tmp]).set aid .dead)++[qD.row 5 (zS N ps++[encR x q]) true]).set nid (.row w [.agg (.slice 5 (g.length+1) 0 (N.length+1) false::post)] true)):=by
 have k0:=hN.lt;have k1:=hN.lta;have k2:=qe hq;have n1:=hN.n1;have hl:=hN.bl;have c1:=hN.b1;have c2:=hN.b2;refine⟨?_, ?_,⟨by simp;omega,fun j hj=> ?_⟩⟩
 ·rw[gAl (by simp;omega),gSn (by omega),gAl k0];exact hN.o
 ·have hN':NA w post base nid aid ps (g++[tmp]) N:=hN.app _;have:=hN'.push (x:=x) (q:=q) (h2:=(((g++[tmp]).set aid .dead)++[qD.row 5 (zS N ps++[encR x q]) true]).set nid (.row w [.agg (.slice 5 (g.length+1) 0 (N.length+1) false::post)] true))
   (by rw[gAl k2];exact hq) (by omega) (by omega) (by omega) (fun hm=>by have:=b2 hm;omega) ?_ ?_ ?_
  ·simpa using this
  ·rw[gSs (by simp;omega)];simp
  ·rw[gSn (by simp;omega),gAr (by simp)];simp
  ·intro j hj j1 j2;rw[gSn (Ne.symm j1),gAl (by simpa using hj),gSn (Ne.symm j2)]
 ·rw[gSn (by omega),gAl (by simp;omega),gSn (by omega),gAl (by omega)]
abbrev zp:qG:=⟨0,0⟩
theorem qdM{i:Nat}:List.replicate i zp.enc++[zp.enc]=List.replicate (i+1) zp.enc:=by rw[List.replicate_succ']
section
variable {w:Nat} {post:List AV} {base nid:Nat} {h:List qD} {N:Ags} {K:AV->List qD->Prop} {a s c k:Nat}
theorem UC{kk lv v:Int}{d:List Int}{n:Nat}(hN:NE w post base nid h N)(hd:d.length<=1048576)(hn:n<=1048576)(hl:N.length<=1048576)
  (hK:∀h',NE w post base nid h' (N++[qT kk lv v d n])->Keep base h h'->K (.int .i64 (N.length:Nat)) h'):SCall Gm 949 [.ptr nid 0 0,.int .i64 kk,.int .i64 lv,.int .i64 v,.lst 1 (d.map qK) false,.int .i64 (n:Nat)] h K:=by
 have hbl:=hN.bl;refine sI F949 ?_;simp only[F949,qQ,go_sem];refine qO (c402 d (by omega)) ?_;simp only[go_sem];refine qU rfl rfl ⟨_,rfl⟩ (by decide) ?_;simp only[go_sem];refine Sem.loop (α:=Nat×List qD×Nat) (fun q=>q.1<=n/\Keep h.length h q.2.1/\h.length<=q.2.2/\q.2.1[q.2.2]?=some (.row 2 (List.replicate q.1 zp.enc) true))
  (fun q=>(⟨[(0,.ptr nid 0 0),(14,.int .i64 ((n-q.1:Nat):Int))],[(13,.agg [.int .i64 kk,.int .i64 lv,.int .i64 v,.lst 1 (d.map qK) false,.slice 2 q.2.2 0 q.1 false])],q.2.1⟩:VSt)) (fun q=>n-q.1) (0,h++[.row 2 [] true],h.length) (by kernel_rfl)
  ⟨nZl _,Keep.app (nLr _),nLr _,by simp⟩
  (Can.ph (WkN.same rfl (WkN.same rfl WkN.nil)) (WkN.cons rfl (Wk.agg (Wks.same (Wks.same (Wks.same (Wks.same (.cons (Wk.ph (by simp)) .nil)))))) WkN.nil)) ?_
 rintro⟨i,g,pid⟩ ⟨hi,hk,hp,hr⟩;simp only at hi hk hp hr;simp only[go_sem];apply qM<;>intro hc<;>simp only[hc,go_sem]
 ·have hlt:i<n:=by have:=odT hc;omega
  obtain⟨r1,r2⟩:=JT (tmp:=.row 2 [zp.enc] true) hr;refine zy r2 r1 (by simp) (by omega) ?_;simp only[lAp,nZa,go_sem];have e1:IntKind.i64.wrap (((n-i:Nat):Int)-1)=((n-(i+1):Nat):Int):=by rw[qf (by omega) (by omega)];omega
  simp only[e1];obtain⟨q1,q2⟩:=Z7 (x:=zp.enc) (tmp:=.row 2 [zp.enc] true) hk (nLr _) hp hr;rw[qdM]at q1 q2;rw[qdM];refine qd (i+1,_,g.length+1) ⟨hlt,q1,by have:=hk.l;simp only;omega,q2⟩ (by simp only;omega) (Can.sub ?_ ?_)<;>simp[go_sem]
 ·have:i=n:=by have:=odF hc;omega
  subst this;obtain⟨aid,ps,hN0⟩:=hN;have k0:=hN0.lt;have k1:=hN0.lta;have hN1:NA w post base nid aid ps g N:=hN0.heap (hk.k _ k0) (hk.k _ k1) fun q hq=>hk.k _ (hN0.ltp hq);have eX:encR (qT kk lv v d i) pid=.agg [.int .i64 kk,.int .i64 lv,.int .i64 v,.lst 1 (d.map qK) false,.slice 2 pid 0 i false]:=by simp[encR,qT]
  obtain⟨r1,r2⟩:=JT (tmp:=.row 5 [.agg [.int .i64 kk,.int .i64 lv,.int .i64 v,.lst 1 (d.map qK) false,.slice 2 pid 0 i false]] true) hN1.a;have hl5:=Qd hN0.l;simp only[hN1.o,go_sem];refine zy r2 r1 hl5 (by omega) ?_;obtain⟨h2,e2,e3⟩:=hN1.pushed (x:=qT kk lv v d i) (q:=pid) (tmp:=.row 5 [.agg [.int .i64 kk,.int .i64 lv,.int .i64 v,.lst 1 (d.map qK) false,.slice 2 pid 0 i false]] true) (by rw[hr];simp[qT]) hbl hp (fun q=>hN0.ltp q) k0 k1;rw[eX]at h2 e2 e3;simp only[lAp,nZa,go_sem];refine q8 rfl h2 rfl YU ?_;simp only[lSz];generalize hg:List.set _ _ _=h3;rw[hg]at e2 e3;simp only[go_sem,e2.o];have e5:IntKind.i64.wrap (((N.length+1:Nat):Int)-1)=((N.length:Nat):Int):=by rw[qf (by omega) (by omega)];omega
  simp only[lAp,nZa,e5,go_sem];exact hK _ ⟨_,_,e2⟩ ((Keep.up hbl hk).trans e3)
end
structure NT(w:Nat)(post:List AV)(base nid aid:Nat)(h:List qD)(N:Ags):Prop where
 o:h[nid]?=some (.row w [.agg (.slice 5 aid 0 N.length false::post)] true)
 a:h[aid]?=some (.row 5 (N.map qA.enc) true)
 n1:nid≠aid
 b1:base<=nid
 b2:base<=aid
theorem qhF{H:List qD}{x:qA}{q:Nat}(hq:H[q]?=some (.row 2 (x.Ports.map qG.enc) true)):HCv H (encR x q) x.enc:=
 .agg rfl (HCv.list (.same _) (HCv.list (.same _) (HCv.list (.same _) (HCv.list (.same _) (HCv.list (.cv (Cv.row hq (by simp) (qV (fun x=>qG.tr) _) (by decide)) (by simp only[AV.tree];exact qV (fun x=>qG.tr) _)) (HCv.refls [])))))).2
theorem qaT{H:List qD}:∀{N:Ags}{ps:List Nat},ps.length=N.length->(∀(k:Nat)(x:qA)(q:Nat),N[k]?=some x->ps[k]?=some q->H[q]?=some (.row 2 (x.Ports.map qG.enc) true))->
  (zS N ps).length=(N.map qA.enc).length/\∀p∈(zS N ps).zip (N.map qA.enc),HCv H p.1 p.2
 |[],[],_,_=>HCv.refls []
 |[],_::_,h,_=>by simp at h
 | _::_,[],h,_=>by simp at h
 | x::N,q::ps,h,hp=>HCv.list (qhF (hp 0 x q rfl rfl)) (qaT (N:=N) (ps:=ps) (by simpa using h) fun k x q hx hq=>hp (k+1) x q hx hq)
section
variable {w:Nat} {post:List AV} {base nid aid:Nat} {ps:List Nat} {h:List qD} {N:Ags} {K:AV->List qD->Prop} {a s c k:Nat}
theorem NA.freeze(hN:NA w post base nid aid ps h N)(h0:0<N.length):∃h',(∀b s m,Can b ⟨s,m,h⟩ ⟨s,m,h'⟩)/\NT w post base nid aid h' N/\Keep base h h'/\h'.length=h.length/\∀j,j∉ps->j≠aid->h'[j]?=h[j]?:=by
 have e:∀j,j∉ps->j≠aid->((without ps h).set aid (.row 5 (N.map qA.enc) true))[j]?=h[j]?:=fun j j1 j2=>by
  rw[gSn (Ne.symm j2),wj j1]
 refine⟨_,fun b s m=>Can.giveH ps (by simpa using hN.n3) hN.a (by rw[Qd hN.l];exact h0) (qaT hN.l fun k x q hx hq=> ?_),⟨?_, ?_,hN.n1,hN.b1,hN.b2⟩,⟨by simp[wN],fun j hj=> ?_⟩,by simp[wN],e⟩
 ·rw[Jg (lMo hq)];exact hN.p k x q hx hq
 ·rw[e nid hN.n2 hN.n1];exact hN.o
 ·rw[gSs (by rw[wN];exact hN.lta)]
 ·exact e j (fun q=>by have:=hN.b3 _ q;omega) (by have:=hN.b2;omega)
abbrev JP:qA:=⟨0,0,0,[],[]⟩
theorem qbN:Wk [] (.agg [.int .i64 0,.int .i64 0,.int .i64 0,.nils,.nils]) JP.enc:=.agg (Wks.same (Wks.same (Wks.same (.cons .nilL (.cons .nilL .nil)))))
theorem Wks.setA{xs:List AV}{i:Nat}{a b:AV}(h:Wk [] a b):Wks [] (xs.set i a) (xs.set i b):=by
 induction xs generalizing i with
 | nil=>exact .nil
 | cons x xs ih=>cases i with
  | zero=>exact .cons h (Wks.refl _)
  | succ i=>exact .same ih
theorem qlP(hN:NT w post base nid aid h N)(ha:a<N.length)(hK:∀h',NT w post base nid aid h' (N.set a JP)->Keep base h h'->K (.tup []) h'):SCall Gm 1304 [.ptr nid 0 0,.int .i64 (a:Nat)] h K:=by
 refine SCall.runW [] [] (gk _ XU) (by kernel_rfl) rfl ?_;simp only[XU,qQ,go_sem,hN.o,zH ha];refine q8 (e:=N[a].enc) (e':=.agg [.int .i64 0,.int .i64 0,.int .i64 0,.nils,.nils]) rfl hN.a (by rw[gMp,gEg ha];rfl) rfl ?_;simp only[go_sem];refine⟨_,_,Wk.refl _,WkH.set (Wks.setA qbN),hK _ ⟨?_, ?_,hN.n1,hN.b1,hN.b2⟩ (Keep.set hN.b2)⟩
 ·rw[gSn (Ne.symm hN.n1),lLs];exact hN.o
 ·rw[gSs (qe hN.a),List.map_set]
theorem qlQ(hN:NE w post base nid h N)(ha:a<N.length)(hK:∀h' aid,NT w post base nid aid h' (N.set a JP)->Keep base h h'->K (.tup []) h'):SCall Gm 1304 [.ptr nid 0 0,.int .i64 (a:Nat)] h K:=by
 obtain⟨aid,ps,hN⟩:=hN;obtain⟨h1,c1,n1,k1,l1,_⟩:=hN.freeze (by omega);refine SCall.out (SCall.runC [] [] (gk _ XU) (by kernel_rfl) rfl (c1 _ _ _) ?_);have hN:=n1;rw[<-l1];simp only[XU,qQ,go_sem,hN.o,zH ha];refine q8 (e:=N[a].enc) (e':=.agg [.int .i64 0,.int .i64 0,.int .i64 0,.nils,.nils]) rfl hN.a (by rw[gMp,gEg ha];rfl) rfl ?_;simp only[go_sem];refine⟨_,_,Wk.refl _,WkH.set (Wks.setA qbN),hK _ aid ⟨?_, ?_,hN.n1,hN.b1,hN.b2⟩ (k1.trans (Keep.set hN.b2))⟩
 ·rw[gSn (Ne.symm hN.n1),lLs];exact hN.o
 ·rw[gSs (qe hN.a),List.map_set]
end
def hiI(xs:Ags):Int:=xs.foldl (fun m x=>if x.Level<m then m else x.Level) 0
def Jd(xs:Ags):Nat:=(xs.filter fun x=>decide (x.Kind≠0)).length
theorem qiB{xs:Ags}{i:Nat}(h:i<xs.length):hiI (xs.take (i+1))=if xs[i].Level<hiI (xs.take i)then hiI (xs.take i)else xs[i].Level:=by
 unfold hiI;rw[lTs h,List.foldl_append];rfl
theorem qiZ{xs:Ags}{i:Nat}(h:i<xs.length):Jd (xs.take (i+1))=Jd (xs.take i)+if xs[i].Kind=0 then 0 else 1:=by
 unfold Jd;rw[lTs h,List.filter_append,lAp];by_cases e:xs[i].Kind=0<;>simp[e]
theorem qiY(xs:Ags):Jd xs<=xs.length:=List.length_filter_le _ _
def zw(c p:Int):Int×Int:=
 if c=1\/c=2 then(if inI p 0 0 then(-2,0)else(0,2))else if c=3 then(if inI p 0 3 then(p,0)else(0,2))else if c=4 then(if inI p 0 3 then(p-2,0)else(0,2))
 else if c=5 then(if inI p 0 0 then(-1,0)else(0,2))else if c=6 then(if inI p 0 3 then(p-1,0)else(0,2))else if c=7 then(if inI p 2 600 then(p-2,0)else(0,2))else(0,2)
def zY(bk:List qC)(v:Int):qC:=(bk[v.toNat]?).getD ⟨[]⟩
def jX(bk:List qC)(x y:qA)(c:Int):Int:=if c=3\/c=4 then(y.Ports.length:Int)-1 else if c=6 then fieldsOf x else if c=7 then((zY bk x.Value).Agents.length:Int)else 0
def qx(bk:List qC)(x y:qA):Int×Int:=
 if qS x y=8 then(0,11)else if qS x y=7/\(bk.length:Int)<=x.Value then(0,3)else if qS x y=7/\8<IntKind.i64.wrap (hiI (zY bk x.Value).Agents+x.Level)then(0,9)
 else((zw (qS x y) (jX bk x y (qS x y))).1,0)
theorem c856{a b:Int}:Pure Gm 856 [.int .i64 a,.int .i64 b] (.int .i64 (if b<a then a else b)):=by
 refine pI F856 (by simp[AV.trees,AV.tree,go_sem]) rfl ?_;simp only[F856,qQ,go_sem]
 repeat' (first | (refine qW rfl ?_;simp only[go_sem]) | (first | (apply qg<;>intro hc<;>simp only[hc,go_sem]) | (apply qM<;>intro hc<;>simp only[hc,go_sem])) | refine qR rfl ?_ | refine jV (by rfl) ?_)
 all_goals (simp_all<;>omega)
theorem qfM{n:qC}(hz:n.sz<=1048576):Pure Gm 1177 [.ept n.enc 0] (.int .i64 (hiI n.Agents)):=by
 refine pI Uk (by simp[AV.trees,AV.tree,go_sem]) rfl ?_;simp only[Uk,qQ,go_sem];unfold qC.sz at hz;refine Sem.loop (fun i:Nat=>i<=n.Agents.length/\True) (fun i=>(⟨[(0,.ept n.enc 0),(3,.int .i64 (hiI (n.Agents.take i))),(4,.int .i64 (i:Nat))],[],[]⟩:VSt)) (fun i=>n.Agents.length-i) 0 (by kernel_rfl) ⟨nZl _,by trivial⟩ (Can.sub (by simp[go_sem,hiI]) (by simp[go_sem])) ?_;rintro i ⟨hi,hI⟩;simp only[go_sem];apply qM<;>intro hc<;>simp only[hc,go_sem]
 ·have hlt:i<n.Agents.length:=by have:=odT hc;omega
  simp only[gMp,gEg hlt,oMs,go_sem];refine qO c856 ?_;simp only[go_sem];rw[<-qiB hlt];simp only[qc (show i<4611686018427387904 by omega)];refine qd (i+1) ⟨by omega, ?_⟩ (by omega) (Can.sub (by simp[go_sem]) (by simp[go_sem]));trivial
 ·obtain rfl:i=n.Agents.length:=by have:=odF hc;omega
  exact qR rfl (by rw[lTl])
theorem qfQ{n:qC}(hz:n.sz<=1048576):Pure Gm 1297 [.ept n.enc 0] (.int .i64 (Jd n.Agents:Nat)):=by
 refine pI Uo (by simp[AV.trees,AV.tree,go_sem]) rfl ?_;simp only[Uo,qQ,go_sem];unfold qC.sz at hz;refine Sem.loop (fun i:Nat=>i<=n.Agents.length/\True) (fun i=>(⟨[(0,.ept n.enc 0),(3,.int .i64 (Jd (n.Agents.take i):Nat)),(4,.int .i64 (i:Nat))],[],[]⟩:VSt)) (fun i=>n.Agents.length-i) 0 (by kernel_rfl) ⟨nZl _,by trivial⟩ (Can.sub (by simp[go_sem,Jd]) (by simp[go_sem])) ?_;rintro i ⟨hi,hI⟩;simp only[go_sem];apply qM<;>intro hc<;>simp only[hc,go_sem]
 ·have hlt:i<n.Agents.length:=by have:=odT hc;omega
  have hv:=qiY (n.Agents.take i);rw[lLt]at hv;have hs:=qiZ hlt;clear hc;simp only[gMp,gEg hlt,oMs,go_sem];apply qM<;>intro hc<;>simp only[hc,go_sem]
  ·rw[if_neg (by simpa using hc)]at hs;simp only[qc (show Jd (n.Agents.take i)<4611686018427387904 by omega),<-hs];simp only[qc (show i<4611686018427387904 by omega)];refine qd (i+1) ⟨by omega, ?_⟩ (by omega) (Can.sub (by simp[go_sem]) (by simp[go_sem]));trivial
  ·have hs2:Jd (n.Agents.take i)=Jd (n.Agents.take (i+1)):=by rw[hs,if_pos (by simpa using hc)];rfl
   rw[hs2];simp only[qc (show i<4611686018427387904 by omega)];refine qd (i+1) ⟨by omega, ?_⟩ (by omega) (Can.sub (by simp[go_sem]) (by simp[go_sem]));trivial
 ·obtain rfl:i=n.Agents.length:=by have:=odF hc;omega
  exact qR rfl (by rw[lTl])
theorem Xp{c p:Int}(h0: -1000000<=p)(h1:p<=1000000):Pure Gm 1460 [.int .i64 c,.int .i64 p] (.tup [.int .i64 (zw c p).1,.int .i64 (zw c p).2]):=by
 refine pI KQ (by simp[AV.trees,AV.tree,go_sem]) rfl ?_;simp only[KQ,qQ,go_sem];have w2:IntKind.i64.wrap (p-2)=p-2:=qf (by omega) (by omega);have w1:IntKind.i64.wrap (p-1)=p-1:=qf (by omega) (by omega);unfold zw
 repeat' (first | (first | (apply qg<;>intro hc<;>simp only[hc,go_sem]) | (apply qM<;>intro hc<;>simp only[hc,go_sem])) | (refine qO wn ?_;simp only[go_sem]) | (refine jV (by rfl) ?_))
 all_goals simp_all
def J7(x y:qA):qA×qA:=if zM x y then(y,x)else(x,y)
theorem qfP{bk:List qC}{n:qC}{a b:Nat}(ha:a<n.Agents.length)(hb:b<n.Agents.length)(hs:∀x∈n.Agents,x.sz<=600000)(hbk:∀t∈bk,t.sz<=600000)(hv:qS (J7 n.Agents[a] n.Agents[b]).1 (J7 n.Agents[a] n.Agents[b]).2=7->0<=(J7 n.Agents[a] n.Agents[b]).1.Value):Pure Gm 1296 [.lst 1 (bk.map qC.enc) false,.ept n.enc 0,.int .i64 (a:Int),.int .i64 (b:Int)] (.tup [.int .i64 (qx bk (J7 n.Agents[a] n.Agents[b]).1 (J7 n.Agents[a] n.Agents[b]).2).1,.int .i64 (qx bk (J7 n.Agents[a] n.Agents[b]).1 (J7 n.Agents[a] n.Agents[b]).2).2]):=by
 refine pI Un (by simp[AV.trees,AV.tree,go_sem];exact qV qC.isSh.tree _) rfl ?_;simp only[Un,qQ,go_sem];refine qO (c743 ha hb) ?_;obtain⟨a',b',hA,hB,e1,e2⟩:∃(a' b':Nat)(ha':a'<n.Agents.length)(hb':b'<n.Agents.length),(if zM n.Agents[a] n.Agents[b]then AV.tup [.int .i64 (b:Int),.int .i64 (a:Int)]else .tup [.int .i64 (a:Int),.int .i64 (b:Int)])=.tup [.int .i64 (a':Int),.int .i64 (b':Int)]/\
   J7 n.Agents[a] n.Agents[b]=(n.Agents[a'],n.Agents[b']):=by
  unfold J7;by_cases q:zM n.Agents[a] n.Agents[b]=true
  ·exact⟨b,a,hb,ha,by rw[if_pos q],by rw[if_pos q]⟩
  ·exact⟨a,b,ha,hb,by rw[if_neg q],by rw[if_neg q]⟩
 rw[e1,e2];rw[e2]at hv;simp only[go_sem];simp only[gMp,gEg hA,oMs,go_sem];simp only[gMp,gEg hB,oMs,go_sem];have x1:=hs _ (gMm hA);have y1:=hs _ (gMm hB);generalize n.Agents[a']=x at x1 hv|-;generalize n.Agents[b']=y at y1 hv|-;unfold qA.sz at x1 y1;clear e1 e2;refine qO Y1 ?_;simp only[go_sem];apply qM<;>intro hc<;>simp only[hc,go_sem]
 ·have e:qS x y=8:=by simpa using hc
  exact jV rfl (by unfold qx;rw[if_pos e])
 have n8:qS x y≠8:=by simpa using hc
 clear hc;have fin:∀p:Int,jX bk x y (qS x y)=p->-1000000<=p->p<=1000000->¬(qS x y=7/\(bk.length:Int)<=x.Value)->¬(qS x y=7/\8<IntKind.i64.wrap (hiI (zY bk x.Value).Agents+x.Level))->
   qx bk x y=((zw (qS x y) p).1,0):=fun p e _ _ q1 q2=>by
  unfold qx;rw[if_neg n8,if_neg q1,if_neg q2,e]
 apply qM<;>intro hc<;>simp only[hc,go_sem]
 ·have e:qS x y=3:=by simpa using hc
  rw[qf (by omega) (by omega)];refine qO (Xp (by omega) (by omega)) ?_;simp only[go_sem];exact jV rfl (by rw[fin ((y.Ports.length:Int)-1) (by unfold jX;rw[if_pos (.inl e)]) (by omega) (by omega) (by omega) (by omega)])
 have n3:qS x y≠3:=by simpa using hc
 clear hc;apply qM<;>intro hc<;>simp only[hc,go_sem]
 ·have e:qS x y=4:=by simpa using hc
  rw[qf (by omega) (by omega)];refine qO (Xp (by omega) (by omega)) ?_;simp only[go_sem];exact jV rfl (by rw[fin ((y.Ports.length:Int)-1) (by unfold jX;rw[if_pos (.inr e)]) (by omega) (by omega) (by omega) (by omega)])
 have n4:qS x y≠4:=by simpa using hc
 clear hc;have n34:¬(qS x y=3\/qS x y=4):=by omega
 apply qM<;>intro hc<;>simp only[hc,go_sem]
 ·have e:qS x y=6:=by simpa using hc
  refine qO (qAP (by omega)) ?_;simp only[go_sem];have f: -1000000<=fieldsOf x/\fieldsOf x<=1000000:=by unfold fieldsOf;split<;>omega
  refine qO (Xp f.1 f.2) ?_;simp only[go_sem];exact jV rfl (by rw[fin (fieldsOf x) (by unfold jX;rw[if_neg n34,if_pos e]) (by omega) (by omega) (by omega) (by omega)])
 have n6:qS x y≠6:=by simpa using hc
 clear hc;apply qM<;>intro hc<;>simp only[hc,go_sem]
 ·have e:qS x y=7:=by simpa using hc
  have v0:=hv e;simp only at v0;apply qM<;>intro hc<;>simp only[hc,go_sem]
  ·exact jV rfl (by unfold qx;rw[if_neg n8,if_pos ⟨e,by simpa using hc⟩])
  have hlt:x.Value.toNat<bk.length:=by have:=odF hc;omega
  have et:zY bk x.Value=bk[x.Value.toNat]:=by unfold zY;rw[gEg hlt];rfl
  have hz:=hbk _ (gMm hlt);have q1:¬(qS x y=7/\(bk.length:Int)<=x.Value):=by have:=odF hc;omega
  clear hc;simp only[Jx v0,gMp,gEg hlt,oMs,go_sem];refine qO (qfM (by omega)) ?_;simp only[go_sem];rw[<-et];apply qM<;>intro hc<;>simp only[hc,go_sem]
  ·exact jV rfl (by unfold qx;rw[if_neg n8,if_neg q1,if_pos ⟨e,by simpa using hc⟩])
  have hz2:(zY bk x.Value).Agents.length<=600000:=by rw[et];unfold qC.sz at hz;omega
  refine qO (Xp (by omega) (by omega)) ?_;simp only[go_sem];exact jV rfl (by rw[fin ((zY bk x.Value).Agents.length:Int) (by unfold jX;rw[if_neg n34,if_neg n6,if_pos e]) (by omega) (by omega) q1 (by have:=odF hc;omega)])
 ·have n7:qS x y≠7:=by simpa using hc
  refine qO (Xp (by omega) (by omega)) ?_;simp only[go_sem];exact jV rfl (by rw[fin 0 (by unfold jX;rw[if_neg n34,if_neg n6,if_neg n7]) (by omega) (by omega) (by omega) (by omega)])
def Zp(lab:Int)(c d:Nat):Nat->Ags->Ags
 | 0,N=>N
 | i+1,N=>zj (zj (Zp lab c d i N++[qT 4 lab 0 [] 3]) (pt (Zp lab c d i N).length 1) (pt c (i+1))) (pt (Zp lab c d i N).length 2) (pt d (i+1))
def j0(b f s:Nat):Nat->Ags->Ags
 | 0,N=>N
 | i+1,N=>jH (j0 b f s i N) (pt b (i+1)) (pt (f+(i+1)) s)
def wR(N:Ags)(y:qA):Ags:=(N++[qT y.Kind y.Level y.Value y.Data y.Ports.length])++[qT y.Kind y.Level y.Value y.Data y.Ports.length]
def zG(N:Ags)(x y:qA)(i:Nat):Ags:=Zp x.Level N.length (N.length+1) i (wR N y)
def Xv(N:Ags)(a:Nat)(x y:qA):Ags:=jH (zG N x y (y.Ports.length-1)) (pt a 1) (pt N.length 0)
def dup3(N:Ags)(a:Nat)(x y:qA):Ags:=jH (Xv N a x y) (pt a 2) (pt (N.length+1) 0)
def QG(N:Ags)(a b:Nat)(x y:qA)(i:Nat):Ags:=j0 b (N.length+1) 0 i (dup3 N a x y)
def Zn(N:Ags)(a b:Nat)(x y:qA):Ags:=QG N a b x y (y.Ports.length-1)
def j9(b:Nat):Nat->Ags->Ags
 | 0,N=>N
 | i+1,N=>jH (j9 b i N++[qT 5 0 0 [] 1]) (pt b (i+1)) (pt (j9 b i N).length 0)
def W2(v:Int)(N:Ags)(b:Nat):Ags:=jH (N++[qT 6 0 v [] 1]) (pt b 1) (pt N.length 0)
def Z5(N:Ags)(b:Nat)(x y:qA):Ags:=jH (N++[qT 8 y.Level y.Value [x.Value] 2]) (pt b 1) (pt N.length 0)
def W3(N:Ags)(b:Nat)(x y:qA):Ags:=jH (Z5 N b x y) (pt b 2) (pt N.length 1)
def W7(lev v:Int)(N:Ags)(b:Nat):Ags:=jH (N++[qT 12 lev v [] 1]) (pt b 1) (pt N.length 0)
def zg(i:Nat):Nat:=if i=0 then 0 else 2
abbrev Ja(c i:Nat):qG:=pt (c+i) (zg i)
def WS(lev:Int)(a c:Nat):Nat->Ags->Ags
 | 0,N=>N
 | i+1,N=>jH (zj (WS lev a c i N++[qT 3 lev 0 [] 3]) (Ja c i) (pt (WS lev a c i N).length 0)) (pt a (i+1)) (pt (WS lev a c i N).length 1)
def zP(lev:Int)(c:Nat):Nat->Ags->Ags
 | 0,N=>N
 | i+1,N=>zj (zP lev c i N++[qT 3 lev 0 [] 3]) (pt (zP lev c i N).length 0) (Ja c i)
def zD(lev base:Int)(x:qA):qA:={x with Level:=if wT x.Kind then x.Level+lev else x.Level,Ports:=x.Ports.map fun p=>⟨p.Agent+base,p.Slot⟩}
def jw(N:Ags)(t:qC)(lev:Int):Ags:=N++(t.Agents.drop 1).map (zD lev ((N.length:Int)-1))
section
variable {N:Ags} {a b c d:Nat} {x y:qA} {lab lev:Int} {X:Nat->Nat->Prop}
theorem VL:∀{i:Nat},SameA (N++List.replicate i (qT 4 lab 0 [] 3)) (Zp lab c d i N)
 | 0=>by simp[Zp,SameA]
 | i+1=>by
  rw[List.replicate_succ',<-lAa];exact((VL (i:=i)).app (SameA.refl _)).trans ((zr _ _ _).trans (zr _ _ _))
theorem qhQ{i:Nat}:(Zp lab c d i N).length=N.length+i:=by rw[(VL (N:=N)).len];simp
theorem Qo{f s:Nat}:∀{i:Nat},SameA N (j0 b f s i N)
 | 0=>SameA.refl _
 | i+1=>(Qo (i:=i)).trans (wx _ _ _)
theorem Wd:∀{i:Nat},SameA (N++List.replicate i (qT 5 0 0 [] 1)) (j9 b i N)
 | 0=>by simp[j9,SameA]
 | i+1=>by
  rw[List.replicate_succ',<-lAa];exact((Wd (i:=i)).app (SameA.refl _)).trans (wx _ _ _)
theorem qBH{i:Nat}:(j9 b i N).length=N.length+i:=by rw[(Wd (N:=N)).len];simp
theorem qZM:∀{i:Nat},SameA (N++List.replicate i (qT 3 lev 0 [] 3)) (WS lev a c i N)
 | 0=>by simp[WS,SameA]
 | i+1=>by
  rw[List.replicate_succ',<-lAa];exact((qZM (i:=i)).app (SameA.refl _)).trans ((zr _ _ _).trans (wx _ _ _))
theorem Xk:∀{i:Nat},SameA (N++List.replicate i (qT 3 lev 0 [] 3)) (zP lev c i N)
 | 0=>by simp[zP,SameA]
 | i+1=>by
  rw[List.replicate_succ',<-lAa];exact((Xk (i:=i)).app (SameA.refl _)).trans (zr _ _ _)
theorem qe0{i:Nat}:(zP lev c i N).length=N.length+i:=by rw[(Xk (N:=N)).len];simp
theorem VQ{i j s n:Nat}{k l v:Int}{e:List Int}(h:j<i)(hs:s<n):Has (N++List.replicate i (qT k l v e n)) (N.length+j) s:=
 jm.2 ⟨qT k l v e n,by rw[gAr (by omega)];simp[h],by simpa[qT]using hs⟩
theorem Wb:(wR N y).length=N.length+2:=by simp[wR]
theorem qA8{s:Nat}(hs:s<y.Ports.length):Has (wR N y) N.length s/\Has (wR N y) (N.length+1) s:=by
 refine⟨(zd hs).app, ?_⟩;have:=zd (N:=N++[qT y.Kind y.Level y.Value y.Data y.Ports.length]) (k:=y.Kind) (l:=y.Level) (v:=y.Value) (d:=y.Data) hs;simpa[wR]using this
theorem qg9(h:W N X):W (wR N y) fun b t=>(X b t/\b<N.length)\/N.length<=b:=by
 refine((h.add _).add _).mono fun b t hb=> ?_;have:=hb.lt;simp only[lAp,lCo,lNi]at this|-;constructor
 ·rintro(⟨⟨q,q1⟩ | q,q2⟩ | q)
  ·exact .inl ⟨q,q1⟩
  ·exact .inr (by omega)
  ·exact .inr (by omega)
 ·rintro(⟨q,q1⟩ | q)
  ·exact .inl ⟨.inl ⟨q,q1⟩,by omega⟩
  ·by_cases e:b=N.length
   ·exact .inl ⟨.inr e,by omega⟩
   ·exact .inr (by omega)
theorem Has.same{A B:Ags}(hs:SameA A B)(h:Has A a c):Has B a c:=hs.has.1 h
theorem qaP(h:W N X):∀{i:Nat},i+1<=y.Ports.length->W (zG N x y i) fun b t=>(X b t/\b<N.length)\/(N.length<=b/\b<=N.length+1/\(t=0\/i<t))\/(N.length+2<=b/\t=0)
 | 0,_=>(qg9 h).mono fun b t hb=>by
   have:=hb.lt;rw[Wb]at this;constructor
   ·rintro(q | q)
    ·exact .inl q
    ·exact .inr (.inl ⟨q,by omega,by omega⟩)
   ·rintro(q | q | q)
    ·exact .inl q
    ·exact .inr q.1
    ·exact .inr (by omega)
 | i+1,hi=>by
  have ih:=qaP h (i:=i) (by omega);have hl:(zG N x y i).length=N.length+2+i:=by unfold zG;rw[qhQ,Wb]
  have s1:SameA (wR N y++List.replicate i (qT 4 x.Level 0 [] 3)) (zG N x y i):=VL;have h1:=(qA8 (N:=N) (y:=y) (s:=i+1) (by omega));have hc1:Has (zG N x y i++[qT 4 x.Level 0 [] 3]) N.length (i+1):=(h1.1.app.same s1).app;have hd1:Has (zG N x y i++[qT 4 x.Level 0 [] 3]) (N.length+1) (i+1):=(h1.2.app.same s1).app;have hf1:Has (zG N x y i++[qT 4 x.Level 0 [] 3]) (zG N x y i).length 1:=zd (by omega);have hf2:Has (zG N x y i++[qT 4 x.Level 0 [] 3]) (zG N x y i).length 2:=zd (by omega);have w1:=(ih.add (qT 4 x.Level 0 [] 3)).link hf1 hc1 (.inr rfl) (.inl ⟨.inr (.inl ⟨by omega,by omega,by omega⟩),by omega⟩) (by omega);have w2:=w1.link (hf2.same (zr _ _ _)) (hd1.same (zr _ _ _)) ⟨.inr rfl,by omega,by omega⟩ ⟨.inl ⟨.inr (.inl ⟨by omega,by omega,by omega⟩),by omega⟩,by omega,by omega⟩ (by omega);refine w2.mono fun b t hb=> ?_;have ht:b=(zG N x y i).length->t<3:=by
   intro e;have hb':=((zr _ _ _).trans (zr _ _ _)).has.2 hb;rw[e]at hb';obtain⟨z,hz,hz2⟩:=jm.1 hb';rw[gAr (by omega),nSs]at hz;cases hz;simpa[qT]using hz2
  have hlt:=hb.lt;simp only[Wo,lAp,lCo,lNi]at hlt;rw[hl]at ht hlt|-;constructor
  ·rintro⟨⟨(⟨(q | q | q),q0⟩ | q),q1,q2⟩,q3,q4⟩
   ·exact .inl q
   ·exact .inr (.inl ⟨q.1,q.2.1,by omega⟩)
   ·exact .inr (.inr q)
   ·exact .inr (.inr ⟨by omega,by omega⟩)
  ·rintro(q | q | q)
   ·exact⟨⟨.inl ⟨.inl q,by omega⟩,by omega,by omega⟩,by omega,by omega⟩
   ·exact⟨⟨.inl ⟨.inr (.inl ⟨q.1,q.2.1,by omega⟩),by omega⟩,by omega,by omega⟩,by omega,by omega⟩
   ·by_cases e:b=N.length+2+i
    ·exact⟨⟨.inr e,by omega,by omega⟩,by omega,by omega⟩
    ·exact⟨⟨.inl ⟨.inr (.inr q),by omega⟩,by omega,by omega⟩,by omega,by omega⟩
end
section
variable {N:Ags} {a b c d f s n:Nat} {x y:qA} {lab lev:Int} {X:Nat->Nat->Prop}
theorem W.peer(h:W N X)(h1:Has N a s)(x1:¬X a s):∃b t,z9 N (pt a s)=pt b t/\Has N b t:=by
 obtain⟨c,k,e,_,h2,_⟩:=h.live h1 x1;exact⟨c,k,e,h2⟩
theorem qCC(h:W N X)(hb:b<=f)(ho:∀k,1<=k->k<=n->Has N b k/\¬X b k)(hf:∀k,1<=k->k<=n->Has N (f+k) s/\X (f+k) s):∀{i:Nat},i<=n->
  W (j0 b f s i N) fun p q=>(X p q/\¬(f+1<=p/\p<=f+i/\q=s))\/(p=b/\1<=q/\q<=i)
 | 0,_=>h.mono fun p q _=>⟨fun q=>.inl ⟨q,by omega⟩,fun q=>q.elim (·.1) (by omega)⟩
 | i+1,hi=>by
  have ih:=qCC h hb ho hf (i:=i) (by omega);have h1:=ho (i+1) (by omega) hi;have h2:=hf (i+1) (by omega) hi;refine(ih.move (h1.1.same Qo) (h2.1.same Qo) ?_ (.inl ⟨h2.2,by omega⟩)).mono fun u v _=> ?_
  ·rintro(q | q)
   ·exact h1.2 q.1
   ·omega
  ·constructor
   ·rintro(⟨(q | q),q1⟩ | q)
    ·exact .inl ⟨q.1,by omega⟩
    ·exact .inr (by omega)
    ·exact .inr (by omega)
   ·rintro(q | q)
    ·exact .inl ⟨.inl ⟨q.1,by omega⟩,by omega⟩
    ·by_cases e:v=i+1
     ·exact .inr ⟨by omega,by omega⟩
     ·exact .inl ⟨.inr (by omega),by omega⟩
structure Pr(N:Ags)(a b:Nat)(x y:qA)(X:Nat->Nat->Prop):Prop where
 w:W N X
 x:N[a]?=some x
 y:N[b]?=some y
 ne:a≠b
 l:∀p q,X p q->(p=a\/p=b)/\q=0
theorem Pr.ax(h:Pr N a b x y X){k:Nat}(hk:k<x.Ports.length):Has N a k:=jm.2 ⟨x,h.x,hk⟩
theorem Pr.by'(h:Pr N a b x y X){k:Nat}(hk:k<y.Ports.length):Has N b k:=jm.2 ⟨y,h.y,hk⟩
theorem Pr.la(h:Pr N a b x y X):a<N.length:=(gSi.1 h.x).1
theorem Pr.lb(h:Pr N a b x y X):b<N.length:=(gSi.1 h.y).1
theorem Pr.nx(h:Pr N a b x y X){p q:Nat}(hq:0<q):¬X p q:=fun e=>by have:=h.l p q e;omega
theorem Has.in(h:Has N a s)(hx:N[a]?=some x):s<x.Ports.length:=by
 obtain⟨z,hz,hs⟩:=jm.1 h;rw[hx]at hz;cases hz;exact hs
theorem Qc{i:Nat}:SameA (wR N y++List.replicate i (qT 4 x.Level 0 [] 3)) (zG N x y i):=VL
theorem qBB{i:Nat}:(zG N x y i).length=N.length+2+i:=by rw[Qc.len];simp[Wb]
theorem Qb{i:Nat}(h:Has N a s):Has (zG N x y i) a s:=by
 refine Has.same Qc (Has.app ?_);unfold wR;exact h.app.app
theorem QF{i:Nat}(hs:s<y.Ports.length):Has (zG N x y i) N.length s/\Has (zG N x y i) (N.length+1) s:=
 ⟨(qA8 hs).1.app.same Qc,(qA8 hs).2.app.same Qc⟩
theorem qBA{i j:Nat}(hj:j<i)(hs:s<3):Has (zG N x y i) (N.length+2+j) s:=by
 have:=VQ (N:=wR N y) (k:=4) (l:=x.Level) (v:=0) (e:=[]) hj hs;rw[Wb]at this;exact this.same Qc
theorem Zl:SameA (zG N x y (y.Ports.length-1)) (Xv N a x y):=wx _ _ _
theorem qBD:SameA (zG N x y (y.Ports.length-1)) (dup3 N a x y):=Zl.trans (wx _ _ _)
theorem Zm{i:Nat}:SameA (zG N x y (y.Ports.length-1)) (QG N a b x y i):=qBD.trans Qo
theorem qA9(h:Pr N a b x y X)(hy:0<y.Ports.length):W (zG N x y (y.Ports.length-1)) fun p q=>(X p q/\p<N.length)\/(N.length<=p/\q=0):=by
 refine(qaP h.w (by omega)).mono fun u v hb=> ?_;have hq:N.length<=u/\u<=N.length+1->v<y.Ports.length:=by
  rintro⟨h1,h2⟩;have hb':=Qc.has.2 hb;obtain⟨z,hz,hz2⟩:=jm.1 hb';have:z=qT y.Kind y.Level y.Value y.Data y.Ports.length:=by
   rw[gAl (by rw[Wb];omega)]at hz;unfold wR at hz;by_cases e:u=N.length
   ·subst e;simpa using hz.symm
   ·obtain rfl:u=N.length+1:=by omega
    rw[gAr (by simp)]at hz;simpa using hz.symm
  rw[this]at hz2;simpa[qT]using hz2
 constructor
 ·rintro(q | q | q)
  ·exact .inl q
  ·exact .inr ⟨by omega,by omega⟩
  ·exact .inr ⟨by omega,by omega⟩
 ·rintro(q | q)
  ·exact .inl q
  ·by_cases e:N.length+2<=u
   ·exact .inr (.inr ⟨e,by omega⟩)
   ·exact .inr (.inl ⟨by omega,by omega,by omega⟩)
theorem qBC(h:Pr N a b x y X)(hx:x.Ports.length=3)(hy:0<y.Ports.length):W (Xv N a x y) fun p q=>(X p q/\p<N.length)\/(N.length+1<=p/\q=0)\/(p=a/\q=1):=by
 have la:=h.la;refine((qA9 h hy).move (Qb (h.ax (by omega))) (QF hy).1 (fun e=> ?_) (.inr ⟨nLr _,rfl⟩)).mono fun u v _=> ?_
 ·rcases e with q | q
  ·exact h.nx (by omega) q.1
  ·omega
 ·constructor
  ·rintro(⟨(q | q),q1⟩ | q)
   ·exact .inl q
   ·exact .inr (.inl (by omega))
   ·exact .inr (.inr q)
  ·rintro(q | q | q)
   ·exact .inl ⟨.inl q,by omega⟩
   ·exact .inl ⟨.inr (by omega),by omega⟩
   ·exact .inr q
theorem qaQ(h:Pr N a b x y X)(hx:x.Ports.length=3)(hy:0<y.Ports.length):W (dup3 N a x y) fun p q=>(X p q/\p<N.length)\/(N.length+2<=p/\q=0)\/(p=a/\(q=1\/q=2)):=by
 have la:=h.la;refine((qBC h hx hy).move ((Qb (h.ax (by omega))).same Zl) ((QF hy).2.same Zl) (fun e=> ?_) (.inr (.inl ⟨nLr _,rfl⟩))).mono fun u v _=> ?_
 ·rcases e with q | q | q
  ·exact h.nx (by omega) q.1
  ·omega
  ·omega
 ·constructor
  ·rintro(⟨(q | q | q),q1⟩ | q)
   ·exact .inl q
   ·exact .inr (.inl (by omega))
   ·exact .inr (.inr (by omega))
   ·exact .inr (.inr (by omega))
  ·rintro(q | q | q)
   ·exact .inl ⟨.inl q,by omega⟩
   ·exact .inl ⟨.inr (.inl (by omega)),by omega⟩
   ·by_cases e:v=1
    ·exact .inl ⟨.inr (.inr (by omega)),by omega⟩
    ·exact .inr (by omega)
theorem qBE(h:Pr N a b x y X)(hx:x.Ports.length=3)(hy:0<y.Ports.length){i:Nat}(hi:i<=y.Ports.length-1):
  W (QG N a b x y i) fun p q=>(((X p q/\p<N.length)\/(N.length+2<=p/\q=0)\/(p=a/\(q=1\/q=2)))/\¬(N.length+1+1<=p/\p<=N.length+1+i/\q=0))\/(p=b/\1<=q/\q<=i):=by
 have lb:=h.lb;refine qCC (n:=y.Ports.length-1) (qaQ h hx hy) (by omega) (fun k k1 k2=>⟨(Qb (h.by' (by omega))).same qBD, ?_⟩) (fun k k1 k2=>⟨?_,.inr (.inl ⟨by omega,rfl⟩)⟩) hi
 ·rintro(q | q | q)
  ·exact h.nx (by omega) q.1
  ·omega
  ·exact h.ne q.1.symm
 ·have:=qBA (N:=N) (x:=x) (y:=y) (i:=y.Ports.length-1) (j:=k-1) (s:=0) (by omega) (by omega);rw[show N.length+2+(k-1)=N.length+1+k by omega]at this;exact this.same qBD
def w4(a b:Nat)(p q:Nat):Prop:=p=a\/p=b
structure Act(N:Ags)(a b:Nat)(x y:qA):Prop where
 w:W N fun _ _=>False
 x:N[a]?=some x
 y:N[b]?=some y
 ne:a≠b
 pa:atP N a 0=some (pt b 0)
 pb:atP N b 0=some (pt a 0)
def X0(a b:Nat)(p q:Nat):Prop:=(p=a\/p=b)/\q=0
theorem Act.pr(h:Act N a b x y):Pr N a b x y (X0 a b):=
 ⟨(h.w.drop2 h.pa h.pb).mono fun p q _=>(by unfold X0;constructor;(rintro(q | q | q);exact q.elim;exact⟨.inl q.1,q.2⟩;exact⟨.inr q.1,q.2⟩);(rintro⟨q | q,r⟩;exact .inr (.inl ⟨q,r⟩);exact .inr (.inr ⟨q,r⟩))),h.x,h.y,h.ne,fun _ _ q=>q⟩
theorem Act.pe(h:Act N a b x y):Pr N a b x y fun _ _=>False:=⟨h.w,h.x,h.y,h.ne,fun _ _ q=>q.elim⟩
theorem JY{A B:Ags}(h:SameA A B){z:qA}(hz:A[a]?=some z)(hb:Has B a s):s<z.Ports.length:=(h.has.2 hb).in hz
theorem qhA(h:Act N a b x y)(hx:x.Ports.length=3)(hy:0<y.Ports.length):W (Zn N a b x y) (w4 a b):=by
 have la:=h.pr.la;have lb:=h.pr.lb;have hs:SameA (wR N y++List.replicate (y.Ports.length-1) (qT 4 x.Level 0 [] 3)) (Zn N a b x y):=Qc.trans Zm;have e0:∀{k:Nat},k<N.length->(wR N y++List.replicate (y.Ports.length-1) (qT 4 x.Level 0 [] 3))[k]?=N[k]?:=fun hk=>by
  rw[gAl (by rw[Wb];omega)];unfold wR;rw[gAl (by simp;omega),gAl hk]
 refine(qBE h.pr hx hy (nLr _)).mono fun u v hb=> ?_;have k1:u=a->v<3:=fun e=>by subst e;have:=JY hs (by rw[e0 la];exact h.x) hb;omega
 have k2:u=b->v<y.Ports.length:=fun e=>by subst e;exact JY hs (by rw[e0 lb];exact h.y) hb
 have k3:=hb.lt;rw[show (QG N a b x y (y.Ports.length-1)).length=N.length+2+(y.Ports.length-1) by rw[Zm.len,qBB]]at k3;unfold w4 X0;have ne:=h.ne;omega
end
section
variable {N:Ags} {a b c d f s n:Nat} {x y:qA} {lab lev v:Int} {X:Nat->Nat->Prop}
theorem W.dead(h:W N X){x y:qA}{M:Ags}(hs:SameA M N)(hx:M[a]?=some x)(hy:M[b]?=some y)
  (e:∀u v,u<N.length->(u=a->v<x.Ports.length)->(u=b->v<y.Ports.length)->(X u v↔u=a\/u=b)):W N (w4 a b):=
 h.mono fun u v hb=>e u v hb.lt (fun q=>by subst q;exact JY hs hx hb) (fun q=>by subst q;exact JY hs hy hb)
def VV(N:Ags)(a b:Nat):Ags:=jn (jn N (pt a 1) (pt b 1)) (pt a 2) (pt b 2)
theorem X3(h:Pr N a b x y X)(hx:x.Ports.length=3)(hy:y.Ports.length=3):W (jn N (pt a 1) (pt b 1)) fun u v=>X u v\/(u=a/\v=1)\/(u=b/\v=1):=by
 have ne:=h.ne;exact h.w.join (h.ax (by omega)) (h.by' (by omega)) (h.nx (by omega)) (h.nx (by omega)) (by omega)
theorem qiH(h:Act N a b x y)(hx:x.Ports.length=3)(hy:y.Ports.length=3):W (VV N a b) (w4 a b):=by
 have h':=h.pr;have ne:=h.ne;have n1:=h'.nx (p:=a) (q:=2) (by omega);have n2:=h'.nx (p:=b) (q:=2) (by omega);have:=(X3 h' hx hy).join (a:=a) (s:=2) (c:=b) (k:=2) ((h'.ax (by omega)).same (JJ _ _ _)) ((h'.by' (by omega)).same (JJ _ _ _)) (by rintro(q | q | q);exact n1 q;omega;omega) (by rintro(q | q | q);exact n2 q;omega;omega) (by omega);refine this.dead ((JJ _ _ _).trans (JJ _ _ _)) h.x h.y fun u v hu h1 h2=> ?_;unfold X0;omega
theorem qBI{i:Nat}(h:Has N a s):Has (j9 b i N) a s:=h.app.same Wd
theorem VH(h:Pr N a b x y X):∀{i:Nat},i<=y.Ports.length-1->W (j9 b i N) fun u v=>(X u v/\u<N.length)\/(u=b/\1<=v/\v<=i)
 | 0,_=>h.w.mono fun u v hb=>by have:=hb.lt;constructor;(intro q;exact .inl ⟨q,this⟩);(rintro(q | q);exact q.1;omega)
 | i+1,hi=>by
  have ih:=VH h (i:=i) (by omega);have lb:=h.lb;have hl:(j9 b i N).length=N.length+i:=qBH;refine((ih.add (qT 5 0 0 [] 1)).move (qBI (h.by' (by omega))).app (zd (by omega)) ?_ (.inr rfl)).mono fun u v hb=> ?_
  ·rintro(⟨(q | q),_⟩ | q)
   ·exact h.nx (by omega) q.1
   ·omega
   ·omega
  ·have hv:u=(j9 b i N).length->v<1:=by
    intro e;have hb':=(wx _ _ _).has.2 hb;rw[e]at hb';have:=hb'.in (x:=qT 5 0 0 [] 1) (by simp);simpa[qT]using this
   rw[hl]at hv|-;by_cases hX:X u v<;>simp only[hX,true_and,false_and,false_or,true_or,and_true]<;>omega
theorem qhK(h:Act N a b x y)(hx:x.Ports.length=1)(hy:0<y.Ports.length):W (j9 b (y.Ports.length-1) N) (w4 a b):=by
 have la:=h.pr.la;have lb:=h.pr.lb;refine(VH h.pr (nLr _)).dead Wd (by rw[gAl la];exact h.x) (by rw[gAl lb];exact h.y) fun u v hu h1 h2=> ?_;have ne:=h.ne;unfold X0;omega
theorem QE(h:Pr N a b x y X){z:qA}:W (N++[z]) fun u v=>(X u v/\u<N.length)\/u=N.length:=h.w.add z
theorem YM(h:Pr N a b x y X)(hy:1<y.Ports.length){k l v:Int}{e:List Int}{n:Nat}(hn:0<n):W (jH (N++[qT k l v e n]) (pt b 1) (pt N.length 0)) fun u v=>(X u v/\u<N.length)\/(u=N.length/\v≠0)\/(u=b/\v=1):=by
 have lb:=h.lb;have n1:=h.nx (p:=b) (q:=1) (by omega);refine((QE h).move (a:=b) (s:=1) (c:=N.length) (k:=0) (h.by' hy).app (zd hn) (by rintro(q | q);exact n1 q.1;omega) (.inr rfl)).mono fun u v hb=> ?_;by_cases hX:X u v<;>simp only[hX,true_and,false_and,false_or,true_or,and_true]<;>omega
theorem Z3{k l v:Int}{e:List Int}{n:Nat}{M:Ags}(hs:SameA (N++[qT k l v e n]) M)(h:Has M N.length s):s<n:=by
 have:=((hs.has.2 h).in (x:=qT k l v e n) (by simp));simpa[qT]using this
theorem qj3(h:Act N a b x y)(hx:x.Ports.length=1)(hy:y.Ports.length=2):W (W2 v N b) (w4 a b):=by
 have la:=h.pr.la;have lb:=h.pr.lb;have ne:=h.ne;have w:=YM h.pr (by omega) (k:=6) (l:=0) (v:=v) (e:=[]) (n:=1) (by omega);have hs:SameA (N++[qT 6 0 v [] 1]) (W2 v N b):=wx _ _ _;refine W.mono w fun u v hb=> ?_;have h1:u=a->v<x.Ports.length:=fun q=>by subst q;exact JY hs (by rw[gAl la];exact h.x) hb
 have h2:u=b->v<y.Ports.length:=fun q=>by subst q;exact JY hs (by rw[gAl lb];exact h.y) hb
 have h3:u=N.length->v<1:=fun q=>by subst q;exact Z3 hs hb
 unfold X0 w4;omega
theorem qk8(h:Act N a b x y)(hx:x.Ports.length=1)(hy:y.Ports.length=2):W (W7 lev v N b) (w4 a b):=by
 have la:=h.pr.la;have lb:=h.pr.lb;have ne:=h.ne;have w:=YM h.pr (by omega) (k:=12) (l:=lev) (v:=v) (e:=[]) (n:=1) (by omega);have hs:SameA (N++[qT 12 lev v [] 1]) (W7 lev v N b):=wx _ _ _;refine W.mono w fun u v hb=> ?_;have h1:u=a->v<x.Ports.length:=fun q=>by subst q;exact JY hs (by rw[gAl la];exact h.x) hb
 have h2:u=b->v<y.Ports.length:=fun q=>by subst q;exact JY hs (by rw[gAl lb];exact h.y) hb
 have h3:u=N.length->v<1:=fun q=>by subst q;exact Z3 hs hb
 unfold X0 w4;omega
theorem qj4(h:Act N a b x y)(hy:y.Ports.length=3):W (Z5 N b x y) fun u v=>X0 a b u v/\u<N.length\/(u=N.length/\v≠0)\/(u=b/\v=1):=
 YM h.pr (by omega) (by omega)
theorem ZU:SameA (N++[qT 8 y.Level y.Value [x.Value] 2]) (Z5 N b x y):=wx _ _ _
theorem qj5(h:Act N a b x y)(hx:x.Ports.length=1)(hy:y.Ports.length=3):W (W3 N b x y) (w4 a b):=by
 have la:=h.pr.la;have lb:=h.pr.lb;have ne:=h.ne;have hs:SameA (N++[qT 8 y.Level y.Value [x.Value] 2]) (W3 N b x y):=ZU.trans (wx _ _ _);refine((qj4 h hy).move (a:=b) (s:=2) (c:=N.length) (k:=1) ((h.pr.by' (by omega)).app.same ZU) ((zd (by omega)).same ZU) (by unfold X0;omega) (by unfold X0;omega)).mono fun u v hb=> ?_;have h1:u=a->v<x.Ports.length:=fun q=>by subst q;exact JY hs (by rw[gAl la];exact h.x) hb
 have h2:u=b->v<y.Ports.length:=fun q=>by subst q;exact JY hs (by rw[gAl lb];exact h.y) hb
 have h3:u=N.length->v<2:=fun q=>by subst q;exact Z3 hs hb
 unfold X0 w4;omega
def qz(lev v:Int)(N:Ags):Ags:=N++[qT 12 lev v [] 1]
def jE(lev v:Int)(N:Ags)(a:Nat)(i:Nat):Ags:=WS lev a N.length i (qz lev v N)
theorem Xm{i:Nat}:SameA (qz lev v N++List.replicate i (qT 3 lev 0 [] 3)) (jE lev v N a i):=qZM
theorem qAJ{i:Nat}:(jE lev v N a i).length=N.length+1+i:=by rw[Xm.len];simp[qz];omega
theorem Xl{i:Nat}(h:Has N c s):Has (jE lev v N a i) c s:=h.app.app.same Xm
theorem WT{i:Nat}:Has (jE lev v N a i) (N.length+i) (zg i):=by
 refine Has.same Xm ?_;unfold zg;split
 ·rename_i e;subst e;exact(zd (by omega)).app
 ·have:=VQ (N:=qz lev v N) (k:=3) (l:=lev) (v:=0) (e:=[]) (i:=i) (j:=i-1) (s:=2) (n:=3) (by omega) (by omega);rw[show (qz lev v N).length+(i-1)=N.length+i by simp[qz];omega]at this;exact this
theorem Yv(h:Pr N a b x y X):∀{i:Nat},i<=x.Ports.length-1->W (jE lev v N a i) fun u v=>(X u v/\u<N.length)\/(u=a/\1<=v/\v<=i)\/(u=N.length+i/\v=zg i)
 | 0,_=>(QE h).mono fun u w hb=>by
   have h3:u=N.length->w<1:=fun q=>by subst q;exact Z3 (SameA.refl _) hb
   unfold zg;by_cases hX:X u w<;>simp only[hX,true_and,false_and,false_or,true_or,and_true,if_true]<;>omega
 | i+1,hi=>by
  have ih:=Yv h (i:=i) (by omega);have la:=h.la;have hl:(jE lev v N a i).length=N.length+1+i:=qAJ;have e0:zg i<=2:=by unfold zg;split<;>omega
  have w1:=(ih.add (qT 3 lev 0 [] 3)).link (a:=N.length+i) (s:=zg i) (c:=(jE lev v N a i).length) (k:=0) WT.app (zd (by omega)) (.inl ⟨.inr (.inr ⟨rfl,rfl⟩),by omega⟩) (.inr rfl) (by omega);have n1:=h.nx (p:=a) (q:=i+1) (by omega);refine(w1.move (a:=a) (s:=i+1) (c:=(jE lev v N a i).length) (k:=1) ((Xl (h.ax (by omega))).app.same (zr _ _ _)) ((zd (by omega)).same (zr _ _ _)) ?_ ⟨.inr rfl,by omega,by omega⟩).mono fun u w hb=> ?_
  ·rintro⟨⟨(q | q | q),_⟩ | q,_⟩
   ·exact n1 q.1
   ·omega
   ·omega
   ·omega
  ·have hv:u=(jE lev v N a i).length->w<3:=fun q=>by subst q;exact Z3 ((zr _ _ _).trans (wx _ _ _)) hb
   have hu:=hb.lt;simp only[qjD,Wo,lAp,lCo,lNi]at hu;rw[hl]at hv hu|-;have e1:zg (i+1)=2:=rfl;rw[e1];by_cases hX:X u w<;>simp only[hX,true_and,false_and,false_or,true_or,and_true]<;>omega
def Zj(lev v:Int)(N:Ags)(a b n:Nat):Ags:=jH (jE lev v N a n) (pt b 1) (Ja N.length n)
theorem qgD(h:Act N a b x y)(hx:0<x.Ports.length)(hy:y.Ports.length=2):W (Zj lev v N a b (x.Ports.length-1)) (w4 a b):=by
 have la:=h.pr.la;have lb:=h.pr.lb;have ne:=h.ne;have hs:SameA (qz lev v N++List.replicate (x.Ports.length-1) (qT 3 lev 0 [] 3)) (Zj lev v N a b (x.Ports.length-1)):=Xm.trans (wx _ _ _);have e0:∀{k:Nat},k<N.length->(qz lev v N++List.replicate (x.Ports.length-1) (qT 3 lev 0 [] 3))[k]?=N[k]?:=fun hk=>by
  rw[gAl (by simp[qz];omega)];unfold qz;rw[gAl hk]
 refine((Yv h.pr (nLr _)).move (a:=b) (s:=1) (c:=N.length+(x.Ports.length-1)) (k:=zg (x.Ports.length-1)) (Xl (h.pr.by' (by omega))) WT (by unfold X0;omega) (.inr (.inr ⟨rfl,rfl⟩))).mono fun u w hb=> ?_;have k1:u=a->w<x.Ports.length:=fun e=>by subst e;exact JY hs (by rw[e0 la];exact h.x) hb
 have k2:u=b->w<y.Ports.length:=fun e=>by subst e;exact JY hs (by rw[e0 lb];exact h.y) hb
 unfold w4 X0;omega
end
theorem c373{d:qJ}(hz:d.sz<=1048576):Pure Gm 373 [d.enc] (.bool (jN d)):=by
 refine pI Kt (by simp[AV.trees,qJ.tr]) rfl ?_;simp only[Kt,qQ,go_sem];refine qW rfl ?_;simp only[go_sem];unfold qJ.sz at hz;have hzn:d.Net.sz<=1048576:=by omega
 refine qO (c505 (by omega) (fun n hn=>by have:=zq (f:=qC.sz) hn;omega)) ?_;simp only[go_sem]
 repeat' (first
  | (first | (refine qg ?_ ?_<;>intro hc<;>simp only[hc,go_sem]) | (refine qM ?_ ?_<;>intro hc<;>simp only[hc,go_sem]))
  | (refine qO (c406 (by omega)) ?_;simp only[go_sem])
  | (refine jM (vs':=[.int .i64 4000,.lst 1 ([d.At].map qK) false]) (Cvs.cons (.refl rfl) (Cvs.cons (Cv.row rfl rfl rfl (by decide)) Cvs.nil)) (c436 (by simp)) rfl ?_;simp only[go_sem])
  | (refine qO (c747 hzn (by omega)) ?_;simp only[go_sem])
  | (refine qO (c748 (f:=.fn 749 []) (fun b=> !w7 b) rfl d.Breaks (fun x _=>⟨749,[],rfl,c749⟩) (by omega)) ?_;simp only[go_sem])
  | refine qR rfl ?_)
 case refine_1.refine_1.refine_1.refine_1.refine_1.refine_2.refine_1.refine_1=>
  have h7:d.Breaks.all w7=false:=by rw[<-Q5,hc];rfl
  simp[jN,h7]
 all_goals try (simp_all[jN,inI];done)
 all_goals try (simp_all[jN,inI];omega)
 have f1:j7 d.Book=true:=by simp_all
 have f2:wM d.Schedule=true:=by simp_all
 have f3:inI d.Every 1 50=true:=by simp[inI];simp at*;omega
 have f4:inI d.At 0 4000=true:=by simp_all
 have f5:wa d.Net d.Origins d.At=true:=by simp_all
 have f6:decide ((8:Int)<d.Breaks.length)=false:=by simp_all
 have f7:d.Breaks.all w7=true:=by rw[<-Q5,hc];rfl
 have key:jN d=(inI d.Points.length (d.At.tdiv d.Every+1) ((4000:Int).tdiv d.Every+1)&&wC d.Every d.Points 0):=by simp[jN,f1,f2,f3,f4,f5,f6,f7]
 have e1:=zK.1 f3;have e2:=zK.1 f4;have b1:=QR e2.1 (show 0<d.Every by omega);have b2:=QR (show (0:Int)<=4000 by omega) (show 0<d.Every by omega);clear f1 f2 f3 f4 f5 f6 f7 hc;rw[if_neg (show ¬d.Every=0 by omega)];simp only[go_sem];rw[qf (n:=d.At.tdiv d.Every) (by omega) (by omega),qf (n:=d.At.tdiv d.Every+1) (by omega) (by omega)];have lo (h:decide ((d.Points.length:Int)<d.At.tdiv d.Every+1)=false) (h2:decide ((4000:Int).tdiv d.Every+1<(d.Points.length:Int))=false):jN d=wC d.Every d.Points 0:=by
  rw[key];have:inI d.Points.length (d.At.tdiv d.Every+1) ((4000:Int).tdiv d.Every+1)=true:=by simp[inI];simp at*;omega
  rw[this];rfl
 first | (refine qg ?_ ?_<;>intro hc<;>simp only[hc,go_sem]) | (refine qM ?_ ?_<;>intro hc<;>simp only[hc,go_sem])
 ·rw[if_neg (show ¬d.Every=0 by omega)];simp only[go_sem];rw[qf (n:=(4000:Int).tdiv d.Every) (by omega) (by omega),qf (n:=(4000:Int).tdiv d.Every+1) (by omega) (by omega)];have hc1:=hc;refine qM ?_ ?_<;>intro hc<;>simp only[hc,go_sem]
  ·refine qR rfl ?_;rw[key];simp[inI];simp at*;omega
  ·have hX:=lo hc1 hc;refine Sem.loop (fun i:Nat=>i<=d.Points.length/\jN d=wC d.Every (d.Points.drop i) i) (fun i=>(⟨[(72,.lst 3 (d.Points.map qF.enc) false),(73,.int .i64 (d.Points.length:Int)),(74,.int .i64 (i:Nat))],[(1,d.enc)],[.row 1 [.int .i64 d.At] true]⟩:VSt)) (fun i=>d.Points.length-i) 0 (by kernel_rfl) ⟨nZl _,by rw[hX];simp⟩ (Can.sub (by simp[go_sem]) (by simp[go_sem])) ?_;rintro i ⟨hi,hI⟩;simp only[go_sem];refine qM ?_ ?_<;>intro hc<;>simp only[hc,go_sem]
   ·have hlt:i<d.Points.length:=by have:=odT hc;omega
    simp only[gMp,gEg hlt,oMs,go_sem];refine qU (k:=3) (by rfl) (by rfl) (by exact⟨_,rfl⟩) (by decide) ?_;simp only[go_sem];have hs:(d.Points[i].Net.sz+d.Points[i].Origins.length)<=qH qF.sz d.Points:=zq (f:=qF.sz) (gMm hlt);have m1:(0:Int)<=(i:Int)*d.Every:=Int.mul_nonneg (by omega) (by omega);have m2:(i:Int)*d.Every<=1048576*50:=Int.mul_le_mul (by omega) (by omega) (by omega) (by omega);rw[qf (n:=(i:Int)*d.Every) (by omega) (by omega)];refine qg ?_ ?_<;>intro hc<;>simp only[hc,go_sem]
    ·refine qO (c747 (by omega) (by omega)) ?_;simp only[go_sem];refine qM ?_ ?_<;>intro hc<;>simp only[hc,go_sem]
     ·refine qR rfl ?_;rw[hI,jF hlt];simp_all[wC]
     ·simp only[qc (show i<4611686018427387904 by omega)];refine qd (i+1) ⟨by omega, ?_⟩ (by omega) (Can.sub (by simp[go_sem]) (by simp[go_sem]));rw[hI,jF hlt];simp_all[wC]
    ·refine qR rfl ?_;rw[hI,jF hlt];simp_all[wC]
   ·obtain rfl:i=d.Points.length:=by have:=odF hc;omega
    refine qR rfl ?_;rw[hI];simp[wC]
 ·refine qR rfl ?_;rw[key];simp[inI];simp at*;omega
theorem qZG:∀{l:List qA}{i:Nat},ji l i=true->∀(k:Nat)(hk:k<l.length),(l[k].Kind=1↔i+k=0)
 |[],_,_,k,hk=>by simp at hk
 | y::l,i,h,k,hk=>by
  simp only[ji,bAt]at h;cases k with
  | zero=>have:=h.1.2;simp at this|-;simp[this]
  | succ k=>
   have:=qZG h.2 k (by simpa using hk);simp only[List.getElem_cons_succ,this];omega
theorem qAE{x:qA}(h:qk x=true):x.Kind≠0:=by
 intro e;simp only[qk,bAt]at h;have h1:=h.1.1.1;rw[e]at h1;simp[wL]at h1
theorem wY{n:qC}(h:qq n=true):ji n.Agents 0=true:=by
 simp only[qq,wE,bAt]at h;exact h.1.2
theorem Jf{x:qA}(h:qk x=true):jq x.Kind x.Level=true:=by
 simp only[qk,bAt]at h;exact h.1.2
theorem qdT{a b c d:Int}(h:zC a b c d=6):(a=6/\c=11)\/(a=9/\c=10):=by
 simp only[zC]at h;repeat' (split at h<;>try omega)
theorem qc0{a b c d:Int}:wc a b c d=wc c d a b:=by
 simp only[wc];cases jq a b<;>cases jq c d<;>cases decide (a=1)<;>cases decide (c=1)<;>rfl
theorem V6{a b c d:Int}:zC a b c d≠8:=by
 simp only[zC];repeat' (split<;>try omega)
theorem qgE{x y:qA}(_hx:qk x=true)(_hy:qk y=true)(h:zX x.Kind x.Level y.Kind y.Level=2):
  qS y x=if x.Kind=10/\y.Kind=9/\(x.Data.length:Int)<=y.Value then 8 else za x.Kind x.Level y.Kind y.Level:=by
 have hp:wc x.Kind x.Level y.Kind y.Level=true:=by
  simp only[zX]at h;split at h
  ·assumption
  ·omega
 simp only[zX,hp,if_true]at h;have h1:zC x.Kind x.Level y.Kind y.Level=0:=by
  rcases Decidable.em (zC x.Kind x.Level y.Kind y.Level=0)with q | q
  ·exact q
  ·rw[if_pos q]at h;omega
 have h2:zC y.Kind y.Level x.Kind x.Level≠0:=by
  intro q;simp only[h1,q]at h;simp at h
 have e:za y.Kind y.Level x.Kind x.Level=za x.Kind x.Level y.Kind y.Level:=by
  simp only[za,qc0 (a:=y.Kind),hp,h1,if_true,if_pos h2];simp[]
 simp only[qS,e];have n1:¬(y.Kind=10/\x.Kind=9):=by
  rintro⟨a,b⟩;have:zC x.Kind x.Level y.Kind y.Level=6:=by simp[zC,a,b]
  omega
 by_cases q:y.Kind=9/\x.Kind=10/\(x.Data.length:Int)<=y.Value
 ·rw[if_pos q,if_pos ⟨q.2.1,q.1,q.2.2⟩]
 ·rw[if_neg q,if_neg (by rintro⟨a,b,c⟩;exact n1 ⟨a,b⟩),if_neg (by rintro⟨a,b,c⟩;exact q ⟨b,a,c⟩)]
theorem qaG{x y:qA}(hx:qk x=true)(hy:qk y=true)(h:zX x.Kind x.Level y.Kind y.Level≠2):
  qS x y=if x.Kind=9/\y.Kind=10/\(y.Data.length:Int)<=x.Value then 8 else za x.Kind x.Level y.Kind y.Level:=by
 simp only[qS];have n1:¬(x.Kind=10/\y.Kind=9):=by
  rintro⟨a,b⟩;apply h;have hp:wc x.Kind x.Level y.Kind y.Level=true:=by
   have q1:=Jf hx;have q2:=Jf hy;rw[a]at q1;rw[b]at q2;simp only[wc,a,b,q1,q2];decide
  have r1:zC x.Kind x.Level y.Kind y.Level=0:=by simp[zC,a]
  have r2:zC y.Kind y.Level x.Kind x.Level=6:=by simp[zC,a,b]
  simp[zX,hp,r1,r2]
 by_cases q:x.Kind=9/\y.Kind=10/\(y.Data.length:Int)<=x.Value
 ·rw[if_pos q,if_pos q]
 ·rw[if_neg q,if_neg q,if_neg (by rintro⟨a,b,c⟩;exact n1 ⟨a,b⟩)]
theorem qaF{x y:qA}(h:za x.Kind x.Level y.Kind y.Level=6):zX x.Kind x.Level y.Kind y.Level=1/\zC x.Kind x.Level y.Kind y.Level=6\/zX x.Kind x.Level y.Kind y.Level=2/\zC y.Kind y.Level x.Kind x.Level=6:=by
 simp only[za,zX]at h|-
 repeat' (split at h)
 all_goals simp_all
theorem qjO{x y:qA}(hx:qk x=true)(hy:qk y=true)(a:x.Kind=9)(b:y.Kind=10):za x.Kind x.Level y.Kind y.Level=6/\zX x.Kind x.Level y.Kind y.Level=1:=by
 have hp:wc x.Kind x.Level y.Kind y.Level=true:=by
  have q1:=Jf hx;have q2:=Jf hy;rw[a]at q1;rw[b]at q2;simp only[wc,a,b,q1,q2];decide
 have r1:zC x.Kind x.Level y.Kind y.Level=6:=by simp[zC,a,b]
 simp[za,zX,hp,r1]
theorem qmQ{x y:qA}(hx:qk x=true)(hy:qk y=true)(a:x.Kind=10)(b:y.Kind=9):za x.Kind x.Level y.Kind y.Level=6/\zX x.Kind x.Level y.Kind y.Level=2:=by
 have hp:wc x.Kind x.Level y.Kind y.Level=true:=by
  have q1:=Jf hx;have q2:=Jf hy;rw[a]at q1;rw[b]at q2;simp only[wc,a,b,q1,q2];decide
 have r1:zC x.Kind x.Level y.Kind y.Level=0:=by simp[zC,a]
 have r2:zC y.Kind y.Level x.Kind x.Level=6:=by simp[zC,a,b]
 simp[za,zX,hp,r1,r2]
def j5(x y:qA):Int:=if zM x y then qS y x else qS x y
theorem qcV{x y:qA}(hx:qk x=true)(hy:qk y=true):
  j5 x y=if za x.Kind x.Level y.Kind y.Level=6/\(if zM x y then x.Kind=10/\(x.Data.length:Int)<=y.Value else y.Kind=10/\(y.Data.length:Int)<=x.Value)then 8 else za x.Kind x.Level y.Kind y.Level:=by
 by_cases h:zX x.Kind x.Level y.Kind y.Level=2
 ·have hs:zM x y=true:=by simp[zM,h]
  simp only[j5,hs,if_true,qgE hx hy h];by_cases q:x.Kind=10/\y.Kind=9/\(x.Data.length:Int)<=y.Value
  ·rw[if_pos q,if_pos ⟨(qmQ hx hy q.1 q.2.1).1,q.1,q.2.2⟩]
  ·rw[if_neg q];by_cases q2:za x.Kind x.Level y.Kind y.Level=6/\x.Kind=10/\(x.Data.length:Int)<=y.Value
   ·exfalso;rcases qaF q2.1 with⟨a,_⟩ | ⟨_,a⟩
    ·omega
    ·rcases qdT a with⟨_,a⟩ | ⟨a,_⟩
     ·omega
     ·exact q ⟨q2.2.1,a,q2.2.2⟩
   ·rw[if_neg q2]
 ·have hs:zM x y=false:=by simp[zM,h]
  simp only[j5,hs,bFt,if_false,qaG hx hy h];by_cases q:x.Kind=9/\y.Kind=10/\(y.Data.length:Int)<=x.Value
  ·rw[if_pos q,if_pos ⟨(qjO hx hy q.1 q.2.1).1,q.2.1,q.2.2⟩]
  ·rw[if_neg q];by_cases q2:za x.Kind x.Level y.Kind y.Level=6/\y.Kind=10/\(y.Data.length:Int)<=x.Value
   ·exfalso;rcases qaF q2.1 with⟨_,a⟩ | ⟨a,_⟩
    ·rcases qdT a with⟨_,a⟩ | ⟨a,_⟩
     ·omega
     ·exact q ⟨a,q2.2.1,q2.2.2⟩
    ·omega
   ·rw[if_neg q2]
theorem qf4{k:Int}:Pure Gm 1502 [.int .i64 k] (.bool (Zr k)):=by
 refine pI Ka (by simp[AV.trees,AV.tree,go_sem]) rfl ?_;simp only[Ka,qQ,go_sem]
 repeat' (first | (refine qW rfl ?_;simp only[go_sem]) | (first | (apply qg<;>intro hc<;>simp only[hc,go_sem]) | (apply qM<;>intro hc<;>simp only[hc,go_sem])) | refine qR rfl ?_)
 all_goals (simp_all[Zr])
theorem qf3{l k m:Int}:Pure Gm 1501 [.int .i64 l,.int .i64 k,.int .i64 m] (.bool (Xw l k m)):=by
 refine pI KZ (by simp[AV.trees,AV.tree,go_sem]) rfl ?_;simp only[KZ,qQ,go_sem]
 repeat' (first | (refine qW rfl ?_;simp only[go_sem]) | (first | (apply qg<;>intro hc<;>simp only[hc,go_sem]) | (apply qM<;>intro hc<;>simp only[hc,go_sem])) | (refine qO (qZ7) ?_;simp only[go_sem]) | (refine qO (qAR) ?_;simp only[go_sem]) | (refine qO (qAO) ?_;simp only[go_sem]) | refine qR rfl ?_)
 all_goals (simp_all[Xw])
theorem qfX{ka la kb lb:Int}:Pure Gm 1398 [.int .i64 ka,.int .i64 la,.int .i64 kb,.int .i64 lb] (.int .i64 (zC ka la kb lb)):=by
 refine pI KL (by simp[AV.trees,AV.tree,go_sem]) rfl ?_;simp only[KL,qQ,go_sem]
 repeat' (first | (refine qW rfl ?_;simp only[go_sem]) | (first | (apply qg<;>intro hc<;>simp only[hc,go_sem]) | (apply qM<;>intro hc<;>simp only[hc,go_sem])) | (refine qO (qf3) ?_;simp only[go_sem]) | (refine qO (qf4) ?_;simp only[go_sem]) | refine qR rfl ?_)
 all_goals (simp_all[zC])
theorem qZ2{ka la kb lb:Int}:Pure Gm 1115 [.int .i64 ka,.int .i64 la,.int .i64 kb,.int .i64 lb] (.tup [.int .i64 (za ka la kb lb),.int .i64 (zX ka la kb lb)]):=by
 refine pI Ug (by simp[AV.trees,AV.tree,go_sem]) rfl ?_;simp only[Ug,qQ,go_sem]
 repeat' (first | (first | (apply qg<;>intro hc<;>simp only[hc,go_sem]) | (apply qM<;>intro hc<;>simp only[hc,go_sem])) | (refine qO qAR ?_;simp only[go_sem]) | (refine qO qfX ?_;simp only[go_sem]) | refine jV rfl ?_)
 all_goals (try simp only[bNt,Bool.not_eq_false',dTe,decide_eq_false_iff_not,Bool.not_false]at*)
 all_goals (simp[za,zX,wc, *])
theorem c751{n:qC}{a b:Nat}(ha:a<n.Agents.length)(hb:b<n.Agents.length)(ok:qq n=true):Pure Gm 751 [.ept n.enc 0,qj.enc ⟨(a:Int),(b:Int)⟩] (.tup [.int .i64 (j5 n.Agents[a] n.Agents[b]),.bool (zM n.Agents[a] n.Agents[b]&& !decide (j5 n.Agents[a] n.Agents[b]=8))]):=by
 refine pI Xc (by simp[AV.trees,AV.tree,qC.tr,qj.tr]) rfl ?_;simp only[Xc,qQ,go_sem];refine qW rfl ?_;simp only[go_sem];simp only[gMp,gEg ha,oMs,go_sem];simp only[gEg hb,oMs,go_sem];have oa:qk n.Agents[a]=true:=wF (wY ok) _ (gMm ha);have ob:qk n.Agents[b]=true:=wF (wY ok) _ (gMm hb);have key:=qcV oa ob;obtain⟨x,hx⟩:∃x,x=n.Agents[a]:=⟨_,rfl⟩;obtain⟨y,hy⟩:∃y,y=n.Agents[b]:=⟨_,rfl⟩;rw[<-hx,<-hy]at key;rw[<-hx,<-hy];refine qU (k:=5) (by rfl) (by rfl) (by exact⟨_,rfl⟩) (by decide) ?_;simp only[go_sem];refine qU (k:=5) (by rfl) (by rfl) (by exact⟨_,rfl⟩) (by decide) ?_;simp only[go_sem];refine qO qZ2 ?_;simp only[go_sem];have c8:za x.Kind x.Level y.Kind y.Level=8->zX x.Kind x.Level y.Kind y.Level=2->False:=by
  intro h1 h2;simp only[za,zX]at h1 h2;split at h1
  ·rename_i hp;simp only[hp,if_true]at h2;split at h1
   ·exact V6 h1
   ·split at h1
    ·exact V6 h1
    ·rename_i q1 q2;rw[if_neg q1,if_neg q2]at h2;omega
  ·omega
 have k8:za x.Kind x.Level y.Kind y.Level=6->(if zM x y then x.Kind=10/\(x.Data.length:Int)<=y.Value else y.Kind=10/\(y.Data.length:Int)<=x.Value)->j5 x y=8:=fun h1 h2=>by rw[key,if_pos ⟨h1,h2⟩]
 have kn:¬(za x.Kind x.Level y.Kind y.Level=6/\(if zM x y then x.Kind=10/\(x.Data.length:Int)<=y.Value else y.Kind=10/\(y.Data.length:Int)<=x.Value))->j5 x y=za x.Kind x.Level y.Kind y.Level:=fun h1=>by rw[key,if_neg h1]
 clear key hx hy oa ob;have hs:zM x y=decide (zX x.Kind x.Level y.Kind y.Level=2):=rfl;generalize zM x y=S at*;generalize j5 x y=O at*;generalize za x.Kind x.Level y.Kind y.Level=C at*;generalize zX x.Kind x.Level y.Kind y.Level=F at*;subst hs
 repeat' (first | (first | (apply qg<;>intro hc<;>simp only[hc,go_sem]) | (apply qM<;>intro hc<;>simp only[hc,go_sem])) | (refine qU (k:=5) (by rfl) (by rfl) (by exact⟨_,rfl⟩) (by decide) ?_;simp only[go_sem]) | refine jV rfl ?_)
 all_goals simp only[Bool.not_true,dTe,decide_eq_false_iff_not]at*
 all_goals first
  | (have e:=k8 (by assumption) (by simp[*];done);simp[e];done)
  | (have e:=kn (by simp[*];try omega);simp only[e];simp[*];try first | omega | (intro h8;exact c8 h8 (by assumption)))
def Zb(xs:List Int)(k:Int)(m:Nat):Nat:=if xs=[]then 0 else((xs[k.toNat%xs.length]?).getD 0).toNat%m
def Ya(xs:List Int)(ps:List qj)(k:Int):qj:=(ps[Zb xs k ps.length]?).getD ⟨0,0⟩
theorem qd2{xs:List Int}{k:Int}{m:Nat}(h:0<m):Zb xs k m<m:=by
 unfold Zb;split
 ·exact h
 ·exact Nat.mod_lt _ h
theorem QL{n:qC}(h:qq n=true)(k:Nat)(hk:k<n.Agents.length):(n.Agents[k].Kind=1↔k=0):=by
 have:=qZG (wY h) k hk;rw[this];omega
theorem qjJ{n:qC}(h:qq n=true)(k:Nat)(hk:k<n.Agents.length):n.Agents[k].Kind≠0:=
 qAE (wF (wY h) _ (gMm hk))
theorem Z2{n:qC}(h:qq n=true):0<n.Agents.length:=by
 simp only[qq,wE,bAt]at h;have:=zK.1 h.1.1;omega
theorem c376{n:qC}(hz:n.sz<=1048576)(ok:qq n=true):Pure Gm 376 [.ept n.enc 0] (.lst 2 ((qi n).map qj.enc) false):=by
 refine pI Kv (by simp[AV.trees,AV.tree,go_sem]) (by simp[AV.tree,qV qj.isSh.tree]) ?_;simp only[Kv,qQ,go_sem];unfold qC.sz at hz;have hnp:=Z2 ok;refine Sem.loop (fun i:Nat=>i<=n.Agents.length) (fun i=>(⟨[(10,.lst 5 (n.Agents.map qA.enc) false),(11,.int .i64 (n.Agents.length:Int)),(12,.int .i64 (i:Nat)),(3,.slice 2 0 0 (zT n.Agents (i-1)).length false)],[],[.row 2 ((zT n.Agents (i-1)).map qj.enc) true]⟩:VSt)) (fun i=>n.Agents.length-i) 0 (by kernel_rfl) (nZl _) (Can.renum [none] rfl ⟨.ph,trivial⟩ ⟨⟨_,rfl,.tree (by simp[AV.tree,qV qA.isSh.tree])⟩,⟨_,rfl,.tree rfl⟩,⟨_,rfl,.tree rfl⟩,⟨_,rfl,.ph rfl⟩,trivial⟩ trivial) ?_;rintro i hi;simp only[go_sem];refine qM ?_ ?_<;>intro hc<;>simp only[hc,go_sem]
 ·have hlt:i<n.Agents.length:=by have:=odT hc;omega
  simp only[gMp,gEg hlt,oMs,go_sem];have hp0:=qcI ok _ (gMm hlt);have hk1:=QL ok i hlt;have hk0:=qjJ ok i hlt;refine qU (k:=5) (by rfl) (by rfl) (by exact⟨_,rfl⟩) (by decide) ?_;simp only[go_sem];simp only[gMp,gEg hp0,oMs,go_sem];refine qU (k:=2) (by rfl) (by rfl) (by exact⟨_,rfl⟩) (by decide) ?_;simp only[go_sem];have same (hn:¬(n.Agents[i].Ports[0].Slot=0/\(i:Int)<n.Agents[i].Ports[0].Agent/\n.Agents[i].Kind≠1)):zT n.Agents (i+1-1)=zT n.Agents (i-1):=by
   cases i with
   | zero=>rfl
   | succ i=>
    have h1:n.Agents[i+1].Kind≠1:=by intro q;have:=hk1.1 q;omega
    have:¬(n.Agents[i+1].Ports[0].Slot=0/\((i+1:Nat):Int)<n.Agents[i+1].Ports[0].Agent):=by rintro⟨q1,q2⟩;exact hn ⟨q1,q2,h1⟩
    simp only[Nat.add_sub_cancel,zT,Jj,gEg hlt,gEg hp0,if_neg hk0,if_neg this,lAn]
  have more (hn:n.Agents[i].Ports[0].Slot=0/\(i:Int)<n.Agents[i].Ports[0].Agent/\n.Agents[i].Kind≠1):zT n.Agents (i+1-1)=zT n.Agents (i-1)++[⟨(i:Int),n.Agents[i].Ports[0].Agent⟩]:=by
   cases i with
   | zero=>exact absurd (hk1.2 rfl) hn.2.2
   | succ i=>
    simp only[Nat.add_sub_cancel,zT,Jj,gEg hlt,gEg hp0,if_neg hk0];rw[if_pos ⟨hn.1,hn.2.1⟩]
  clear hk1 hk0
  repeat' (first | (first | (refine qg ?_ ?_<;>intro hc<;>simp only[hc,go_sem]) | (refine qM ?_ ?_<;>intro hc<;>simp only[hc,go_sem])))
  case refine_1.refine_1.refine_1=>
   have e:=more ⟨by simp_all,by simp_all,by simp_all⟩;refine zy (el:=(zT n.Agents (i-1)).map qj.enc) rfl rfl (by simp) (by have:=Vy n.Agents (i-1);omega) ?_;simp only[go_sem];simp only[qc (show i<4611686018427387904 by omega)];refine qd (i+1) (by omega) (by omega) ?_;simp only[e,lAp,lCo,lNi,nZa];refine Can.renum [some 2] rfl ⟨.row rfl ?_,trivial⟩ ⟨⟨_,rfl,.tree (by simp[AV.tree,qV qA.isSh.tree])⟩,⟨_,rfl,.tree rfl⟩,⟨_,rfl,.tree rfl⟩,⟨_,rfl,.slice rfl⟩,trivial⟩ trivial;rw[lMa];have t:=qV qj.isSh.tree (zT n.Agents (i-1)++[⟨(i:Int),n.Agents[i].Ports[0].Agent⟩]);rw[lMa]at t;exact VR2s.trees t
  all_goals
   simp only[qc (show i<4611686018427387904 by omega)];refine qd (i+1) (by omega) (by omega) ?_;rw[same (by simp_all<;>omega)];exact Can.sub (by simp[go_sem]) (by simp[go_sem])
 ·obtain rfl:i=n.Agents.length:=by have:=odF hc;omega
  refine QJ (Cv.row rfl (by simp[qi]) (qV qj.isSh.tree _) (by omega))
theorem c750{xs:List Int}{ps:List qj}{k:Int}(hk:0<=k)(hs:wM xs=true)(hp:0<ps.length):Pure Gm 750 [.lst 1 (xs.map qK) false,.lst 2 (ps.map qj.enc) false,.int .i64 k] ((Ya xs ps k).enc):=by
 refine pI F750 (by simp[AV.trees,AV.tree,qV qj.isSh.tree,qV shI.tree]) (by exact qj.tr) ?_;simp only[F750,qQ,go_sem];have sl:=qd2 (xs:=xs) (k:=k) hp;have e:Ya xs ps k=ps[Zb xs k ps.length]:=by simp[Ya,gEg sl]
 rw[e];apply qM<;>intro hc<;>simp only[hc,go_sem]
 ·have h1:0<xs.length:=by have:=odT hc;omega
  rw[if_neg (by omega),UM hk];have hlt:=Nat.mod_lt k.toNat h1;simp only[go_sem];simp only[gMp,gEg hlt,oMs,go_sem];simp only[qK,go_sem];rw[if_neg (by omega),UM (qd0 hs hlt)];have e2:xs[k.toNat%xs.length].toNat%ps.length=Zb xs k ps.length:=by
   rw[Zb,if_neg (by intro h;rw[h]at h1;cases h1),gEg hlt];rfl
  rw[e2];simp only[go_sem];simp only[gMp,gEg sl,oMs,go_sem];refine qU (k:=2) (by rfl) (by rfl) (by exact⟨_,rfl⟩) (by decide) ?_;simp only[go_sem];exact qR qj.tr rfl
 ·have h1:xs=[]:=by have:=odF hc;exact lEz (by omega)
  have e2:0=Zb xs k ps.length:=by rw[Zb,if_pos h1]
  rw[if_neg (by omega)];simp only[Int.zero_tmod];simp only[go_sem];simp only[<-e2]at sl|-;simp only[gMp,gEg sl,oMs,go_sem];refine qU (k:=2) (by rfl) (by rfl) (by exact⟨_,rfl⟩) (by decide) ?_;simp only[go_sem];exact qR qj.tr rfl
def upP(d:qJ):qj:=Ya d.Schedule (qi d.Net) d.At
def upC(d:qJ):Int:=j5 (zA d.Net (upP d).A) (zA d.Net (upP d).B)
def upS(d:qJ):Bool:=zM (zA d.Net (upP d).A) (zA d.Net (upP d).B)&& !decide (upC d=8)
def upX(d:qJ):Int:=if upS d then(upP d).B else(upP d).A
def upY(d:qJ):Int:=if upS d then(upP d).A else(upP d).B
def upD(d:qJ):Int:=if upC d=7 then(zA d.Net (upX d)).Value else-1
def upV(d:qJ):AV:=if qi d.Net=[]then .tup [.agg [.int .i64 0,.int .i64 0,.int .i64 0,.int .i64 0,.int .i64 0,.int .i64 0],.bool false]
 else .tup [.agg [.int .i64 (upP d).A,.int .i64 (upP d).B,.int .i64 (upC d),.int .i64 (upX d),.int .i64 (upY d),.int .i64 (upD d)],.bool true]
theorem qDD(d:qJ):(upV d).tree=true:=by unfold upV;split<;>rfl
theorem Yf{d:qJ}(h:0<(qi d.Net).length):∃hk:Jl d (qi d.Net).length<(qi d.Net).length,upP d=(qi d.Net)[Jl d (qi d.Net).length]:=by
 have sl:Jl d (qi d.Net).length<(qi d.Net).length:=qd2 (xs:=d.Schedule) (k:=d.At) h;exact⟨sl,by show (((qi d.Net)[Jl d (qi d.Net).length]?).getD ⟨0,0⟩)=_;rw[gEg sl];rfl⟩
theorem UO(d:qJ):upC d=qS (zA d.Net (zk d.Net (upP d)).A) (zA d.Net (zk d.Net (upP d)).B):=by
 unfold upC j5 zk;split<;>rfl
theorem qmU{d:qJ}(h:upC d≠8):upX d=(zk d.Net (upP d)).A:=by
 simp only[upX,upS,h,decide_false,Bool.not_false,Bool.and_true,zk];split<;>rfl
def Qn(c f n:Int)(b:qI):Bool:=decide (b.Kind=1)&&decide (b.Value=c) || decide (b.Kind=2)&&decide (b.Value=f) || decide (b.Kind=3)&&decide (b.Value<=n)
def YF(c f n:Int)(b:qI):Bool:=if b.Kind=1 then decide (b.Value=c)else if b.Kind=2 then decide (b.Value=f)else decide (b.Value<=n)
theorem qi8{c f n:Int}{b:qI}(h:w7 b=true):YF c f n b=Qn c f n b:=by
 unfold w7 at h;unfold YF Qn
 repeat' (split at h)
 all_goals first | (simp[*];done) | (cases h;done)
theorem qbQ{α:Type}{p q:α->Bool}:∀{xs:List α}{i:Nat},(∀x∈xs,p x=q x)->wA p xs i=wA q xs i
 |[],_,_=>rfl
 | x::xs,i,h=>by
  simp only[wA,h x (by simp)];rw[qbQ (xs:=xs) (i:=i+1) fun y hy=>h y (by simp[hy])]
def jy(d:qJ):Int:=if qi d.Net=[]then-1 else wA (Qn (upC d) (upD d) d.Net.Agents.length) d.Breaks 0
theorem qeN(d:qJ):upD d=if upC d=7 then(zA d.Net (zk d.Net (upP d)).A).Value else-1:=by
 by_cases h7:upC d=7
 ·simp only[if_pos h7,upD,qmU (show upC d≠8 by omega)]
 ·simp only[if_neg h7,upD]
theorem Vp{d:qJ}(h:qi d.Net≠[]):∃k:Int,j4 d=.tup [.int .i64 k,(zk d.Net (upP d)).enc,.int .i64 (upC d),.bool true]:=by
 have hl:0<(qi d.Net).length:=by cases hq:qi d.Net with
  | nil=>exact absurd hq h
  | cons a b=>simp
 obtain⟨sl,e⟩:=Yf hl;refine⟨(Jl d (qi d.Net).length:Nat), ?_⟩;rw[UO,e,j4,ZS,gEg sl]
theorem qgT{d:qJ}(h:jN d=true):∀b∈d.Breaks,w7 b=true:=by
 simp only[jN,bAt]at h;exact fun b hb=>lAt.1 h.1.1.2 b hb
theorem c772{b:qI}{d:qJ}{a x c y z f:Int}:Pure Gm 772 [b.enc,.ept (.agg [.int .i64 a,.int .i64 x,.int .i64 c,.int .i64 y,.int .i64 z,.int .i64 f]) 0,.ept (.ept d.enc 0) 0] (.bool (YF c f d.Net.Agents.length b)):=by
 refine pI F772 (by simp[AV.trees,AV.tree,qI.tr,qJ.tr]) rfl ?_;simp only[F772,qQ,go_sem];refine qW rfl ?_;simp only[go_sem]
 repeat' (first | (first | (apply qg<;>intro hc<;>simp only[hc,go_sem]) | (apply qM<;>intro hc<;>simp only[hc,go_sem])) | refine qR rfl ?_)
 all_goals (simp only[dTe,decide_eq_false_iff_not]at*;simp[YF, *])
theorem c771{f:AV}(p:qI->Bool)(hft:f.tree=true)(xs:List qI)(hf:∀x∈xs,Q3 Gm f [x.enc] (.bool (p x)))(hl:xs.length<=1048576):Pure Gm 771 [.lst 2 (xs.map qI.enc) false,f] (.int .i64 (wA p xs 0)):=
 qbO qI.isSh (gk _ F771) f p hft xs hf hl
theorem Qp{n:qC}(h:qq n=true):W n.Agents fun _ _=>False:=by
 intro a s q hq _;obtain⟨x,hx,hs⟩:=jY.1 hq;have hl:=(gSi.1 hx).1;have hl2:=(gSi.1 hs).1;have e1:n.Agents[a]=x:=(gSi.1 hx).2;have e2:x.Ports[s]=q:=(gSi.1 hs).2;unfold qq at h;simp only[bAt]at h;have h1:=Vo h.2 a hl;rw[e1]at h1;have h2:=UR h1 s hl2;rw[e2]at h2;simp only[nZa]at h2;unfold wh at h2;simp only[bAt,bNt,decide_eq_false_iff_not,dTe]at h2;obtain⟨⟨h3,h4⟩,h5⟩:=h2;obtain⟨b,t,rfl,hb,ht⟩:=qc7 h4;exact⟨b,t,rfl,by rw[<-qc5];exact h5,fun q=>q,fun e=>h3 (by rw[e.1,e.2])⟩
theorem qZH:∀{l:Ags}{i:Nat},(∀x∈l,qk x=true)->(∀(k:Nat)(hk:k<l.length),l[k].Kind=1↔i+k=0)->ji l i=true
 |[],_,_,_=>rfl
 | x::xs,i,h1,h2=>by
  have:=qZH (l:=xs) (i:=i+1) (fun y hy=>h1 y (by simp[hy])) (fun k hk=>by have:=h2 (k+1) (by simp;omega);simp only[List.getElem_cons_succ]at this;rw[this];omega);have h0:=h2 0 (by simp);simp only[List.getElem_cons_zero,nAz]at h0;simp[ji,this,h1 x (by simp),h0]
theorem qjY{n:qC}(h1:∀x∈n.Agents,qk x=true)(h2:∀(k:Nat)(hk:k<n.Agents.length),n.Agents[k].Kind=1↔k=0)(h3:1<=n.Agents.length)(h4:n.Agents.length<=600)(hw:W n.Agents fun _ _=>False):qq n=true:=by
 unfold qq wE;rw[qZH h1 (fun k hk=>by rw[h2 k hk];omega)];simp only[Bool.and_true,bAt];refine⟨by rw[zK];omega,qCD fun k hk=>qDE fun m hm=> ?_⟩;have hx:n.Agents[k]?=some n.Agents[k]:=gEg hk;obtain⟨b,t,e,h5,_,h6⟩:=hw k m _ (jY.2 ⟨_,hx,gEg hm⟩) id;rw[e];simp only[nZa];unfold wh;simp only[bAt,bNt,decide_eq_false_iff_not,dTe];refine⟨⟨fun e=>h6 (JA.1 e), ?_⟩,by rw[qc5];exact h5⟩;obtain⟨y,hy,hs⟩:=jm.1 ⟨_,h5⟩;have hb:=(gSi.1 hy).1;unfold we Jk;simp only[pt,iTn,hy,bAt,zK];omega
theorem J5{n:qC}(h:qq n=true){k:Nat}{x:qA}(hx:n.Agents[k]?=some x):qk x=true:=wF (wY h) x (lMo hx)
theorem qAD{x y:qA}(h:jR y=jR x):qk y=qk x:=by
 simp only[jR,Prod.mk.injEq]at h;obtain⟨h1,h2,h3,h4,h5⟩:=h;unfold qk fieldsOf zu;rw[h1,h2,h3,h4,h5]
def ql(R:Nat->Bool)(n:Nat):List Nat:=(List.range n).filter fun k=> !R k
def qy(R:Nat->Bool)(n:Nat):Nat:=(ql R n).length
def jA(R:Nat->Bool)(x:qA):qA:={x with Ports:=x.Ports.map fun p=>⟨(qy R p.Agent.toNat:Nat),p.Slot⟩}
def zo(N:Ags)(R:Nat->Bool):Ags:=(ql R N.length).map fun k=>jA R (N.getD k JP)
theorem YP{R:Nat->Bool}{n:Nat}:ql R (n+1)=ql R n++if R n then []else [n]:=by
 unfold ql;rw[List.range_succ,List.filter_append];cases h:R n<;>simp[h]
theorem JH{R:Nat->Bool}{n:Nat}:qy R (n+1)=qy R n+if R n then 0 else 1:=by
 unfold qy;rw[YP,lAp];split<;>rfl
theorem Q8{R:Nat->Bool}{n:Nat}:qy R n<=n:=by
 unfold qy ql;exact nLt (List.length_filter_le _ _) (by simp)
theorem qCN{R:Nat->Bool}{n k:Nat}:k∈ql R n↔k<n/\R k=false:=by simp[ql]
theorem qaI{R:Nat->Bool}{n m:Nat}(h:n<=m):qy R n<=qy R m:=by
 induction m with
 | zero=>
  obtain rfl:n=0:=by omega
  exact nLr _
 | succ m ih=>
  rcases Nat.lt_or_ge n (m+1)with q | q
  ·rw[JH];have:=ih (by omega);omega
  ·obtain rfl:n=m+1:=by omega
   exact nLr _
theorem YO{R:Nat->Bool}{k:Nat}(hk:R k=false):∀{n:Nat},k<n->(ql R n)[qy R k]?=some k
 | 0,h=>by omega
 | n+1,h=>by
  rw[YP];by_cases e:k=n
  ·subst e;rw[hk];unfold qy;simp
  ·have:=YO hk (n:=n) (by omega);rw[gAl (gSi.1 this).1];exact this
theorem qCM{R:Nat->Bool}{n m k:Nat}(h:(ql R n)[m]?=some k):k<n/\R k=false/\qy R k=m:=by
 have hm:=qCN.1 (lMo h);have h2:=YO hm.2 hm.1;have nd:(ql R n).Nodup:=List.Pairwise.filter _ List.nodup_range;refine⟨hm.1,hm.2, ?_⟩;obtain⟨q1,q2⟩:=gSi.1 h;obtain⟨q3,q4⟩:=gSi.1 h2;exact(List.getElem_inj nd).1 (q4.trans q2.symm)
theorem YR{N:Ags}{R:Nat->Bool}:(zo N R).length=qy R N.length:=by simp[zo,qy]
theorem qCP{N:Ags}{R:Nat->Bool}{m:Nat}{y:qA}(h:(zo N R)[m]?=some y):∃k x,N[k]?=some x/\R k=false/\qy R k=m/\y=jA R x:=by
 unfold zo at h;rw[gMp]at h;obtain⟨k,hk,e⟩:=oMi.1 h;obtain⟨h1,h2,h3⟩:=qCM hk;exact⟨k,N[k],gEg h1,h2,h3,by rw[<-e,lGd,gEg h1];rfl⟩
theorem qkF{N:Ags}{R:Nat->Bool}{k:Nat}{x:qA}(hx:N[k]?=some x)(hk:R k=false):(zo N R)[qy R k]?=some (jA R x):=by
 unfold zo;rw[gMp,YO hk (gSi.1 hx).1,oMs,lGd,hx];rfl
theorem qkE{N:Ags}{R:Nat->Bool}(h:W N fun u _=>R u=true):W (zo N R) fun _ _=>False:=by
 intro m s q hq _;obtain⟨y,hy,hs⟩:=jY.1 hq;obtain⟨k,x,hx,hk,rfl,rfl⟩:=qCP hy;simp only[jA,gMp,oMi]at hs;obtain⟨q0,hq0,rfl⟩:=hs;obtain⟨b,t,rfl,e2,e3,e4⟩:=h k s q0 (jY.2 ⟨x,hx,hq0⟩) (by simp[hk]);obtain⟨z,hz,hz2⟩:=jY.1 e2;have hb:R b=false:=by simpa using e3
 refine⟨qy R b,t,by simp[pt],jY.2 ⟨_,qkF hz hb, ?_⟩,id, ?_⟩
 ·simp only[jA,gMp,hz2,oMs];simp[pt]
 ·rintro⟨q1,rfl⟩;have f1:=YO hb (n:=max b k+1) (by omega);have f2:=YO hk (n:=max b k+1) (by omega);rw[q1,f2]at f1;exact e4 ⟨(Option.some.inj f1).symm,rfl⟩
theorem qlC{R:Nat->Bool}{x:qA}:jR (jA R x)=jR x:=by simp[jR,jA]
theorem qkH{N:Ags}{R:Nat->Bool}(hw:W N fun u _=>R u=true)(h1:∀(k:Nat)(x:qA),N[k]?=some x->R k=false->qk x=true/\(x.Kind=1↔k=0))(h0:R 0=false)(hl:0<N.length)(h4:qy R N.length<=600):qq ⟨zo N R⟩=true:=by
 refine qjY (fun y hy=> ?_) (fun m hm=> ?_) ?_ (by simpa[YR]using h4) (qkE hw)
 ·obtain⟨m,hm,e⟩:=List.getElem_of_mem hy;obtain⟨k,x,hx,hk,_,rfl⟩:=qCP (gSi.2 ⟨hm,e⟩);rw[qAD qlC];exact(h1 k x hx hk).1
 ·obtain⟨k,x,hx,hk,e,e2⟩:=qCP (gEg hm);have:(zo N R)[m].Kind=x.Kind:=by rw[e2];rfl
  simp only at this|-;rw[this,(h1 k x hx hk).2,<-e];constructor
  ·rintro rfl;rfl
  ·intro q;rcases Nat.eq_zero_or_pos k with w | w
   ·exact w
   ·have:=qaI (R:=R) (n:=1) (m:=k) (by omega);rw[show qy R 1=1 by rw[JH,h0];rfl]at this;omega
 ·simp only[YR];have:=qaI (R:=R) (n:=1) (m:=N.length) (by omega);rw[show qy R 1=1 by rw[JH,h0];rfl]at this;exact this
def w32(x:Int):Int:=IntKind.i64.wrap (IntKind.i32.wrap (IntKind.u32.wrap (IntKind.u64.wrap x)))
def opI(k a b:Int):Int:=
 if k=1 then w32 (IntKind.i64.wrap (w32 a+w32 b))else if k=2 then w32 (IntKind.i64.wrap (w32 a-w32 b))else if k=3 then w32 (IntKind.i64.wrap (w32 a*w32 b))
 else if k=4 then(if w32 b=0 then 0 else w32 (IntKind.i64.wrap ((w32 a).tdiv (w32 b))))else if k=5 then(if w32 a<w32 b then 1 else 0)else if k=6 then(if w32 a=w32 b then 1 else 0)else 0
theorem qeR(x:Int):w32 x=IntKind.i64.wrap (IntKind.i32.wrap x):=by
 unfold w32;congr 1;simp only[IntKind.wrap,IntKind.bits,IntKind.signed];simp
theorem WV{x:Int}:Pure Gm 1125 [.int .i64 x] (.int .i64 (w32 x)):=by
 refine pI Ui (by simp[AV.trees,AV.tree,go_sem]) rfl ?_;simp only[Ui,qQ,go_sem];exact qR rfl rfl
theorem qZ3{b:Bool}:Pure Gm 1126 [.bool b] (.int .i64 (if b then 1 else 0)):=by
 refine pI Uj (by simp[AV.trees,AV.tree,go_sem]) rfl ?_;simp only[Uj,qQ,go_sem];apply qM<;>intro hc<;>simp only[hc,go_sem]
 ·exact qR rfl rfl
 ·exact qR rfl rfl
theorem c762{k a b:Int}:Pure Gm 762 [.int .i64 k,.int .i64 a,.int .i64 b] (.int .i64 (opI k a b)):=by
 refine pI F762 (by simp[AV.trees,AV.tree,go_sem]) rfl ?_;simp only[F762,qQ,go_sem];refine qO WV ?_;simp only[go_sem];refine qO WV ?_;simp only[go_sem];unfold opI;apply qM<;>intro hc<;>simp only[hc,go_sem]
 ·rw[if_pos (odT hc)];refine qO WV ?_;simp only[go_sem];exact qR rfl rfl
 rw[if_neg (odF hc)];apply qM<;>intro hc<;>simp only[hc,go_sem]
 ·rw[if_pos (odT hc)];refine qO WV ?_;simp only[go_sem];exact qR rfl rfl
 rw[if_neg (odF hc)];apply qM<;>intro hc<;>simp only[hc,go_sem]
 ·rw[if_pos (odT hc)];refine qO WV ?_;simp only[go_sem];exact qR rfl rfl
 rw[if_neg (odF hc)];apply qM<;>intro hc<;>simp only[hc,go_sem]
 ·rw[if_pos (odT hc)];apply qM<;>intro hc<;>simp only[hc,go_sem]
  ·rw[if_pos (odT hc)];exact qR rfl rfl
  rw[if_neg (odF hc)];have hq:=odF hc;simp only[if_neg hq,go_sem];refine qO WV ?_;simp only[go_sem];exact qR rfl rfl
 rw[if_neg (odF hc)];apply qM<;>intro hc<;>simp only[hc,go_sem]
 ·rw[if_pos (odT hc)];refine qO qZ3 ?_;simp only[go_sem];exact qR rfl (by simp)
 rw[if_neg (odF hc)];apply qM<;>intro hc<;>simp only[hc,go_sem]
 ·rw[if_pos (odT hc)];refine qO qZ3 ?_;simp only[go_sem];exact qR rfl (by simp)
 rw[if_neg (odF hc)];exact qR rfl rfl
theorem c566{b:Bool}:Pure Gm 566 [.bool b] (.int .i64 (if b then 1 else 0)):=by
 refine pI kQ (by simp[AV.trees,AV.tree,go_sem]) rfl ?_;simp only[kQ,qQ,go_sem];apply qM<;>intro hc<;>simp only[hc,go_sem]
 ·exact qR rfl rfl
 ·exact qR rfl rfl
theorem WW{x:Int}:Pure Gm 1400 [.int .i64 x] (.int .i64 (w32 x)):=by
 refine pI KN (by simp[AV.trees,AV.tree,go_sem]) rfl ?_;simp only[KN,qQ,go_sem];exact qR rfl (by rw[qeR])
theorem qfK{k a b:Int}:Pure Gm 1118 [.int .i64 k,.int .i64 a,.int .i64 b] (.int .i64 (opI k a b)):=by
 refine pI Uh (by simp[AV.trees,AV.tree,go_sem]) rfl ?_;simp only[Uh,qQ,go_sem];refine qO WW ?_;simp only[go_sem];refine qO WW ?_;simp only[go_sem];unfold opI;apply qM<;>intro hc<;>simp only[hc,go_sem]
 ·rw[if_pos (odT hc)];refine qO WW ?_;simp only[go_sem];exact qR rfl rfl
 rw[if_neg (odF hc)];apply qM<;>intro hc<;>simp only[hc,go_sem]
 ·rw[if_pos (odT hc)];refine qO WW ?_;simp only[go_sem];exact qR rfl rfl
 rw[if_neg (odF hc)];apply qM<;>intro hc<;>simp only[hc,go_sem]
 ·rw[if_pos (odT hc)];refine qO WW ?_;simp only[go_sem];exact qR rfl rfl
 rw[if_neg (odF hc)];apply qM<;>intro hc<;>simp only[hc,go_sem]
 ·rw[if_pos (odT hc)];apply qM<;>intro hc<;>simp only[hc,go_sem]
  ·rw[if_pos (odT hc)];exact qR rfl rfl
  rw[if_neg (odF hc)];have hq:=odF hc;simp only[if_neg hq,go_sem];refine qO WW ?_;simp only[go_sem];exact qR rfl rfl
 rw[if_neg (odF hc)];apply qM<;>intro hc<;>simp only[hc,go_sem]
 ·rw[if_pos (odT hc)];refine qO c566 ?_;simp only[go_sem];exact qR rfl (by simp)
 rw[if_neg (odF hc)];apply qM<;>intro hc<;>simp only[hc,go_sem]
 ·rw[if_pos (odT hc)];refine qO c566 ?_;simp only[go_sem];exact qR rfl (by simp)
 rw[if_neg (odF hc)];exact qR rfl rfl
theorem qj2{k a b:Int}: -2147483648<=opI k a b/\opI k a b<=2147483647:=by
 have hw:∀n:Int,-2147483648<=w32 n/\w32 n<=2147483647:=fun n=>by
  have h3: -2147483648<=IntKind.i32.wrap n/\IntKind.i32.wrap n<=2147483647:=by
   simp only[IntKind.wrap,IntKind.bits,IntKind.signed,Bool.true_and,dTe,Nat.reduceSub,Int.reducePow,ge_iff_le];split<;>constructor<;>omega
  rw[qeR,qf (by omega) (by omega)];exact h3
 unfold opI
 repeat' split
 all_goals first
  | exact hw _
  | omega
theorem Qu{ka la kb lb:Int}:(zC ka la kb lb=1->ka=2/\kb=3)/\(zC ka la kb lb=2->ka=4/\kb=4)/\(zC ka la kb lb=3->ka=4)/\(zC ka la kb lb=4->ka=5)/\(zC ka la kb lb=5->ka=6/\(kb=7\/kb=8))/\
  (zC ka la kb lb=6->(ka=6/\kb=11)\/(ka=9/\kb=10))/\(zC ka la kb lb=7->ka=12/\Zr kb=true)/\0<=zC ka la kb lb/\zC ka la kb lb<=7:=by
 unfold zC
 repeat' split
 all_goals (simp_all<;>omega)
theorem wK{x:qA}(h:qk x=true):(x.Ports.length:Int)=wL x.Kind (fieldsOf x)/\0<x.Ports.length:=by
 unfold qk at h;simp only[bAt,dTe]at h;omega
theorem Vw{x:qA}(h:qk x=true)(hk:x.Kind=5\/x.Kind=6\/x.Kind=12):x.Ports.length=1:=by
 have:=(wK h).1;unfold fieldsOf wL at this;rcases hk with e | e | e<;>rw[e]at this<;>simp at this<;>omega
theorem Z4{x:qA}(h:qk x=true)(hk:x.Kind=8\/x.Kind=10\/x.Kind=11):x.Ports.length=2:=by
 have:=(wK h).1;unfold fieldsOf wL at this;rcases hk with e | e | e<;>rw[e]at this<;>simp at this<;>omega
theorem wJ{x:qA}(h:qk x=true)(hk:x.Kind=2\/x.Kind=3\/x.Kind=4\/x.Kind=7):x.Ports.length=3:=by
 have:=(wK h).1;unfold fieldsOf wL at this;rcases hk with e | e | e | e<;>rw[e]at this<;>simp at this<;>omega
theorem W1{x:qA}(h:qk x=true):x.Ports.length<=4:=by
 have h1:=(wK h).1;have:wL x.Kind (fieldsOf x)<=4:=by
  unfold wL;split
  ·split
   ·rename_i q;rw[zK]at q;omega
   ·omega
  ·split
   ·omega
   ·repeat' split
    all_goals omega
 omega
theorem qAY{x y:qA}(hx:qk x=true)(hy:qk y=true)(k1:x.Kind≠1)(k2:y.Kind≠1)(hf:zX x.Kind x.Level y.Kind y.Level≠2)(h8:qS x y≠8):
  zC x.Kind x.Level y.Kind y.Level=qS x y/\qS x y≠0/\¬(x.Kind=9/\y.Kind=10/\(y.Data.length:Int)<=x.Value):=by
 have e:=qaG hx hy hf;have n1:¬(x.Kind=9/\y.Kind=10/\(y.Data.length:Int)<=x.Value):=fun q=>h8 (by rw[e,if_pos q]);rw[if_neg n1]at e;have hp:wc x.Kind x.Level y.Kind y.Level=true:=by unfold wc;simp[Jf hx,Jf hy,k1,k2]
 unfold za at e;rw[if_pos hp]at e;unfold zX at hf;rw[if_pos hp]at hf;by_cases q:zC x.Kind x.Level y.Kind y.Level≠0
 ·rw[if_pos q]at e;exact⟨e.symm,by rw[e];exact q,n1⟩
 ·rw[if_neg q]at hf e;by_cases q2:zC y.Kind y.Level x.Kind x.Level≠0
  ·rw[if_pos q2]at hf;exact absurd rfl hf
  ·rw[if_neg q2]at e;exact absurd e h8
def Zo(N:Ags)(t:qC)(lev:Int)(b:Nat):Ags:=zj (jw N t lev) (pt (N.length-1+(z9 t.Agents (pt 0 0)).Agent.toNat) (z9 t.Agents (pt 0 0)).Slot.toNat) (pt b 0)
def JZ(x y:qA):Int:=if x.Value≠0 then y.Data.getD 0 0 else y.Data.getD 1 0
def qm(bk:List qC)(N:Ags)(a b:Nat)(x y:qA):Ags:=
 if qS x y=1\/qS x y=2 then VV N a b else if qS x y=3 then Zn N a b x y else if qS x y=4 then j9 b (y.Ports.length-1) N
 else if qS x y=5 then(if y.Kind=8 then W2 (opI y.Value (y.Data.getD 0 0) x.Value) N b else W3 N b x y)
 else if qS x y=6 then(if y.Kind=11 then W7 y.Level (JZ x y) N b else Zj y.Level (y.Data.getD x.Value.toNat 0) N a b (x.Ports.length-1))
 else Zo N (zY bk x.Value) x.Level b
def qt(c:Int)(a b:Nat)(u:Nat):Bool:=decide (u=a) || (decide (c≠7)&&decide (u=b))
def Wu(bk:List qC)(n:Nat)(x y:qA):Ags:=
 if qS x y=1\/qS x y=2 then []else if qS x y=3 then [qT y.Kind y.Level y.Value y.Data y.Ports.length,qT y.Kind y.Level y.Value y.Data y.Ports.length]++List.replicate (y.Ports.length-1) (qT 4 x.Level 0 [] 3)
 else if qS x y=4 then List.replicate (y.Ports.length-1) (qT 5 0 0 [] 1)
 else if qS x y=5 then(if y.Kind=8 then [qT 6 0 (opI y.Value (y.Data.getD 0 0) x.Value) [] 1]else [qT 8 y.Level y.Value [x.Value] 2])
 else if qS x y=6 then(if y.Kind=11 then [qT 12 y.Level (JZ x y) [] 1]else qT 12 y.Level (y.Data.getD x.Value.toNat 0) [] 1::List.replicate (x.Ports.length-1) (qT 3 y.Level 0 [] 3))
 else((zY bk x.Value).Agents.drop 1).map (zD x.Level ((n:Int)-1))
theorem Yp(bk:List qC)(N:Ags)(a b:Nat)(x y:qA):SameA (N++Wu bk N.length x y) (qm bk N a b x y):=by
 unfold qm Wu;split
 ·simp only[lAn];exact(JJ _ _ _).trans (JJ _ _ _)
 split
 ·have:=(Qc (N:=N) (x:=x) (y:=y)).trans (Zm (N:=N) (a:=a) (b:=b) (i:=y.Ports.length-1));unfold wR at this;simpa[Zn]using this
 split
 ·exact Wd
 split
 ·split
  ·exact wx _ _ _
  ·exact ZU.trans (wx _ _ _)
 split
 ·split
  ·exact wx _ _ _
  ·have:=(Xm (lev:=y.Level) (v:=y.Data.getD x.Value.toNat 0) (N:=N) (a:=a) (i:=x.Ports.length-1)).trans (wx _ (pt b 1) (Ja N.length (x.Ports.length-1)));unfold qz at this;simpa[Zj]using this
 ·exact zr _ _ _
theorem qjK{y:qA}:jR (qT y.Kind y.Level y.Value y.Data y.Ports.length)=jR y:=by simp[jR,qT]
theorem qcN{k l v:Int}(hk:k=5\/k=6\/k=12)(hl:jq k l=true)(hc:zu (qT k l v [] 1)=true):qk (qT k l v [] 1)=true:=by
 unfold qk;rw[hc];simp only[qT,hl,Bool.and_true,fieldsOf,wL,lLr];rcases hk with e | e | e<;>subst e<;>simp
theorem qcO{k l:Int}(hk:k=3\/k=4)(hl:jq k l=true):qk (qT k l 0 [] 3)=true:=by
 unfold qk;have:zu (qT k l 0 [] 3)=true:=by unfold zu qT;rcases hk with e | e<;>subst e<;>simp
 rw[this];simp only[qT,hl,Bool.and_true,fieldsOf,wL,lLr];rcases hk with e | e<;>subst e<;>simp
theorem Qq{x:qA}(h:qk x=true):zu x=true:=by unfold qk at h;simp only[bAt]at h;exact h.2
theorem qZI{p:Int->Bool}{xs:List Int}(h:xs.all p=true){i:Nat}(hi:i<xs.length):p (xs.getD i 0)=true:=by
 rw[lGd,gEg hi];exact lAt.1 h _ (gMm hi)
theorem qcP{l v:Int}(hl:inI l 0 8=true)(hv:jv v=true):qk (qT 12 l v [] 1)=true:=
 qcN (.inr (.inr rfl)) (by unfold jq;rw[if_pos (by decide)];exact hl) (by unfold zu qT;simp[hv])
theorem qCI{x:qA}(h:qk x=true)(hk:wT x.Kind=true):inI x.Level 0 8=true:=by have:=Jf h;unfold jq at this;rwa[if_pos hk]at this
theorem qjZ{z:qA}{lev base:Int}(h:qk z=true)(h1:wT z.Kind=true->inI (z.Level+lev) 0 8=true):qk (zD lev base z)=true:=by
 unfold qk at*;have e1:fieldsOf (zD lev base z)=fieldsOf z:=by unfold fieldsOf zD;simp
 have e2:zu (zD lev base z)=zu z:=by unfold zu zD;rfl
 rw[e1,e2];simp only[zD,lMp];simp only[bAt]at h|-;refine⟨⟨h.1.1, ?_⟩,h.2⟩;unfold jq at*;by_cases q:wT z.Kind=true
 ·rw[if_pos q,if_pos q];exact h1 q
 ·rw[if_neg q,if_neg q];have:=h.1.2;rwa[if_neg q]at this
theorem qCK{y:qA}(h:qk y=true)(hk:y.Kind=11):y.Data.length=2/\y.Data.all jv=true:=by
 have:=Qq h;unfold zu at this;rw[hk]at this;simp at this;exact⟨by omega,by simpa using this.2⟩
theorem qjW{y:qA}(h:qk y=true)(hk:y.Kind=10):y.Data.all jv=true:=by
 have:=Qq h;unfold zu at this;rw[hk]at this;simp at this;simpa using this.2
theorem qjX{x:qA}(h:qk x=true)(hk:x.Kind=6):inI x.Value (-2147483648) 2147483647=true:=by
 have:=Qq h;unfold zu at this;rw[hk]at this;simp at this;exact this.2
theorem qCH{x:qA}(h:qk x=true)(hk:x.Kind=9):inI x.Value 0 3=true:=by
 have:=Qq h;unfold zu at this;rw[hk]at this;simp at this;exact this.2
theorem qCJ{x:qA}(h:qk x=true)(hk:x.Kind=12):jv x.Value=true:=by
 have:=Qq h;unfold zu at this;rw[hk]at this;simp at this;exact this.2
structure zN(bk:List qC)(N:Ags)(a b:Nat)(x y:qA):Prop where
 ok:qq ⟨N⟩=true
 bo:j7 bk=true
 act:Act N a b x y
 a0:a≠0
 b0:b≠0
 f:zX x.Kind x.Level y.Kind y.Level≠2
 g:(qx bk x y).2=0
 full:(N.length:Int)+(qx bk x y).1<=600
section
variable {bk:List qC} {N:Ags} {a b:Nat} {x y:qA}
theorem qDC(hb:j7 bk=true){v:Int}(h0:0<=v)(h:v<bk.length):qq (zY bk v)=true:=by
 unfold j7 at hb;simp only[bAt]at hb;have hv:v.toNat<bk.length:=by omega
 unfold zY;rw[gEg hv];exact lAt.1 hb.2 _ (gMm hv)
theorem zN.kx(h:zN bk N a b x y):qk x=true/\x.Kind≠1:=by
 have hx:=h.act.x;refine⟨J5 h.ok hx,fun e=>h.a0 ?_⟩;obtain⟨q1,q2⟩:=gSi.1 hx;exact(QL h.ok a q1).1 (by simp only;rw[q2];exact e)
theorem zN.ky(h:zN bk N a b x y):qk y=true/\y.Kind≠1:=by
 have hx:=h.act.y;refine⟨J5 h.ok hx,fun e=>h.b0 ?_⟩;obtain⟨q1,q2⟩:=gSi.1 hx;exact(QL h.ok b q1).1 (by simp only;rw[q2];exact e)
theorem zN.c8(h:zN bk N a b x y):qS x y≠8:=fun e=>by have:=h.g;unfold qx at this;rw[if_pos e]at this;cases this
theorem zN.rule(h:zN bk N a b x y):zC x.Kind x.Level y.Kind y.Level=qS x y/\qS x y≠0/\¬(x.Kind=9/\y.Kind=10/\(y.Data.length:Int)<=x.Value):=qAY h.kx.1 h.ky.1 h.kx.2 h.ky.2 h.f h.c8
theorem zN.cls(h:zN bk N a b x y):1<=qS x y/\qS x y<=7:=by
 obtain⟨e,n0,_⟩:=h.rule;have:=(Qu (ka:=x.Kind) (la:=x.Level) (kb:=y.Kind) (lb:=y.Level)).2.2.2.2.2.2.2;omega
theorem zN.t7(h:zN bk N a b x y)(c:qS x y=7):x.Kind=12/\0<=x.Value/\x.Value<bk.length/\qq (zY bk x.Value)=true/\IntKind.i64.wrap (hiI (zY bk x.Value).Agents+x.Level)<=8/\Zr y.Kind=true:=by
 obtain⟨e,n0,_⟩:=h.rule;have k:=(Qu (ka:=x.Kind) (la:=x.Level) (kb:=y.Kind) (lb:=y.Level)).2.2.2.2.2.2.1 (e.trans c);have hv:=qCJ h.kx.1 k.1;unfold jv at hv;rw[zK]at hv;have hg:=h.g;unfold qx at hg;rw[if_neg h.c8]at hg;have q1:¬(qS x y=7/\(bk.length:Int)<=x.Value):=fun q=>by rw[if_pos q]at hg;cases hg
 rw[if_neg q1]at hg;have q2:¬(qS x y=7/\8<IntKind.i64.wrap (hiI (zY bk x.Value).Agents+x.Level)):=fun q=>by rw[if_pos q]at hg;cases hg
 have h1:x.Value<bk.length:=by omega
 exact⟨k.1,hv.1,h1,qDC h.bo hv.1 h1,by omega,k.2⟩
theorem zN.gro(h:zN bk N a b x y):(qx bk x y).1=(zw (qS x y) (jX bk x y (qS x y))).1:=by
 have hg:=h.g;unfold qx at hg|-;rw[if_neg h.c8]at hg|-;split at hg
 ·cases hg
 split at hg
 ·cases hg
 rename_i q1 q2;rw[if_neg q1,if_neg q2]
theorem qbM:∀{xs:Ags}{x:qA},x∈xs->x.Level<=hiI xs:=by
 have key:∀(xs:Ags)(m:Int),m<=xs.foldl (fun m x=>if x.Level<m then m else x.Level) m/\∀x∈xs,x.Level<=xs.foldl (fun m x=>if x.Level<m then m else x.Level) m:=by
  intro xs
  induction xs with
  | nil=>intro m;exact⟨Int.le_refl _,by simp⟩
  | cons y ys ih=>
   intro m;simp only[List.foldl_cons];have hm:m<=(if y.Level<m then m else y.Level)/\y.Level<=(if y.Level<m then m else y.Level):=by split<;>omega
   obtain⟨h1,h2⟩:=ih (if y.Level<m then m else y.Level);refine⟨Int.le_trans hm.1 h1,fun x hx=> ?_⟩;rcases List.mem_cons.1 hx with rfl | q
   ·exact Int.le_trans hm.2 h1
   ·exact h2 x q
 intro xs x hx;exact(key xs 0).2 x hx
theorem qbL{xs:Ags}(h:∀x∈xs,0<=x.Level/\x.Level<=8):0<=hiI xs/\hiI xs<=8:=by
 have key:∀(xs:Ags)(m:Int),0<=m->m<=8->(∀x∈xs,0<=x.Level/\x.Level<=8)->0<=xs.foldl (fun m x=>if x.Level<m then m else x.Level) m/\xs.foldl (fun m x=>if x.Level<m then m else x.Level) m<=8:=by
  intro xs
  induction xs with
  | nil=>intro m h1 h2 _;exact⟨h1,h2⟩
  | cons y ys ih=>
   intro m h1 h2 h3;have:=h3 y (by simp);have hm:0<=(if y.Level<m then m else y.Level)/\(if y.Level<m then m else y.Level)<=8:=by split<;>omega
   exact ih _ hm.1 hm.2 fun x hx=>h3 x (by simp[hx])
 exact key xs 0 (by omega) (by omega) h
theorem J6{x:qA}(h:qk x=true):0<=x.Level/\x.Level<=8:=by
 have:=Jf h;unfold jq at this;split at this
 ·rwa[zK]at this
 ·simp at this;omega
theorem qA6{α:Type}{xs:List α}{k:Nat}:(xs.drop 1)[k]?=xs[k+1]?:=by rw[gDr,Nat.add_comm]
theorem qjL(h:zN bk N a b x y):∀z∈Wu bk N.length x y,qk z=true/\z.Kind≠1:=by
 obtain⟨hx,kx⟩:=h.kx;obtain⟨hy,ky⟩:=h.ky;obtain⟨e,n0,n9⟩:=h.rule;obtain⟨r1,r2,r3,r4,r5,r6,r7,r8⟩:=Qu (ka:=x.Kind) (la:=x.Level) (kb:=y.Kind) (lb:=y.Level);intro z hz;unfold Wu at hz;split at hz
 ·simp at hz
 split at hz
 ·rename_i c;have k4:=r3 (e.trans c);simp only[wV,List.mem_cons,List.mem_nil_iff,or_false,List.mem_replicate,or_self]at hz;rcases hz with rfl | ⟨_,rfl⟩
  ·exact⟨by rw[qAD qjK];exact hy,ky⟩
  ·exact⟨qcO (.inr rfl) (by have:=Jf hx;rwa[k4]at this),by simp[qT]⟩
 split at hz
 ·rw[List.mem_replicate]at hz;rw[hz.2];exact⟨by decide,by decide⟩
 split at hz
 ·rename_i c;obtain⟨k6,k78⟩:=r5 (e.trans c);split at hz
  ·simp only[List.mem_cons,List.mem_nil_iff,or_false]at hz;subst hz;refine⟨qcN (.inr (.inl rfl)) (by decide) ?_,by simp[qT]⟩;have:=qj2 (k:=y.Value) (a:=y.Data.getD 0 0) (b:=x.Value);unfold zu qT;simp only[if_true,lNi,inI,bAt,dTe];omega
  ·rename_i k8;have k7:y.Kind=7:=by omega
   simp only[List.mem_cons,List.mem_nil_iff,or_false]at hz;subst hz;have c7:=Qq hy;unfold zu at c7;rw[k7]at c7;simp at c7;have l7:=qCI hy (by rw[k7];decide);have v6:=qjX hx k6;refine⟨?_,by simp[qT]⟩;unfold qk fieldsOf wL jq zu qT;simp[l7,v6,c7.2,wT]
 split at hz
 ·rename_i c;have k6:=r6 (e.trans c);split at hz
  ·rename_i k11;simp only[List.mem_cons,List.mem_nil_iff,or_false]at hz;subst hz;obtain⟨d1,d2⟩:=qCK hy k11;exact⟨qcP (qCI hy (by rw[k11];decide)) (by unfold JZ;split<;>exact qZI d2 (by omega)),by simp[qT]⟩
  ·rename_i k11;obtain⟨q9,q10⟩:x.Kind=9/\y.Kind=10:=by omega
   have l10:=qCI hy (by rw[q10];decide);have v9:=qCH hx q9;rw[zK]at v9;rcases List.mem_cons.1 hz with rfl | hz
   ·exact⟨qcP l10 (qZI (qjW hy q10) (by omega)),by simp[qT]⟩
   ·rw[List.mem_replicate]at hz;rw[hz.2];exact⟨qcO (.inl rfl) (by unfold jq;rw[if_pos (by decide)];exact l10),by simp[qT]⟩
 ·rename_i c1 c3 c4 c5 c6;have c7:qS x y=7:=by have:=h.cls;omega
  obtain⟨_,_,_,t1,t2,_⟩:=h.t7 c7;rw[List.mem_map]at hz;obtain⟨w,hw,rfl⟩:=hz;have hwm:=List.mem_of_mem_drop hw;have hw1:=wF (wY t1) w hwm;have hb:=qbL (xs:=(zY bk x.Value).Agents) fun z hz=>J6 (wF (wY t1) z hz);have hl:=J6 hx;rw[qf (by omega) (by omega)]at t2;have hg:=qbM hwm;have hw8:=J6 hw1;refine⟨qjZ hw1 fun _=>by rw[zK];omega, ?_⟩;obtain⟨k,hk,e⟩:=List.getElem_of_mem hw;have hk1:k+1<(zY bk x.Value).Agents.length:=by simp at hk;omega
  have ek:(zY bk x.Value).Agents[k+1]=w:=by
   have:=gEg hk;rw[qA6,gEg hk1,e]at this;exact Option.some.inj this
  have:=QL t1 (k+1) hk1;rw[ek]at this;show w.Kind≠1;omega
end
section
variable {bk:List qC} {N:Ags} {a b:Nat} {x y:qA} {t:qC} {lev:Int}
theorem qdP(ht:qq t=true){z:qA}(hz:t.Agents[0]?=some z):z.Ports.length=1:=by
 obtain⟨q1,q2⟩:=gSi.1 hz;have k:=(QL ht 0 q1).2 rfl;rw[q2]at k;have:=(wK (J5 ht hz)).1;unfold fieldsOf wL at this;rw[k]at this;simp at this;omega
theorem qdO(ht:qq t=true):∃c r,z9 t.Agents (pt 0 0)=pt (c+1) r/\atP t.Agents 0 0=some (pt (c+1) r)/\atP t.Agents (c+1) r=some (pt 0 0)/\c+1<t.Agents.length:=by
 have h0:=Z2 ht;have hz:t.Agents[0]?=some t.Agents[0]:=gEg h0;have hp:=qdP ht hz;obtain⟨c,r,e1,e2,e3,_,e5,e6⟩:=(Qp ht).live (a:=0) (s:=0) (jm.2 ⟨_,hz,by omega⟩) id;cases c with
 | zero=>
  have:=e3.in hz;obtain rfl:r=0:=by omega
  exact absurd ⟨rfl,rfl⟩ e6
 | succ c=>exact⟨c,r,e1,e2,e5,w6 e5⟩
theorem qBM{k:Nat}:(jw N t lev)[N.length+k]?=(t.Agents[k+1]?).map (zD lev ((N.length:Int)-1)):=by
 unfold jw;rw[gAr (by omega),gMp,Nat.add_sub_cancel_left,qA6]
theorem qhO{k s c r:Nat}(h:atP t.Agents (k+1) s=some (pt (c+1) r))(hN:0<N.length):atP (jw N t lev) (N.length+k) s=some (pt (N.length+c) r):=by
 obtain⟨z,hz,hs⟩:=jY.1 h;refine jY.2 ⟨_,by rw[qBM,hz];rfl, ?_⟩;simp only[zD,gMp,hs,oMs,pt,oSi,qG.mk.injEq];constructor
 ·push_cast;omega
 ·trivial
theorem qhP{k s:Nat}(h:Has t.Agents (k+1) s):Has (jw N t lev) (N.length+k) s:=by
 obtain⟨z,hz,hs⟩:=jm.1 h;exact jm.2 ⟨_,by rw[qBM,hz];rfl,by simpa[zD]using hs⟩
theorem qhN(h:Act N a b x y)(ht:qq t=true){c r:Nat}(hp:atP t.Agents 0 0=some (pt (c+1) r)):W (jw N t lev) fun u v=>u=N.length+c/\v=r:=by
 have hN:0<N.length:=by have:=h.pr.la;omega
 have wt:=Qp ht;intro u s q hq hX;rcases Nat.lt_or_ge u N.length with hu | hu
 ·unfold jw at hq;rw[QX hu]at hq;obtain⟨b',t',e1,e2,_,e4⟩:=h.w u s q hq id;have:=w6 e2;exact⟨b',t',e1,by unfold jw;rw[QX this];exact e2,by omega,e4⟩
 ·obtain⟨k,rfl⟩:∃k,u=N.length+k:=⟨u-N.length,by omega⟩;obtain⟨z',hz',hs'⟩:=jY.1 hq;rw[qBM,oMi]at hz';obtain⟨z,hz,rfl⟩:=hz';simp only[zD,gMp,oMi]at hs';obtain⟨q0,hq0,rfl⟩:=hs';have hq1:atP t.Agents (k+1) s=some q0:=jY.2 ⟨z,hz,hq0⟩;obtain⟨b',t',rfl,e2,_,e4⟩:=wt (k+1) s q0 hq1 id;cases b' with
  | zero=>
   obtain⟨z0,hz0,ht0⟩:=jm.1 ⟨_,e2⟩;have:=qdP ht hz0;obtain rfl:t'=0:=by omega
   rw[e2]at hp;have:=JA.1 (Option.some.inj hp);exact absurd ⟨by omega,this.2⟩ hX
  | succ c'=>
   refine⟨N.length+c',t',by simp only[pt,qG.mk.injEq];exact⟨by push_cast;omega,trivial⟩,qhO e2 hN, ?_,by omega⟩;rintro⟨e,rfl⟩;obtain rfl:c'=c:=by omega
   have:=(Qp ht) 0 0 _ hp id;obtain⟨b2,t2,f1,f2,_,_⟩:=this;have f3:=JA.1 f1;rw[<-f3.1,<-f3.2,e2]at f2;have:=JA.1 (Option.some.inj f2);omega
theorem qBK(ht:qq t=true)(hN:0<N.length):∃c r,z9 t.Agents (pt 0 0)=pt (c+1) r/\atP t.Agents 0 0=some (pt (c+1) r)/\Has (jw N t lev) (N.length+c) r/\Zo N t lev b=zj (jw N t lev) (pt (N.length+c) r) (pt b 0):=by
 obtain⟨c,r,e1,e2,e3,e4⟩:=qdO ht;refine⟨c,r,e1,e2,qhP ⟨_,e3⟩, ?_⟩;unfold Zo;rw[e1];simp only[pt,iTn];rw[show N.length-1+(c+1)=N.length+c by omega]
theorem qhM(h:Act N a b x y)(hx:x.Ports.length=1)(ht:qq t=true):W (Zo N t lev b) fun u _=>u=a:=by
 have la:=h.pr.la;have lb:=h.pr.lb;obtain⟨c,r,e1,e2,e3,e4⟩:=qBK (N:=N) (b:=b) (lev:=lev) ht (by omega);rw[e4];have hpa:Has N a 0:=⟨_,h.pa⟩;have w:=(qhN (lev:=lev) h ht e2).move (a:=a) (s:=0) (c:=N.length+c) (k:=r) (by unfold jw;exact hpa.app) e3 (by omega) ⟨rfl,rfl⟩;have ep:z9 (jw N t lev) (pt a 0)=pt b 0:=W5 (by unfold jw;rw[QX la];exact h.pa);unfold jH at w;rw[ep]at w;refine w.mono fun u v hb=> ?_;have:u=a->v<1:=fun e=>by
  subst e;have:=((zr _ _ _).has.2 hb).in (x:=x) (by unfold jw;rw[gAl la];exact h.x);omega
 omega
theorem qAC(h:zN bk N a b x y):W (qm bk N a b x y) fun u _=>qt (qS x y) a b u=true:=by
 obtain⟨e,n0,n9⟩:=h.rule;obtain⟨r1,r2,r3,r4,r5,r6,r7,r8⟩:=Qu (ka:=x.Kind) (la:=x.Level) (kb:=y.Kind) (lb:=y.Level);have hx:=h.kx.1;have hy:=h.ky.1;have dead:qS x y≠7->∀{M:Ags},W M (w4 a b)->W M fun u _=>qt (qS x y) a b u=true:=fun c M w=>w.mono fun u v _=>by unfold w4 qt;simp[c]
 unfold qm;split
 ·rename_i c;refine dead (by omega) (qiH h.act ?_ ?_)
  ·rcases c with c | c
   ·exact wJ hx (.inl (r1 (e.trans c)).1)
   ·exact wJ hx (.inr (.inr (.inl (r2 (e.trans c)).1)))
  ·rcases c with c | c
   ·exact wJ hy (.inr (.inl (r1 (e.trans c)).2))
   ·exact wJ hy (.inr (.inr (.inl (r2 (e.trans c)).2)))
 split
 ·rename_i c;exact dead (by omega) (qhA h.act (wJ hx (.inr (.inr (.inl (r3 (e.trans c)))))) (wK hy).2)
 split
 ·rename_i c;exact dead (by omega) (qhK h.act (Vw hx (.inl (r4 (e.trans c)))) (wK hy).2)
 split
 ·rename_i c;have k5:=r5 (e.trans c);have p1:=Vw hx (.inr (.inl k5.1));split
  ·rename_i k8;exact dead (by omega) (qj3 h.act p1 (Z4 hy (.inl k8)))
  ·rename_i k8;exact dead (by omega) (qj5 h.act p1 (wJ hy (.inr (.inr (.inr (by omega))))))
 split
 ·rename_i c;have k6:=r6 (e.trans c);split
  ·rename_i k11;exact dead (by omega) (qk8 h.act (Vw hx (.inr (.inl (by omega)))) (Z4 hy (.inr (.inr k11))))
  ·rename_i k11;exact dead (by omega) (qgD h.act (wK hx).2 (Z4 hy (.inr (.inl (by omega)))))
 ·have c7:qS x y=7:=by have:=h.cls;omega
  obtain⟨k12,_,_,t1,_,_⟩:=h.t7 c7;refine(qhM h.act (Vw hx (.inr (.inr k12))) t1).mono fun u v _=> ?_;unfold qt;simp[c7]
theorem qAZ{a:Nat}:∀{n:Nat},a<n->qy (fun u=>decide (u=a)) n+1=n
 | 0,h=>by omega
 | n+1,h=>by
  rw[JH];by_cases e:n=a
  ·subst e;have:∀{m:Nat},m<=n->qy (fun u=>decide (u=n)) m=m:=by
    intro m
    induction m with
    | zero=>intro _;rfl
    | succ m ih=>intro hm;rw[JH,ih (by omega),if_neg (by simp;omega)]
   rw[this (nLr _)];simp
  ·rw[if_neg (by simpa using e)];have:=qAZ (a:=a) (n:=n) (by omega);omega
theorem qaJ{a b:Nat}(hne:a≠b):∀{n:Nat},a<n->b<n->qy (fun u=>decide (u=a) || decide (u=b)) n+2=n
 | 0,h,_=>by omega
 | n+1,h1,h2=>by
  rw[JH];have key:∀c d:Nat,c≠d->c=n->d<n->qy (fun u=>decide (u=c) || decide (u=d)) n+1=n:=by
   intro c d _ hc hd;subst hc;have:∀{m:Nat},m<=c->qy (fun u=>decide (u=c) || decide (u=d)) m=qy (fun u=>decide (u=d)) m:=by
    intro m
    induction m with
    | zero=>intro _;rfl
    | succ m ih=>intro hm;rw[JH,JH,ih (by omega)];congr 1;rw[show decide (m=c)=false by simp;omega];simp
   rw[this (nLr _)];exact qAZ hd
  by_cases e1:n=a
  ·have:=key a b hne e1.symm (by omega);rw[if_pos (by simp[e1])];omega
  ·by_cases e2:n=b
   ·have:=key b a (Ne.symm hne) e2.symm (by omega);have sw:(fun u=>decide (u=a) || decide (u=b))=fun u=>decide (u=b) || decide (u=a):=by funext u;rw[Bool.or_comm]
    rw[if_pos (by simp[e2]),sw];omega
   ·have:=qaJ hne (n:=n) (by omega) (by omega);rw[if_neg (by simp[e1,e2])];omega
theorem qh0{c:Int}(h:c=1\/c=2):(zw c (jX bk x y c)).1= -2:=by
 rcases h with e | e<;>subst e<;>rfl
theorem gro3(h0:0<y.Ports.length)(h1:y.Ports.length<=4):(zw 3 (jX bk x y 3)).1=(y.Ports.length:Int)-1:=by
 show (zw 3 ((y.Ports.length:Int)-1)).1=_;unfold zw;rw[if_neg (by decide),if_pos rfl,if_pos (by rw[zK];omega)]
theorem gro4(h0:0<y.Ports.length)(h1:y.Ports.length<=4):(zw 4 (jX bk x y 4)).1=(y.Ports.length:Int)-1-2:=by
 show (zw 4 ((y.Ports.length:Int)-1)).1=_;unfold zw;rw[if_neg (by decide),if_neg (by decide),if_pos rfl,if_pos (by rw[zK];omega)]
theorem gro5:(zw 5 (jX bk x y 5)).1= -1:=rfl
theorem gro6(h0:0<=fieldsOf x)(h1:fieldsOf x<=3):(zw 6 (jX bk x y 6)).1=fieldsOf x-1:=by
 show (zw 6 (fieldsOf x)).1=_;unfold zw;rw[if_neg (by decide),if_neg (by decide),if_neg (by decide),if_neg (by decide),if_pos rfl,if_pos (by rw[zK];omega)]
theorem gro7(h0:2<=(zY bk x.Value).Agents.length)(h1:(zY bk x.Value).Agents.length<=600):(zw 7 (jX bk x y 7)).1=((zY bk x.Value).Agents.length:Int)-2:=by
 show (zw 7 ((zY bk x.Value).Agents.length:Int)).1=_;unfold zw;rw[if_neg (by decide),if_neg (by decide),if_neg (by decide),if_neg (by decide),if_neg (by decide),if_pos rfl,if_pos (by rw[zK];omega)]
theorem qZF(h:zN bk N a b x y):(qy (qt (qS x y) a b) (qm bk N a b x y).length:Int)=N.length+(qx bk x y).1:=by
 have la:=h.act.pr.la;have lb:=h.act.pr.lb;obtain⟨e,n0,n9⟩:=h.rule;obtain⟨r1,r2,r3,r4,r5,r6,r7,r8⟩:=Qu (ka:=x.Kind) (la:=x.Level) (kb:=y.Kind) (lb:=y.Level);have hx:=h.kx.1;have hy:=h.ky.1;have hl:(qm bk N a b x y).length=N.length+(Wu bk N.length x y).length:=by rw[(Yp bk N a b x y).len];simp
 have hc:=h.cls;have yp:=W1 hy;have y0:=(wK hy).2;have xp:=W1 hx;have x0:=(wK hx).2;have c2:qS x y≠7->qy (qt (qS x y) a b) (qm bk N a b x y).length+2=(qm bk N a b x y).length:=fun c=>by
  have:qt (qS x y) a b=fun u=>decide (u=a) || decide (u=b):=by funext u;unfold qt;simp[c]
  rw[this];exact qaJ h.act.ne (by omega) (by omega)
 rw[h.gro];unfold Wu at hl;by_cases c:qS x y=1\/qS x y=2
 ·rw[if_pos c]at hl;have:=c2 (by omega);rw[qh0 c];simp at hl;omega
 rw[if_neg c]at hl;by_cases c3:qS x y=3
 ·rw[if_pos c3]at hl;have:=c2 (by omega);rw[c3,gro3 y0 yp];simp at hl;rw[c3]at this;omega
 rw[if_neg c3]at hl;by_cases c4:qS x y=4
 ·rw[if_pos c4]at hl;have:=c2 (by omega);rw[c4,gro4 y0 yp];simp at hl;rw[c4]at this;omega
 rw[if_neg c4]at hl;by_cases c5:qS x y=5
 ·rw[if_pos c5]at hl;have:=c2 (by omega);rw[c5,gro5];rw[c5]at this;split at hl<;>simp at hl<;>omega
 rw[if_neg c5]at hl;by_cases c6:qS x y=6
 ·rw[if_pos c6]at hl;have:=c2 (by omega);have k6:=r6 (e.trans c6);rw[c6]at this|-;by_cases k11:y.Kind=11
  ·rw[if_pos k11]at hl;have f0:fieldsOf x=0:=by unfold fieldsOf;rw[if_neg (by omega)]
   rw[gro6 (by omega) (by omega),f0];simp at hl;omega
  ·rw[if_neg k11]at hl;have f0:fieldsOf x=(x.Ports.length:Int)-1:=by unfold fieldsOf;rw[if_pos (by omega)]
   rw[gro6 (by omega) (by omega),f0];simp at hl;omega
 rw[if_neg c6]at hl;have c7:qS x y=7:=by omega
 obtain⟨_,_,_,t1,_,_⟩:=h.t7 c7;have t6:(zY bk x.Value).Agents.length<=600:=by
  unfold qq wE at t1;simp only[bAt,zK]at t1;omega
 obtain⟨c,r,_,_,_,t2⟩:=qdO t1;have e1:qt (qS x y) a b=fun u=>decide (u=a):=by funext u;unfold qt;simp[c7]
 rw[e1,c7,gro7 (by omega) t6];have:=qAZ (a:=a) (n:=(qm bk N a b x y).length) (by omega);simp at hl;omega
def XI(bk:List qC)(N:Ags)(a b:Nat)(x y:qA):Ags:=zo (qm bk N a b x y) (qt (qS x y) a b)
theorem Yq(h:zN bk N a b x y):∀(k:Nat)(z:qA),(qm bk N a b x y)[k]?=some z->qk z=true/\(z.Kind=1↔k=0):=by
 intro k z hz;have hs:=Yp bk N a b x y;have la:=h.act.pr.la;obtain⟨w,hw,e⟩:=hs.back.at hz;have ek:w.Kind=z.Kind:=congrArg Prod.fst e;rw[<-ek,<-qAD e];rcases Nat.lt_or_ge k N.length with q | q
 ·rw[gAl q]at hw;refine⟨J5 h.ok hw, ?_⟩;have:=QL h.ok k q;rw[<-this];obtain⟨q1,q2⟩:=gSi.1 hw;simp only[<-q2]
 ·rw[gAr q]at hw;have:=qjL h w (lMo hw);exact⟨this.1,by constructor;(intro k1;exact absurd k1 this.2);(intro k0;omega)⟩
theorem qC9(h:zN bk N a b x y):qq ⟨XI bk N a b x y⟩=true:=by
 have la:=h.act.pr.la;refine qkH (qAC h) (fun k z hz _=>Yq h k z hz) ?_ ?_ ?_
 ·have:=h.a0;have:=h.b0;unfold qt;simp;omega
 ·rw[(Yp bk N a b x y).len];simp;omega
 ·have:=qZF h;have:=h.full;omega
end
end Go.Ab
