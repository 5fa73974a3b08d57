/- Texts Tm22 .. Dg4: the abstract machine, its laws and contracts of functions: lemmas for the statement. No condition. -/
import Derived.Test.YtkgbnffcaabafaaGreatDoorP7
set_option linter.unusedSimpArgs false
set_option linter.unusedVariables false
namespace Go.Ab
open Go
set_option maxRecDepth 10000
set_option maxHeartbeats 2000000
mutual
def qD.shp:qD->Nat×Nat×Bool
 |.mk k v n t ns ks=>match (if qb (.mk k v n t ns ks)then qD.shps (decide (k=9)) ks false 1 1 else none)with
  | none=>(0,0,false)
  | some (d,s)=>(d,s,true)
def qD.shps(m:Bool):List qD->Bool->Nat->Nat->Option (Nat×Nat)
 |[],_,d,s=>some (d,s)
 | x::xs,p,d,s=>if (decide (x.Kind=10)==(m&&p))then(match x.shp with
   | (d',s',ok)=>if ok then qD.shps m xs true (max d (d'+1)) (s+s')else none)
  else none
end
theorem qD.shp_eq(x:qD):x.shp=match (if qb x then qD.shps (decide (x.Kind=9)) x.Kids false 1 1 else none)with
  | none=>(0,0,false)
  | some (d,s)=>(d,s,true):=by cases x;rw[qD.shp];rfl
theorem qD.shps_eq{m p:Bool}{x:qD}{xs:List qD}{d s:Nat}:qD.shps m (x::xs) p d s=if (decide (x.Kind=10)==(m&&p))then(if x.shp.2.2 then qD.shps m xs true (max d (x.shp.1+1)) (s+x.shp.2.1)else none)else none:=by
 rw[qD.shps]
theorem qD.shps_le{m:Bool}:∀{xs:List qD}{p:Bool}{d s d1 s1:Nat},(∀y∈xs,y.shp.1<=y.shp.2.1/\y.shp.2.1<=y.nd/\(y.shp.2.2=true->1<=y.shp.2.1))->qD.shps m xs p d s=some (d1,s1)->d<=d1/\s<=s1/\s1<=s+qP qD.nd xs/\(d<=s->1<=s->d1<=s1)
 |[],p,d,s,d1,s1,_,h=>by simp only[qD.shps,oSi,Prod.mk.injEq]at h;simp only[qP];omega
 | x::xs,p,d,s,d1,s1,ih,h=>by
  rw[qD.shps_eq]at h;split at h
  ·split at h
   ·rename_i h2;have hx:=ih x (by simp);have:=qD.shps_le (fun y hy=>ih y (by simp[hy])) h;simp only[qP];have:=hx.2.2 h2;omega
   ·cases h
  ·cases h
theorem qD.shp_le:∀(x:qD),x.shp.1<=x.shp.2.1/\x.shp.2.1<=x.nd/\(x.shp.2.2=true->1<=x.shp.2.1):=qD.ind fun x ih=>by
 rw[qD.shp_eq,qD.nd_eq];split
 ·simp
 ·rename_i d s h;split at h
  ·have:=qD.shps_le ih h;simp only;omega
  ·cases h
mutual
def qD.nod:qD->Nat->Bool->Nat->Option Nat
 |.mk k v n t ns ks,d,c,l=>if d=0\/l=0 then none else if (decide (k=10)==c)then(if qb (.mk k v n t ns ks)then qD.nods (decide (k=9)) ks false (d-1) l 1 else none)else none
def qD.nods(m:Bool):List qD->Bool->Nat->Nat->Nat->Option Nat
 |[],_,_,_,n=>some n
 | x::xs,p,d,l,n=>match x.nod d (m&&p) (l-n)with
  | none=>none
  | some k=>qD.nods m xs true d l (n+k)
end
theorem qD.nod_eq(x:qD)(d:Nat)(c:Bool)(l:Nat):x.nod d c l=if d=0\/l=0 then none else if (decide (x.Kind=10)==c)then(if qb x then qD.nods (decide (x.Kind=9)) x.Kids false (d-1) l 1 else none)else none:=by cases x;rw[qD.nod];rfl
theorem qD.nods_shps{m:Bool}{e l:Nat}:∀{xs:List qD},(∀y∈xs,∀(c:Bool)(l:Nat),y.nod e c l=if y.shp.2.2=true/\y.shp.1<=e/\y.shp.2.1<=l/\(decide (y.Kind=10)==c)=true then some y.shp.2.1 else none)->∀{p:Bool}{d s:Nat},d<=e+1->s<=l->
  qD.nods m xs p e l s=match qD.shps m xs p d s with
   | none=>none
   | some (d1,s1)=>if d1<=e+1/\s1<=l then some s1 else none
 |[],_,p,d,s,hd,hs=>by simp[qD.nods,qD.shps,hd,hs]
 | x::xs,ih,p,d,s,hd,hs=>by
  have hx:=ih x (by simp);have hxs:=fun(d s:Nat)(q:d<=e+1)(q2:s<=l)=>qD.nods_shps (m:=m) (l:=l) (xs:=xs) (fun y hy=>ih y (by simp[hy])) (p:=true) (d:=d) (s:=s) q q2;have hq:∀{d s d1 s1},qD.shps m xs true d s=some (d1,s1)->d<=d1/\s<=s1:=fun h=>by
   have:=qD.shps_le (fun y _=>qD.shp_le y) h;omega
  simp only[qD.nods,qD.shps_eq,hx];generalize x.shp=pp;obtain⟨d',s',ok⟩:=pp;cases hc:(decide (x.Kind=10)==(m&&p))
  ·simp
  ·cases ok with
   | false=>simp
   | true=>
    simp only[true_and,if_true,and_true];by_cases h:d'<=e/\s'<=l-s
    ·rw[if_pos h];exact hxs _ _ (by omega) (by omega)
    ·rw[if_neg h];cases hz:qD.shps m xs true (max d (d'+1)) (s+s')with
     | none=>rfl
     | some p=>
      obtain⟨d1,s1⟩:=p;have:=hq hz;simp only;rw[if_neg (by omega)]
theorem qD.nod_shp:∀(x:qD)(d:Nat)(c:Bool)(l:Nat),x.nod d c l=if x.shp.2.2=true/\x.shp.1<=d/\x.shp.2.1<=l/\(decide (x.Kind=10)==c)=true then some x.shp.2.1 else none:=qD.ind fun x ih d c l=>by
 rw[qD.nod_eq];have hle:=qD.shp_le x;by_cases h0:d=0\/l=0
 ·rw[if_pos h0,if_neg];rintro⟨q1,q2,q3,_⟩;have:=hle.2.2 q1;rw[qD.shp_eq]at q1 q2 q3 this;split at q1
  ·cases q1
  ·rename_i d1 s1 h;rw[h]at q2 q3;split at h
   ·have:=qD.shps_le (fun y _=>qD.shp_le y) h;simp only at q2 q3;omega
   ·cases h
 rw[if_neg h0];cases hc:(decide (x.Kind=10)==c)
 ·simp
 rw[qD.shp_eq];cases hn:qb x
 ·simp
 simp only[if_true,and_true];rw[qD.nods_shps (d:=1) (fun y hy=>ih y hy (d-1)) (by omega) (by omega)];cases hz:qD.shps (decide (x.Kind=9)) x.Kids false 1 1 with
 | none=>simp
 | some p=>
  obtain⟨d1,s1⟩:=p;simp only[true_and];congr 1;apply propext;omega
def JO(x:qD):Bool:=x.shp.2.2&&(!decide (x.Kind=10)&&(decide (x.shp.1<=24)&&decide (x.shp.2.1<=160)))
theorem qbH(x:qD):JO x=decide (0<jB (x.nod 24 false 160)):=by
 rw[qD.nod_shp,JO];have:=qD.shp_le x;by_cases h1:x.shp.2.2=true
 ·have h2:=this.2.2 h1;by_cases h3:x.Kind=10
  ·simp[h1,h3,jB]
  ·by_cases h4:x.shp.1<=24/\x.shp.2.1<=160
   ·rw[if_pos ⟨h1,h4.1,h4.2,by simp[h3]⟩];simp[h1,h3,h4,jB];omega
   ·rw[if_neg fun q=>h4 ⟨q.2.1,q.2.2.1⟩];simp[h1,h3,jB];omega
 ·rw[if_neg fun q=>h1 q.1];simp[h1,jB]
theorem qYX{x:qD}{d l n:Nat}{c:Bool}(h:x.nod d c l=some n):1<=n/\n<=l:=by
 rw[qD.nod_shp]at h;split at h
 ·rename_i q;cases h;exact⟨(qD.shp_le x).2.2 q.1,q.2.2.1⟩
 ·cases h
theorem qTB{x:qD}(hb:x.bd)(hw:x.wz<=1048575):TB x/\(∀y∈x.Kids,y.bd/\y.wz<=1048575)/\x.Kids.length+qP qD.wz x.Kids<=1048575:=by
 rw[qD.bd_eq]at hb;rw[qD.wz_eq]at hw;have h1:=qC.nd_wz x.Typ;have h2:=qC.wz_eq x.Typ;have h3:∀xs:List qD,∀y∈xs,y.wz<=qP qD.wz xs:=fun xs=>by
  induction xs with
  | nil=>intro y hy;cases hy
  | cons z zs ih=>
   intro y hy;simp only[qP];rcases List.mem_cons.1 hy with rfl | hy
   ·omega
   ·have:=ih y hy;omega
 exact⟨⟨hb.1,hb.2.1,by omega,by omega,hb.2.2.1,by omega,by omega⟩,fun y hy=>⟨hb.2.2.2 y hy,by have:=h3 _ y hy;omega⟩,by omega⟩
theorem c445(x:qD):∀(hb:x.bd)(hn:x.wz<=1048575),Pure Gm 445 [x.enc] (.tup [.int .i64 (x.shp.1:Nat),.int .i64 (x.shp.2.1:Nat),.bool x.shp.2.2]):=by
 induction x using qD.ind with
 | _ x ih=>
 intro hb hn;refine pJ Vp ?_;simp only[Vp,qI,go_sem];obtain⟨B,hk,hs⟩:=qTB hb hn;refine zV qD.ln ?_;simp only[go_sem];have hq:=qD.shp_eq x;refine qG (c807 B) ?_;simp only[go_sem];cases ho:qb x
 ·simp only[Bool.not_false,go_sem];rw[ho]at hq;simp only[bFt,if_false]at hq;exact zJ rfl (by rw[hq];rfl)
 simp only[Bool.not_true,go_sem];rw[ho,if_pos rfl]at hq;have e0:x.Kids.length<=1048575:=by omega
 have el:x.nd<=1048576:=by have:=qD.nd_wz x;omega
 have hnd:=qD.nd_eq x;refine Sem.loop (fun a:Nat×Nat×Nat=>a.1<=x.Kids.length/\a.2.1<=a.2.2/\1<=a.2.2/\a.2.2+qP qD.nd (x.Kids.drop a.1)<=1048576/\qD.shps (decide (x.Kind=9)) x.Kids false 1 1=qD.shps (decide (x.Kind=9)) (x.Kids.drop a.1) (decide (0<a.1)) a.2.1 a.2.2)
  (fun a=>(⟨[(2,.int .i64 (a.2.1:Nat)),(3,.int .i64 (a.2.2:Nat)),(14,.lst 8 (x.Kids.map qD.enc) false),(15,.int .i64 x.Kids.length),(16,.int .i64 (a.1:Nat))],[(1,x.enc)],[]⟩:VSt)) (fun a=>x.Kids.length-a.1) (0,1,1) (by kernel_rfl) ⟨nZl _,nLr _,nLr _,by simp only[List.drop_zero];omega,rfl⟩ (Can.sub (by simp[go_sem]) (by simp[go_sem])) ?_
 rintro⟨i,d,s⟩ ⟨hi,h1,h2,h3,hI⟩;simp only at hi h1 h2 h3 hI;simp only[go_sem];apply zd<;>intro hc<;>simp only[hc,go_sem]
 ·have hlt:i<x.Kids.length:=by have:=odT hc;omega
  simp only[gMp,gEg hlt,oMs,go_sem];refine qK rfl qD.ln (by exact⟨_,qD.enc_eq _⟩) (by decide) ?_;simp only[go_sem];have hm:=gMm hlt;have hd:x.Kids.drop i=x.Kids[i]::x.Kids.drop (i+1):=by simp
  rw[hd]at h3;simp only[qP]at h3;rw[hd,qD.shps_eq]at hI;have hi0:decide ((0:Int)<((i:Nat):Int))=decide (0<i):=by rw[decide_eq_decide];omega
  cases hc:(decide (x.Kids[i].Kind=10)==(decide (x.Kind=9)&&decide (0<i)))
  ·have hbad:qD.shps (decide (x.Kind=9)) x.Kids false 1 1=none:=by rw[hI,hc];rfl
   rw[hbad]at hq;by_cases k9:x.Kind=9
   ·simp only[decide_eq_true k9,gt_iff_lt,hi0,Bool.true_and,go_sem]at hc|-;simp only[hc,Bool.not_false,go_sem];exact zJ rfl (by rw[hq];rfl)
   ·simp only[decide_eq_false k9,Bool.false_and,go_sem]at hc|-;simp only[hc,Bool.not_false,go_sem];exact zJ rfl (by rw[hq];rfl)
  ·rw[hc,if_pos rfl]at hI;have hle:=qD.shp_le x.Kids[i];by_cases k9:x.Kind=9
   case' pos=>
    simp only[decide_eq_true k9,gt_iff_lt,hi0,Bool.true_and,go_sem]at hc|-
   case' neg=>
    simp only[decide_eq_false k9,Bool.false_and,go_sem]at hc|-
   all_goals
    simp only[hc,Bool.not_true,go_sem];refine qG (ih _ hm (hk _ hm).1 (hk _ hm).2) ?_;simp only[go_sem];cases hg:x.Kids[i].shp.2.2
    ·simp only[Bool.not_false];simp only[go_sem];rw[hg,if_neg (by decide)]at hI;rw[hI]at hq;exact zJ rfl (by rw[hq];rfl)
    ·rw[hg,if_pos rfl]at hI;simp only[Bool.not_true];simp only[go_sem];simp only[zF (n:=((x.Kids[i].shp.1:Nat):Int)+1) (by omega) (by omega),zF (n:=(s:Int)+((x.Kids[i].shp.2.1:Nat):Int)) (by omega) (by omega)];have em:max ((d:Nat):Int) (((x.Kids[i].shp.1:Nat):Int)+1)=((max d (x.Kids[i].shp.1+1):Nat):Int):=by omega
     have es:(s:Int)+((x.Kids[i].shp.2.1:Nat):Int)=((s+x.Kids[i].shp.2.1:Nat):Int):=by omega
     rw[em,es];simp only[zC (show i<4611686018427387904 by omega)];have hp:=hle.2.2 hg;refine qf (i+1,max d (x.Kids[i].shp.1+1),s+x.Kids[i].shp.2.1) ⟨by simp only;omega,by simp only;omega,by simp only;omega,by simp only;omega, ?_⟩ (by simp only;omega) (Can.sub (by simp[go_sem]) (by simp[go_sem]))
     first | (rw[decide_eq_true k9]at*;rw[hI];simp) | (rw[decide_eq_false k9]at*;rw[hI];simp)
 ·obtain rfl:i=x.Kids.length:=by have:=odF hc;omega
  rw[List.drop_length,qD.shps]at hI;rw[hI]at hq;exact zJ rfl (by rw[hq])
theorem c144{x:qD}(hb:x.bd)(hn:x.wz<=1048575):Pure Gm 144 [x.enc] (.bool (JO x)):=by
 refine pJ Y8 ?_;simp only[Y8,qI,go_sem];refine zV qD.ln ?_;simp only[go_sem];refine qG (c445 x hb hn) ?_;simp only[go_sem];have z1:decide (((x.shp.1:Nat):Int)<=24)=decide (x.shp.1<=24):=by rw[decide_eq_decide];omega
 have z2:decide (((x.shp.2.1:Nat):Int)<=160)=decide (x.shp.2.1<=160):=by rw[decide_eq_decide];omega
 cases h1:x.shp.2.2
 ·simp only[go_sem];exact qE rfl (by simp[JO,h1])
 simp only[go_sem];by_cases h2:x.Kind=10
 ·simp only[h2,decide_true,Bool.not_true,go_sem];exact qE rfl (by simp[JO,h2])
 simp only[decide_eq_false h2,Bool.not_false,z1,go_sem];by_cases h3:x.shp.1<=24
 ·simp only[decide_eq_true h3,z2,go_sem];exact qE rfl (by simp[JO,h1,h2,h3])
 ·simp only[decide_eq_false h3,go_sem];exact qE rfl (by simp[JO,h1,h2,h3])
end Go.Ab
namespace Go.Ab
open Go
set_option maxRecDepth 10000
set_option maxHeartbeats 2000000
def fzp(n id:Nat)(o:Option qB)(st:VSt):VSt:=match o with
 | some (.row w [v] true)=>if w=0 then st else{s:=(n,.ept v 0)::st.s,l:=st.l,h:=st.h.set id .dead}
 | _=>st
def fzo(n:Nat)(v:Option AV)(st:VSt):VSt:=match v with
 | none=>st
 | some (.ept _ _)=>st
 | some (.lst _ _ _)=>st
 | some (.int _ _)=>st
 | some (.bool _)=>st
 | some .nils=>st
 | some (.agg _)=>st
 | some (.ptr id 0 0)=>fzp n id st.h[id]? st
 | _=>Ji n st
section
variable {n id:Nat} {s m:qj} {h:List qB} {v x:AV} {st:VSt}
@[go_sem] theorem qcT:Ji n ⟨s,m,h⟩=fzo n (get s n) ⟨s,m,h⟩:=by
 unfold fzo;split<;>rename_i e<;>try (simp only[Ji,e];done)
 ·simp only[Ji,e,fzp];split<;>rename_i e2<;>simp only[e2]
  ·split<;>split<;>first | rfl | omega
@[go_sem] theorem qcZ:get [] n=none:=nr rfl
@[go_sem] theorem qcV:fzo n none st=st:=nr rfl
@[go_sem] theorem qcU{j:Nat}:fzo n (some (.ept v j)) st=st:=nr rfl
@[go_sem] theorem qcW:fzo n (some (.ptr id 0 0)) ⟨s,m,h⟩=fzp n id h[id]? ⟨s,m,h⟩:=nr rfl
@[go_sem] theorem qcX{w:Nat}:fzp n id (some (.row w [v] true)) ⟨s,m,h⟩=if w=0 then⟨s,m,h⟩else⟨(n,.ept v 0)::s,m,h.set id .dead⟩:=nr rfl
end
theorem c728(x:qD):∀(d:Nat)(c:Bool)(l:Nat)(hd:d<=24)(hl:l<=160)(hb:x.bd)(hn:x.wz<=1048575),Pure Gm 728 [.ept x.enc 0,.int .i64 (d:Nat),.bool c,.int .i64 (l:Nat)] (.int .i64 (jB (x.nod d c l))):=by
 induction x using qD.ind with
 | _ x ih=>
 intro d c l hd hl hb hn;refine pJ V9 ?_;simp only[V9,qI,go_sem];obtain⟨B,hk,hs⟩:=qTB hb hn;have hq:=qD.nod_eq x d c l;refine qG qUJ ?_;simp only[go_sem];by_cases h0:d=0
 ·have e0:decide (((d:Nat):Int)<1)=true:=decide_eq_true (by omega);simp only[e0,go_sem];exact qE rfl (by rw[hq,if_pos (.inl h0)];rfl)
 have e0:decide (((d:Nat):Int)<1)=false:=decide_eq_false (by omega);simp only[e0,go_sem];by_cases h1:l=0
 ·have e1:decide (((l:Nat):Int)<1)=true:=decide_eq_true (by omega);simp only[e1,go_sem];exact qE rfl (by rw[hq,if_pos (.inr h1)];rfl)
 have e1:decide (((l:Nat):Int)<1)=false:=decide_eq_false (by omega);simp only[e1,go_sem];rw[if_neg (by omega)]at hq;cases hc:(decide (x.Kind=10)==c)
 ·simp only[Bool.not_false,go_sem];exact qE rfl (by rw[hq,hc];rfl)
 rw[hc,if_pos rfl]at hq;simp only[Bool.not_true,go_sem];refine qG J1 ?_;simp only[go_sem];cases hki:(decide (kLo x.Kind<=((x.Kids.length:Nat):Int))&&decide (((x.Kids.length:Nat):Int)<=kHi x.Kind))
 ·simp only[Bool.not_false,go_sem];exact qE rfl (by rw[hq,qb,hki];rfl)
 simp only[Bool.not_true,go_sem];refine qG (qUK B) ?_;simp only[go_sem];rw[qb,hki,Bool.true_and]at hq;cases hf:qO x
 ·simp only[Bool.not_false,go_sem];exact qE rfl (by rw[hq,hf];rfl)
 rw[hf,if_pos rfl]at hq;simp only[Bool.not_true,go_sem];have e2:x.Kids.length<=1048575:=by omega
 refine Sem.loop (fun a:Nat×Nat=>a.1<=x.Kids.length/\1<=a.2/\a.2<=l/\qD.nods (decide (x.Kind=9)) x.Kids false (d-1) l 1=qD.nods (decide (x.Kind=9)) (x.Kids.drop a.1) (decide (0<a.1)) (d-1) l a.2)
  (fun a=>(⟨[(0,.ept x.enc 0),(1,.int .i64 (d:Nat)),(3,.int .i64 (l:Nat)),(11,.int .i64 (a.2:Nat)),(12,.int .i64 (a.1:Nat))],[],[]⟩:VSt)) (fun a=>x.Kids.length-a.1) (0,1) (by kernel_rfl) ⟨nZl _,nLr _,by simp only;omega,rfl⟩ (Can.sub (by simp[go_sem]) (by simp[go_sem])) ?_
 rintro⟨i,n⟩ ⟨hi,h2,h3,hI⟩;simp only at hi h2 h3 hI;simp only[lMp,go_sem];by_cases hlt:i<x.Kids.length
 ·have e3:decide ((i:Int)<(x.Kids.length:Nat))=true:=decide_eq_true (by omega);simp only[e3,gMp,gEg hlt,oMs,go_sem];have hm:=gMm hlt;have hdr:x.Kids.drop i=x.Kids[i]::x.Kids.drop (i+1):=by simp
  rw[hdr,qD.nods]at hI;have hi0:decide ((0:Int)<((i:Nat):Int))=decide (0<i):=by rw[decide_eq_decide];omega
  have ed:((d:Nat):Int)-1=((d-1:Nat):Int):=by omega
  have el:((l:Nat):Int)-((n:Nat):Int)=((l-n:Nat):Int):=by omega
  have IH:=ih _ hm (d-1) (decide (x.Kind=9)&&decide (0<i)) (l-n) (by omega) (by omega) (hk _ hm).1 (hk _ hm).2;by_cases k9:x.Kind=9
  case' pos=>
   simp only[decide_eq_true k9,gt_iff_lt,hi0,Bool.true_and,go_sem]at hI IH|-
  case' neg=>
   simp only[decide_eq_false k9,Bool.false_and,go_sem]at hI IH|-
  all_goals
   simp only[ed,el,zF (n:=((d-1:Nat):Int)) (by omega) (by omega),zF (n:=((l-n:Nat):Int)) (by omega) (by omega),go_sem];refine qG IH ?_;generalize hr:x.Kids[i].nod (d-1) _ (l-n)=r at hI|-;cases r with
   | none=>
    simp only at hI;have e4:decide ((-1:Int)<0)=true:=rfl;simp only[jB,e4,go_sem];exact qE rfl (by rw[hq];first | rw[hI] | (rw[decide_eq_true k9,hI]) | (rw[decide_eq_false k9,hI]))
   | some k=>
    have hin:=qYX hr;simp only at hI;have e4:decide (((k:Nat):Int)<0)=false:=decide_eq_false (by omega);have es:((n:Nat):Int)+((k:Nat):Int)=((n+k:Nat):Int):=by omega
    simp only[jB,e4,es,zF (n:=((n+k:Nat):Int)) (by omega) (by omega),zC (show i<4611686018427387904 by omega),go_sem];refine qf (i+1,n+k) ⟨by simp only;omega,by simp only;omega,by simp only;omega, ?_⟩ (by simp only;omega) (Can.sub (by simp[go_sem]) (by simp[go_sem]))
    first | (rw[decide_eq_true k9]at*;rw[hI];simp) | (rw[decide_eq_false k9]at*;rw[hI];simp)
 ·have e3:decide ((i:Int)<(x.Kids.length:Nat))=false:=decide_eq_false (by omega);simp only[e3,go_sem];obtain rfl:i=x.Kids.length:=by omega
  rw[List.drop_length,qD.nods]at hI;exact qE rfl (by rw[hq,hI];rfl)
theorem c350{x:qD}(hb:x.bd)(hn:x.wz<=1048575):Pure Gm 350 [.ept x.enc 0] (.bool (JO x)):=by
 refine pJ Vm ?_;simp only[Vm,qI,go_sem];refine qG (c728 x 24 false 160 (by decide) (by decide) hb hn) ?_;simp only[go_sem];exact qE rfl (by rw[qbH])
end Go.Ab
namespace Go.Ab
open Go
set_option maxRecDepth 10000
set_option maxHeartbeats 2000000
theorem qa0{t:Str}{i:Nat}(hk:(zE t i).1≠0):ZE (jI t i):=by
 intro h4;by_cases hp:0<(qg t i).length
 ·have e:=kT hp;have ets:wG t i=jI t i:=by unfold wG;rw[if_neg hk]
  rw[ets]at e;have et:(jI t i).Text=qg t i:=by rw[e]
  rw[et];have ee:=X1 hp;have h4':(zE t i).1=4:=h4;refine⟨?_,fun q=>by rw[q]at hp;simp at hp⟩;rw[ee]at h4';split at h4'
  ·simp at h4'
  ·split at h4'
   ·simp at h4'
   ·split at h4'
    ·simp at h4'
    ·split at h4'
     ·assumption
     ·simp at h4'
 ·exfalso;have h4':(zE t i).1=4:=h4;unfold zE at h4';rw[if_neg hp]at h4';split at h4'
  ·simp at h4'
  ·split at h4'<;>simp at h4'
theorem kV{t:Str}:∀(f:Nat){i:Nat}{acc l:List qJ},jZ t f i acc=.ok l->(∀x∈acc,ZE x)->∀x∈l,ZE x
 | 0,i,acc,l,h,hx=>by simp only[jZ,Except.ok.injEq]at h;subst h;exact hx
 | f+1,i,acc,l,h,hx=>by
  simp only[jZ]at h;split at h
  ·split at h
   ·exact kV f h hx
   ·split at h
    ·cases h
    ·rename_i hk;refine kV f h fun x hm=> ?_;rcases jR.1 hm with hm | hm
     ·exact hx x hm
     ·simp only[lMg]at hm;subst hm;exact qa0 hk
  ·simp only[Except.ok.injEq]at h;subst h;exact hx
theorem qa3{t:Str}:∀x∈(qn t).1,ZE x:=by
 unfold qn;split
 ·exact fun x hx=>by simp at hx
 ·split
  ·exact fun x hx=>by simp at hx
  ·rename_i l h;exact kV _ h (fun x hx=>by simp at hx)
theorem okTk{t:Str}:qv (qn t).1:=⟨by have:=kS (t:=t);omega,qa5,qa3,qa4⟩
theorem KD:∀{xs:List Str},AV.pls (xs.map qW)=true
 |[]=>rfl
 | x::xs=>by simp only[lMc,AV.pls,qW,AV.pl,KD (xs:=xs),Bool.and_self]
theorem KC:∀{xs:List Str},AV.cns (xs.map qW)=true
 |[]=>rfl
 | x::xs=>by simp only[lMc,AV.cns,qW,AV.cn,KC (xs:=xs),Bool.and_self]
theorem qD.plx:∀x:qD,x.enc.pl=true:=qD.ind fun x ih=>by
 rw[qD.enc_eq];simp[AV.pl,AV.pls,Xj ih,KD,Xj (fun y _=>qC.plx y)]
theorem qD.cnx:∀x:qD,x.enc.cn=true:=qD.ind fun x ih=>by
 rw[qD.enc_eq];simp[AV.cn,AV.cns,W5 ih,KC,W5 (fun y _=>qC.cnx y)]
end Go.Ab
namespace Go.Ab
open Go
set_option maxRecDepth 10000
set_option maxHeartbeats 4000000
theorem qD.layE(x:qD)(n:Nat):lay x.enc n=(.agg [.int .i64 x.Kind,.int .i64 x.Num,.str x.Name,.int .i64 x.Typ.Kind,.str x.Typ.Name,.slice 3 (n) 0 x.Typ.Kids.length false,.slice 1 (n+AV.rows (.lst 3 (x.Typ.Kids.map qC.enc) false)) 0 x.Names.length false,.slice 8 (n+AV.rows (.lst 3 (x.Typ.Kids.map qC.enc) false)+AV.rows (.lst 1 (x.Names.map qW) false)) 0 x.Kids.length false],(lay (.lst 3 (x.Typ.Kids.map qC.enc) false) (n)).2++((lay (.lst 1 (x.Names.map qW) false) (n+AV.rows (.lst 3 (x.Typ.Kids.map qC.enc) false))).2++((lay (.lst 8 (x.Kids.map qD.enc) false) (n+AV.rows (.lst 3 (x.Typ.Kids.map qC.enc) false)+AV.rows (.lst 1 (x.Names.map qW) false))).2++[]))):=by
 rw[qD.enc_eq];simp[lay,qa,wN,AV.rows,Nat.add_assoc,Nat.add_comm,Nat.add_left_comm]
end Go.Ab
namespace Go.Ab
open Go
set_option maxRecDepth 10000
set_option maxHeartbeats 2000000
end Go.Ab
namespace Go.Ab
open Go
set_option maxRecDepth 10000
structure qd where
 Name:Str
 Fields:List qC
def qd.enc(x:qd):AV:=.agg [.str x.Name,.lst 3 (x.Fields.map qC.enc) false]
theorem qd.isSh:Sh qd.enc 2 (some 2):=⟨fun x=>by simp[qd.enc,AV.tree,AV.trees,zM qC.isSh.tree],fun _=>rfl,fun _=>rfl,by decide,fun x=>by simp[qd.enc]⟩
section
variable {x:qd}
@[go_sem] theorem qd.tr:x.enc.tree=true:=qd.isSh.tree x
@[go_sem] theorem qd.ln:x.enc.cells.length=2:=nr rfl
@[go_sem] theorem qd.all:x.enc.part 0 (some 2)=some x.enc:=nr rfl
@[go_sem] theorem qd.p0:x.enc.part 0 none=some (.str x.Name):=nr rfl
@[go_sem] theorem qd.p1:x.enc.part 1 none=some (.lst 3 (x.Fields.map qC.enc) false):=nr rfl
end
structure qL where
 Name:Str
 Cons:List qd
def qL.enc(x:qL):AV:=.agg [.str x.Name,.lst 2 (x.Cons.map qd.enc) false]
theorem qL.isSh:Sh qL.enc 2 (some 2):=⟨fun x=>by simp[qL.enc,AV.tree,AV.trees,zM qd.isSh.tree],fun _=>rfl,fun _=>rfl,by decide,fun x=>by simp[qL.enc]⟩
section
variable {x:qL}
@[go_sem] theorem qL.tr:x.enc.tree=true:=qL.isSh.tree x
@[go_sem] theorem qL.ln:x.enc.cells.length=2:=nr rfl
@[go_sem] theorem qL.all:x.enc.part 0 (some 2)=some x.enc:=nr rfl
@[go_sem] theorem qL.p0:x.enc.part 0 none=some (.str x.Name):=nr rfl
@[go_sem] theorem qL.p1:x.enc.part 1 none=some (.lst 2 (x.Cons.map qd.enc) false):=nr rfl
end
structure qS where
 Name:Str
 Typ:qC
 Body:qD
def qS.enc(x:qS):AV:=.agg [.str x.Name,.int .i64 x.Typ.Kind,.str x.Typ.Name,.lst 3 (x.Typ.Kids.map qC.enc) false,.int .i64 x.Body.Kind,.int .i64 x.Body.Num,.str x.Body.Name,.int .i64 x.Body.Typ.Kind,.str x.Body.Typ.Name,.lst 3 (x.Body.Typ.Kids.map qC.enc) false,.lst 1 (x.Body.Names.map qW) false,.lst 8 (x.Body.Kids.map qD.enc) false]
theorem qS.isSh:Sh qS.enc 12 (some 12):=⟨fun x=>by simp[qS.enc,AV.tree,AV.trees,zM qD.isSh.tree,zM qC.isSh.tree,zM shS.tree],fun _=>rfl,fun _=>rfl,by decide,fun x=>by simp[qS.enc]⟩
section
variable {x:qS}
@[go_sem] theorem qS.tr:x.enc.tree=true:=qS.isSh.tree x
@[go_sem] theorem qS.ln:x.enc.cells.length=12:=nr rfl
@[go_sem] theorem qS.all:x.enc.part 0 (some 12)=some x.enc:=nr rfl
@[go_sem] theorem qS.p0:x.enc.part 0 none=some (.str x.Name):=nr rfl
@[go_sem] theorem qS.p1:x.enc.part 1 none=some (.int .i64 x.Typ.Kind):=nr rfl
@[go_sem] theorem qS.p2:x.enc.part 2 none=some (.str x.Typ.Name):=nr rfl
@[go_sem] theorem qS.p3:x.enc.part 3 none=some (.lst 3 (x.Typ.Kids.map qC.enc) false):=nr rfl
@[go_sem] theorem qS.p6:x.enc.part 6 none=some (.str x.Body.Name):=nr rfl
@[go_sem] theorem qS.p7:x.enc.part 7 none=some (.int .i64 x.Body.Typ.Kind):=nr rfl
@[go_sem] theorem qS.q1:x.enc.part 1 (some 3)=some x.Typ.enc:=nr (by rw[qC.enc_eq];rfl)
@[go_sem] theorem qS.q4:x.enc.part 4 (some 8)=some x.Body.enc:=nr (by rw[qD.enc_eq];rfl)
end
structure qY where
 Datas:List qL
 Defs:List qS
def qY.enc(x:qY):AV:=.agg [.lst 2 (x.Datas.map qL.enc) false,.lst 12 (x.Defs.map qS.enc) false]
theorem qY.isSh:Sh qY.enc 2 (some 2):=⟨fun x=>by simp[qY.enc,AV.tree,AV.trees,zM qL.isSh.tree,zM qS.isSh.tree],fun _=>rfl,fun _=>rfl,by decide,fun x=>by simp[qY.enc]⟩
section
variable {x:qY}
@[go_sem] theorem qY.tr:x.enc.tree=true:=qY.isSh.tree x
@[go_sem] theorem qY.ln:x.enc.cells.length=2:=nr rfl
@[go_sem] theorem qY.all:x.enc.part 0 (some 2)=some x.enc:=nr rfl
@[go_sem] theorem qY.p0:x.enc.part 0 none=some (.lst 2 (x.Datas.map qL.enc) false):=nr rfl
@[go_sem] theorem qY.p1:x.enc.part 1 none=some (.lst 12 (x.Defs.map qS.enc) false):=nr rfl
end
def qd.wz(x:qd):Nat:=x.Fields.length+qP qC.wz x.Fields
def qL.wz(x:qL):Nat:=x.Cons.length+qP qd.wz x.Cons
def qS.wz(x:qS):Nat:=x.Typ.wz+x.Body.wz
def qY.wz(x:qY):Nat:=(x.Datas.length+qP qL.wz x.Datas)+(x.Defs.length+qP qS.wz x.Defs)
def qd.bd(x:qd):Prop:=x.Name.length<=20000/\∀y∈x.Fields,y.bd
def qL.bd(x:qL):Prop:=x.Name.length<=20000/\∀y∈x.Cons,y.bd
def qS.bd(x:qS):Prop:=x.Name.length<=20000/\x.Typ.bd/\x.Body.bd
def qY.bd(x:qY):Prop:=(∀y∈x.Datas,y.bd)/\∀y∈x.Defs,y.bd
theorem qd.plx(x:qd):x.enc.pl=true:=by simp[qd.enc,AV.pl,AV.pls,Qu qC.plx]
theorem qd.cnx(x:qd):x.enc.cn=true:=by simp[qd.enc,AV.cn,AV.cns,Qc qC.cnx]
theorem qL.plx(x:qL):x.enc.pl=true:=by simp[qL.enc,AV.pl,AV.pls,Qu qd.plx]
theorem qL.cnx(x:qL):x.enc.cn=true:=by simp[qL.enc,AV.cn,AV.cns,Qc qd.cnx]
theorem qS.plx(x:qS):x.enc.pl=true:=by simp[qS.enc,AV.pl,AV.pls,Qu qC.plx,Qu qD.plx,KD]
theorem qS.cnx(x:qS):x.enc.cn=true:=by simp[qS.enc,AV.cn,AV.cns,Qc qC.cnx,Qc qD.cnx,KC]
theorem qY.plx(x:qY):x.enc.pl=true:=by simp[qY.enc,AV.pl,AV.pls,Qu qL.plx,Qu qS.plx]
theorem qY.cnx(x:qY):x.enc.cn=true:=by simp[qY.enc,AV.cn,AV.cns,Qc qL.cnx,Qc qS.cnx]
def jg(toks:List qJ):Nat->List qC->Nat->Except Nat (List qC×Nat)
 | 0,_,a=>.error a
 | n+1,acc,a=>exB (pT toks (zj toks false a) false a) fun t b=>if isP toks b [44]then jg toks n (acc++[t]) (b+1)else exB (qQ toks [93] b) fun _ b=>.ok (acc++[t],b)
def wH(toks:List qJ)(a:Nat):Except Nat (List qC×Nat):=if isP toks a [91]then jg toks (toks.length-a) [] (a+1)else .ok ([],a)
def j0(toks:List qJ)(a:Nat):Except Nat (qd×Nat):=exB (zN toks 2 a) fun s b=>exB (wH toks b) fun fs b=>.ok (⟨s,fs⟩,b)
def jO(toks:List qJ):Nat->List qd->Nat->Except Nat (List qd×Nat)
 | 0,_,a=>.error a
 | n+1,acc,a=>exB (j0 toks a) fun c b=>if isP toks b [124]then jO toks n (acc++[c]) (b+1)else .ok (acc++[c],b)
def J3(toks:List qJ)(a:Nat):Except Nat (qL×Nat):=exB (zN toks 2 a) fun s b=>exB (qQ toks [61] b) fun _ b=>exB (jO toks (toks.length+1-b) [] b) fun cs b=>.ok (⟨s,cs⟩,b)
def jn(toks:List qJ):Nat->List qL->Nat->Except Nat (List qL×Nat)
 | 0,acc,a=>.ok (acc,a)
 | n+1,acc,a=>if isP toks a [100,97,116,97]then exB (J3 toks (a+1)) fun d b=>jn toks n (acc++[d]) b else .ok (acc,a)
def wv(toks:List qJ)(a:Nat):Except Nat (qS×Nat):=exB (zN toks 1 a) fun s b=>exB (qQ toks [58] b) fun _ b=>exB (pT toks (zj toks false b) false b) fun t b=>exB (qQ toks [61] b) fun _ b=>exB (pM toks (mJ toks .term b) .term b) fun x b=>.ok (⟨s,t,x⟩,b)
def wK(toks:List qJ):Nat->List qS->Nat->Except Nat (List qS×Nat)
 | 0,acc,a=>.ok (acc,a)
 | n+1,acc,a=>if isP toks a [100,101,102]then exB (wv toks (a+1)) fun d b=>wK toks n (acc++[d]) b else .ok (acc,a)
def jH(toks:List qJ)(a:Nat):Except Nat (qY×Nat):=exB (jn toks (toks.length-a) [] a) fun ds b=>exB (wK toks (toks.length-b) [] b) fun fs b=>.ok (⟨ds,fs⟩,b)
end Go.Ab
namespace Go.Ab
open Go
set_option maxRecDepth 10000
set_option maxHeartbeats 2000000
theorem Ow.shape3{b u:Nat}{h:List qB}{v:AV}{t:qC}(x:Ow b u h v t.enc):∃a0 a1 a2,v=.agg [a0,a1,a2]:=by
 obtain⟨v2,rfl,_⟩:=x.shapeT;exact⟨_,_,_,rfl⟩
theorem Ku{toks:List qJ}{e:Int}{id a:Nat}{h:List qB}(hl:toks.length<=1048576)(ha:a<=toks.length)(ho:h[id]?=some (prI toks a e)):
  SCallX Gm 335 [.ptr id 0 0] h (fun v h'=>∃t b,pT toks (zj toks false a) false a=.ok (t,b)/\PS h id (prI toks b e) h'/\Ow h.length h'.length h' v t.enc) (fun v _=>∃b,pT toks (zj toks false a) false a=.error b/\v=wE (nxt toks b e).At):=
 (qQ6 hl (zj toks false a) false a h (nLr _) ha ho).mono (fun _ _ ⟨t,b,S,q1,q2,q3,q4⟩=>⟨t,b,q1,q2,Ow.of S q3 q4⟩) fun _ _ q=>q
structure Cy(toks:List qJ)(e:Int)(id pb sb B:Nat)(h0:List qB)(a:Nat)(s:Str)(v7:AV)(h:List qB):Prop where
 p:h[id]?=some (prI toks a e)
 f:∀j,j≠id->j<h0.length->h[j]?=h0[j]?
 b1:h[pb]?=some (.row 1 [.ptr id 0 0] true)
 b2:h[sb]?=some (.row 2 [.agg [.str s,v7]] true)
 l:B<=h.length
section
variable {toks:List qJ} {e:Int} {id pb sb B f a b:Nat} {h0 h h':List qB} {s:Str} {v7 w7:AV}
theorem Cy.ps(C:Cy toks e id pb sb B h0 a s v7 h)(G:Cg id pb sb B h0)(q:PS h id (prI toks b e) h'):Cy toks e id pb sb B h0 b s v7 h':=by
 have:=C.l;have:=G.i;have:=G.p;have:=G.s;have:=G.pB;have:=G.sB;have:=q.len;exact⟨q.at',fun j hj hl=>(q.old j hj (by omega)).trans (C.f j hj hl),(q.old pb (by omega) (by omega)).trans C.b1,(q.old sb (by omega) (by omega)).trans C.b2,by omega⟩
theorem Cy.low(C:Cy toks e id pb sb B h0 a s v7 h)(G:Cg id pb sb B h0)(q:∀j,j<B->h'[j]?=h[j]?)(ql:h.length<=h'.length):Cy toks e id pb sb B h0 a s v7 h':=by
 have:=C.l;have:=G.i;have:=G.p;have:=G.s;have:=G.pB;have:=G.sB;exact⟨(q id (by omega)).trans C.p,fun j hj hl=>(q j (by omega)).trans (C.f j hj hl),(q pb (by omega)).trans C.b1,(q sb (by omega)).trans C.b2,by omega⟩
theorem Cy.box(C:Cy toks e id pb sb B h0 a s v7 h)(G:Cg id pb sb B h0):Cy toks e id pb sb B h0 a s w7 (h.set sb (.row 2 [.agg [.str s,w7]] true)):=by
 have:=C.l;have:=G.i;have:=G.p;have:=G.s;have:=G.ps;have:=G.pB;have:=G.sB;exact⟨by rw[gSn (by omega)];exact C.p,fun j hj hl=>by rw[gSn (by omega)];exact C.f j hj hl,by rw[gSn (by omega)];exact C.b1,gSs (by omega),by simp;omega⟩
theorem Cy.fin(C:Cy toks e id pb sb B h0 a s v7 h)(G:Cg id pb sb B h0):PS h0 id (prI toks a e) h:=by
 have:=C.l;have:=G.p;have:=G.pB;exact⟨C.p,by omega,C.f⟩
theorem qQ2{ks:List qC}(K:qv toks)(ha:a<=toks.length)(G:Cg id pb sb B h0)(C:Cy toks e id pb sb B h0 a s v7 h)(hK:KL B h.length h v7 3 (ks.map qC.enc))(hks:ks.length<=1048576):
  SCallX Gm 1328 [.ptr sb 0 0,.ptr pb 0 0] h (fun _ h'=>∃t b w7,pT toks (zj toks false a) false a=.ok (t,b)/\Cy toks e id pb sb B h0 b s w7 h'/\KL B h'.length h' w7 3 ((ks++[t]).map qC.enc)) (fun v _=>∃b,pT toks (zj toks false a) false a=.error b/\v=wE (nxt toks b e).At):=by
 have hB:=C.l;have hsB:=G.sB;have hiB:id<B:=by have:=G.i;have:=G.p;have:=G.pB;omega
 refine xI Yr ?_;simp only[Yr,qI,go_sem,C.b1,C.b2];rcases hK with⟨hk0,rfl⟩ | ⟨kk,vs,rfl,x2,x3,x4,x5,x6⟩
 ·simp only[go_sem];refine Z2 ((Ku K.l ha C.p).mono ?_ ?_)
  case refine_2=>
   rintro v h1 ⟨b,q1,rfl⟩;exact⟨rfl,b,q1,rfl⟩
  rintro v h1 ⟨t,b,q1,q2,q3⟩;have C1:=C.ps G q2;have hl:=q2.len;obtain⟨a0,a1,a2,rfl⟩:=q3.shape3;refine⟨⟨⟨rfl,.nils,by simp only[go_sem],Wi (by simp only[go_sem];rfl) C1.b2 rfl,trivial⟩,trivial⟩, ?_⟩;simp only[go_sem];refine Um (Els.lst) (by simp) ?_;have C2:=C1.low G (h':=h1++[.row 3 [.agg [.int .i64 0,.str [],.nils]] true]) (fun j hj=>gAl (by omega)) (by simp);simp only[lCo,lNi,go_sem];have ix:idx 3 (some (.slice 3 h1.length 0 1 false)) (some (.int .i64 0))=some (.ptr h1.length 0 0):=by simp[idx]
  simp only[ix,go_sem];refine jK (el:=[.agg [.int .i64 0,.str [],.nils]]) (e:=.agg [.int .i64 0,.str [],.nils]) (e':=.agg [a0,a1,a2]) rfl gCl rfl (QO (k:=3) rfl rfl ⟨fun _=>⟨_,rfl⟩,fun _=>⟨_,rfl⟩⟩ (by decide)) ?_;rw[Wa,lSz];have C3:=C1.low G (h':=h1++[.row 3 [.agg [a0,a1,a2]] true]) (fun j hj=>gAl (by omega)) (by simp);simp only[go_sem];refine Xx (by omega) (by simp[WC]) rfl C3.b2 rfl rfl ?_;simp only[go_sem];refine⟨t,b,.slice 3 h1.length 0 1 false,q1,C3.box G, ?_⟩;rw[lLs];have k3:=JD (w:=3) (B:=B) (k:=h1.length) ((q3.push (o:=.row 3 [.agg [a0,a1,a2]] true) (nLr _)).mono hB (nLr _)) (by simp) (nLr _) (by omega);have k4:=k3.set (id:=sb) (o:=.row 2 [.agg [.str s,.slice 3 h1.length 0 1 false]] true) hsB;rw[lMa,hk0];simpa using k4
 ·simp only[go_sem];refine Z2 ((Ku K.l ha C.p).mono ?_ ?_)
  case refine_2=>
   rintro v h1 ⟨b,q1,rfl⟩;exact⟨rfl,b,q1,rfl⟩
  rintro v h1 ⟨t,b,q1,q2,q3⟩;have C1:=C.ps G q2;have hl:=q2.len;obtain⟨a0,a1,a2,rfl⟩:=q3.shape3;rw[lMp]at C1;refine⟨⟨⟨rfl,.slice 3 kk 0 ks.length false,by simp only[go_sem],Wi (by simp only[go_sem];rfl) C1.b2 rfl,fun q=>x6 (by rw[lEz q.2];rfl)⟩,trivial⟩, ?_⟩;simp only[go_sem];have hc:vs.length=ks.length:=by simpa using x3.cnt
  have x2':h1[kk]?=some (.row 3 vs true):=(q2.old kk (by omega) x5).trans x2;refine Un Els.lst x2' hc (by simp only[lCo,lNi];omega) ?_;have g:∀(o:qB)(j:Nat),j<h1.length->j≠kk->(h1.set kk qB.dead++[o])[j]?=h1[j]?:=fun o j hj hne=>by
   rw[gAl (by simp;omega),gSn (Ne.symm hne)]
  have el:(h1.set kk qB.dead).length=h1.length:=by simp
  simp only[lCo,lNi,go_sem];have ix:idx 3 (some (.slice 3 h1.length 0 (ks.length+(0+1)) false)) (some (.int .i64 (ks.length:Nat)))=some (.ptr h1.length ks.length 0):=by simp[idx];omega
  simp only[ix,go_sem];refine jK (el:=vs++[.agg [.int .i64 0,.str [],.nils]]) (e:=.agg [.int .i64 0,.str [],.nils]) (e':=.agg [a0,a1,a2]) rfl (by rw[gAr (by omega),el,nSs];rfl) (by rw[gAr (by omega),hc,nSs];rfl) (QO (k:=3) rfl rfl ⟨fun _=>⟨_,rfl⟩,fun _=>⟨_,rfl⟩⟩ (by decide)) ?_;have es:(h1.set kk qB.dead++[qB.row 3 (vs++[AV.agg [.int .i64 0,.str [],.nils]]) true]).set h1.length (qB.row 3 ((vs++[AV.agg [.int .i64 0,.str [],.nils]]).set ks.length (.agg [a0,a1,a2])) true)=h1.set kk qB.dead++[qB.row 3 (vs++[.agg [a0,a1,a2]]) true]:=by
   have e1:(vs++[AV.agg [.int .i64 0,.str [],.nils]]).set ks.length (.agg [a0,a1,a2])=vs++[.agg [a0,a1,a2]]:=by
    rw[<-hc,lSr _ _ (nLr _),nSs];rfl
   rw[e1,lSr _ _ (by omega),el,nSs];rfl
  rw[es];have C3:=C1.low G (h':=h1.set kk qB.dead++[qB.row 3 (vs++[.agg [a0,a1,a2]]) true]) (fun j hj=>g _ j (by omega) (by omega)) (by simp);simp only[go_sem];refine Xx (by omega) (by rw[gAr (by omega),el,nSs];rfl) rfl C3.b2 rfl rfl ?_;simp only[go_sem];refine⟨t,b,_,q1,C3.box G, ?_⟩;rw[lLs];have k3:=Kc (w:=3) (k:=h1.length) (n:=ks.length+(0+1)) (x3.to (h1:=h1.set kk qB.dead++[qB.row 3 (vs++[.agg [a0,a1,a2]]) true]) fun j h3 h4=>(g _ j (by omega) (by omega)).trans (q2.old j (by omega) (by omega))) ((q3.to (h1:=h1.set kk qB.dead++[qB.row 3 (vs++[.agg [a0,a1,a2]]) true]) fun j h3 h4=>g _ j (by omega) (by omega)).mono (b':=kk) (by omega) (nLr _)) (by rw[gAr (by omega),el,nSs];rfl) x4 (by omega) (by omega) (by simp);have k4:=k3.set (id:=sb) (o:=.row 2 [.agg [.str s,.slice 3 h1.length 0 (ks.length+(0+1)) false]] true) hsB;rw[lMa];have e3:(h1.set kk qB.dead++[qB.row 3 (vs++[.agg [a0,a1,a2]]) true]).length=h1.length+1:=by simp
  rw[e3];exact k4
theorem qTO{n:Nat}{acc:List qC}{t:qC}(hw:pT toks (zj toks false a) false a=.ok (t,b)):jg toks (n+1) acc a=if isP toks b [44]then jg toks n (acc++[t]) (b+1)else exB (qQ toks [93] b) fun _ b=>.ok (acc++[t],b):=by
 simp only[jg,hw,qe]
theorem qYS(K:qv toks)(G:Cg id pb sb B h0)(C:Cy toks e id pb sb B h0 a s .nils h)(ha:a<=toks.length):
  SCallX Gm 1327 [.ptr id 0 0,.fn 1328 [.ptr sb 0 0,.ptr pb 0 0]] h (fun _ h'=>∃ks b w7,wH toks a=.ok (ks,b)/\Cy toks e id pb sb B h0 b s w7 h'/\KL B h'.length h' w7 3 (ks.map qC.enc)) (fun v _=>∃b,wH toks a=.error b/\v=wE (nxt toks b e).At):=by
 have hB:=C.l;have hiB:id<B:=by have:=G.i;have:=G.p;have:=G.pB;omega
 refine xI QV ?_;simp only[QV,qI,go_sem];refine qZ rfl (jA C.p K.l (by decide)) ?_;rw[qi (by decide)];simp only[go_sem];cases hb:isP toks a [91]
 ·simp only[Bool.not_false,bFt,if_false,go_sem];exact⟨[],a,.nils,by simp only[wH,hb,bFt,if_false],C,.inl ⟨rfl,rfl⟩⟩
 have hlt:=qV hb;simp only[Bool.not_true,if_true,go_sem];have C1:=C.ps G (PS.set C.p (o:=prI toks (a+1) e));obtain⟨n,hn⟩:∃n,toks.length-a=n+1:=⟨toks.length-a-1,by omega⟩;have eP:wH toks a=jg toks (n+1) [] (a+1):=by simp only[wH,hb,if_true,hn]
 refine qT ((qQ2 (ks:=[]) K hlt G C1 (.inl ⟨rfl,rfl⟩) (by simp)).mono ?_ ?_)
 case refine_2=>
  rintro v h1 ⟨b,q1,rfl⟩;exact⟨rfl,b,by rw[eP];simp only[jg,q1,qo],rfl⟩
 rintro v h1 ⟨t,b,w7,q1,C2,k2⟩;have e0:=qTO (n:=n) (acc:=[]) q1;rw[<-eP]at e0;obtain⟨p1,p2⟩:=jP _ _ _ q1;simp only[lNa]at e0 k2;simp only[go_sem];refine Sem.loop (fun z:Nat×List qC×AV×Nat×List qB=>wH toks a=(if isP toks z.2.2.2.1 [44]then jg toks z.1 z.2.1 (z.2.2.2.1+1)else exB (qQ toks [93] z.2.2.2.1) fun _ b=>.ok (z.2.1,b))/\toks.length<=z.1+z.2.2.2.1/\Cy toks e id pb sb B h0 z.2.2.2.1 s z.2.2.1 z.2.2.2.2/\KL B z.2.2.2.2.length z.2.2.2.2 z.2.2.1 3 (z.2.1.map qC.enc)/\z.2.1.length<=z.2.2.2.1/\z.2.2.2.1<=toks.length)
  (fun z=>(⟨[(0,.ptr id 0 0),(1,.fn 1328 [.ptr sb 0 0,.ptr pb 0 0])],[],z.2.2.2.2⟩:VSt)) (fun z=>toks.length-z.2.2.2.1) (n,[t],w7,b,h1) (by kernel_rfl) ⟨e0,by simp only;omega,C2,k2,by simp;omega,p2⟩ (Can.sub (by simp[go_sem]) (by simp[go_sem])) ?_
 clear e0 k2 C2 C1 C hB q1;rintro⟨m,ks,w7,c,g⟩ ⟨i1,i2,i3,i4,i5,i6⟩;simp only at i1 i2 i3 i4 i5 i6;simp only[go_sem];refine qZ rfl (jA i3.p K.l (by decide)) ?_;rw[qi (by decide)];simp only[go_sem];cases hc:isP toks c [44]
 ·simp only[bFt,if_false,go_sem];rw[hc,if_neg (by decide)]at i1;refine qT ((jT i3.p K.l (by decide)).mono ?_ ?_)
  case refine_2=>
   rintro v2 h2 ⟨e1,rfl,rfl⟩;rw[qi (by decide)]at e1;exact⟨rfl,c,by rw[i1];simp only[qQ,e1,bFt,if_false,qo],rfl⟩
  rintro v2 h2 ⟨e1,rfl⟩;rw[qi (by decide)]at e1;simp only[go_sem];refine⟨ks,c+1,w7,by rw[i1];simp only[qQ,e1,if_true,qe],i3.ps G (PS.set i3.p), ?_⟩;rw[lLs];exact i4.set hiB
 ·have hlt:=qV hc;simp only[if_true,go_sem];rw[hc,if_pos rfl]at i1;obtain⟨m,rfl⟩:∃x,m=x+1:=⟨m-1,by omega⟩;have C1:=i3.ps G (PS.set i3.p (o:=prI toks (c+1) e));have i4':=i4.set (id:=id) (o:=prI toks (c+1) e) hiB;refine qT ((qQ2 K hlt G C1 (by rw[lLs];exact i4') (by have:=K.l;omega)).mono ?_ ?_)
  case refine_2=>
   rintro v h1 ⟨b,q1,rfl⟩;exact⟨rfl,b,by rw[i1];simp only[jg,q1,qo],rfl⟩
  rintro v h1 ⟨t,d,w7',q1,C2,k2⟩;obtain⟨p1,p2⟩:=jP _ _ _ q1;simp only[go_sem];refine qf (m,ks++[t],w7',d,h1) ⟨by simp only;rw[i1,qTO q1],by simp only;omega,C2,k2,by simp;omega,p2⟩ (by simp only;omega) (Can.sub (by simp[go_sem]) (by simp[go_sem]))
end
end Go.Ab
namespace Go.Ab
open Go
set_option maxRecDepth 10000
set_option maxHeartbeats 2000000
section
variable {b m u m1 m2:Nat} {h:List qB} {v v1 v2:AV} {vs vs' ts ts':List AV}
theorem Ow.cells(x:Ow b u h (.agg vs) (.agg ts)):Ows b u h vs ts:=by
 obtain⟨S,x,hb⟩:=x;obtain⟨ws,e,y⟩:=x.aggs;cases e;exact⟨S,y,hb⟩
theorem Ows.app2(x:Ows b m h vs ts)(y:Ows m u h vs' ts')(h1:b<=m)(h2:m<=u):Ows b u h (vs++vs') (ts++ts'):=by
 obtain⟨S,x,hx⟩:=x;obtain⟨S',y,hy⟩:=y;refine⟨S++S',x.app y fun j hj hj'=>by have:=hx j hj;have:=hy j hj';omega,fun j hj=> ?_⟩;rcases jR.1 hj with hj | hj
 ·have:=hx j hj;omega
 ·have:=hy j hj;omega
theorem Ows.agg(x:Ows b u h vs ts):Ow b u h (.agg vs) (.agg ts):=by
 obtain⟨S,x,hb⟩:=x;exact⟨S,x.agg,hb⟩
theorem K5{s:Str}{fs:List qC}(x:Ow b u h v (.lst 3 (fs.map qC.enc) false))(h1:b<=u):Ow b u h (.agg [.str s,v]) (qd.mk s fs).enc:=
 ((Ows.nil.scal (a:=.str s) (fun _=>rfl) rfl rfl).snoc (b:=b) (m:=b) x (nLr _) h1).agg
theorem qRV{s:Str}{cs:List qd}(x:Ow b u h v (.lst 2 (cs.map qd.enc) false))(h1:b<=u):Ow b u h (.agg [.str s,v]) (qL.mk s cs).enc:=
 ((Ows.nil.scal (a:=.str s) (fun _=>rfl) rfl rfl).snoc (b:=b) (m:=b) x (nLr _) h1).agg
theorem K6{ds:List qL}{fs:List qS}(x:Ow b m h v1 (.lst 2 (ds.map qL.enc) false))(y:Ow m u h v2 (.lst 12 (fs.map qS.enc) false))(h1:b<=m)(h2:m<=u):Ow b u h (.agg [v1,v2]) (qY.mk ds fs).enc:=
 (x.one.snoc y h1 h2).agg
theorem qRW{s:Str}{t:qC}{x:qD}(p:Ow b m h v (.lst 3 (t.Kids.map qC.enc) false))(q:Ow m u h (.agg vs) x.enc)(h1:b<=m)(h2:m<=u):Ow b u h (.agg ([.str s,.int .i64 t.Kind,.str t.Name,v]++vs)) (qS.mk s t x).enc:=by
 have a0:Ows b b h [.str s,.int .i64 t.Kind,.str t.Name] [.str s,.int .i64 t.Kind,.str t.Name]:=
  ((Ows.nil.scal (a:=.str s) (fun _=>rfl) rfl rfl).scal (a:=.int .i64 t.Kind) (fun _=>rfl) rfl rfl).scal (a:=.str t.Name) (fun _=>rfl) rfl rfl
 rw[qD.enc_eq]at q;exact((a0.snoc p (nLr _) h1).app2 q.cells h1 h2).agg
theorem Ow.shapeC{c:qd}(x:Ow b u h v c.enc):∃v1,v=.agg [.str c.Name,v1]/\Ow b u h v1 (.lst 3 (c.Fields.map qC.enc) false):=by
 obtain⟨S,x,hb⟩:=x;unfold qd.enc at x;obtain⟨vs,rfl,y⟩:=x.aggs;have:=y.cnt
 match vs,this with
 |[a,b],_=>
  obtain⟨S1,S2,rfl,p1,p2⟩:=y.uncons;obtain⟨rfl,rfl⟩:=p1.strT;obtain⟨S5,S6,rfl,p5,p6⟩:=p2.uncons;exact⟨b,rfl,S5,p5,fun j hj=>hb j (by simp[hj])⟩
end
section
variable {toks:List qJ} {e:Int} {id a:Nat} {h:List qB}
theorem qQ1(K:qv toks)(ho:h[id]?=some (prI toks a e)):
  SCallX Gm 1009 [.ptr id 0 0] h (fun v h'=>∃c b,j0 toks a=.ok (c,b)/\PS h id (prI toks b e) h'/\Ow h.length h'.length h' v c.enc) (fun v _=>∃b,j0 toks a=.error b/\v=wE (nxt toks b e).At):=by
 have hid:=zL ho;refine xI YE ?_;simp only[YE,qI,go_sem];refine JU rfl ?_;simp only[gCl,go_sem];have q0:=(PS.refl ho).push (x:=.row 1 [.ptr id 0 0] true);refine qT ((JY (k:=2) q0.at' K.l (by decide)).mono ?_ ?_)
 case refine_2=>
  rintro v h1 ⟨hk,rfl,rfl⟩;exact⟨rfl,a,by simp only[j0,Wk hk,qo],rfl⟩
 rintro v h1 ⟨hk,rfl,rfl⟩;have hw:=Wl (by decide) hk;have hlt:=(ji hw).2.1;generalize (nxt toks a e).Text=s at hw|-;simp only[go_sem];refine jK (el:=[.agg [.str [],.nils]]) (e:=.agg [.str [],.nils]) (e':=.agg [.str s,.nils]) rfl gCl rfl (QO (k:=2) rfl rfl ⟨fun _=>⟨_,rfl⟩,fun _=>⟨_,rfl⟩⟩ (by decide)) ?_;rw[Wa];simp only[lSz,go_sem];have G:Cg id h.length (h.length+1) (h.length+2) h:=⟨hid,nLr _,by omega,by omega,by omega,by omega⟩;have e1:((h++[qB.row 1 [.ptr id 0 0] true]).set id (prI toks (a+1) e)).length=h.length+1:=by simp
 have C:Cy toks e id h.length (h.length+1) (h.length+2) h (a+1) s .nils ((h++[qB.row 1 [.ptr id 0 0] true]).set id (prI toks (a+1) e)++[.row 2 [.agg [.str s,.nils]] true]):=by
  refine⟨?_,fun j hj hl=> ?_, ?_, ?_, ?_⟩
  ·rw[gAl (by omega),gSs (by simp;omega)]
  ·rw[gAl (by omega),gSn (by omega),gAl hl]
  ·rw[gAl (by omega),gSn (by omega),gCl]
  ·rw[<-e1];exact gCl
  ·simp
 rw[e1];generalize ((h++[qB.row 1 [.ptr id 0 0] true]).set id (prI toks (a+1) e)++[.row 2 [.agg [.str s,.nils]] true])=g0 at C|-;simp only[C.b1,go_sem];refine qT ((qYS K G C (by omega)).mono ?_ ?_)
 case refine_2=>
  rintro v h1 ⟨b,q1,rfl⟩;exact⟨rfl,b,by simp only[j0,hw,qe,q1,qo],rfl⟩
 rintro v g1 ⟨fs,b,w7,q1,C1,k1⟩;simp only[C1.b2,go_sem];refine qK rfl rfl ⟨_,rfl⟩ (by decide) ?_;simp only[go_sem];have hl:=C1.l;exact⟨⟨s,fs⟩,b,by simp only[j0,hw,qe,q1],C1.fin G,(K5 k1.ow hl).mono (by omega) (nLr _)⟩
theorem qO9{c:qd}{b:Nat}(h:j0 toks a=.ok (c,b)):a<b/\b<=toks.length:=by
 unfold j0 at h;obtain⟨s,b1,e1,h⟩:=qm h;obtain⟨fs,b2,e2,h⟩:=qm h;cases h;have hw:=ji e1;have:b1<=b/\b<=toks.length:=by
  unfold wH at e2;split at e2
  ·rename_i hb;have hlt:=qV hb;have:∀(n:Nat){acc:List qC}{a:Nat}{x:List qC}{b:Nat},jg toks n acc a=.ok (x,b)->a<=b/\b<=toks.length:=by
    intro n
    induction n with
    | zero=>intro acc a x b h;cases h
    | succ n ih=>
     intro acc a x b h;simp only[jg]at h;obtain⟨t,c,e,h⟩:=qm h;have:=jP _ _ _ e;split at h
     ·have:=ih h;omega
     ·obtain⟨_,d,e,h⟩:=qm h;cases h;have:=jU e;omega
   have:=this _ e2;omega
  ·cases e2;omega
 omega
end
end Go.Ab
namespace Go.Ab
open Go
set_option maxRecDepth 10000
set_option maxHeartbeats 2000000
theorem PS.low{h h1 h2:List qB}{id B:Nat}{o:qB}(q:PS h id o h1)(hid:id<h.length)(hB:h.length<=B)(g1:∀j,j<B->h2[j]?=h1[j]?)(g2:h1.length<=h2.length):PS h id o h2:=
 ⟨(g1 id (by omega)).trans q.at',nLt q.len g2,fun j hj hl=>(g1 j (by omega)).trans (q.old j hj hl)⟩
theorem PS.pushl{h h1:List qB}{id B:Nat}{o x:qB}{h2:List qB}(q:PS h id o h1)(hid:id<h.length)(hB:h.length<=B)(g1:∀j,j<B->h2[j]?=(h1++[x])[j]?)(g2:h1.length+1<=h2.length):PS h id o h2:=
 q.push.low hid hB g1 (by simpa using g2)
section
variable {toks:List qJ} {e:Int} {id a:Nat} {h:List qB}
theorem qPC{n b:Nat}{acc:List qd}{t:qd}(hw:j0 toks a=.ok (t,b)):jO toks (n+1) acc a=if isP toks b [124]then jO toks n (acc++[t]) (b+1)else .ok (acc++[t],b):=by
 simp only[jO,hw,qe]
theorem n629(K:qv toks)(ha:a<=toks.length)(ho:h[id]?=some (prI toks a e)):
  SCallX Gm 629 [.ptr id 0 0] h (fun v h'=>∃x b,jH toks a=.ok (x,b)/\PS h id (prI toks b e) h'/\Ow h.length h'.length h' v x.enc) (fun v _=>∃b,jH toks a=.error b/\v=wE (nxt toks b e).At):=by
 have hid:=zL ho;refine xI V1 ?_;simp only[V1,qI,go_sem];refine Sem.loop (fun s:Nat×List qL×AV×Nat×List qB=>jn toks (toks.length-a) [] a=jn toks s.1 s.2.1 s.2.2.2.1/\toks.length<=s.1+s.2.2.2.1/\s.2.2.2.1<=toks.length/\PS h id (prI toks s.2.2.2.1 e) s.2.2.2.2/\KL h.length s.2.2.2.2.length s.2.2.2.2 s.2.2.1 2 (s.2.1.map qL.enc)/\s.2.1.length<=s.2.2.2.1)
  (fun s=>(⟨[(0,.ptr id 0 0)],[(2,.agg [.nils,.nils]),(3,.agg [s.2.2.1,.nils])],s.2.2.2.2⟩:VSt)) (fun s=>toks.length-s.2.2.2.1) (toks.length-a,[],.nils,a,h) (by kernel_rfl) ⟨rfl,by simp only;omega,ha,PS.refl ho,.inl ⟨rfl,rfl⟩,nZl _⟩ (Can.sub (by simp[go_sem]) (by simp[go_sem])) ?_
 rintro⟨n,ds,v0,c,g⟩ ⟨i1,i2,i3,i4,i5,i6⟩;simp only at i1 i2 i3 i4 i5 i6;have hlg:=i4.len;simp only[go_sem];refine qZ rfl (jA i4.at' K.l (by decide)) ?_;rw[qi (by decide)];simp only[go_sem];cases hb:isP toks c [100,97,116,97]
 case true=>
  have hlt:=qV hb;simp only[if_true,go_sem];obtain⟨n,rfl⟩:∃m,n=m+1:=⟨n-1,by omega⟩;simp only[jn,hb,if_true]at i1;have q1:=i4.trans (PS.set i4.at' (o:=prI toks (c+1) e));have k1:=i5.set (id:=id) (o:=prI toks (c+1) e) hid;refine qT ((JY (k:=2) q1.at' K.l (by decide)).mono ?_ ?_)
  case refine_2=>
   rintro v h1 ⟨hk,rfl,rfl⟩;exact⟨rfl,c+1,by simp only[jH,i1,J3,Wk hk,qo],rfl⟩
  rintro v h1 ⟨hk,rfl,rfl⟩;have hw:=Wl (by decide) hk;have hlw:=(ji hw).2.1;generalize (nxt toks (c+1) e).Text=s at hw|-;have q2:=q1.trans (PS.set q1.at' (o:=prI toks (c+1+1) e));have k2:=k1.set (id:=id) (o:=prI toks (c+1+1) e) hid;simp only[go_sem];refine qK rfl rfl ⟨_,rfl⟩ (by decide) ?_;simp only[go_sem];refine qT ((jT q2.at' K.l (by decide)).mono ?_ ?_)
  case refine_2=>
   rintro v2 h2 ⟨e2,rfl,rfl⟩;rw[qi (by decide)]at e2;exact⟨rfl,c+1+1,by simp only[jH,i1,J3,hw,qe,qQ,e2,bFt,if_false,qo],rfl⟩
  rintro v2 h2 ⟨e2,rfl⟩;rw[qi (by decide)]at e2;have hlt2:=qV e2;have q3:=q2.trans (PS.set q2.at' (o:=prI toks (c+1+1+1) e));have k3:=k2.set (id:=id) (o:=prI toks (c+1+1+1) e) hid;have i1:jn toks (toks.length-a) [] a=exB (jO toks (toks.length+1-(c+1+1+1)) [] (c+1+1+1)) fun cs b=>jn toks n (ds++[⟨s,cs⟩]) b:=by
   rw[i1];simp only[J3,hw,qe,qQ,e2,if_true];generalize jO toks (toks.length+1-(c+1+1+1)) [] (c+1+1+1)=r;cases r<;>rfl
  generalize hg3:((g.set id (prI toks (c+1) e)).set id (prI toks (c+1+1) e)).set id (prI toks (c+1+1+1) e)=g3 at q3 k3|-;have hl3:g3.length=g.length:=by rw[<-hg3];simp
  clear hg3 q1 q2 k1 k2 i4 i5;simp only[go_sem];refine qT ((qQ1 K q3.at').mono ?_ ?_)
  case refine_2=>
   rintro v h1 ⟨b,r1,rfl⟩;obtain⟨m,hm⟩:∃m,toks.length+1-(c+1+1+1)=m+1:=⟨toks.length+1-(c+1+1+1)-1,by omega⟩;exact⟨rfl,b,by simp only[jH,i1,hm,jO,r1,qo],rfl⟩
  rintro v g4 ⟨t,b,r1,r2,r3⟩;obtain⟨m,hm⟩:∃m,toks.length+1-(c+1+1+1)=m+1:=⟨toks.length+1-(c+1+1+1)-1,by omega⟩;have e0:=qPC (n:=m) (acc:=[]) r1;rw[<-hm]at e0;obtain⟨p1,p2⟩:=qO9 r1;have hl4:=r2.len;have q4:=q3.trans r2;have k4:=k3.ps (by omega) hid r2;obtain⟨w1,rfl,_⟩:=r3.shapeC;simp only[go_sem];refine zG (v:=.agg [.str t.Name,w1]) rfl rfl ?_;simp only[go_sem];refine zx (KL.nil (B:=g3.length) (u:=g3.length)) (r3.push (o:=.row 2 [.agg [.str t.Name,w1]] true) (nLr _)) (by simp) (nLr _) hl4 (by simp) (by simp) ?_;intro kk nn g5 k5 y5 z5;rw[zK]at z5;have q5:=q4.pushl hid (B:=g3.length) (by omega) y5 z5;have k5':KL h.length g.length g5 v0 2 (ds.map qL.enc):=(k4.push (o:=.row 2 [.agg [.str t.Name,w1]] true) (by omega)).to fun j h1 h2=>y5 j (by omega);simp only[lNa,lMc,List.map_nil]at e0 k5;simp only[go_sem];refine Sem.loop (fun z:Nat×List qd×AV×Nat×List qB=>jO toks (toks.length+1-(c+1+1+1)) [] (c+1+1+1)=(if isP toks z.2.2.2.1 [124]then jO toks z.1 z.2.1 (z.2.2.2.1+1)else .ok (z.2.1,z.2.2.2.1))/\toks.length<=z.1+z.2.2.2.1/\z.2.2.2.1<=toks.length/\c+1<z.2.2.2.1/\PS h id (prI toks z.2.2.2.1 e) z.2.2.2.2/\g.length<=z.2.2.2.2.length/\KL g.length z.2.2.2.2.length z.2.2.2.2 z.2.2.1 2 (z.2.1.map qd.enc)/\KL h.length g.length z.2.2.2.2 v0 2 (ds.map qL.enc)/\z.2.1.length<=z.2.2.2.1/\∃kk nn,z.2.2.1=.slice 2 kk 0 nn false)
   (fun z=>(⟨[(0,.ptr id 0 0)],[(2,.agg [.nils,.nils]),(3,.agg [v0,.nils]),(4,.agg [.str s,z.2.2.1])],z.2.2.2.2⟩:VSt)) (fun z=>toks.length-z.2.2.2.1) (m,[t],.slice 2 kk 0 nn false,b,g5) (by kernel_rfl) ⟨e0,by simp only;omega,p2,by simp only;omega,q5,by simp only;omega,by rw[hl3]at k5;exact k5,k5',by simp;omega,_,_,rfl⟩ (Can.sub (by simp[go_sem]) (by simp[go_sem])) ?_
  clear e0 k5 k5' q5 y5 z5 k4 q4 r3 r2 k3 q3 hm;rintro⟨m,cs,v1,d,gg⟩ ⟨j1,j2,j3,j4,j5,hlgg',j6,j7,j8,kk,nn,rfl⟩;simp only at j1 j2 j3 j4 j5 hlgg' j6 j7 j8;have hlgg:=j5.len;simp only[go_sem];refine qZ rfl (jA j5.at' K.l (by decide)) ?_;rw[qi (by decide)];simp only[go_sem];cases hd:isP toks d [124]
  case true=>
   have hltd:=qV hd;simp only[if_true,go_sem];rw[hd,if_pos rfl]at j1;obtain⟨m,rfl⟩:∃x,m=x+1:=⟨m-1,by omega⟩;have q6:=j5.trans (PS.set j5.at' (o:=prI toks (d+1) e));have k6:=j6.set (id:=id) (o:=prI toks (d+1) e) (by omega);have k7:=j7.set (id:=id) (o:=prI toks (d+1) e) hid;refine qT ((qQ1 K q6.at').mono ?_ ?_)
   case refine_2=>
    rintro v h1 ⟨b,r1,rfl⟩;exact⟨rfl,b,by simp only[jH,i1,j1,jO,r1,qo],rfl⟩
   rintro v g7 ⟨t,b,r1,r2,r3⟩;obtain⟨p1,p2⟩:=qO9 r1;have hl7:=r2.len;rw[lLs]at hl7 r3;have q7:=q6.trans r2;have k6:=k6.ps (by simp) (by omega) r2;have k7:=k7.ps (by simp;omega) hid r2;obtain⟨w1,rfl,_⟩:=r3.shapeC;simp only[go_sem];refine zG (v:=.agg [.str t.Name,w1]) rfl rfl ?_;simp only[go_sem];have hlk:(cs.map qd.enc).length<4294967296:=by rw[lMp];have:=K.l;omega
   refine zx ((k6.mono (u2:=gg.length) (nLr _)).push hl7) (r3.push (o:=.row 2 [.agg [.str t.Name,w1]] true) (nLr _)) (by simp) hlgg' hl7 (by simp) hlk ?_;intro kk nn g8 k8 y8 z8;rw[zK]at z8;have q8:=q7.pushl hid (B:=g.length) hlg y8 z8;have k8':KL h.length g.length g8 v0 2 (ds.map qL.enc):=(k7.push (o:=.row 2 [.agg [.str t.Name,w1]] true) (by omega)).to fun j h1 h2=>y8 j (by omega);simp only[go_sem];refine qf (m,cs++[t],.slice 2 kk 0 nn false,b,g8) ⟨by simp only;rw[j1,qPC r1],by simp only;omega,p2,by simp only;omega,q8,by simp only;omega,by simpa using k8,k8',by simp only[lAp,lCo,lNi];omega,_,_,rfl⟩ (by simp only;omega) (Can.sub (by simp[go_sem]) (by simp[go_sem]))
  simp only[bFt,if_false,go_sem];rw[hd,if_neg (by decide)]at j1;have x1:=qRV (s:=s) j6.ow hlgg';refine zG (v:=.agg [.str s,.slice 2 kk 0 nn false]) rfl rfl ?_;simp only[go_sem];have hlk:(ds.map qL.enc).length<4294967296:=by rw[lMp];have:=K.l;omega
  refine zx (j7.push (by omega)) (x1.push (o:=.row 2 [.agg [.str s,.slice 2 kk 0 nn false]] true) (nLr _)) (by simp) hlg hlgg' (by simp) hlk ?_;intro kk nn g8 k8 y8 z8;rw[zK]at z8;have q8:=j5.pushl hid (B:=h.length) (nLr _) y8 z8;simp only[go_sem];refine qf (n,ds++[⟨s,cs⟩],.slice 2 kk 0 nn false,d,g8) ⟨by simp only;rw[i1,j1];simp only[qe],by simp only;omega,by simp only;omega,q8,by simpa using k8,by simp only[lAp,lCo,lNi];omega⟩ (by simp only;omega) (Can.sub (by simp[go_sem]) (by simp[go_sem]))
 simp only[bFt,if_false,go_sem];have e1:jn toks (toks.length-a) [] a=.ok (ds,c):=by
  rw[i1];cases n with
  | zero=>rfl
  | succ n=>simp only[jn,hb,bFt,if_false]
 clear i1;refine Sem.loop (fun s:Nat×List qS×AV×Nat×List qB=>wK toks (toks.length-c) [] c=wK toks s.1 s.2.1 s.2.2.2.1/\toks.length<=s.1+s.2.2.2.1/\s.2.2.2.1<=toks.length/\PS h id (prI toks s.2.2.2.1 e) s.2.2.2.2/\KL h.length g.length s.2.2.2.2 v0 2 (ds.map qL.enc)/\KL g.length s.2.2.2.2.length s.2.2.2.2 s.2.2.1 12 (s.2.1.map qS.enc)/\g.length<=s.2.2.2.2.length/\s.2.1.length<=s.2.2.2.1)
  (fun s=>(⟨[(0,.ptr id 0 0)],[(2,.agg [.nils,.nils]),(3,.agg [v0,s.2.2.1])],s.2.2.2.2⟩:VSt)) (fun s=>toks.length-s.2.2.2.1) (toks.length-c,[],.nils,c,g) (by kernel_rfl) ⟨rfl,by simp only;omega,i3,i4,i5,.inl ⟨rfl,rfl⟩,nLr _,nZl _⟩ (Can.sub (by simp[go_sem]) (by simp[go_sem])) ?_
 rintro⟨n,fs,v1,d,gg⟩ ⟨j1,j2,j3,j4,j5,j6,j7,j8⟩;simp only at j1 j2 j3 j4 j5 j6 j7 j8;simp only[go_sem];refine qZ rfl (jA j4.at' K.l (by decide)) ?_;rw[qi (by decide)];simp only[go_sem];cases hd:isP toks d [100,101,102]
 case true=>
  have hlt:=qV hd;simp only[if_true,go_sem];obtain⟨n,rfl⟩:∃m,n=m+1:=⟨n-1,by omega⟩;simp only[wK,hd,if_true]at j1;have q1:=j4.trans (PS.set j4.at' (o:=prI toks (d+1) e));have k1:=j5.set (id:=id) (o:=prI toks (d+1) e) hid;have l1:=j6.set (id:=id) (o:=prI toks (d+1) e) (by omega);refine qT ((JY (k:=1) q1.at' K.l (by decide)).mono ?_ ?_)
  case refine_2=>
   rintro v h1 ⟨hk,rfl,rfl⟩;exact⟨rfl,d+1,by simp only[jH,e1,qe,j1,wv,Wk hk,qo],rfl⟩
  rintro v h1 ⟨hk,rfl,rfl⟩;have hw:=Wl (by decide) hk;have hlw:=(ji hw).2.1;generalize (nxt toks (d+1) e).Text=s at hw|-;have q2:=q1.trans (PS.set q1.at' (o:=prI toks (d+1+1) e));have k2:=k1.set (id:=id) (o:=prI toks (d+1+1) e) hid;have l2:=l1.set (id:=id) (o:=prI toks (d+1+1) e) (by omega);simp only[go_sem];refine qK rfl rfl ⟨_,rfl⟩ (by decide) ?_;simp only[go_sem];refine qT ((jT q2.at' K.l (by decide)).mono ?_ ?_)
  case refine_2=>
   rintro v2 h2 ⟨e2,rfl,rfl⟩;rw[qi (by decide)]at e2;exact⟨rfl,d+1+1,by simp only[jH,e1,j1,wv,hw,qe,qQ,e2,bFt,if_false,qo],rfl⟩
  rintro v2 h2 ⟨e2,rfl⟩;rw[qi (by decide)]at e2;have hlt2:=qV e2;have q3:=q2.trans (PS.set q2.at' (o:=prI toks (d+1+1+1) e));have k3:=k2.set (id:=id) (o:=prI toks (d+1+1+1) e) hid;have l3:=l2.set (id:=id) (o:=prI toks (d+1+1+1) e) (by omega);generalize hg3:((gg.set id (prI toks (d+1) e)).set id (prI toks (d+1+1) e)).set id (prI toks (d+1+1+1) e)=g3 at q3 k3 l3|-;have hl3:g3.length=gg.length:=by rw[<-hg3];simp
  clear hg3 q1 q2 k1 k2 l1 l2 j4 j5;simp only[go_sem];refine qT ((Ku K.l hlt2 q3.at').mono ?_ ?_)
  case refine_2=>
   rintro v h1 ⟨b,r1,rfl⟩;exact⟨rfl,b,by simp only[jH,e1,j1,wv,hw,qe,qQ,e2,if_true,r1,qo],rfl⟩
  rintro v g4 ⟨ty,b,r1,r2,r3⟩;have hpt:=jP _ _ _ r1;have hl4:=r2.len;have q4:=q3.trans r2;have k4:=k3.ps (by omega) hid r2;have l4:=l3.ps (by omega) (by omega) r2;obtain⟨v5,rfl,x5⟩:=r3.shapeT;simp only[go_sem];refine Qm (c':=.agg [.str s,.int .i64 ty.Kind,.str ty.Name,v5,.int .i64 0,.int .i64 0,.str [],.int .i64 0,.str [],.nils,.nils,.nils]) rfl rfl ?_;simp only[go_sem];refine qT ((jT q4.at' K.l (by decide)).mono ?_ ?_)
  case refine_2=>
   rintro v2 h2 ⟨e3,rfl,rfl⟩;rw[qi (by decide)]at e3;exact⟨rfl,b,by simp only[jH,e1,j1,wv,hw,qe,qQ,e2,if_true,r1,e3,bFt,if_false,qo],rfl⟩
  rintro v2 h2 ⟨e3,rfl⟩;rw[qi (by decide)]at e3;have hlt3:=qV e3;have q5:=q4.trans (PS.set q4.at' (o:=prI toks (b+1) e));have k5:=k4.set (id:=id) (o:=prI toks (b+1) e) hid;have l5:=l4.set (id:=id) (o:=prI toks (b+1) e) (by omega);have x5:=x5.set (id:=id) (o:=prI toks (b+1) e) (.inl (by omega));simp only[go_sem];refine qT (((allI (e:=e) (id:=id) K _).term (b+1) _ (nLr _) hlt3 q5.at').mono ?_ ?_)
  case refine_2=>
   rintro v h1 ⟨b',r1',rfl⟩;exact⟨rfl,b',by simp only[jH,e1,j1,wv,hw,qe,qQ,e2,if_true,r1,e3,r1',qo],rfl⟩
  rintro v g6 ⟨x,f,t1,t2,t3⟩;obtain⟨p1,p2,_,_⟩:=jX K.x _ .term _ trivial hlt3 t1;simp only[Jb.str]at p1;have hl6:=t2.len;rw[lLs]at hl6 t3;have q6:=q5.trans t2;have k6:=k5.ps (by simp;omega) hid t2;have l6:=l5.ps (by simp;omega) (by omega) t2;have x6:=x5.ps (by simp) (by omega) t2;obtain⟨a0,a1,a2,a3,a4,a5,a6,a7,rfl⟩:=t3.shape;simp only[go_sem];refine Qm (c':=.agg [.str s,.int .i64 ty.Kind,.str ty.Name,v5,a0,a1,a2,a3,a4,a5,a6,a7]) rfl rfl ?_;simp only[go_sem];have x7:=qRW (s:=s) x6 t3 hl4 hl6;simp only[lCa,lNa]at x7;refine zG (v:=.agg [.str s,.int .i64 ty.Kind,.str ty.Name,v5,a0,a1,a2,a3,a4,a5,a6,a7]) rfl rfl ?_;simp only[go_sem];have hlk:(fs.map qS.enc).length<4294967296:=by rw[lMp];have:=K.l;omega
  refine zx ((l6.mono (u2:=g3.length) (by omega)).push (by omega)) (x7.push (o:=.row 12 [.agg [.str s,.int .i64 ty.Kind,.str ty.Name,v5,a0,a1,a2,a3,a4,a5,a6,a7]] true) (nLr _)) (by simp) (by omega) (by omega) (by simp) hlk ?_;intro kk nn g8 k8 y8 z8;rw[zK]at z8;have q8:=q6.pushl hid (B:=g.length) hlg y8 z8;have k8':KL h.length g.length g8 v0 2 (ds.map qL.enc):=(k6.push (o:=.row 12 [.agg [.str s,.int .i64 ty.Kind,.str ty.Name,v5,a0,a1,a2,a3,a4,a5,a6,a7]] true) (by omega)).to fun j h1 h2=>y8 j (by omega);simp only[go_sem];refine qf (n,fs++[⟨s,ty,x⟩],.slice 12 kk 0 nn false,f,g8) ⟨by simp only;rw[j1];simp only[wv,hw,qe,qQ,e2,if_true,r1,e3,t1],by simp only;omega,p2,q8,k8',by simpa using k8,by simp only;omega,by simp only[lAp,lCo,lNi];omega⟩ (by simp only;omega) (Can.sub (by simp[go_sem]) (by simp[go_sem]))
 simp only[bFt,if_false,go_sem];have e2:wK toks (toks.length-c) [] c=.ok (fs,d):=by
  rw[j1];cases n with
  | zero=>rfl
  | succ n=>simp only[wK,hd,bFt,if_false]
 refine qK rfl rfl ⟨_,rfl⟩ (by decide) ?_;simp only[go_sem];exact⟨⟨ds,fs⟩,d,by simp only[jH,e1,qe,e2],j4,K6 j5.ow j6.ow hlg j7⟩
end
end Go.Ab
namespace Go.Ab
open Go
set_option maxRecDepth 10000
set_option maxHeartbeats 2000000
theorem qq.lst0{h:List qB}{w:Nat}:qq [none] h (.lst w [] true) (.lst w [] false):=by
 refine⟨rfl,rfl, ?_, ?_⟩
 ·simp only[lay,qa];exact⟨.ph,trivial⟩
 ·simp only[lay,qa,lNi];exact .ph2 rfl
theorem Ow.lst0{b u w:Nat}{h:List qB}:Ow b u h (.lst w [] true) (.lst w [] false):=⟨[none],qq.lst0,fun j hj=>by simp at hj⟩
section
variable {E:Ev} {l:List qA} {ks:List Fr1} {s m:qj} {h:List qB} {Q:qR->VSt->Prop}
theorem qT3{B u u2 w id2 d:Nat}{c2:Bool}{X t:AV}(hX:Ow u u2 h X t)(h2:h[id2]?=some (.row w [X] true))(b1:B<=u)(b2:u<=u2)(b3:u2<=h.length)
  (hr:∀k' n' h',KL B h'.length h' (.slice w k' 0 n' false) w [t]->(∀j,j<B->h'[j]?=h[j]?)->h.length<=h'.length->R E (.ops l::ks) ⟨(d,.slice w k' 0 n' false)::s,m,h'⟩ Q):
  wm E w (some d) (some (.lst w [] true)) (some (.slice w id2 0 1 c2)) l ks ⟨s,m,h⟩ Q:=by
 refine Ul (Els.row h2 rfl) (by simp) (hr _ _ _ ?_ (fun j hj=>gAl (by omega)) (by simp));have:=JD (w:=w) (B:=B) (k:=h.length) ((hX.push (o:=.row w [X] true) b3).mono b1 (nLr _)) (by simp) b3 (by omega);simpa using this
end
theorem Ow.cell1{b u w:Nat}{h:List qB}{v:AV}{xs:List AV}(x:Ow b u h v (.lst w xs false)):v.cells=[v]:=by
 obtain⟨S,x,_⟩:=x;have q:=x.v;simp only[lay]at q;generalize xs.length=n at q;generalize (0:Nat)=z at q;cases q<;>rfl
section
variable {h:List qB} {id a b f:Nat} {toks:List qJ} {bad:Bool}
def RSa{α:Type}(enc:α->AV)(toks:List qJ)(id:Nat)(h:List qB)(r:Except Nat (α×Nat))(a:Nat)(v:AV)(h':List qB):Prop:=
 ∃t b bad',SPr r t b bad'/\a<=b/\b<=toks.length/\PS h id (prS toks b bad') h'/\Ow h.length h'.length h' v (enc t)
theorem qS7(K:qv toks)(ha:a<=toks.length)(ho:h[id]?=some (prS toks a bad)):SCall Gm 1332 [.ptr id 0 0] h (fun v h'=>RSa (fun fs:List qC=>.lst 3 (fs.map qC.enc) false) toks id h (gd bad a (wH toks a)) a v h'):=by
 have hid:=zL ho;refine sI Yu ?_;simp only[Yu,qI,go_sem];refine qN ((wF (s:=[91]) K (.inl rfl) ho).mono ?_);rintro v0 h0 (⟨rfl,hb,rfl,r0⟩ | ⟨hb,rfl,rfl⟩)
 case inr=>
  simp only[go_sem];refine⟨[],a,bad, ?_,nLr _,ha,PS.refl ho,Ow.lst0⟩;cases bad
  ·have hb:isP toks a [91]=false:=hb;simp only[wH,hb,bFt,if_false];exact SPr.ret
  ·exact SPr.bd
 have hlt:=qV hb;have hl0:=r0.len;simp only[go_sem];refine qN ((Xz K hlt r0.at').mono ?_);rintro v g1 ⟨t1,b1,bad1,s1,m1,l1,r1,o1⟩;have hl1:=r1.len;have q1:=r0.trans r1;obtain⟨a0,a1,a2,rfl⟩:=o1.shape3;simp only[go_sem];refine zG (v:=.agg [a0,a1,a2]) rfl rfl ?_;simp only[go_sem];refine qT3 (B:=h.length) (o1.push (o:=.row 3 [.agg [a0,a1,a2]] true) (nLr _)) (by simp) hl0 hl1 (by simp) ?_;intro kk nn g2 k2 y2 z2;rw[zK]at z2;have q2:=q1.pushl hid (B:=h.length) (nLr _) y2 z2;simp only[go_sem];have e0:∀y c bad',SPr (gd bad1 b1 (if isP toks b1 [44]then jg toks (toks.length-a-1) [t1] (b1+1)else exB (qQ toks [93] b1) fun _ b=>.ok ([t1],b))) y c bad'->SPr (gd false a (wH toks a)) y c bad':=fun y c bad' q=>by
  obtain⟨n,hn⟩:∃n,toks.length-a=n+1:=⟨toks.length-a-1,by omega⟩;rw[hn,Nat.add_sub_cancel]at q;simp only[wH,hb,if_true,hn,jg,lNa];rw[qp,<-qp (a:=a+1) (r:=exB _ _)];exact s1.bind q
 refine Sem.loop (fun z:Nat×List qC×AV×Nat×Bool×List qB=>(∀y c bad',SPr (gd z.2.2.2.2.1 z.2.2.2.1 (if isP toks z.2.2.2.1 [44]then jg toks z.1 z.2.1 (z.2.2.2.1+1)else exB (qQ toks [93] z.2.2.2.1) fun _ b=>.ok (z.2.1,b))) y c bad'->SPr (gd false a (wH toks a)) y c bad')/\toks.length<=z.1+z.2.2.2.1/\PS h id (prS toks z.2.2.2.1 z.2.2.2.2.1) z.2.2.2.2.2/\KL h.length z.2.2.2.2.2.length z.2.2.2.2.2 z.2.2.1 3 (z.2.1.map qC.enc)/\z.2.1.length<=z.2.2.2.1/\z.2.2.2.1<=toks.length/\a+1<=z.2.2.2.1/\∃kk nn,z.2.2.1=.slice 3 kk 0 nn false)
  (fun z=>(⟨[(0,.ptr id 0 0),(3,z.2.2.1)],[],z.2.2.2.2.2⟩:VSt)) (fun z=>toks.length-z.2.2.2.1) (toks.length-a-1,[t1],.slice 3 kk 0 nn false,b1,bad1,g2) (by kernel_rfl) ⟨e0,by simp only;omega,q2,by simpa using k2,by simp;omega,l1,by simp only;omega,_,_,rfl⟩ (Can.sub (by simp[go_sem]) (by simp[go_sem])) ?_
 clear e0 k2 y2 z2 q2 o1 r1 s1 q1;rintro⟨n,ks,w7,d,bd,g⟩ ⟨i1,i2,i3,i4,i5,i6,i7,kk,nn,rfl⟩;simp only at i1 i2 i3 i4 i5 i6 i7;have hl3:=i3.len;simp only[go_sem];refine qN ((wF (s:=[44]) K (.inl rfl) i3.at').mono ?_);rintro v0 h4 (⟨rfl,hc,rfl,r0⟩ | ⟨hc,rfl,rfl⟩)
 case inl=>
  have hlt:=qV hc;have hl4:=r0.len;simp only[go_sem];rw[hc,if_pos rfl,qp]at i1;obtain⟨n,rfl⟩:∃m,n=m+1:=⟨n-1,by omega⟩;have q0:=i3.trans r0;have i4:=i4.ps (nLr _) hid r0;refine qN ((Xz K hlt q0.at').mono ?_);rintro v g5 ⟨t5,b5,bad5,s5,m5,l5,r5,o5⟩;have hl5:=r5.len;have q5:=q0.trans r5;have i4:=i4.ps hl4 hid r5;obtain⟨a0,a1,a2,rfl⟩:=o5.shape3;simp only[go_sem];refine zG (v:=.agg [a0,a1,a2]) rfl rfl ?_;simp only[go_sem];have hlk:(ks.map qC.enc).length<4294967296:=by rw[lMp];have:=K.l;omega
  refine zx ((i4.mono (u2:=h4.length) hl4).push hl5) (o5.push (o:=.row 3 [.agg [a0,a1,a2]] true) (nLr _)) (by simp) (by omega) hl5 (by simp) hlk ?_;intro kk nn g6 k6 y6 z6;rw[zK]at z6;have q6:=q5.pushl hid (B:=h.length) (nLr _) y6 z6;simp only[go_sem];refine qf (n,ks++[t5],.slice 3 kk 0 nn false,b5,bad5,g6) ⟨fun y c bad' q=>i1 y c bad' ?_,by simp only;omega,q6,by simpa using k6,by simp;omega,l5,by simp only;omega,_,_,rfl⟩ (by simp only;omega) (Can.sub (by simp[go_sem]) (by simp[go_sem]));simp only[jg];rw[<-qp (a:=d+1) (r:=exB _ _)];exact s5.bind q
 simp only[go_sem];refine qN ((jN (s:=[93]) K (.inl rfl) i6 i3.at').mono ?_);rintro w5 g5 ⟨b5,bad5,s5,m5,l5,r5⟩;simp only[go_sem];have hl5:=r5.len;refine⟨ks,b5,bad5,i1 _ _ _ ?_,by omega,l5,i3.trans r5,((i4.ps (nLr _) hid r5).mono hl5).ow⟩;cases bd
 ·have hc:isP toks d [44]=false:=hc;rw[hc,if_neg (by decide)];exact s5.bind SPr.ret
 ·have:=s5;obtain⟨rfl,rfl⟩:=this;exact SPr.bd
theorem qaQ(K:qv toks)(ha:a<=toks.length)(ho:h[id]?=some (prS toks a bad)):SCall Gm 1016 [.ptr id 0 0] h (fun v h'=>RSa qL.enc toks id h (gd bad a (J3 toks a)) a v h'):=by
 have hid:=zL ho;refine sI YJ ?_;simp only[YJ,qI,go_sem];refine qN ((JJ (k:=2) K ha ho).mono ?_);rintro w1 g1 ⟨x1,b1,bad1,s1,m1,l1,rfl,r1⟩;have hl1:=r1.len;simp only[go_sem];refine qK rfl rfl ⟨_,rfl⟩ (by decide) ?_;simp only[go_sem];refine qN ((jN (s:=[61]) K (.inl rfl) l1 r1.at').mono ?_);rintro w2 g2 ⟨b2,bad2,s2,m2,l2,r2⟩;have hl2:=r2.len;have q2:=r1.trans r2;simp only[go_sem];refine qN ((JJ (k:=2) K l2 q2.at').mono ?_);rintro wc gc1 ⟨xc,bc1,badc1,sc1,mc1,lc1,rfl,rc1⟩;have hlc1:=rc1.len;simp only[go_sem];refine qN ((qS7 K lc1 (q2.trans rc1).at').mono ?_);rintro vc gc ⟨fc,bc,badc,sc2,mc2,lc,rc2,oc2⟩;have hlc2:=rc2.len;have qc:=(q2.trans rc1).trans rc2;have oc:Ow g2.length gc.length gc (.agg [.str xc,vc]) (qd.mk xc fc).enc:=(K5 oc2 hlc2).mono hlc1 (nLr _);have sc:SPr (gd bad2 b2 (j0 toks b2)) ⟨xc,fc⟩ bc badc:=by unfold j0;exact sc1.bind (sc2.bind SPr.ret)
 simp only[go_sem];have hv:=oc2.cell1;simp only[hv,lCo,lNi,if_true,go_sem];refine zG (v:=.agg [.str xc,vc]) rfl rfl ?_;simp only[go_sem];refine zx (KL.nil (B:=h.length) (u:=g2.length)) (oc.push (o:=.row 2 [.agg [.str xc,vc]] true) (nLr _)) (by simp) (by omega) (by omega) (by simp) (by simp) ?_;intro kk nn g5 k5 y5 z5;rw[zK]at z5;have q5:=qc.pushl hid (B:=h.length) (nLr _) y5 z5;simp only[lNa]at k5;simp only[go_sem];have e0:∀y c bad',SPr (gd badc bc (if isP toks bc [124]then jO toks (toks.length-b2) [⟨xc,fc⟩] (bc+1)else .ok ([⟨xc,fc⟩],bc))) y c bad'->SPr (gd bad2 b2 (jO toks (toks.length+1-b2) [] b2)) y c bad':=fun y c bad' q=>by
  obtain⟨n,hn⟩:∃n,toks.length+1-b2=n+1:=⟨toks.length-b2,by omega⟩;have hn2:toks.length-b2=n:=by omega
  rw[hn2]at q;rw[hn];simp only[jO,lNa];exact sc.bind q
 refine Sem.loop (fun z:Nat×List qd×AV×Nat×Bool×List qB=>(∀y c bad',SPr (gd z.2.2.2.2.1 z.2.2.2.1 (if isP toks z.2.2.2.1 [124]then jO toks z.1 z.2.1 (z.2.2.2.1+1)else .ok (z.2.1,z.2.2.2.1))) y c bad'->SPr (gd bad2 b2 (jO toks (toks.length+1-b2) [] b2)) y c bad')/\toks.length<=z.1+z.2.2.2.1/\PS h id (prS toks z.2.2.2.1 z.2.2.2.2.1) z.2.2.2.2.2/\KL h.length z.2.2.2.2.2.length z.2.2.2.2.2 z.2.2.1 2 (z.2.1.map qd.enc)/\z.2.1.length<=z.2.2.2.1+1/\z.2.2.2.1<=toks.length/\b2<=z.2.2.2.1/\∃kk nn,z.2.2.1=.slice 2 kk 0 nn false)
  (fun z=>(⟨[(0,.ptr id 0 0)],[(2,.agg [.str [],.nils]),(3,.agg [.str x1,z.2.2.1])],z.2.2.2.2.2⟩:VSt)) (fun z=>toks.length-z.2.2.2.1) (toks.length-b2,[⟨xc,fc⟩],.slice 2 kk 0 nn false,bc,badc,g5) (by kernel_rfl) ⟨e0,by simp only;omega,q5,by simpa using k5,by simp,lc,by simp only;omega,_,_,rfl⟩ (Can.sub (by simp[go_sem]) (by simp[go_sem])) ?_
 clear e0 k5 y5 z5 q5 oc qc sc;rintro⟨n,ks,w7,d,bd,g⟩ ⟨i1,i2,i3,i4,i5,i6,i7,kk,nn,rfl⟩;simp only at i1 i2 i3 i4 i5 i6 i7;have hl3:=i3.len;simp only[go_sem];refine qN ((wF (s:=[124]) K (.inl rfl) i3.at').mono ?_);rintro v0 h4 (⟨rfl,hc,rfl,r0⟩ | ⟨hc,rfl,rfl⟩)
 case inl=>
  have hlt:=qV hc;have hl4:=r0.len;simp only[go_sem];rw[hc,if_pos rfl,qp]at i1;obtain⟨n,rfl⟩:∃m,n=m+1:=⟨n-1,by omega⟩;have q0:=i3.trans r0;have i4:=i4.ps (nLr _) hid r0;refine qN ((JJ (k:=2) K hlt q0.at').mono ?_);rintro wc gc1 ⟨xc,bc1,badc1,sc1,mc1,lc1,rfl,rc1⟩;have hlc1:=rc1.len;simp only[go_sem];refine qN ((qS7 K lc1 (q0.trans rc1).at').mono ?_);rintro vc gc ⟨fc,bc,badc,sc2,mc2,lc,rc2,oc2⟩;have hlc2:=rc2.len;have qc:=(q0.trans rc1).trans rc2;have oc:Ow h4.length gc.length gc (.agg [.str xc,vc]) (qd.mk xc fc).enc:=(K5 oc2 hlc2).mono hlc1 (nLr _);have sc:SPr (gd false (d+1) (j0 toks (d+1))) ⟨xc,fc⟩ bc badc:=by unfold j0;exact sc1.bind (sc2.bind SPr.ret)
  simp only[go_sem];have hv:=oc2.cell1;simp only[hv,lCo,lNi,if_true,go_sem];refine zG (v:=.agg [.str xc,vc]) rfl rfl ?_;simp only[go_sem];have i4:=(i4.ps hl4 hid rc1).ps (by omega) hid rc2;have hlk:(ks.map qd.enc).length<4294967296:=by rw[lMp];have:=K.l;omega
  refine zx ((i4.mono (u2:=h4.length) hl4).push (by omega)) (oc.push (o:=.row 2 [.agg [.str xc,vc]] true) (nLr _)) (by simp) (by omega) (by omega) (by simp) hlk ?_;intro kk nn g6 k6 y6 z6;rw[zK]at z6;have q6:=qc.pushl hid (B:=h.length) (nLr _) y6 z6;simp only[go_sem];refine qf (n,ks++[⟨xc,fc⟩],.slice 2 kk 0 nn false,bc,badc,g6) ⟨fun y c bad' q=>i1 y c bad' ?_,by simp only;omega,q6,by simpa using k6,by simp;omega,lc,by simp only;omega,_,_,rfl⟩ (by simp only;omega) (Can.sub (by simp[go_sem]) (by simp[go_sem]));simp only[jO];rw[<-qp (a:=d+1) (r:=exB _ _)];exact sc.bind q
 simp only[go_sem];refine qK rfl rfl ⟨_,rfl⟩ (by decide) ?_;simp only[go_sem];refine⟨⟨x1,ks⟩,d,bd, ?_,by omega,i6,i3,qRV i4.ow hl3⟩;unfold J3;refine s1.bind (s2.bind (SPr.bind (i1 _ _ _ ?_) SPr.ret));cases bd
 ·have hc:isP toks d [124]=false:=hc;rw[hc,if_neg (by decide)];exact SPr.ret
 ·exact SPr.bd
end
end Go.Ab
namespace Go.Ab
open Go
set_option maxRecDepth 10000
set_option maxHeartbeats 2000000
theorem Ow.shapeD{b u:Nat}{h:List qB}{v:AV}{t:qL}(x:Ow b u h v t.enc):∃a0 a1,v=.agg [a0,a1]:=by
 obtain⟨S,x,_⟩:=x;unfold qL.enc at x;obtain⟨vs,rfl,y⟩:=x.aggs;have:=y.cnt
 match vs,this with
 |[a,b],_=>exact⟨a,b,rfl⟩
theorem Ow.shapeF{b u:Nat}{h:List qB}{v:AV}{t:qS}(x:Ow b u h v t.enc):∃a0 a1 a2 a3 a4 a5 a6 a7 a8 a9 a10 a11,v=.agg [a0,a1,a2,a3,a4,a5,a6,a7,a8,a9,a10,a11]:=by
 obtain⟨S,x,_⟩:=x;unfold qS.enc at x;obtain⟨vs,rfl,y⟩:=x.aggs;have:=y.cnt
 match vs,this with
 |[a,b,c,d,e,f,g,h,i,j,k,l],_=>exact⟨a,b,c,d,e,f,g,h,i,j,k,l,rfl⟩
section
variable {h:List qB} {id a b f:Nat} {toks:List qJ} {bad:Bool}
theorem qaR(K:qv toks)(ha:a<=toks.length)(ho:h[id]?=some (prS toks a bad)):SCall Gm 1017 [.ptr id 0 0] h (fun v h'=>RSa qS.enc toks id h (gd bad a (wv toks a)) a v h'):=by
 have hid:=zL ho;refine sI YK ?_;simp only[YK,qI,go_sem];refine qN ((JJ (k:=1) K ha ho).mono ?_);rintro w1 g1 ⟨x1,b1,bad1,s1,m1,l1,rfl,r1⟩;have hl1:=r1.len;simp only[go_sem];refine qK rfl rfl ⟨_,rfl⟩ (by decide) ?_;simp only[go_sem];refine qN ((jN (s:=[58]) K (.inl rfl) l1 r1.at').mono ?_);rintro w2 g2 ⟨b2,bad2,s2,m2,l2,r2⟩;have hl2:=r2.len;have q2:=r1.trans r2;simp only[go_sem];refine qN ((Xz K l2 q2.at').mono ?_);rintro v g3 ⟨ty,b3,bad3,s3,m3,l3,r3,o3⟩;have hl3:=r3.len;have q3:=q2.trans r3;obtain⟨v5,rfl,x5⟩:=o3.shapeT;simp only[go_sem];refine Qm (c':=.agg [.str x1,.int .i64 ty.Kind,.str ty.Name,v5,.int .i64 0,.int .i64 0,.str [],.int .i64 0,.str [],.nils,.nils,.nils]) rfl rfl ?_;simp only[go_sem];refine qN ((jN (s:=[61]) K (.inl rfl) l3 q3.at').mono ?_);rintro w4 g4 ⟨b4,bad4,s4,m4,l4,r4⟩;have hl4:=r4.len;have q4:=q3.trans r4;have x5:=x5.ps (nLr _) (by omega) r4;simp only[go_sem];refine qN ((Xy (f:=mJ toks .term b4) K (allS K _).term (fun _=>nLr _) l4 q4.at').mono ?_);rintro v g6 ⟨x,b6,bad6,s6,m6,l6,r6,o6⟩;have hl6:=r6.len;have q6:=q4.trans r6;have x5:=x5.ps (by omega) (by omega) r6;obtain⟨a0,a1,a2,a3,a4,a5,a6,a7,rfl⟩:=o6.shape;simp only[go_sem];refine Qm (c':=.agg [.str x1,.int .i64 ty.Kind,.str ty.Name,v5,a0,a1,a2,a3,a4,a5,a6,a7]) rfl rfl ?_;simp only[go_sem];refine qK rfl rfl ⟨_,rfl⟩ (by decide) ?_;simp only[go_sem];have x7:=qRW (s:=x1) (x5.mono (u':=g4.length) (nLr _) (by omega)) o6 (by omega) hl6;simp only[lCa,lNa]at x7;exact⟨⟨x1,ty,x⟩,b6,bad6,by unfold wv;exact s1.bind (s2.bind (s3.bind (s4.bind (s6.bind SPr.ret)))),by omega,l6,q6,x7.mono (by omega) (nLr _)⟩
theorem t633(K:qv toks)(ha:a<=toks.length)(ho:h[id]?=some (prS toks a bad)):SCall Gm 633 [.ptr id 0 0] h (fun v h'=>RSa qY.enc toks id h (gd bad a (jH toks a)) a v h'):=by
 have hid:=zL ho;refine sI V3 ?_;simp only[V3,qI,go_sem];refine qK rfl rfl ⟨_,rfl⟩ (by decide) ?_;simp only[go_sem];refine Sem.loop (fun s:Nat×List qL×AV×Nat×Bool×List qB=>(∀y c bad',SPr (gd s.2.2.2.2.1 s.2.2.2.1 (jn toks s.1 s.2.1 s.2.2.2.1)) y c bad'->SPr (gd bad a (jn toks (toks.length-a) [] a)) y c bad')/\toks.length<=s.1+s.2.2.2.1/\s.2.2.2.1<=toks.length/\a<=s.2.2.2.1/\PS h id (prS toks s.2.2.2.1 s.2.2.2.2.1) s.2.2.2.2.2/\KL h.length s.2.2.2.2.2.length s.2.2.2.2.2 s.2.2.1 2 (s.2.1.map qL.enc)/\s.2.1.length<=s.2.2.2.1)
  (fun s=>(⟨[(0,.ptr id 0 0)],[(2,.agg [.nils,.nils]),(3,.agg [s.2.2.1,.nils])],s.2.2.2.2.2⟩:VSt)) (fun s=>toks.length-s.2.2.2.1) (toks.length-a,[],.nils,a,bad,h) (by kernel_rfl) ⟨fun y c bad' q=>q,by simp only;omega,ha,nLr _,PS.refl ho,.inl ⟨rfl,rfl⟩,nZl _⟩ (Can.sub (by simp[go_sem]) (by simp[go_sem])) ?_
 rintro⟨n,ds,v0,c,bd,g⟩ ⟨i1,i2,i3,i4,i5,i6,i7⟩;simp only at i1 i2 i3 i4 i5 i6 i7;have hlg:=i5.len;simp only[go_sem];refine qN ((wF (s:=[100,97,116,97]) K (.inr rfl) i5.at').mono ?_);rintro v1 h4 (⟨rfl,hb,rfl,r0⟩ | ⟨hb,rfl,rfl⟩)
 case inl=>
  have hlt:=qV hb;have hl4:=r0.len;simp only[go_sem];obtain⟨n,rfl⟩:∃m,n=m+1:=⟨n-1,by omega⟩;simp only[jn,hb,if_true,qp]at i1;have q0:=i5.trans r0;have i6:=i6.ps (nLr _) hid r0;refine qN ((qaQ K hlt q0.at').mono ?_);rintro v g5 ⟨t5,b5,bad5,s5,m5,l5,r5,o5⟩;have hl5:=r5.len;have q5:=q0.trans r5;have i6:=i6.ps hl4 hid r5;obtain⟨w0,w1,rfl⟩:=o5.shapeD;simp only[go_sem];refine zG (v:=.agg [w0,w1]) rfl rfl ?_;simp only[go_sem];have hlk:(ds.map qL.enc).length<4294967296:=by rw[lMp];have:=K.l;omega
  refine zx ((i6.mono (u2:=h4.length) hl4).push hl5) (o5.push (o:=.row 2 [.agg [w0,w1]] true) (nLr _)) (by simp) (by omega) hl5 (by simp) hlk ?_;intro kk nn g6 k6 y6 z6;rw[zK]at z6;have q6:=q5.pushl hid (B:=h.length) (nLr _) y6 z6;simp only[go_sem];refine qf (n,ds++[t5],.slice 2 kk 0 nn false,b5,bad5,g6) ⟨fun y c bad' q=>i1 y c bad' ?_,by simp only;omega,l5,by simp only;omega,q6,by simpa using k6,by simp;omega⟩ (by simp only;omega) (Can.sub (by simp[go_sem]) (by simp[go_sem]));rw[<-qp (a:=c+1) (r:=exB _ _)];exact s5.bind q
 simp only[go_sem];have e1:SPr (gd bad a (jn toks (toks.length-a) [] a)) ds c bd:=i1 _ _ _ (by
  cases bd
  ·have hb:isP toks c [100,97,116,97]=false:=hb;cases n with
   | zero=>exact SPr.ret
   | succ n=>simp only[jn,hb,bFt,if_false];exact SPr.ret
  ·exact SPr.bd)
 clear i1;refine Sem.loop (fun s:Nat×List qS×AV×Nat×Bool×List qB=>(∀y c' bad',SPr (gd s.2.2.2.2.1 s.2.2.2.1 (wK toks s.1 s.2.1 s.2.2.2.1)) y c' bad'->SPr (gd bd c (wK toks (toks.length-c) [] c)) y c' bad')/\toks.length<=s.1+s.2.2.2.1/\s.2.2.2.1<=toks.length/\c<=s.2.2.2.1/\PS h id (prS toks s.2.2.2.1 s.2.2.2.2.1) s.2.2.2.2.2/\KL h.length g.length s.2.2.2.2.2 v0 2 (ds.map qL.enc)/\KL g.length s.2.2.2.2.2.length s.2.2.2.2.2 s.2.2.1 12 (s.2.1.map qS.enc)/\g.length<=s.2.2.2.2.2.length/\s.2.1.length<=s.2.2.2.1)
  (fun s=>(⟨[(0,.ptr id 0 0)],[(2,.agg [.nils,.nils]),(3,.agg [v0,s.2.2.1])],s.2.2.2.2.2⟩:VSt)) (fun s=>toks.length-s.2.2.2.1) (toks.length-c,[],.nils,c,bd,g) (by kernel_rfl) ⟨fun y c bad' q=>q,by simp only;omega,i3,nLr _,i5,i6,.inl ⟨rfl,rfl⟩,nLr _,nZl _⟩ (Can.sub (by simp[go_sem]) (by simp[go_sem])) ?_
 rintro⟨n,fs,v1,d,bd2,gg⟩ ⟨j1,j2,j3,j4,j5,j6,j7,j8,j9⟩;simp only at j1 j2 j3 j4 j5 j6 j7 j8 j9;simp only[go_sem];refine qN ((wF (s:=[100,101,102]) K (.inr rfl) j5.at').mono ?_);rintro v2 h4 (⟨rfl,hd,rfl,r0⟩ | ⟨hd,rfl,rfl⟩)
 case inl=>
  have hlt:=qV hd;have hl4:=r0.len;simp only[go_sem];obtain⟨n,rfl⟩:∃m,n=m+1:=⟨n-1,by omega⟩;simp only[wK,hd,if_true,qp]at j1;have q0:=j5.trans r0;have j6:=j6.ps (by omega) hid r0;have j7:=j7.ps (nLr _) (by omega) r0;refine qN ((qaR K hlt q0.at').mono ?_);rintro v g5 ⟨t5,b5,bad5,s5,m5,l5,r5,o5⟩;have hl5:=r5.len;have q5:=q0.trans r5;have j6:=j6.ps (by omega) hid r5;have j7:=j7.ps hl4 (by omega) r5;obtain⟨w0,w1,w2,w3,w4,w5,w6,w7,w8,w9,w10,w11,rfl⟩:=o5.shapeF;simp only[go_sem];refine zG (v:=.agg [w0,w1,w2,w3,w4,w5,w6,w7,w8,w9,w10,w11]) rfl rfl ?_;simp only[go_sem];have hlk:(fs.map qS.enc).length<4294967296:=by rw[lMp];have:=K.l;omega
  refine zx ((j7.mono (u2:=h4.length) hl4).push hl5) (o5.push (o:=.row 12 [.agg [w0,w1,w2,w3,w4,w5,w6,w7,w8,w9,w10,w11]] true) (nLr _)) (by simp) (by omega) hl5 (by simp) hlk ?_;intro kk nn g6 k6 y6 z6;rw[zK]at z6;have q6:=q5.pushl hid (B:=g.length) hlg y6 z6;have k6':KL h.length g.length g6 v0 2 (ds.map qL.enc):=(j6.push (o:=.row 12 [.agg [w0,w1,w2,w3,w4,w5,w6,w7,w8,w9,w10,w11]] true) (by omega)).to fun j h1 h2=>y6 j (by omega);simp only[go_sem];refine qf (n,fs++[t5],.slice 12 kk 0 nn false,b5,bad5,g6) ⟨fun y c bad' q=>j1 y c bad' ?_,by simp only;omega,l5,by simp only;omega,q6,k6',by simpa using k6,by simp only;omega,by simp;omega⟩ (by simp only;omega) (Can.sub (by simp[go_sem]) (by simp[go_sem]));rw[<-qp (a:=d+1) (r:=exB _ _)];exact s5.bind q
 simp only[go_sem];have e2:SPr (gd bd c (wK toks (toks.length-c) [] c)) fs d bd2:=j1 _ _ _ (by
  cases bd2
  ·have hd:isP toks d [100,101,102]=false:=hd;cases n with
   | zero=>exact SPr.ret
   | succ n=>simp only[wK,hd,bFt,if_false];exact SPr.ret
  ·exact SPr.bd)
 refine qK rfl rfl ⟨_,rfl⟩ (by decide) ?_;simp only[go_sem];exact⟨⟨ds,fs⟩,d,bd2,by unfold jH;exact e1.bind (e2.bind SPr.ret),by omega,j3,j5,K6 j6.ow j7.ow hlg j8⟩
end
end Go.Ab
namespace Go.Ab
open Go
set_option maxRecDepth 10000
set_option maxHeartbeats 2000000
def nmD(s:Str)(d:qL):Bool:=decide (d.Name=s)
def nmF(s:Str)(d:qS):Bool:=decide (d.Name=s)
mutual
def qC.kn(ds:List qL):qC->Bool
 |.mk k n ks=>(!(decide (k=2)&& !(ds.any (nmD n))))&& !qC.kns ds ks
def qC.kns(ds:List qL):List qC->Bool
 |[]=>false
 | x::xs=> !x.kn ds || qC.kns ds xs
end
theorem qC.kns_eq(ds:List qL):∀xs:List qC,qC.kns ds xs=xs.any fun y=> !y.kn ds
 |[]=>rfl
 | x::xs=>by rw[qC.kns,qC.kns_eq ds xs];rfl
theorem qC.kn_eq(ds:List qL)(x:qC):x.kn ds=((!(decide (x.Kind=2)&& !(ds.any (nmD x.Name))))&& !(x.Kids.any fun y=> !y.kn ds)):=by
 cases x;rw[qC.kn,qC.kns_eq];rfl
mutual
def qC.kr(ds:List qL):qC->Bool
 |.mk k n ks=>if k=2 then ds.any (nmD n)else !qC.krs ds ks
def qC.krs(ds:List qL):List qC->Bool
 |[]=>false
 | x::xs=> !x.kr ds || qC.krs ds xs
end
theorem qC.krs_eq(ds:List qL):∀xs:List qC,qC.krs ds xs=xs.any fun y=> !y.kr ds
 |[]=>rfl
 | x::xs=>by rw[qC.krs,qC.krs_eq ds xs];rfl
theorem qC.kr_eq(ds:List qL)(x:qC):x.kr ds=if x.Kind=2 then ds.any (nmD x.Name)else !(x.Kids.any fun y=> !y.kr ds):=by
 cases x;rw[qC.kr,qC.krs_eq];rfl
theorem qS0:∀{xs:List qC}{d s d1 s1:Nat},qC.shps xs d s=some (d1,s1)->∀y∈xs,y.shp.2.2=true
 |[],_,_,_,_,_,y,hy=>by cases hy
 | x::xs,d,s,d1,s1,h,y,hy=>by
  rw[qC.shps]at h;split at h
  ·rename_i he;rcases List.mem_cons.1 hy with rfl | hy
   ·rw[he]
   ·exact qS0 h y hy
  ·cases h
theorem qC.kr_kn(ds:List qL):∀x:qC,x.shp.2.2=true->x.kr ds=x.kn ds:=qC.ind fun x ih h=>by
 rw[qC.shp_eq]at h;split at h
 ·cases h
 rename_i d s he;simp only at h;have hk:=qS0 he;rw[qC.kr_eq,qC.kn_eq];by_cases k2:x.Kind=2
 ·have:x.Kids.length=0:=by
   unfold okT at h;rw[if_neg (by omega),if_pos k2]at h;simp only[bAt,dTe]at h;exact h.2.2
  have hn:x.Kids=[]:=List.length_eq_zero_iff.1 this;simp[k2,hn]
 ·simp only[if_neg k2,decide_eq_false k2,Bool.false_and,Bool.not_false,Bool.true_and];congr 1;rw[Bool.eq_iff_iff,List.any_eq_true,List.any_eq_true];constructor<;>rintro⟨y,hy,q⟩<;>refine⟨y,hy, ?_⟩<;>simpa[ih y hy (hk y hy)]using q
def JP(ds:List qL)(y:qC):Bool:= !ja y || !y.kn ds
def wJ(ds:List qL)(c:qd):Bool:=zT c.Name&&(decide (c.Fields.length<=3)&& !(c.Fields.any (JP ds)))
def JR(ds:List qL):List qd->List Str->Option (List Str)
 |[],sn=>some sn
 | c::cs,sn=>if wJ ds c&& !decide (c.Name∈sn)then JR ds cs (sn++[c.Name])else none
def jc(ds:List qL)(i:Nat)(d:qL):Bool:=zT d.Name&&(!decide (d.Name=[73,110,116])&&(!((ds.take i).any (nmD d.Name))&&(decide (1<=d.Cons.length)&&decide (d.Cons.length<=4))))
def we(ds:List qL):List qL->Nat->List Str->Bool
 |[],_,_=>true
 | d::r,i,sn=>jc ds i d&&match JR ds d.Cons sn with
  | none=>false
  | some sn'=>we ds r (i+1) sn'
def wA(ds:List qL):Bool:=decide (ds.length<=4)&&we ds ds 0 []
def wB(fs:List qS)(i:Nat)(d:qS):Bool:=zY d.Name&&(!decide (qw (nmF d.Name) fs 0<(i:Nat))&&(ja d.Typ&&JO d.Body))
def wf(fs:List qS):List qS->Nat->Bool
 |[],_=>true
 | d::r,i=>wB fs i d&&wf fs r (i+1)
def jQ(p:qY):Bool:=wA p.Datas&&(decide (1<=p.Defs.length)&&(decide (p.Defs.length<=8)&&wf p.Defs p.Defs 0))
theorem KU{α:Type}(p:α->Bool):∀(xs:List α)(k i:Nat),decide (k<=i)=true->i<k+xs.length->(∀(h:i-k<xs.length),p xs[i-k]=true)->qw p xs k<=(i:Nat)/\0<=qw p xs k
 |[],k,i,h1,h2,h3=>by have:=odT h1;simp at h2;omega
 | x::xs,k,i,h1,h2,h3=>by
  have h1:=odT h1;rw[qw];by_cases hp:p x=true
  ·rw[if_pos hp];omega
  ·rw[if_neg hp];rcases Nat.lt_or_ge k i with q | q
   ·refine KU p xs (k+1) i (decide_eq_true (by omega)) (by simp at h2;omega) fun h=> ?_;have:=h3 (by simp;omega);simpa[show i-k=(i-(k+1))+1 by omega]using this
   ·obtain rfl:k=i:=by omega
    have:=h3 (by simp);simp at this;exact absurd this hp
theorem qP6{α:Type}{p:α->Bool}{xs:List α}{i:Nat}(h:i<xs.length)(hp:p xs[i]=true):decide (qw p xs 0=(i:Nat))= !decide (qw p xs 0<(i:Nat)):=by
 have:=(KU p xs 0 i (decide_eq_true (by omega)) (by omega) fun _=>hp);by_cases q:qw p xs 0<(i:Nat)
 ·rw[decide_eq_true q,decide_eq_false (by omega)];rfl
 ·rw[decide_eq_false q,decide_eq_true (by omega)];rfl
theorem qP8{α:Type}{p:α->Bool}:∀{xs:List α}{i k:Nat},i<xs.length->decide (qw p xs k<((k+i:Nat):Int)/\0<=qw p xs k)=(xs.take i).any p
 |[],i,k,h=>by simp at h
 | x::xs,0,k,_=>by
  have:∀(xs:List α)(k:Nat),¬(qw p xs k<(k:Nat)/\0<=qw p xs k):=by
   intro xs
   induction xs with
   | nil=>intro k;simp[qw]
   | cons y ys ih=>
    intro k;rw[qw];split
    ·omega
    ·have:=ih (k+1);omega
  simpa using this (x::xs) k
 | x::xs,i+1,k,h=>by
  rw[List.take_succ_cons,List.any_cons,qw];by_cases hp:p x=true
  ·rw[if_pos hp,hp,Bool.true_or];exact decide_eq_true (by omega)
  ·rw[if_neg hp,Bool.eq_false_iff.2 hp,Bool.false_or,<-qP8 (xs:=xs) (i:=i) (k:=k+1) (by simpa using h),show k+1+i=k+(i+1) by omega]
theorem qXH{α:Type}{p:α->Bool}{xs:List α}{i:Nat}(h:i<xs.length)(hp:p xs[i]=true):decide (qw p xs 0=(i:Nat))= !((xs.take i).any p):=by
 rw[qP6 h hp,<-qP8 (k:=0) h];have:=(KU p xs 0 i (decide_eq_true (by omega)) (by omega) fun _=>hp);congr 1;rw[decide_eq_decide,nZa];omega
theorem qC.kids_nd{x y:qC}(h:y∈x.Kids)(hn:x.nd<=1048576):y.nd<=1048576:=by
 have:=ZP (f:=qC.nd) h;rw[qC.nd_eq]at hn;omega
theorem qC.kids_len{x:qC}(hn:x.nd<=1048576):x.Kids.length<=1048575:=by
 rw[qC.nd_wz,qC.wz_eq]at hn;omega
theorem qU0{d:qL}{s:Str}:Pure Gm 1430 [d.enc,.ept (.str s) 0] (.bool (nmD s d)):=by
 refine pJ Y5 ?_;simp only[Y5,qI,go_sem];refine zV rfl ?_;simp only[go_sem];exact qE rfl rfl
theorem qUZ{f:AV}(p:qL->Bool)(hft:f.tree=true)(xs:List qL)(hf:∀x∈xs,Zu Gm f [x.enc] (.bool (p x)))(hl:xs.length<=1048576):Pure Gm 1429 [.lst 2 (xs.map qL.enc) false,f] (.int .i64 (qw p xs 0)):=
 KT qL.isSh (gk _ qED) f p hft xs hf hl
theorem qOS{f:AV}(p:qC->Bool)(hft:f.tree=true)(xs:List qC)(hf:∀x∈xs,Zu Gm f [x.enc] (.bool (p x)))(hl:xs.length<=1048576):Pure Gm 1208 [.lst 3 (xs.map qC.enc) false,f] (.bool (xs.any p)):=
 qVT qC.isSh (gc:=1432) (gk _ qCM) (gk _ qEG) f p hft xs hf hl
theorem c891{f:AV}(p:qS->Bool)(hft:f.tree=true)(xs:List qS)(hf:∀x∈xs,Zu Gm f [x.enc] (.bool (p x)))(hl:xs.length<=1048576):Pure Gm 891 [.lst 12 (xs.map qS.enc) false,f] (.int .i64 (qw p xs 0)):=
 KT qS.isSh (gk _ F891) f p hft xs hf hl
theorem qOQ{ds:List qL}{s:Str}(hd:ds.length<=1048576):Pure Gm 1204 [.lst 2 (ds.map qL.enc) false,.str s] (.int .i64 (qw (nmD s) ds 0)):=by
 refine Pure.intro [3] [] (gk _ Yg) (by kernel_rfl) rfl (by simp[AV.trees,AV.tree,go_sem,zM qL.isSh.tree]) rfl ?_;simp only[Yg,qI,go_sem];refine JU rfl ?_;simp only[go_sem];simp only[go_sem,lNa,lCa,lSz,List.set_cons_succ];refine qG (qUZ (nmD s) (by simp[AV.tree,AV.trees]) _ (fun b _=>⟨1430,_,rfl,qU0⟩) hd) ?_;simp only[go_sem];exact qE rfl rfl
theorem qUR{ds:List qL}{y:qC}{b:Bool}(H:Pure Gm 892 [.lst 2 (ds.map qL.enc) false,y.enc] (.bool b)):Pure Gm 1209 [y.enc,.ept (.lst 2 (ds.map qL.enc) false) 0] (.bool (!b)):=by
 refine pI Yl (by simp[AV.trees,AV.tree,go_sem,zM qL.isSh.tree]) rfl ?_;simp only[Yl,qI,go_sem];refine zV qC.ln ?_;simp only[go_sem];refine qG H ?_;simp only[go_sem];exact qE rfl rfl
theorem c892(x:qC):∀(ds:List qL)(hd:ds.length<=1048576)(hn:x.nd<=1048576),Pure Gm 892 [.lst 2 (ds.map qL.enc) false,x.enc] (.bool (x.kn ds)):=by
 induction x using qC.ind with
 | _ x ih=>
 intro ds hd hn;refine Pure.intro [2] [] (gk _ UP) (by kernel_rfl) rfl (by simp[AV.trees,AV.tree,go_sem,zM qL.isSh.tree]) rfl ?_;simp only[UP,qI,go_sem];refine JU rfl ?_;simp only[go_sem];simp only[go_sem,lNa,lCa,lSz,List.set_cons_succ];refine zV qC.ln ?_;simp only[go_sem];have hq:=qC.kn_eq ds x;have hl:=qC.kids_len hn;have tl:∀{h:List qB},(x.kn ds= !(x.Kids.any fun y=> !y.kn ds))->Fin (some [.bool (!(x.Kids.any fun y=> !y.kn ds))]) h (.bool (x.kn ds)):=fun e=>qE rfl (by rw[e]);have K:=qOS (f:=.fn 1209 [.ept (.lst 2 (ds.map qL.enc) false) 0]) (fun y=> !y.kn ds) (by simp[AV.tree,AV.trees,zM qL.isSh.tree]) x.Kids (fun y hy=>⟨1209,_,rfl,qUR (ih y hy ds hd (qC.kids_nd hy hn))⟩) (by omega);by_cases k2:x.Kind=2
 ·simp only[decide_eq_true k2,go_sem];refine qG (qOQ hd) ?_;simp only[go_sem];have e:decide (qw (nmD x.Name) ds 0<0)= !(ds.any (nmD x.Name)):=by
   rw[<-ZL (nmD x.Name) ds 0];by_cases q:qw (nmD x.Name) ds 0<0
   ·rw[decide_eq_true q,decide_eq_false (by omega)];rfl
   ·rw[decide_eq_false q,decide_eq_true (by omega)];rfl
  simp only[e];cases ha:ds.any (nmD x.Name)
  ·simp only[Bool.not_false,go_sem];exact qE rfl (by rw[hq,ha];simp[k2])
  ·simp only[Bool.not_true,go_sem];refine qG K ?_;simp only[go_sem];exact tl (by rw[hq,ha];simp)
 ·simp only[decide_eq_false k2,go_sem];refine qG K ?_;simp only[go_sem];exact tl (by rw[hq];simp[k2])
theorem qU1{ds:List qL}{y:qC}(hd:ds.length<=1048576)(hb:y.bd)(hn:y.nd<=1048576):Pure Gm 1431 [y.enc,.ept (.lst 2 (ds.map qL.enc) false) 0] (.bool (JP ds y)):=by
 refine pI Y6 (by simp[AV.trees,AV.tree,go_sem,zM qL.isSh.tree]) rfl ?_;simp only[Y6,qI,go_sem];refine zV qC.ln ?_;simp only[go_sem];refine qG (c74 hb hn) ?_;simp only[go_sem];cases hv:ja y
 ·simp only[Bool.not_false,go_sem];exact qE rfl (by rw[JP,hv];rfl)
 ·simp only[Bool.not_true,go_sem];refine qG (c892 y ds hd hn) ?_;simp only[go_sem];exact qE rfl (by rw[JP,hv];rfl)
theorem qUP{ds:List qL}{c:qd}(hd:ds.length<=1048576)(hs:c.Name.length<=20000)(hl:c.Fields.length<=1048576)(hf:∀y∈c.Fields,y.bd/\y.nd<=1048576):Pure Gm 1205 [.lst 2 (ds.map qL.enc) false,c.enc] (.bool (wJ ds c)):=by
 refine Pure.intro [2] [] (gk _ Yh) (by kernel_rfl) rfl (by simp[AV.trees,AV.tree,go_sem,zM qL.isSh.tree]) rfl ?_;simp only[Yh,qI,go_sem];refine JU rfl ?_;simp only[go_sem];simp only[go_sem,lNa,lCa,lSz,List.set_cons_succ];refine zV qd.ln ?_;simp only[go_sem];refine qG (jm (by omega)) ?_;simp only[go_sem];cases hu:zT c.Name
 ·simp only[Bool.not_false,go_sem];exact qE rfl (by rw[wJ,hu];rfl)
 simp only[Bool.not_true,lMp,go_sem];by_cases h3:c.Fields.length<=3
 ·have e3:decide ((3:Int)<(c.Fields.length:Nat))=false:=decide_eq_false (by omega);simp only[gt_iff_lt,e3,go_sem];refine qG (qOS (f:=.fn 1431 [.ept (.lst 2 (ds.map qL.enc) false) 0]) (JP ds) (by simp[AV.tree,AV.trees,zM qL.isSh.tree]) c.Fields (fun y hy=>⟨1431,_,rfl,qU1 hd (hf y hy).1 (hf y hy).2⟩) (by omega)) ?_;simp only[go_sem];exact qE rfl (by rw[wJ,hu,decide_eq_true h3];rfl)
 ·have e3:decide ((3:Int)<(c.Fields.length:Nat))=true:=decide_eq_true (by omega);simp only[gt_iff_lt,e3,go_sem];exact qE rfl (by rw[wJ,hu,decide_eq_false h3];rfl)
theorem qUQ{d:qS}{s:Str}:Pure Gm 1207 [d.enc,.ept (.str s) 0] (.bool (nmF s d)):=by
 refine pJ Yj ?_;simp only[Yj,qI,go_sem];refine zV qS.ln ?_;simp only[go_sem];exact qE rfl rfl
theorem c890{p:qY}{s:Str}(hd:p.Defs.length<=1048576):Pure Gm 890 [p.enc,.str s] (.int .i64 (qw (nmF s) p.Defs 0)):=by
 refine Pure.intro [3] [] (gk _ UO) (by kernel_rfl) rfl (by simp[AV.trees,AV.tree,go_sem]) rfl ?_;simp only[UO,qI,go_sem];refine zV qY.ln ?_;simp only[go_sem];refine JU rfl ?_;simp only[go_sem];simp only[go_sem,lNa,lCa,lSz,List.set_cons_succ];refine qG (c891 (nmF s) (by simp[AV.tree,AV.trees]) _ (fun b _=>⟨1207,_,rfl,qUQ⟩) hd) ?_;simp only[go_sem];exact qE rfl rfl
end Go.Ab
namespace Go.Ab
open Go
set_option maxRecDepth 10000
set_option maxHeartbeats 2000000
def sE(sn:List Str):List (AV×AV):=sn.map fun k=>(AV.str k,AV.bool true)
theorem qYH{h:List qB}{id:Nat}{sn:List Str}{n:Str}(ho:h[id]?=some (.map (sE sn))):XQ h (.bool false) false (some (.map id)) (some (.str n))=some (.bool (decide (n∈sn))):=by
 rw[qYG ho,Kj];by_cases q:n∈sn
 ·obtain⟨j,e⟩:=qPV (v:=fun _=>AV.bool true) (i:=0) q;rw[sE,e,decide_eq_true q];rfl
 ·rw[sE,KH (v:=fun _=>AV.bool true) q,decide_eq_false q];rfl
def DB(ds:List qL):Prop:=ds.length<=1048576/\∀d∈ds,d.Name.length<=20000/\d.Cons.length<=1048576/\∀c∈d.Cons,c.Name.length<=20000/\c.Fields.length<=1048576/\∀y∈c.Fields,y.bd/\y.nd<=1048576
theorem qY.db{p:qY}(hb:p.bd)(hn:p.wz<=1048575):DB p.Datas:=by
 unfold qY.wz at hn;refine⟨by omega,fun d hd=> ?_⟩;have h1:=ZP (f:=qL.wz) hd;have b1:=hb.1 d hd;have w1:d.wz=d.Cons.length+qP qd.wz d.Cons:=rfl;refine⟨b1.1,by omega,fun c hc=> ?_⟩;have h2:=ZP (f:=qd.wz) hc;have b2:=b1.2 c hc;have w2:c.wz=c.Fields.length+qP qC.wz c.Fields:=rfl;refine⟨b2.1,by omega,fun y hy=>⟨b2.2 y hy, ?_⟩⟩;have h3:=ZP (f:=qC.wz) hy;rw[qC.nd_wz];omega
theorem c888{ds:List qL}(B:DB ds):Pure Gm 888 [.lst 2 (ds.map qL.enc) false] (.bool (wA ds)):=by
 refine pI UM (by simp[AV.trees,AV.tree,go_sem,zM qL.isSh.tree]) rfl ?_;simp only[UM,qI,go_sem];by_cases h4:ds.length<=4
 case neg=>
  have e4:decide ((4:Int)<(ds.length:Nat))=true:=decide_eq_true (by omega);simp only[gt_iff_lt,e4,go_sem];exact qE rfl (by rw[wA,decide_eq_false h4];rfl)
 have e4:decide ((4:Int)<(ds.length:Nat))=false:=decide_eq_false (by omega);simp only[gt_iff_lt,e4,go_sem];have hq:wA ds=we ds ds 0 []:=by rw[wA,decide_eq_true h4,Bool.true_and]
 refine Sem.loop (fun a:Nat×List Str=>a.1<=ds.length/\we ds ds 0 []=we ds (ds.drop a.1) a.1 a.2)
  (fun a=>(⟨[(0,.lst 2 (ds.map qL.enc) false),(3,.map 0),(12,.lst 2 (ds.map qL.enc) false),(13,.int .i64 ds.length),(14,.int .i64 (a.1:Nat))],[],[.map (sE a.2)]⟩:VSt)) (fun a=>ds.length-a.1) (0,[]) (by kernel_rfl) ⟨nZl _,by simp⟩ (Can.sub (by simp[go_sem]) (by simp[go_sem,sE])) ?_
 rintro⟨i,sn⟩ ⟨hi,hI⟩;simp only at hi hI;simp only[go_sem];apply zd<;>intro hc<;>simp only[hc,go_sem]
 ·have hlt:i<ds.length:=by have:=odT hc;omega
  simp only[gMp,gEg hlt,oMs,go_sem];refine qK rfl qL.ln (by exact⟨_,rfl⟩) (by decide) ?_;simp only[go_sem];have hm:=gMm hlt;have hdr:ds.drop i=ds[i]::ds.drop (i+1):=by simp
  rw[hdr,we]at hI;obtain⟨b1,b2,b3⟩:=B.2 _ hm;generalize hdd:ds[i]=d at*;have bad:∀{h:List qB},jc ds i d=false->Fin (some [.bool false]) h (.bool (wA ds)):=fun e=>qE rfl (by rw[hq,hI,e];rfl);refine qG (jm (by omega)) ?_;simp only[go_sem];cases hu:zT d.Name
  ·simp only[Bool.not_false,go_sem];exact bad (by rw[jc,hu];rfl)
  simp only[Bool.not_true,go_sem];by_cases hi2:d.Name=[73,110,116]
  ·simp only[decide_eq_true hi2,go_sem];exact bad (by rw[jc,decide_eq_true hi2,hu];rfl)
  simp only[decide_eq_false hi2,go_sem];refine kD (xs:=ds.map qL.enc) (i:=i) rfl rfl (by simp;omega) ?_;simp only[<-List.map_take,go_sem];refine qG (qOQ (ds:=ds.take i) (by simp;omega)) ?_;simp only[go_sem];simp only[ZL];cases ha:(ds.take i).any (nmD d.Name)
  case true=>
   simp only[go_sem];exact bad (by rw[jc,ha,hu,decide_eq_false hi2];rfl)
  simp only[lMp,go_sem];by_cases h1:1<=d.Cons.length
  case neg=>
   have e1:decide (((d.Cons.length:Nat):Int)<1)=true:=decide_eq_true (by omega);simp only[e1,go_sem];exact bad (by rw[jc,ha,hu,decide_eq_false hi2,decide_eq_false h1];rfl)
  have e1:decide (((d.Cons.length:Nat):Int)<1)=false:=decide_eq_false (by omega);simp only[e1,go_sem];by_cases h5:d.Cons.length<=4
  case neg=>
   have e5:decide ((4:Int)<(d.Cons.length:Nat))=true:=decide_eq_true (by omega);simp only[gt_iff_lt,e5,go_sem];exact bad (by rw[jc,ha,hu,decide_eq_false hi2,decide_eq_true h1,decide_eq_false h5];rfl)
  have e5:decide ((4:Int)<(d.Cons.length:Nat))=false:=decide_eq_false (by omega);simp only[gt_iff_lt,e5,go_sem];have hok:jc ds i d=true:=by rw[jc,ha,hu,decide_eq_false hi2,decide_eq_true h1,decide_eq_true h5];rfl
  rw[hok,Bool.true_and]at hI;clear bad;refine Sem.loop (fun a:Nat×List Str=>a.1<=d.Cons.length/\JR ds d.Cons sn=JR ds (d.Cons.drop a.1) a.2)
   (fun a=>(⟨[(0,.lst 2 (ds.map qL.enc) false),(3,.map 0),(12,.lst 2 (ds.map qL.enc) false),(13,.int .i64 ds.length),(14,.int .i64 (i:Nat)),(50,.lst 2 (d.Cons.map qd.enc) false),(51,.int .i64 d.Cons.length),(52,.int .i64 (a.1:Nat))],[],[.map (sE a.2)]⟩:VSt)) (fun a=>d.Cons.length-a.1) (0,sn) (by kernel_rfl) ⟨nZl _,by simp⟩ (Can.sub (by simp[go_sem]) (by simp[go_sem])) ?_
  rintro⟨j,s2⟩ ⟨hj,hJ⟩;simp only at hj hJ;simp only[go_sem];apply zd<;>intro hc<;>simp only[hc,go_sem]
  ·have hlj:j<d.Cons.length:=by have:=odT hc;omega
   simp only[gMp,gEg hlj,oMs,go_sem];refine qK rfl qd.ln (by exact⟨_,rfl⟩) (by decide) ?_;simp only[go_sem];have hmc:=gMm hlj;have hcr:d.Cons.drop j=d.Cons[j]::d.Cons.drop (j+1):=by simp
   rw[hcr,JR]at hJ;obtain⟨q1,q2,q3⟩:=b3 _ hmc;generalize hcc:d.Cons[j]=c at*;have bad:∀{h:List qB},(wJ ds c&& !decide (c.Name∈s2))=false->Fin (some [.bool false]) h (.bool (wA ds)):=fun e=>by
    rw[e,if_neg (by decide)]at hJ;exact qE rfl (by rw[hq,hI,hJ])
   refine qG (qUP B.1 q1 q2 q3) ?_;simp only[go_sem];cases ho:wJ ds c
   ·simp only[Bool.not_false,go_sem];exact bad (by rw[ho];rfl)
   simp only[Bool.not_true,go_sem];rw[qYH (sn:=s2) rfl];simp only[go_sem];by_cases hs:c.Name∈s2
   ·simp only[decide_eq_true hs,go_sem];exact bad (by rw[ho,decide_eq_true hs];rfl)
   simp only[decide_eq_false hs,go_sem];refine qYO rfl (KH (v:=fun _=>AV.bool true) hs) ?_;simp only[go_sem];rw[ho,decide_eq_false hs,Bool.not_false,Bool.and_self,if_pos rfl]at hJ;simp only[zC (show j<4611686018427387904 by omega)];have eh:[qB.map (sE s2)].set 0 (qB.map (sE s2++[(AV.str c.Name,AV.bool true)]))=[qB.map (sE (s2++[c.Name]))]:=by simp[sE]
   rw[eh];exact qf (j+1,s2++[c.Name]) ⟨by simp only;omega,hJ⟩ (by simp only;omega) (Can.sub (by simp[go_sem]) (by simp[go_sem]))
  ·obtain rfl:j=d.Cons.length:=by have:=odF hc;omega
   rw[List.drop_length,JR]at hJ;rw[hJ]at hI;simp only[zC (show i<4611686018427387904 by omega)];exact qf (i+1,s2) ⟨by simp only;omega,hI⟩ (by simp only;omega) (Can.sub (by simp[go_sem]) (by simp[go_sem,sE]))
 ·obtain rfl:i=ds.length:=by have:=odF hc;omega
  rw[List.drop_length,we]at hI;exact qE rfl (by rw[hq,hI])
end Go.Ab
namespace Go.Ab
open Go
set_option maxRecDepth 10000
set_option maxHeartbeats 2000000
theorem badR{ds:List qL}{y:qC}:(!ja y || !y.kr ds)=JP ds y:=by
 unfold JP;cases hv:ja y
 ·rfl
 ·rw[qC.kr_kn ds y];unfold ja at hv;rw[bAt]at hv;exact hv.1
def SnL(h:List qB)(v:AV)(sn:List Str):Prop:=(sn=[]/\v=.lst 1 [] true)\/∃k,v=.slice 1 k 0 sn.length false/\h[k]?=some (.row 1 (sn.map qW) true)/\sn≠[]
theorem qOT{ds:List qL}{s:Str}(hd:ds.length<=1048576):Pure Gm 1238 [.lst 2 (ds.map qL.enc) false,.str s] (.int .i64 (qw (nmD s) ds 0)):=by
 refine pI Yo (by simp[AV.trees,AV.tree,go_sem,zM qL.isSh.tree]) rfl ?_;simp only[Yo,qI,go_sem];refine Sem.loop (fun i:Nat=>i<=ds.length/\qw (nmD s) ds 0=qw (nmD s) (ds.drop i) i) (fun i=>(⟨[(0,.lst 2 (ds.map qL.enc) false),(1,.str s),(5,.int .i64 (i:Nat))],[],[]⟩:VSt)) (fun i=>ds.length-i) 0 (by kernel_rfl) ⟨nZl _,by simp⟩ (Can.sub (by simp[go_sem]) (by simp[go_sem])) ?_;rintro i ⟨hi,hI⟩;simp only[go_sem];apply zd<;>intro hc<;>simp only[hc,go_sem]
 ·have hlt:i<ds.length:=by have:=odT hc;omega
  simp only[gMp,gEg hlt,oMs,go_sem];have hdr:ds.drop i=ds[i]::ds.drop (i+1):=by simp
  rw[hdr,qw]at hI;generalize hdd:ds[i]=d at*;by_cases hn:d.Name=s
  ·simp only[decide_eq_true hn,go_sem];exact qE rfl (by rw[hI,nmD,decide_eq_true hn];rfl)
  ·simp only[decide_eq_false hn,go_sem];simp only[zC (show i<4611686018427387904 by omega)];refine qf (i+1) ⟨by omega, ?_⟩ (by omega) (Can.sub (by simp[go_sem]) (by simp[go_sem]));rw[hI,nmD,decide_eq_false hn];rfl
 ·obtain rfl:i=ds.length:=by have:=odF hc;omega
  exact qE rfl (by rw[hI];simp[qw])
theorem c916{ds:List qS}{s:Str}(hd:ds.length<=1048576):Pure Gm 916 [.lst 12 (ds.map qS.enc) false,.str s] (.int .i64 (qw (nmF s) ds 0)):=by
 refine pI UT (by simp[AV.trees,AV.tree,go_sem,zM qS.isSh.tree]) rfl ?_;simp only[UT,qI,go_sem];refine Sem.loop (fun i:Nat=>i<=ds.length/\qw (nmF s) ds 0=qw (nmF s) (ds.drop i) i) (fun i=>(⟨[(0,.lst 12 (ds.map qS.enc) false),(1,.str s),(5,.int .i64 (i:Nat))],[],[]⟩:VSt)) (fun i=>ds.length-i) 0 (by kernel_rfl) ⟨nZl _,by simp⟩ (Can.sub (by simp[go_sem]) (by simp[go_sem])) ?_;rintro i ⟨hi,hI⟩;simp only[go_sem];apply zd<;>intro hc<;>simp only[hc,go_sem]
 ·have hlt:i<ds.length:=by have:=odT hc;omega
  simp only[gMp,gEg hlt,oMs,go_sem];have hdr:ds.drop i=ds[i]::ds.drop (i+1):=by simp
  rw[hdr,qw]at hI;generalize hdd:ds[i]=d at*;by_cases hn:d.Name=s
  ·simp only[decide_eq_true hn,go_sem];exact qE rfl (by rw[hI,nmF,decide_eq_true hn];rfl)
  ·simp only[decide_eq_false hn,go_sem];simp only[zC (show i<4611686018427387904 by omega)];refine qf (i+1) ⟨by omega, ?_⟩ (by omega) (Can.sub (by simp[go_sem]) (by simp[go_sem]));rw[hI,nmF,decide_eq_false hn];rfl
 ·obtain rfl:i=ds.length:=by have:=odF hc;omega
  exact qE rfl (by rw[hI];simp[qw])
theorem c917(x:qC):∀(ds:List qL)(hd:ds.length<=1048576)(hn:x.nd<=1048576),Pure Gm 917 [.lst 2 (ds.map qL.enc) false,x.enc] (.bool (x.kr ds)):=by
 induction x using qC.ind with
 | _ x ih=>
 intro ds hd hn;refine pI UU (by simp[AV.trees,AV.tree,go_sem,zM qL.isSh.tree]) rfl ?_;simp only[UU,qI,go_sem];refine zV qC.ln ?_;simp only[go_sem];have hq:=qC.kr_eq ds x;have hl:=qC.kids_len hn;by_cases k2:x.Kind=2
 ·simp only[decide_eq_true k2,go_sem];refine qG (qOT hd) ?_;simp only[go_sem];exact qE rfl (by rw[hq,if_pos k2,ZL])
 simp only[decide_eq_false k2,go_sem];rw[if_neg k2]at hq;refine Sem.loop (fun i:Nat=>i<=x.Kids.length/\(x.Kids.any fun y=> !y.kr ds)=((x.Kids.drop i).any fun y=> !y.kr ds)) (fun i=>(⟨[(0,.lst 2 (ds.map qL.enc) false),(5,.int .i64 (i:Nat))],[(3,x.enc)],[]⟩:VSt)) (fun i=>x.Kids.length-i) 0 (by kernel_rfl) ⟨nZl _,by simp⟩ (Can.sub (by simp[go_sem]) (by simp[go_sem])) ?_;rintro i ⟨hi,hI⟩;simp only[go_sem];apply zd<;>intro hc<;>simp only[hc,go_sem]
 ·have hlt:i<x.Kids.length:=by have:=odT hc;omega
  simp only[gMp,gEg hlt,oMs,go_sem];have hm:=gMm hlt;have hdr:x.Kids.drop i=x.Kids[i]::x.Kids.drop (i+1):=by simp
  rw[hdr,List.any_cons]at hI;refine qG (ih _ hm ds hd (qC.kids_nd hm hn)) ?_;simp only[go_sem];cases hk:x.Kids[i].kr ds
  ·simp only[Bool.not_false,go_sem];exact qE rfl (by rw[hq,hI,hk];rfl)
  ·simp only[Bool.not_true,go_sem];simp only[zC (show i<4611686018427387904 by omega)];refine qf (i+1) ⟨by omega, ?_⟩ (by omega) (Can.sub (by simp[go_sem]) (by simp[go_sem]));rw[hI,hk];rfl
 ·obtain rfl:i=x.Kids.length:=by have:=odF hc;omega
  exact qE rfl (by rw[hq,hI];simp)
theorem qU2{ds:List qL}{c:qd}(hd:ds.length<=1048576)(hs:c.Name.length<=20000)(hl:c.Fields.length<=1048576)(hf:∀y∈c.Fields,y.bd/\y.nd<=1048576):Pure Gm 1439 [.lst 2 (ds.map qL.enc) false,c.enc] (.bool (wJ ds c)):=by
 refine pI Y7 (by simp[AV.trees,AV.tree,go_sem,zM qL.isSh.tree]) rfl ?_;simp only[Y7,qI,go_sem];refine zV qd.ln ?_;simp only[go_sem];refine qG (Je (by omega)) ?_;simp only[go_sem];cases hu:zT c.Name
 ·simp only[Bool.not_false,go_sem];exact qE rfl (by rw[wJ,hu];rfl)
 simp only[Bool.not_true,lMp,go_sem];by_cases h3:c.Fields.length<=3
 case neg=>
  have e3:decide ((3:Int)<(c.Fields.length:Nat))=true:=decide_eq_true (by omega);simp only[gt_iff_lt,e3,go_sem];exact qE rfl (by rw[wJ,hu,decide_eq_false h3];rfl)
 have e3:decide ((3:Int)<(c.Fields.length:Nat))=false:=decide_eq_false (by omega);simp only[gt_iff_lt,e3,go_sem];have hq:wJ ds c= !(c.Fields.any (JP ds)):=by rw[wJ,hu,decide_eq_true h3];rfl
 refine Sem.loop (fun i:Nat=>i<=c.Fields.length/\c.Fields.any (JP ds)=(c.Fields.drop i).any (JP ds)) (fun i=>(⟨[(0,.lst 2 (ds.map qL.enc) false),(5,.int .i64 (i:Nat))],[(3,c.enc)],[]⟩:VSt)) (fun i=>c.Fields.length-i) 0 (by kernel_rfl) ⟨nZl _,by simp⟩ (Can.sub (by simp[go_sem]) (by simp[go_sem])) ?_;rintro i ⟨hi,hI⟩;simp only[go_sem];apply zd<;>intro hc<;>simp only[hc,go_sem]
 ·have hlt:i<c.Fields.length:=by have:=odT hc;omega
  simp only[gMp,gEg hlt,oMs,go_sem];have hm:=gMm hlt;have hdr:c.Fields.drop i=c.Fields[i]::c.Fields.drop (i+1):=by simp
  rw[hdr,List.any_cons,<-badR]at hI;refine qG (Uw (hf _ hm).1 (hf _ hm).2) ?_;simp only[go_sem];cases hv:ja c.Fields[i]
  ·simp only[Bool.not_false,go_sem];exact qE rfl (by rw[hq,hI,hv];rfl)
  simp only[Bool.not_true,go_sem];simp only[gMp,gEg hlt,oMs,go_sem];refine qG (c917 _ ds hd (hf _ hm).2) ?_;simp only[go_sem];cases hk:c.Fields[i].kr ds
  ·simp only[Bool.not_false,go_sem];exact qE rfl (by rw[hq,hI,hv,hk];rfl)
  ·simp only[Bool.not_true,go_sem];simp only[zC (show i<4611686018427387904 by omega)];refine qf (i+1) ⟨by omega, ?_⟩ (by omega) (Can.sub (by simp[go_sem]) (by simp[go_sem]));rw[hI,hv,hk];rfl
 ·obtain rfl:i=c.Fields.length:=by have:=odF hc;omega
  exact qE rfl (by rw[hq,hI];simp)
end Go.Ab
namespace Go.Ab
open Go
set_option maxRecDepth 10000
set_option maxHeartbeats 2000000
theorem SnL.push{h:List qB}{v:AV}{sn:List Str}{o:qB}(x:SnL h v sn):SnL (h++[o]) v sn:=by
 rcases x with x | ⟨k,h1,h2,h3⟩
 ·exact .inl x
 ·exact .inr ⟨k,h1,by rw[gAl (zL h2)];exact h2,h3⟩
theorem SnL.ln{h:List qB}{v:AV}{sn:List Str}(x:SnL h v sn):ZR (some v)=some (.int .i64 (sn.length:Nat)):=by
 rcases x with⟨rfl,rfl⟩ | ⟨k,rfl,_⟩<;>rfl
theorem SnL.ix{h:List qB}{v:AV}{sn:List Str}(x:SnL h v sn){k:Nat}(hk:k<sn.length):∃id,idx 1 (some v) (some (.int .i64 (k:Nat)))=some (.ptr id k 0)/\WF h none (some (.ptr id k 0))=some (.str sn[k]):=by
 rcases x with⟨rfl,rfl⟩ | ⟨id,rfl,h1,_⟩
 ·simp at hk
 ·refine⟨id,by rw[qP7 hk,nZa], ?_⟩;simp only[h1,go_sem,gMp,gEg hk,oMs];rfl
theorem qT4{E:Ev}{l:List qA}{ks:List Fr1}{s m:qj}{h:List qB}{Q:qR->VSt->Prop}{v:AV}{sn:List Str}{n:Str}{d id:Nat}{c2:Bool}(x:SnL h v sn)(h2:h[id]?=some (.row 1 [qW n] true))(hl:sn.length<4294967296)
  (hr:∀v' h',SnL h' v' (sn++[n])->R E (.ops l::ks) ⟨(d,v')::s,m,h'⟩ Q):wm E 1 (some d) (some v) (some (.slice 1 id 0 1 c2)) l ks ⟨s,m,h⟩ Q:=by
 rcases x with⟨rfl,rfl⟩ | ⟨k,rfl,h1,h3⟩
 ·refine Ul (ys:=[qW n]) (Els.row h2 rfl) (by simp) ?_;exact hr _ _ (.inr ⟨h.length,rfl,by simp,by simp⟩)
 ·refine Zy (el:=sn.map qW) h2 h1 (by simp) hl ?_;refine hr _ _ (.inr ⟨h.length, ?_, ?_,by simp⟩)
  ·simp
  ·rw[show h.length=(h.set k .dead).length from by simp,gCl];simp
theorem qUS{ds:List qL}(B:DB ds):Pure Gm 1236 [.lst 2 (ds.map qL.enc) false] (.bool (wA ds)):=by
 refine pI Ym (by simp[AV.trees,AV.tree,go_sem,zM qL.isSh.tree]) rfl ?_;simp only[Ym,qI,go_sem];by_cases h4:ds.length<=4
 case neg=>
  have e4:decide ((4:Int)<(ds.length:Nat))=true:=decide_eq_true (by omega);simp only[gt_iff_lt,e4,go_sem];exact qE rfl (by rw[wA,decide_eq_false h4];rfl)
 have e4:decide ((4:Int)<(ds.length:Nat))=false:=decide_eq_false (by omega);simp only[gt_iff_lt,e4,go_sem];have hq:wA ds=we ds ds 0 []:=by rw[wA,decide_eq_true h4,Bool.true_and]
 refine Sem.loop (fun a:Nat×List Str×AV×List qB=>a.1<=ds.length/\we ds ds 0 []=we ds (ds.drop a.1) a.1 a.2.1/\SnL a.2.2.2 a.2.2.1 a.2.1/\a.2.1.length<=4*a.1)
  (fun a=>(⟨[(0,.lst 2 (ds.map qL.enc) false),(3,a.2.2.1),(4,.int .i64 (a.1:Nat))],[],a.2.2.2⟩:VSt)) (fun a=>ds.length-a.1) (0,[],.lst 1 [] true,[]) (by kernel_rfl) ⟨nZl _,by simp,.inl ⟨rfl,rfl⟩,by simp⟩ (Can.sub (by simp[go_sem]) (by simp[go_sem])) ?_
 rintro⟨i,sn,v,h⟩ ⟨hi,hI,hS,hN⟩;simp only at hi hI hS hN;simp only[lMp,go_sem];apply zd<;>intro hc<;>simp only[hc,go_sem]
 ·have hlt:i<ds.length:=by have:=odT hc;omega
  simp only[gMp,gEg hlt,oMs,go_sem];refine qK rfl qL.ln (by exact⟨_,rfl⟩) (by decide) ?_;simp only[go_sem];have hm:=gMm hlt;have hdr:ds.drop i=ds[i]::ds.drop (i+1):=by simp
  rw[hdr,we]at hI;obtain⟨b1,b2,b3⟩:=B.2 _ hm;have hix:=qXH (p:=nmD ds[i].Name) hlt (by simp[nmD]);generalize hdd:ds[i]=d at*;have bad:∀{h:List qB},jc ds i d=false->Fin (some [.bool false]) h (.bool (wA ds)):=fun e=>qE rfl (by rw[hq,hI,e];rfl);refine qG (Je (by omega)) ?_;simp only[go_sem];cases hu:zT d.Name
  ·simp only[Bool.not_false,go_sem];exact bad (by rw[jc,hu];rfl)
  simp only[Bool.not_true,go_sem];by_cases hi2:d.Name=[73,110,116]
  ·simp only[decide_eq_true hi2,go_sem];exact bad (by rw[jc,decide_eq_true hi2,hu];rfl)
  simp only[decide_eq_false hi2,go_sem];refine qG (qOT B.1) ?_;simp only[go_sem];simp only[hix];cases ha:(ds.take i).any (nmD d.Name)
  case true=>
   simp only[Bool.not_true,Bool.not_false,go_sem];exact bad (by rw[jc,ha,hu,decide_eq_false hi2];rfl)
  simp only[Bool.not_true,Bool.not_false,lMp,go_sem];by_cases h1:1<=d.Cons.length
  case neg=>
   have e1:decide (((d.Cons.length:Nat):Int)<1)=true:=decide_eq_true (by omega);simp only[e1,go_sem];exact bad (by rw[jc,ha,hu,decide_eq_false hi2,decide_eq_false h1];rfl)
  have e1:decide (((d.Cons.length:Nat):Int)<1)=false:=decide_eq_false (by omega);simp only[e1,go_sem];by_cases h5:d.Cons.length<=4
  case neg=>
   have e5:decide ((4:Int)<(d.Cons.length:Nat))=true:=decide_eq_true (by omega);simp only[gt_iff_lt,e5,go_sem];exact bad (by rw[jc,ha,hu,decide_eq_false hi2,decide_eq_true h1,decide_eq_false h5];rfl)
  have e5:decide ((4:Int)<(d.Cons.length:Nat))=false:=decide_eq_false (by omega);simp only[gt_iff_lt,e5,go_sem];have hok:jc ds i d=true:=by rw[jc,ha,hu,decide_eq_false hi2,decide_eq_true h1,decide_eq_true h5];rfl
  rw[hok,Bool.true_and]at hI;clear bad;refine Sem.loop (fun a:Nat×List Str×AV×List qB=>a.1<=d.Cons.length/\JR ds d.Cons sn=JR ds (d.Cons.drop a.1) a.2.1/\SnL a.2.2.2 a.2.2.1 a.2.1/\a.2.1.length<=4*i+a.1)
   (fun a=>(⟨[(0,.lst 2 (ds.map qL.enc) false),(3,a.2.2.1),(4,.int .i64 (i:Nat)),(6,.int .i64 (a.1:Nat))],[(5,d.enc)],a.2.2.2⟩:VSt)) (fun a=>d.Cons.length-a.1) (0,sn,v,h) (by kernel_rfl) ⟨nZl _,by simp,hS,by simp only;omega⟩ (Can.sub (by simp[go_sem]) (by simp[go_sem])) ?_
  rintro⟨j,s2,v2,h2⟩ ⟨hj,hJ,hS2,hN2⟩;simp only at hj hJ hS2 hN2;simp only[lMp,go_sem];apply zd<;>intro hc<;>simp only[hc,go_sem]
  ·have hlj:j<d.Cons.length:=by have:=odT hc;omega
   simp only[gMp,gEg hlj,oMs,go_sem];have hmc:=gMm hlj;have hcr:d.Cons.drop j=d.Cons[j]::d.Cons.drop (j+1):=by simp
   rw[hcr,JR]at hJ;obtain⟨q1,q2,q3⟩:=b3 _ hmc;have bad:∀{h:List qB},(wJ ds d.Cons[j]&& !decide (d.Cons[j].Name∈s2))=false->Fin (some [.bool false]) h (.bool (wA ds)):=fun e=>by
    rw[e,if_neg (by decide)]at hJ;exact qE rfl (by rw[hq,hI,hJ])
   refine qG (qU2 B.1 q1 q2 q3) ?_;simp only[go_sem];cases ho:wJ ds d.Cons[j]
   ·simp only[Bool.not_false,go_sem];exact bad (by rw[ho];rfl)
   simp only[Bool.not_true,go_sem];refine Sem.loop (fun k:Nat=>k<=s2.length/\decide (d.Cons[j].Name∈s2)=decide (d.Cons[j].Name∈s2.drop k))
    (fun k=>(⟨[(0,.lst 2 (ds.map qL.enc) false),(3,v2),(4,.int .i64 (i:Nat)),(6,.int .i64 (j:Nat)),(7,.int .i64 (k:Nat))],[(5,d.enc)],h2⟩:VSt)) (fun k=>s2.length-k) 0 (by kernel_rfl) ⟨nZl _,by simp⟩ (Can.sub (by simp[go_sem]) (by simp[go_sem])) ?_
   rintro k ⟨hk,hK⟩;simp only[go_sem];simp only[hS2.ln,go_sem];apply zd<;>intro hc<;>simp only[hc,go_sem]
   ·have hlk:k<s2.length:=by have:=odT hc;omega
    obtain⟨id,x1,x2⟩:=hS2.ix hlk;simp only[x1,x2,go_sem];simp only[gMp,gEg hlj,oMs,go_sem];have hkr:s2.drop k=s2[k]::s2.drop (k+1):=by simp
    rw[hkr]at hK;by_cases he:s2[k]=d.Cons[j].Name
    ·simp only[decide_eq_true he,go_sem];have hmm:d.Cons[j].Name∈s2:=he▸gMm hlk;exact bad (by rw[ho,decide_eq_true hmm];rfl)
    ·simp only[decide_eq_false he,go_sem];simp only[zC (show k<4611686018427387904 by omega)];refine qf (k+1) ⟨by omega, ?_⟩ (by omega) (Can.sub (by simp[go_sem]) (by simp[go_sem]));rw[hK,decide_eq_decide,List.mem_cons];exact⟨fun q=>q.resolve_left fun e=>he e.symm,.inr⟩
   ·obtain rfl:k=s2.length:=by have:=odF hc;omega
    rw[List.drop_length,decide_eq_false (by simp:¬d.Cons[j].Name∈([]:List Str))]at hK;rw[ho,hK,Bool.not_false,Bool.and_self,if_pos rfl]at hJ;simp only[gMp,gEg hlj,oMs,go_sem];refine zG (v:=.str d.Cons[j].Name) rfl rfl ?_;simp only[go_sem];refine qT4 (n:=d.Cons[j].Name) hS2.push (by rw[gCl];rfl) (by omega) fun v' h' hS'=> ?_;simp only[go_sem];simp only[zC (show j<4611686018427387904 by omega)];exact qf (j+1,s2++[d.Cons[j].Name],v',h') ⟨by simp only;omega,hJ,hS',by simp;omega⟩ (by simp only;omega) (Can.sub (by simp[go_sem]) (by simp[go_sem]))
  ·obtain rfl:j=d.Cons.length:=by have:=odF hc;omega
   rw[List.drop_length,JR]at hJ;rw[hJ]at hI;simp only[zC (show i<4611686018427387904 by omega)];exact qf (i+1,s2,v2,h2) ⟨by simp only;omega,hI,hS2,by simp only;omega⟩ (by simp only;omega) (Can.sub (by simp[go_sem]) (by simp[go_sem]))
 ·obtain rfl:i=ds.length:=by have:=odF hc;omega
  rw[List.drop_length,we]at hI;exact qE rfl (by rw[hq,hI])
end Go.Ab
namespace Go.Ab
open Go
set_option maxRecDepth 10000
set_option maxHeartbeats 2000000
def FB(fs:List qS):Prop:=fs.length<=1048576/\∀d∈fs,d.Name.length<=20000/\(d.Typ.bd/\d.Typ.nd<=1048576)/\d.Body.bd/\d.Body.wz<=1048575
theorem qY.fb{p:qY}(hb:p.bd)(hn:p.wz<=1048575):FB p.Defs:=by
 unfold qY.wz at hn;refine⟨by omega,fun d hd=> ?_⟩;have h1:=ZP (f:=qS.wz) hd;have b1:=hb.2 d hd;have w1:d.wz=d.Typ.wz+d.Body.wz:=rfl;exact⟨b1.1,⟨b1.2.1,by rw[qC.nd_wz];omega⟩,b1.2.2,by omega⟩
theorem c527{p:qY}(hb:p.bd)(hn:p.wz<=1048575):Pure Gm 527 [p.enc] (.bool (jQ p)):=by
 refine pJ Vs ?_;simp only[Vs,qI,go_sem];have B:=qY.db hb hn;have F:=qY.fb hb hn;refine zV qY.ln ?_;simp only[go_sem];refine qG (c888 B) ?_;simp only[go_sem];cases hd:wA p.Datas
 ·simp only[Bool.not_false,go_sem];exact qE rfl (by rw[jQ,hd];rfl)
 simp only[Bool.not_true,lMp,go_sem];by_cases h1:1<=p.Defs.length
 case neg=>
  have e1:decide (((p.Defs.length:Nat):Int)<1)=true:=decide_eq_true (by omega);simp only[e1,go_sem];exact qE rfl (by rw[jQ,hd,decide_eq_false h1];rfl)
 have e1:decide (((p.Defs.length:Nat):Int)<1)=false:=decide_eq_false (by omega);simp only[e1,go_sem];by_cases h8:p.Defs.length<=8
 case neg=>
  have e5:decide ((8:Int)<(p.Defs.length:Nat))=true:=decide_eq_true (by omega);simp only[gt_iff_lt,e5,go_sem];exact qE rfl (by rw[jQ,hd,decide_eq_true h1,decide_eq_false h8];rfl)
 have e5:decide ((8:Int)<(p.Defs.length:Nat))=false:=decide_eq_false (by omega);simp only[gt_iff_lt,e5,go_sem];have hq:jQ p=wf p.Defs p.Defs 0:=by rw[jQ,hd,decide_eq_true h1,decide_eq_true h8];rfl
 refine Sem.loop (fun i:Nat=>i<=p.Defs.length/\wf p.Defs p.Defs 0=wf p.Defs (p.Defs.drop i) i) (fun i=>(⟨[(22,.lst 12 (p.Defs.map qS.enc) false),(23,.int .i64 p.Defs.length),(24,.int .i64 (i:Nat))],[(1,p.enc)],[]⟩:VSt)) (fun i=>p.Defs.length-i) 0 (by kernel_rfl) ⟨nZl _,by simp⟩ (Can.sub (by simp[go_sem]) (by simp[go_sem])) ?_;rintro i ⟨hi,hI⟩;simp only[go_sem];apply zd<;>intro hc<;>simp only[hc,go_sem]
 ·have hlt:i<p.Defs.length:=by have:=odT hc;omega
  simp only[gMp,gEg hlt,oMs,go_sem];refine qK rfl qS.ln (by exact⟨_,rfl⟩) (by decide) ?_;simp only[go_sem];have hm:=gMm hlt;have hdr:p.Defs.drop i=p.Defs[i]::p.Defs.drop (i+1):=by simp
  rw[hdr,wf]at hI;obtain⟨b1,b2,b3,b4⟩:=F.2 _ hm;generalize hdd:p.Defs[i]=d at*;have bad:∀{h:List qB},wB p.Defs i d=false->Fin (some [.bool false]) h (.bool (jQ p)):=fun e=>qE rfl (by rw[hq,hI,e];rfl);refine qG (jz (by omega)) ?_;simp only[go_sem];cases hu:zY d.Name
  ·simp only[Bool.not_false,go_sem];exact bad (by rw[wB,hu];rfl)
  simp only[Bool.not_true,go_sem];refine qG (c890 (p:=p) F.1) ?_;simp only[go_sem];by_cases hx:qw (nmF d.Name) p.Defs 0<(i:Nat)
  ·simp only[decide_eq_true hx,go_sem];exact bad (by rw[wB,hu,decide_eq_true hx];rfl)
  simp only[decide_eq_false hx,go_sem];refine qG (c74 b2.1 b2.2) ?_;simp only[go_sem];cases hv:ja d.Typ
  ·simp only[Bool.not_false,go_sem];exact bad (by rw[wB,hu,decide_eq_false hx,hv];rfl)
  simp only[Bool.not_true,go_sem];refine qG (c144 b3 b4) ?_;simp only[go_sem];cases hw:JO d.Body
  ·simp only[Bool.not_false,go_sem];exact bad (by rw[wB,hu,decide_eq_false hx,hv,hw];rfl)
  simp only[Bool.not_true,go_sem];have hok:wB p.Defs i d=true:=by rw[wB,hu,decide_eq_false hx,hv,hw];rfl
  rw[hok,Bool.true_and]at hI;simp only[zC (show i<4611686018427387904 by omega)];exact qf (i+1) ⟨by omega,hI⟩ (by omega) (Can.sub (by simp[go_sem]) (by simp[go_sem]))
 ·obtain rfl:i=p.Defs.length:=by have:=odF hc;omega
  rw[List.drop_length,wf]at hI;exact qE rfl (by rw[hq,hI])
theorem c915{p:qY}(hb:p.bd)(hn:p.wz<=1048575):Pure Gm 915 [.ept p.enc 0] (.bool (jQ p)):=by
 refine pJ US ?_;simp only[US,qI,go_sem];have B:=qY.db hb hn;have F:=qY.fb hb hn;refine qG (qUS B) ?_;simp only[go_sem];cases hd:wA p.Datas
 ·simp only[Bool.not_false,go_sem];exact qE rfl (by rw[jQ,hd];rfl)
 simp only[Bool.not_true,lMp,go_sem];refine qG J1 ?_;simp only[go_sem];have e18:(decide ((1:Int)<=(p.Defs.length:Nat))&&decide (((p.Defs.length:Nat):Int)<=8))=(decide (1<=p.Defs.length)&&decide (p.Defs.length<=8)):=by
  congr 1<;>rw[decide_eq_decide]<;>omega
 rw[e18];cases hl:(decide (1<=p.Defs.length)&&decide (p.Defs.length<=8))
 ·simp only[Bool.not_false,go_sem];exact qE rfl (by rw[jQ,hd,<-Bool.and_assoc (decide (1<=p.Defs.length)),hl];rfl)
 simp only[Bool.not_true,go_sem];have hq:jQ p=wf p.Defs p.Defs 0:=by rw[jQ,hd,<-Bool.and_assoc (decide (1<=p.Defs.length)),hl];rfl
 have hl2:=F.1;refine Sem.loop (fun i:Nat=>i<=p.Defs.length/\wf p.Defs p.Defs 0=wf p.Defs (p.Defs.drop i) i) (fun i=>(⟨[(0,.ept p.enc 0),(3,.int .i64 (i:Nat))],[],[]⟩:VSt)) (fun i=>p.Defs.length-i) 0 (by kernel_rfl) ⟨nZl _,by simp⟩ (Can.sub (by simp[go_sem]) (by simp[go_sem])) ?_;rintro i ⟨hi,hI⟩;simp only[go_sem];apply zd<;>intro hc<;>simp only[hc,go_sem]
 ·have hlt:i<p.Defs.length:=by have:=odT hc;omega
  simp only[gMp,gEg hlt,oMs,go_sem];have hm:=gMm hlt;have hdr:p.Defs.drop i=p.Defs[i]::p.Defs.drop (i+1):=by simp
  rw[hdr,wf]at hI;have hix:=qP6 (p:=nmF p.Defs[i].Name) hlt (by simp[nmF]);obtain⟨b1,b2,b3,b4⟩:=F.2 _ hm;generalize hdd:p.Defs[i]=d at*;have bad:∀{h:List qB},wB p.Defs i d=false->Fin (some [.bool false]) h (.bool (jQ p)):=fun e=>qE rfl (by rw[hq,hI,e];rfl);refine qG (Qb (by omega)) ?_;simp only[go_sem];cases hu:zY d.Name
  ·simp only[Bool.not_false,go_sem];exact bad (by rw[wB,hu];rfl)
  simp only[Bool.not_true,go_sem];refine qG (c916 F.1) ?_;simp only[go_sem];simp only[hix];cases hx:decide (qw (nmF d.Name) p.Defs 0<(i:Nat))
  case true=>
   simp only[Bool.not_true,Bool.not_false,go_sem];exact bad (by rw[wB,hu,hx];rfl)
  simp only[Bool.not_true,Bool.not_false,go_sem];refine qG (Uw b2.1 b2.2) ?_;simp only[go_sem];cases hv:ja d.Typ
  ·simp only[Bool.not_false,go_sem];exact bad (by rw[wB,hu,hx,hv];rfl)
  simp only[Bool.not_true,go_sem];refine qG (Pure.lk0 (sh:=some 8) qS.tr qS.q4 (by rw[qD.ln];decide) (c350 b3 b4)) ?_;simp only[go_sem];cases hw:JO d.Body
  ·simp only[Bool.not_false,go_sem];exact bad (by rw[wB,hu,hx,hv,hw];rfl)
  simp only[Bool.not_true,go_sem];have hok:wB p.Defs i d=true:=by rw[wB,hu,hx,hv,hw];rfl
  rw[hok,Bool.true_and]at hI;simp only[zC (show i<4611686018427387904 by omega)];exact qf (i+1) ⟨by omega,hI⟩ (by omega) (Can.sub (by simp[go_sem]) (by simp[go_sem]))
 ·obtain rfl:i=p.Defs.length:=by have:=odF hc;omega
  rw[List.drop_length,wf]at hI;exact qE rfl (by rw[hq,hI])
theorem c624{p:qY}(hb:p.bd)(hn:p.wz<=1048575):Pure Gm 624 [p.enc] (.bool (jQ p)):=by
 refine Pure.intro [1] [] (gk _ V0) (by kernel_rfl) rfl (by simp[AV.trees,AV.tree,go_sem]) rfl ?_;simp only[V0,qI,go_sem];refine JU qY.ln ?_;simp only[lNa,lSz,go_sem];refine qG (c915 hb hn) ?_;simp only[go_sem];exact qE rfl rfl
end Go.Ab
namespace Go.Ab
open Go
set_option maxRecDepth 10000
set_option maxHeartbeats 2000000
section
variable {toks:List qJ}
theorem qTN(hx:∀x∈toks,x.Text.length<=20000):∀(n:Nat){acc r:List qC}{a b:Nat},jg toks n acc a=.ok (r,b)->∃gs,r=acc++gs/\(∀y∈gs,y.bd)/\gs.length+qP qC.wz gs+2*a<=2*b/\b<=toks.length
 | 0,acc,r,a,b,h=>by cases h
 | n+1,acc,r,a,b,h=>by
  rw[jg]at h;obtain⟨t,b1,e1,h⟩:=qm h;have p1:=jP _ _ _ e1;obtain⟨p2,p3⟩:=K8 hx _ _ _ e1;have p4:=t.nd_wz;by_cases hc:isP toks b1 [44]=true
  ·rw[if_pos hc]at h;obtain⟨gs,rfl,q1,q2,q3⟩:=qTN hx n h;refine⟨t::gs,by simp,fun y hy=> ?_,by simp only[qP,lCo];omega,q3⟩;rcases List.mem_cons.1 hy with rfl | hy
   ·exact p2
   ·exact q1 y hy
  ·rw[if_neg hc]at h;obtain⟨_,b2,e2,h⟩:=qm h;cases h;have p5:=jU e2;exact⟨[t],rfl,by simpa using p2,by simp only[qP,lCo,lNi];omega,p5.2.2.1⟩
theorem qbD(hx:∀x∈toks,x.Text.length<=20000){a b:Nat}{r:List qC}(ha:a<=toks.length)(h:wH toks a=.ok (r,b)):(∀y∈r,y.bd)/\r.length+qP qC.wz r+2*a<=2*b/\b<=toks.length:=by
 unfold wH at h;split at h
 ·obtain⟨gs,rfl,q1,q2,q3⟩:=qTN hx _ h;exact⟨q1,by first | omega | (simp only[lNa];omega),q3⟩
 ·cases h;exact⟨by simp,by simp[qP],ha⟩
theorem qVH(hx:∀x∈toks,x.Text.length<=20000){a b:Nat}{c:qd}(h:j0 toks a=.ok (c,b)):c.bd/\2+c.wz+2*a<=2*b/\b<=toks.length:=by
 unfold j0 at h;obtain⟨s,b1,e1,h⟩:=qm h;obtain⟨fs,b2,e2,h⟩:=qm h;cases h;obtain⟨p1,p2,p3,x,hm,_,_,rfl⟩:=ji e1;obtain⟨q1,q2,q3⟩:=qbD hx p2 e2;exact⟨⟨hx x hm,q1⟩,by unfold qd.wz;simp only;omega,q3⟩
theorem qPB(hx:∀x∈toks,x.Text.length<=20000):∀(n:Nat){acc r:List qd}{a b:Nat},jO toks n acc a=.ok (r,b)->∃gs,r=acc++gs/\(∀y∈gs,y.bd)/\gs.length+qP qd.wz gs+2*a<=2*b/\b<=toks.length
 | 0,acc,r,a,b,h=>by cases h
 | n+1,acc,r,a,b,h=>by
  rw[jO]at h;obtain⟨t,b1,e1,h⟩:=qm h;obtain⟨p1,p2,p3⟩:=qVH hx e1;by_cases hc:isP toks b1 [124]=true
  ·rw[if_pos hc]at h;obtain⟨gs,rfl,q1,q2,q3⟩:=qPB hx n h;refine⟨t::gs,by simp,fun y hy=> ?_,by simp only[qP,lCo];omega,q3⟩;rcases List.mem_cons.1 hy with rfl | hy
   ·exact p1
   ·exact q1 y hy
  ·rw[if_neg hc]at h;cases h;exact⟨[t],rfl,by simpa using p1,by simp only[qP,lCo,lNi];omega,p3⟩
theorem qVU(hx:∀x∈toks,x.Text.length<=20000){a b:Nat}{c:qL}(h:J3 toks a=.ok (c,b)):c.bd/\2+c.wz+2*a<=2*b/\b<=toks.length:=by
 unfold J3 at h;obtain⟨s,b1,e1,h⟩:=qm h;obtain⟨_,b2,e2,h⟩:=qm h;obtain⟨fs,b3,e3,h⟩:=qm h;cases h;obtain⟨p1,p2,p3,x,hm,_,_,rfl⟩:=ji e1;have p5:=jU e2;obtain⟨gs,rfl,q1,q2,q3⟩:=qPB hx _ e3;exact⟨⟨hx x hm,q1⟩,by unfold qL.wz;simp only[lNa];omega,q3⟩
theorem qPG(hx:∀x∈toks,x.Text.length<=20000):∀(n:Nat){acc r:List qL}{a b:Nat},a<=toks.length->jn toks n acc a=.ok (r,b)->∃gs,r=acc++gs/\(∀y∈gs,y.bd)/\gs.length+qP qL.wz gs+2*a<=2*b/\b<=toks.length
 | 0,acc,r,a,b,ha,h=>by cases h;exact⟨[],by simp,by simp,by simp[qP],ha⟩
 | n+1,acc,r,a,b,ha,h=>by
  rw[jn]at h;split at h
  ·obtain⟨t,b1,e1,h⟩:=qm h;obtain⟨p1,p2,p3⟩:=qVU hx e1;obtain⟨gs,rfl,q1,q2,q3⟩:=qPG hx n p3 h;refine⟨t::gs,by simp,fun y hy=> ?_,by simp only[qP,lCo];omega,q3⟩;rcases List.mem_cons.1 hy with rfl | hy
   ·exact p1
   ·exact q1 y hy
  ·cases h;exact⟨[],by simp,by simp,by simp[qP],ha⟩
theorem qVX(hx:∀x∈toks,x.Text.length<=20000){a b:Nat}{c:qS}(h:wv toks a=.ok (c,b)):c.bd/\2+c.wz+2*a<=2*b/\b<=toks.length:=by
 unfold wv at h;obtain⟨s,b1,e1,h⟩:=qm h;obtain⟨_,b2,e2,h⟩:=qm h;obtain⟨t,b3,e3,h⟩:=qm h;obtain⟨_,b4,e4,h⟩:=qm h;obtain⟨y,b5,e5,h⟩:=qm h;cases h;obtain⟨p1,p2,p3,x,hm,_,_,rfl⟩:=ji e1;have p5:=jU e2;have p6:=jP _ _ _ e3;obtain⟨p7,p8⟩:=K8 hx _ _ _ e3;have p9:=t.nd_wz;have p10:=jU e4;obtain⟨r1,r2,r3,r4⟩:=jX hx _ .term _ trivial p10.2.2.1 e5;simp only[Jb.bs,Jb.str]at r1 r4;exact⟨⟨hx x hm,p7,r3⟩,by unfold qS.wz;simp only;omega,r2⟩
theorem qPK(hx:∀x∈toks,x.Text.length<=20000):∀(n:Nat){acc r:List qS}{a b:Nat},a<=toks.length->wK toks n acc a=.ok (r,b)->∃gs,r=acc++gs/\(∀y∈gs,y.bd)/\gs.length+qP qS.wz gs+2*a<=2*b/\b<=toks.length
 | 0,acc,r,a,b,ha,h=>by cases h;exact⟨[],by simp,by simp,by simp[qP],ha⟩
 | n+1,acc,r,a,b,ha,h=>by
  rw[wK]at h;split at h
  ·obtain⟨t,b1,e1,h⟩:=qm h;obtain⟨p1,p2,p3⟩:=qVX hx e1;obtain⟨gs,rfl,q1,q2,q3⟩:=qPK hx n p3 h;refine⟨t::gs,by simp,fun y hy=> ?_,by simp only[qP,lCo];omega,q3⟩;rcases List.mem_cons.1 hy with rfl | hy
   ·exact p1
   ·exact q1 y hy
  ·cases h;exact⟨[],by simp,by simp,by simp[qP],ha⟩
theorem qR7(K:qv toks)(hl:toks.length<=20000){x:qY}{b:Nat}(h:jH toks 0=.ok (x,b)):x.bd/\x.wz<=1048575:=by
 unfold jH at h;obtain⟨ds,b1,e1,h⟩:=qm h;obtain⟨fs,b2,e2,h⟩:=qm h;cases h;obtain⟨gs,rfl,p1,p2,p3⟩:=qPG K.x _ (nZl _) e1;obtain⟨gs',rfl,q1,q2,q3⟩:=qPK K.x _ p3 e2;exact⟨⟨p1,q1⟩,by unfold qY.wz;simp only[lNa];omega⟩
end
theorem Ow.shapeP{b u:Nat}{h:List qB}{v:AV}{t:qY}(x:Ow b u h v t.enc):∃a0 a1,v=.agg [a0,a1]:=by
 obtain⟨S,x,_⟩:=x;unfold qY.enc at x;obtain⟨vs,rfl,y⟩:=x.aggs;have hl:=y.cnt
 match vs,hl with
 |[u0,u1],_=>exact⟨_,_,rfl⟩
def jv:qY:=⟨[],[]⟩
def zB(t:Str):qY×Int×Int:=if (qn t).2.2=0 then
  (match jH (qn t).1 0 with
  |.error b=>(jv,(nxt (qn t).1 b t.length).At,6)
  |.ok (x,b)=>if b<(qn t).1.length then(jv,(nxt (qn t).1 b t.length).At,6)else if jQ x then(x,0,0)else(jv,0,1))
 else(jv,(qn t).2.1,(qn t).2.2)
def jY(t:Str):AV:=.tup [(zB t).1.enc,.int .i64 (zB t).2.1,.int .i64 (zB t).2.2]
theorem qZF{t:Str}:(jY t).pl=true:=by simp[jY,AV.pl,AV.pls,qY.plx]
theorem qRY{S:List (Option Nat)}{h:List qB}{v:AV}{x:qY}{a c:Int}(o:qq S h v x.enc):qq S h (.tup [v,.int .i64 a,.int .i64 c]) (.tup [x.enc,.int .i64 a,.int .i64 c]):=by
 have h1:=o.one.scal (a:=.int .i64 a) (fun _=>rfl) rfl rfl;have h2:=h1.scal (a:=.int .i64 c) (fun _=>rfl) rfl rfl;exact h2.tup
theorem qR1{h:List qB}:∃S,qq S h (.agg [.nils,.nils]) jv.enc:=by
 obtain⟨S,q,_⟩:=K6 (b:=0) (m:=0) (u:=0) (h:=h) (ds:=[]) (fs:=[]) Ow.nils Ow.nils (nLr _) (nLr _);exact⟨S,q⟩
theorem YC{h:List qB}{t:Str}{a c:Int}(e:zB t=(jv,a,c)):∃S,qq S h (.tup [.agg [.nils,.nils],.int .i64 a,.int .i64 c]) (jY t):=by
 obtain⟨S,q⟩:=qR1 (h:=h);exact⟨S,by unfold jY;rw[e];exact qRY q⟩
theorem qU6{t:Str}:SCall Gm 628 [.str t,.fn 629 [],.fn 527 []] [] fun v h'=>∃S,qq S h' v (jY t):=by
 refine SCall.try g628 rfl (by kernel_rfl) ?_;simp only[Ws,qI,go_sem];refine qG c266 ?_;simp only[go_sem];by_cases hc:(qn t).2.2=0
 case neg=>
  simp only[decide_eq_false hc,Bool.not_false,go_sem];refine qK rfl rfl ⟨_,rfl⟩ (by decide) ?_;simp only[go_sem];exact YC (by rw[zB,if_neg hc])
 simp only[decide_eq_true hc,Bool.not_true,go_sem];refine⟨by simp[get],by first | rfl | trivial, ?_⟩;refine JU rfl ?_;simp only[go_sem];have hl:=kS (t:=t);have K:=okTk (t:=t);have er:zB t=match jH (qn t).1 0 with
  |.error b=>(jv,(nxt (qn t).1 b t.length).At,6)
  |.ok (x,b)=>if b<(qn t).1.length then(jv,(nxt (qn t).1 b t.length).At,6)else if jQ x then(x,0,0)else(jv,0,1):=by rw[zB,if_pos hc]
 generalize (qn t).1=toks at*;refine qT ((n629 (e:=t.length) (id:=0) K (nZl _) rfl).mono ?_ ?_)
 ·rintro v h1 ⟨x,b,q1,q2,q3⟩;rw[q1]at er;simp only at er;obtain⟨a0,a1,rfl⟩:=q3.shapeP;obtain⟨S,q3,_⟩:=q3;have ho:=q2.at';unfold prI at ho;simp only[go_sem];refine qK rfl rfl ⟨_,rfl⟩ (by decide) ?_;simp only[go_sem,ho,oMs,lMp];by_cases hlt:b<toks.length
  ·rw[if_pos hlt]at er;refine qbA (congrArg (fun q=>some (AV.bool q)) (decide_eq_true (by omega))) ?_;simp only[go_sem];refine qT ((WM q2.at').mono (fun _ _ q=>q.elim) ?_);rintro v2 h2 ⟨rfl,rfl⟩;rw[qZC];refine qTL rfl rfl ?_;simp only[go_sem];refine qK rfl rfl ⟨_,rfl⟩ (by decide) ?_;simp only[go_sem];exact YC er
  ·rw[if_neg hlt]at er;refine qa9 (congrArg (fun q=>some (AV.bool q)) (decide_eq_false (by omega))) ?_;simp only[go_sem];obtain⟨g1,g2⟩:=qR7 K hl q1;refine Uz (vs':=[x.enc]) (Cvs.cons (q3.cv (qY.cnx x)) Cvs.nil) (c527 g1 g2) rfl ?_;simp only[go_sem];cases hv:jQ x
   ·rw[hv]at er;simp only[Bool.not_false,go_sem];refine qK rfl rfl ⟨_,rfl⟩ (by decide) ?_;simp only[go_sem];exact YC er
   ·rw[hv]at er;simp only[Bool.not_true,go_sem];refine qK rfl rfl ⟨_,rfl⟩ (by decide) ?_;simp only[go_sem];exact⟨S,by unfold jY;rw[er];exact qRY q3⟩
 ·rintro v h1 ⟨b,q1,rfl⟩;rw[q1]at er;simp only at er;rw[qa8];refine qTL rfl rfl ?_;simp only[go_sem];refine qK rfl rfl ⟨_,rfl⟩ (by decide) ?_;simp only[go_sem];exact YC er
theorem qZA{S:List (Option Nat)}{h:List qB}{v:AV}{x:qY}{a c:Int}(o:qq S h v (.tup [x.enc,.int .i64 a,.int .i64 c])):∃a0 a1,v=.tup [.agg [a0,a1],.int .i64 a,.int .i64 c]:=by
 have q:=o.v;simp only[lay]at q;obtain⟨cs,hcs,p⟩:=q.tups;clear q;unfold qY.enc at p;simp only[qa,lay]at p;have hl:=p.1
 match cs,hl,p,hcs with
 |[u0,u1,u2],_,p,hcs=>
  obtain⟨p0,p'⟩:=p.hd;obtain⟨p1,p''⟩:=p'.hd;obtain⟨p2,_⟩:=p''.hd;obtain⟨ds,hds,r0⟩:=p0.aggs;have hl:=r0.1;have e1:=p1.int;have e2:=p2.int;subst e1;subst e2;subst hds;subst hcs
  match ds,hl with
  |[y0,y1],_=>exact⟨y0,y1,rfl⟩
theorem n264{t:Str}:Fresh Gm 264 [.str t] (jY t):=by
 refine Fresh.ofS rfl qZF ?_;refine sI Vb ?_;simp only[Vb,qI,go_sem];refine qN (qU6.mono ?_);rintro v h' ⟨S,q⟩;obtain⟨a0,a1,rfl⟩:=qZA (by unfold jY at q;exact q);simp only[go_sem];refine qK rfl rfl ⟨_,rfl⟩ (by decide) ?_;simp only[go_sem];exact⟨S,q⟩
theorem c267{t:Str}:Pure Gm 267 [.str t] (jY t):=by
 refine pI Vd (by simp[AV.trees,AV.tree,go_sem]) (by simp[jY,AV.tree,AV.trees,qY.tr]) ?_;simp only[Vd,qI,go_sem];have er0:zB t=if (qn t).2.2=0 then
  (match jH (qn t).1 0 with
  |.error b=>(jv,(nxt (qn t).1 b t.length).At,6)
  |.ok (x,b)=>if b<(qn t).1.length then(jv,(nxt (qn t).1 b t.length).At,6)else if jQ x then(x,0,0)else(jv,0,1))
  else(jv,(qn t).2.1,(qn t).2.2):=rfl
 have zz:∀{h:List qB}{a c:Int},Cv h (.tup [.agg [.nils,.nils],.int .i64 a,.int .i64 c]) (.tup [jv.enc,.int .i64 a,.int .i64 c]):=fun{h a c}=>by
  obtain⟨S,q⟩:=qR1 (h:=h);exact Cvs.tup (Cvs.cons (q.cv (qY.cnx jv)) (Cvs.cons (.refl rfl) (Cvs.cons (.refl rfl) Cvs.nil)))
 refine qN (n358.mono ?_);intro v h' hq;by_cases hc:(qn t).2.2=0
 case neg=>
  rw[if_neg hc]at hq er0;obtain⟨rfl,rfl⟩:=hq;simp only[decide_eq_false hc,Bool.not_false,go_sem];refine qK rfl rfl ⟨_,rfl⟩ (by decide) ?_;simp only[go_sem];refine JA ?_;unfold jY;rw[er0];exact zz
 rw[if_pos hc]at hq er0;obtain⟨rfl,rfl⟩:=hq;have K:=okTk (t:=t);simp only[decide_true,Bool.not_true,go_sem];refine qN ((t633 (id:=0) (bad:=false) K (nZl _) rfl).mono ?_);rintro v h1 ⟨x,b,bad,q1,_,_,q2,q3⟩;rw[qp]at q1;obtain⟨a0,a1,rfl⟩:=q3.shapeP;obtain⟨S,q3,_⟩:=q3;simp only[go_sem];refine qK rfl rfl ⟨_,rfl⟩ (by decide) ?_;simp only[go_sem];refine qZ rfl (n360 q2.at' K.l) ?_;have hbad:wx (qn t).1 b bad=true->zB t=(jv,(nxt (qn t).1 b t.length).At,6):=fun q=>by
  rw[er0];cases e:jH (qn t).1 0 with
  | ok y=>
   rw[e]at q1;obtain⟨rfl,rfl,rfl⟩:=q1;have:y.2<(qn t).1.length:=by simpa[wx]using q
   simp only[this,if_true]
  | error b'=>
   rw[e]at q1;obtain⟨rfl,rfl⟩:=q1;rfl
 cases hd:wx (qn t).1 b bad
 case true=>
  have er:=hbad hd;simp only[if_true,go_sem,show decide ((6:Int)=0)=false from rfl,Bool.not_false];refine qK rfl rfl ⟨_,rfl⟩ (by decide) ?_;simp only[go_sem];refine JA ?_;unfold jY;rw[er];exact zz
 case false=>
 have er:jH (qn t).1 0=.ok (x,b)/\¬b<(qn t).1.length:=by
  cases e:jH (qn t).1 0 with
  | ok y=>
   rw[e]at q1;obtain⟨rfl,rfl,rfl⟩:=q1;exact⟨rfl,by simpa[wx]using hd⟩
  | error b'=>
   rw[e]at q1;obtain⟨rfl,rfl⟩:=q1;simp[wx]at hd
 rw[er.1]at er0;simp only at er0;rw[if_neg er.2]at er0;obtain⟨g1,g2⟩:=qR7 K kS er.1;simp only[bFt,if_false,go_sem,show decide ((0:Int)=0)=true from rfl,Bool.not_true];refine Uz (vs':=[x.enc]) (Cvs.cons (q3.cv (qY.cnx x)) Cvs.nil) (c624 g1 g2) rfl ?_;simp only[go_sem];cases hv:jQ x
 ·rw[hv]at er0;simp only[Bool.not_false,go_sem];refine qK rfl rfl ⟨_,rfl⟩ (by decide) ?_;simp only[go_sem];refine JA ?_;unfold jY;rw[er0];exact zz
 ·rw[hv]at er0;simp only[Bool.not_true,go_sem];refine qK rfl rfl ⟨_,rfl⟩ (by decide) ?_;simp only[go_sem];refine JA ?_;unfold jY;rw[er0];exact Cvs.tup (Cvs.cons (q3.cv (qY.cnx x)) (Cvs.cons (.refl rfl) (Cvs.cons (.refl rfl) Cvs.nil)))
end Go.Ab
namespace Go.Ab
open Go
set_option maxRecDepth 10000
set_option maxHeartbeats 2000000
end Go.Ab
namespace Go.Ab
open Go
set_option maxRecDepth 10000
set_option maxHeartbeats 4000000
theorem qd.layE(x:qd)(n:Nat):lay x.enc n=(.agg [.str x.Name,.slice 3 (n) 0 x.Fields.length false],(lay (.lst 3 (x.Fields.map qC.enc) false) (n)).2++[]):=by
 simp[qd.enc,lay,qa,wN,AV.rows,Nat.add_assoc,Nat.add_comm,Nat.add_left_comm]
theorem qL.layE(x:qL)(n:Nat):lay x.enc n=(.agg [.str x.Name,.slice 2 (n) 0 x.Cons.length false],(lay (.lst 2 (x.Cons.map qd.enc) false) (n)).2++[]):=by
 simp[qL.enc,lay,qa,wN,AV.rows,Nat.add_assoc,Nat.add_comm,Nat.add_left_comm]
theorem qS.layE(x:qS)(n:Nat):lay x.enc n=(.agg [.str x.Name,.int .i64 x.Typ.Kind,.str x.Typ.Name,.slice 3 (n) 0 x.Typ.Kids.length false,.int .i64 x.Body.Kind,.int .i64 x.Body.Num,.str x.Body.Name,.int .i64 x.Body.Typ.Kind,.str x.Body.Typ.Name,.slice 3 (n+AV.rows (.lst 3 (x.Typ.Kids.map qC.enc) false)) 0 x.Body.Typ.Kids.length false,.slice 1 (n+AV.rows (.lst 3 (x.Typ.Kids.map qC.enc) false)+AV.rows (.lst 3 (x.Body.Typ.Kids.map qC.enc) false)) 0 x.Body.Names.length false,.slice 8 (n+AV.rows (.lst 3 (x.Typ.Kids.map qC.enc) false)+AV.rows (.lst 3 (x.Body.Typ.Kids.map qC.enc) false)+AV.rows (.lst 1 (x.Body.Names.map qW) false)) 0 x.Body.Kids.length false],(lay (.lst 3 (x.Typ.Kids.map qC.enc) false) (n)).2++((lay (.lst 3 (x.Body.Typ.Kids.map qC.enc) false) (n+AV.rows (.lst 3 (x.Typ.Kids.map qC.enc) false))).2++((lay (.lst 1 (x.Body.Names.map qW) false) (n+AV.rows (.lst 3 (x.Typ.Kids.map qC.enc) false)+AV.rows (.lst 3 (x.Body.Typ.Kids.map qC.enc) false))).2++((lay (.lst 8 (x.Body.Kids.map qD.enc) false) (n+AV.rows (.lst 3 (x.Typ.Kids.map qC.enc) false)+AV.rows (.lst 3 (x.Body.Typ.Kids.map qC.enc) false)+AV.rows (.lst 1 (x.Body.Names.map qW) false))).2++[])))):=by
 simp[qS.enc,lay,qa,wN,AV.rows,Nat.add_assoc,Nat.add_comm,Nat.add_left_comm]
theorem qY.layE(x:qY)(n:Nat):lay x.enc n=(.agg [.slice 2 (n) 0 x.Datas.length false,.slice 12 (n+AV.rows (.lst 2 (x.Datas.map qL.enc) false)) 0 x.Defs.length false],(lay (.lst 2 (x.Datas.map qL.enc) false) (n)).2++((lay (.lst 12 (x.Defs.map qS.enc) false) (n+AV.rows (.lst 2 (x.Datas.map qL.enc) false))).2++[])):=by
 simp[qY.enc,lay,qa,wN,AV.rows,Nat.add_assoc,Nat.add_comm,Nat.add_left_comm]
end Go.Ab
namespace Go.Ab
open Go
set_option maxRecDepth 10000
set_option maxHeartbeats 2000000
theorem qX2{t:Str}{n:Nat}:lay (jY t) n=(.tup [(lay (zB t).1.enc n).1,.int .i64 (zB t).2.1,.int .i64 (zB t).2.2],(lay (zB t).1.enc n).2):=by simp[jY,lay,qa]
theorem qX4(x:qY)(n:Nat):(lay x.enc n).1.cells.length=2:=by rw[qX5 (qY.plx x)];exact qY.ln
theorem qX3(x:qY)(n:Nat):∃cs,(lay x.enc n).1=.agg cs:=⟨_,congrArg Prod.fst (qY.layE x n)⟩
end Go.Ab
namespace Go.Ab
open Go
set_option maxRecDepth 10000
set_option maxHeartbeats 2000000
def las(s:Str)(c:UInt8):Nat->Int
 | 0=> -1
 | k+1=>if s[k]?=some c then(k:Int)else las s c k
theorem XL{s:Str}{c:UInt8}:∀k,-1<=las s c k/\las s c k<(k:Int)
 | 0=>by simp[las]
 | k+1=>by
  have:=XL (s:=s) (c:=c) k;rw[las];split<;>omega
theorem qQL{s:Str}{c:UInt8}{n:Nat}:∀k,k<=n->las (s.take n) c k=las s c k
 | 0,_=>rfl
 | k+1,h=>by rw[las,las,qQL k (by omega),List.getElem?_take_of_lt (by omega)]
def lcV(s:Str)(a:Int):Int×Int:=if 0<=a/\a<=(s.length:Nat)then(1+(((s.take a.toNat).count 10:Nat):Int),a-las s 10 a.toNat)else(0,0)
theorem qQQ{s:Str}{a:Int}(hl:s.length<=1048576):(0<=(lcV s a).1/\(lcV s a).1<=1048577)/\0<=(lcV s a).2/\(lcV s a).2<=1048577:=by
 unfold lcV;split
 ·rename_i h;have h1:=XL (s:=s) (c:=10) a.toNat;have h2:(s.take a.toNat).count 10<=(s.take a.toNat).length:=List.count_le_length;rw[lLt]at h2;simp only;omega
 ·simp
theorem qVG{s:Str}{c:UInt8}:Pure Gm 955 [.str s,.str [c]] (.int .i64 ((s.count c:Nat):Int)):=
 Pure.told g955 rfl ⟨s,c,rfl,rfl⟩ rfl rfl
theorem qVS{s:Str}{i:Nat}(h:i<s.length)(c:UInt8):(s.take (i+1)).count c=(s.take i).count c+(if s[i]=c then 1 else 0):=by
 rw[List.take_succ_eq_append_getElem h,List.count_append,List.count_singleton];simp only[bIe]
theorem qUT{s:Str}{c:UInt8}(hl:s.length<=1048576):Pure Gm 1261 [.str s,.int .u8 (c.toNat:Nat)] (.int .i64 (las s c s.length)):=by
 refine pJ Yq ?_;simp only[Yq,qI,go_sem];simp only[zF (n:=((s.length:Nat):Int)-1) (by omega) (by omega)];refine Sem.loop (fun k:Nat=>k<=s.length/\las s c s.length=las s c k) (fun k=>(⟨[(0,.str s),(1,.int .u8 (c.toNat:Nat)),(5,.int .i64 ((k:Nat)-1:Int))],[],[]⟩:VSt)) (fun k=>k) s.length (by kernel_rfl) ⟨nLr _,rfl⟩ (Can.sub (by simp[go_sem]) (by simp[go_sem])) ?_;rintro k ⟨hk,hK⟩;simp only[go_sem];cases k with
 | zero=>
  simp only[show decide ((0:Int)<=((0:Nat):Int)-1)=false from rfl,ge_iff_le,go_sem];exact qE rfl (by rw[hK];rfl)
 | succ k=>
  have e1:(((k+1:Nat):Int)-1)=(k:Int):=by omega
  have e2:decide ((0:Int)<=(k:Int))=true:=decide_eq_true (by omega);simp only[ge_iff_le,e1,e2,go_sem,gEg (show k<s.length by omega),oMs];have e3:decide (((s[k].toNat:Nat):Int)=((c.toNat:Nat):Int))=decide (s[k]=c):=by
   rw[decide_eq_decide];exact⟨fun h=>UInt8.toNat_inj.1 (by omega),fun h=>by rw[h]⟩
  rw[e3];by_cases hc:s[k]=c
  ·simp only[decide_eq_true hc,go_sem];exact qE rfl (by rw[hK,las,gEg (show k<s.length by omega),hc,if_pos rfl])
  ·simp only[decide_eq_false hc,go_sem];simp only[zF (n:=(k:Int)-1) (by omega) (by omega)];refine qf k ⟨by omega, ?_⟩ (by omega) (Can.sub (by simp[go_sem]) (by simp[go_sem]));rw[hK,las,gEg (show k<s.length by omega),if_neg (by simpa using hc)]
theorem c956{s:Str}{c:UInt8}(hl:s.length<=1048576):Pure Gm 956 [.str s,.int .u8 (c.toNat:Nat)] (.int .i64 (las s c s.length)):=by
 refine pJ UX ?_;simp only[UX,qI,go_sem];refine qG (qUT hl) ?_;simp only[go_sem];exact qE rfl rfl
theorem c576{s:Str}{a:Int}(hl:s.length<=1048576):Pure Gm 576 [.str s,.int .i64 a] (.tup [.int .i64 (lcV s a).1,.int .i64 (lcV s a).2]):=by
 refine pJ Vx ?_;simp only[Vx,qI,go_sem];by_cases h0:a<0
 ·simp only[decide_eq_true h0,go_sem];exact zJ rfl (by rw[lcV,if_neg (by omega)])
 simp only[decide_eq_false h0,go_sem];by_cases h1:(s.length:Int)<a
 ·simp only[gt_iff_lt,decide_eq_true h1,go_sem];exact zJ rfl (by rw[lcV,if_neg (by omega)])
 simp only[gt_iff_lt,decide_eq_false h1,go_sem];obtain⟨n,rfl⟩:∃n:Nat,a=n:=⟨a.toNat,by omega⟩;have hn:n<=s.length:=by omega
 refine JH (qS4 (E:=⟨Gm,0,[],[]⟩) rfl rfl hn) ?_;simp only[go_sem];refine qG qVG ?_;simp only[go_sem];have hc:(s.take n).count 10<=s.length:=by
  have:(s.take n).count 10<=(s.take n).length:=List.count_le_length;rw[lLt]at this;omega
 have hi:=XL (s:=s) (c:=10) n;have hlt:(s.take n).length=n:=by rw[lLt];omega
 simp only[zF (n:=(1:Int)+(((s.take n).count 10:Nat):Int)) (by omega) (by omega)];refine qG (c956 (c:=10) (by rw[hlt];omega)) ?_;simp only[go_sem];rw[hlt,qQL n (nLr _)];simp only[zF (n:=(n:Int)-las s 10 n) (by omega) (by omega)];exact zJ rfl (by rw[lcV,if_pos ⟨by omega,by omega⟩];simp)
theorem c573{s:Str}{a:Int}(hl:s.length<=1048576):Pure Gm 573 [.str s,.int .i64 a] (.tup [.int .i64 (lcV s a).1,.int .i64 (lcV s a).2]):=by
 refine pJ Vu ?_;simp only[Vu,qI,go_sem];refine qG J1 ?_;simp only[go_sem];by_cases hin:0<=a/\a<=(s.length:Int)
 case neg=>
  have e:(decide (0<=a)&&decide (a<=(s.length:Int)))=false:=by
   rw[Bool.eq_false_iff];intro q;rw[bAt,dTe,dTe]at q;exact hin q
  simp only[e,Bool.not_false,go_sem];exact zJ rfl (by rw[lcV,if_neg hin])
 have e:(decide (0<=a)&&decide (a<=(s.length:Int)))=true:=by rw[decide_eq_true hin.1,decide_eq_true hin.2];rfl
 simp only[e,Bool.not_true,go_sem];obtain⟨n,rfl⟩:∃n:Nat,a=n:=⟨a.toNat,by omega⟩;have hn:n<=s.length:=by omega
 have hq:lcV s n=(1+(((s.take n).count 10:Nat):Int),(n:Int)-las s 10 n):=by rw[lcV,if_pos hin];simp
 refine Sem.loop (fun i:Nat=>i<=n) (fun i=>(⟨[(0,.str s),(1,.int .i64 (n:Nat)),(6,.int .i64 (1+(((s.take i).count 10:Nat):Int))),(7,.int .i64 ((i:Nat)-las s 10 i)),(8,.int .i64 (i:Nat))],[],[]⟩:VSt)) (fun i=>n-i) 0 (by kernel_rfl) (nZl _) (by simp only[las,List.take_zero,List.count_nil];exact Can.sub (by simp[go_sem]) (by simp[go_sem])) ?_;intro i hi;simp only[go_sem];have hcn:(s.take i).count 10<=i:=by
  have:(s.take i).count 10<=(s.take i).length:=List.count_le_length;rw[lLt]at this;omega
 have hli:=XL (s:=s) (c:=10) i;by_cases hlt:i<n
 ·have e1:decide ((i:Int)<(n:Int))=true:=decide_eq_true (by omega);have hls:i<s.length:=by omega
  simp only[e1,go_sem,gEg hls,oMs,zF (n:=(i:Int)-las s 10 i+1) (by omega) (by omega)];have e3:decide (((s[i].toNat:Nat):Int)=10)=decide (s[i]=10):=by
   rw[decide_eq_decide];exact⟨fun h=>UInt8.toNat_inj.1 (by simp;omega),fun h=>by rw[h];rfl⟩
  simp only[e3];have hst:=qVS hls 10;by_cases hc:s[i]=10
  ·rw[if_pos hc]at hst;simp only[decide_eq_true hc,go_sem,zF (n:=(1:Int)+(((s.take i).count 10:Nat):Int)+1) (by omega) (by omega)];simp only[zC (show i<4611686018427387904 by omega)];have hla:las s 10 (i+1)=(i:Int):=by rw[las,gEg hls,hc,if_pos rfl]
   refine qf (i+1) (by omega) (by omega) ?_;rw[hst,hla,show ((i+1:Nat):Int)-(i:Int)=1 by omega,show (1:Int)+(((s.take i).count 10+1:Nat):Int)=1+(((s.take i).count 10:Nat):Int)+1 by omega];exact Can.sub (by simp[go_sem]) (by simp[go_sem])
  ·rw[if_neg hc]at hst;simp only[decide_eq_false hc,go_sem];simp only[zC (show i<4611686018427387904 by omega)];have hla:las s 10 (i+1)=las s 10 i:=by rw[las,gEg hls,if_neg (by simpa using hc)]
   refine qf (i+1) (by omega) (by omega) ?_;rw[hst,hla,show ((i+1:Nat):Int)-las s 10 i=(i:Int)-las s 10 i+1 by omega,nAz];exact Can.sub (by simp[go_sem]) (by simp[go_sem])
 ·have e1:decide ((i:Int)<(n:Int))=false:=decide_eq_false (by omega);obtain rfl:i=n:=by omega
  simp only[e1,go_sem];exact zJ rfl (by rw[hq])
end Go.Ab
namespace Go.Ab
open Go
set_option maxRecDepth 10000
set_option maxHeartbeats 2000000
def enB(b:UInt8):AV:=.int .u8 (b.toNat:Nat)
def BL(B:Nat)(h:List qB)(v:AV)(xs:List UInt8):Prop:=(xs=[]/\v=.lst 1 [] true)\/∃k,v=.slice 1 k 0 xs.length false/\h[k]?=some (.row 1 (xs.map enB) true)/\B<=k
theorem BL.push{B:Nat}{h:List qB}{v:AV}{xs:List UInt8}{o:qB}(x:BL B h v xs):BL B (h++[o]) v xs:=by
 rcases x with x | ⟨k,h1,h2,h3⟩
 ·exact .inl x
 ·exact .inr ⟨k,h1,by rw[gAl ((gSi.1 h2).1)];exact h2,h3⟩
theorem BL.ln{B:Nat}{h:List qB}{v:AV}{xs:List UInt8}(x:BL B h v xs):ZR (some v)=some (.int .i64 (xs.length:Nat)):=by
 rcases x with⟨rfl,rfl⟩ | ⟨k,rfl,_⟩<;>rfl
theorem BL.ix{B:Nat}{h:List qB}{v:AV}{xs:List UInt8}(x:BL B h v xs){k:Nat}(hk:k<xs.length):∃id,idx 1 (some v) (some (.int .i64 (k:Nat)))=some (.ptr id k 0)/\WF h none (some (.ptr id k 0))=some (enB xs[k]):=by
 rcases x with⟨rfl,rfl⟩ | ⟨id,rfl,h1,_⟩
 ·simp at hk
 ·refine⟨id,by rw[qP7 hk,nZa], ?_⟩;simp only[h1,go_sem,gMp,gEg hk,oMs];rfl
theorem BL.els{B:Nat}{h:List qB}{v:AV}{xs:List UInt8}(x:BL B h v xs):wOf v=some 1/\zR (toH h) v=some (xs.map fun b:UInt8=>AV.int .u8 b.toNat):=by
 rcases x with⟨rfl,rfl⟩ | ⟨id,rfl,h1,_⟩
 ·exact⟨rfl,rfl⟩
 ·have h2:toH h id=some (.row 1 (xs.map enB) true):=h1;refine⟨rfl, ?_⟩;cases xs with
  | nil=>simp[zR]
  | cons x xs=>
   simp only[zR,h2,nZa,lMp,nLr,if_true,List.drop_zero];have e:((x::xs).map enB).take (x::xs).length=(x::xs).map enB:=by rw[<-lMp (f:=enB),lTl]
   simp only[e];rfl
theorem BL.old{B:Nat}{h h2:List qB}{v:AV}{xs:List UInt8}(x:BL B h v xs)(q:∀j,j<h.length->h2[j]?=h[j]?):BL B h2 v xs:=by
 rcases x with x | ⟨k,h1,h3,h4⟩
 ·exact .inl x
 ·exact .inr ⟨k,h1,by rw[q k (gSi.1 h3).1];exact h3,h4⟩
theorem Uk{E:Ev}{l:List qA}{ks:List Fr1}{s m:qj}{h:List qB}{Q:qR->VSt->Prop}{B:Nat}{v:AV}{xs:List UInt8}{b:UInt8}{d id:Nat}{c2:Bool}(x:BL B h v xs)(hB:B<=h.length)(h2:h[id]?=some (.row 1 [enB b] true))(hl:xs.length<4294967296)
  (hr:∀v' h',BL B h' v' (xs++[b])->h.length<=h'.length->(∀j,j<B->h'[j]?=h[j]?)->R E (.ops l::ks) ⟨(d,v')::s,m,h'⟩ Q):wm E 1 (some d) (some v) (some (.slice 1 id 0 1 c2)) l ks ⟨s,m,h⟩ Q:=by
 rcases x with⟨rfl,rfl⟩ | ⟨k,rfl,h1,h3⟩
 ·refine Ul (ys:=[enB b]) (Els.row h2 rfl) (by simp) ?_;exact hr _ _ (.inr ⟨h.length,rfl,by simp,hB⟩) (by simp) fun j hj=>gAl (by omega)
 ·refine Zy (el:=xs.map enB) h2 h1 (by simp) hl ?_;refine hr _ _ (.inr ⟨h.length, ?_, ?_,hB⟩) (by simp) fun j hj=> ?_
  ·simp
  ·rw[show h.length=(h.set k .dead).length from by simp,gCl];simp
  ·rw[gAl (by simp;omega),gSn (by omega)]
def JS(m:Nat):List UInt8:=if m=0 then []else Lib.decDigits m
theorem qWB{m:Nat}(h:m≠0):JS m=JS (m/10)++[UInt8.ofNat (48+m%10)]:=by
 rw[JS,if_neg h,Lib.decDigits];split
 ·rename_i h1;rw[JS,if_pos (by omega),Nat.mod_eq_of_lt h1];rfl
 ·rename_i h1;rw[JS,if_neg (by omega)]
theorem c574{n:Nat}(hn:n<=2147483648):Pure Gm 574 [.int .i64 (n:Nat)] (.str (Lib.itoa n)):=by
 refine pJ Vv ?_;simp only[Vv,qI,go_sem];refine Sem.loop (fun a:Nat×List UInt8×AV×List qB=>a.2.1.length+a.1<=n/\JS n=JS a.1++a.2.1.reverse/\BL 0 a.2.2.2 a.2.2.1 a.2.1)
  (fun a=>(⟨[(0,.int .i64 (n:Nat)),(3,a.2.2.1),(4,.int .i64 (a.1:Nat))],[],a.2.2.2⟩:VSt)) (fun a=>a.1) (n,[],.lst 1 [] true,[]) (by kernel_rfl) ⟨by simp,by simp,.inl ⟨rfl,rfl⟩⟩ (Can.sub (by simp[go_sem]) (by simp[go_sem])) ?_
 rintro⟨m,ds,v,h⟩ ⟨hl,hI,hB⟩;simp only at hl hI hB;simp only[go_sem];by_cases hm:m=0
 case neg=>
  have e:decide (((m:Nat):Int)=0)=false:=decide_eq_false (by omega);have e1:Int.tmod (m:Int) 10=((m%10:Nat):Int):=rfl;have e2:Int.tdiv (m:Int) 10=((m/10:Nat):Int):=rfl;have e3:(48:Int)+((m%10:Nat):Int)=((48+m%10:Nat):Int):=by omega
  have hm10:m%10<10:=Nat.mod_lt _ (by decide);have hd:m/10<m:=Nat.div_lt_self (by omega) (by decide);have e6:decide (((m%10:Nat):Int)<0)=false:=decide_eq_false (by omega);have e4:(UInt8.ofNat (48+m%10)).toNat=48+m%10:=by rw[UInt8.toNat_ofNat'];omega
  have e5:IntKind.u8.wrap ((48+m%10:Nat):Int)=(((UInt8.ofNat (48+m%10)).toNat:Nat):Int):=by
   rw[IntWalk.u8_in _ ⟨by omega,by omega⟩];omega
  simp only[e,Bool.not_false,go_sem,e1,e6,e2,Int.reduceEq,reduceIte,e3,zF (n:=((m%10:Nat):Int)) (by omega) (by omega),zF (n:=((48+m%10:Nat):Int)) (by omega) (by omega)];rw[e5];refine zG (v:=enB (UInt8.ofNat (48+m%10))) rfl rfl ?_;simp only[go_sem];refine Uk (b:=UInt8.ofNat (48+m%10)) hB.push (nZl _) (by rw[gCl]) (by omega) fun v' h' hB' _ _=> ?_;simp only[go_sem,e2,Int.reduceEq,reduceIte,zF (n:=((m/10:Nat):Int)) (by omega) (by omega)];refine qf (m/10,ds++[UInt8.ofNat (48+m%10)],v',h') ⟨by simp;omega, ?_,hB'⟩ (by simp only;omega) (Can.sub (by simp[go_sem]) (by simp[go_sem]));rw[hI,qWB hm];simp
 subst hm;have e:decide (((0:Nat):Int)=0)=true:=rfl;simp only[e,Bool.not_true,go_sem];rw[JS,JS,if_pos rfl,lNa]at hI;by_cases h0:n=0
 case' pos=>
  subst h0;simp only[e,Bool.not_true,go_sem];refine zG (v:=enB 48) rfl rfl ?_;simp only[go_sem];refine Uk (b:=48) hB.push (nZl _) (by rw[gCl]) (by omega) fun v h hB _ _=> ?_;simp only[go_sem];obtain⟨xs,hxs⟩:∃xs,xs=ds++[(48:UInt8)]:=⟨_,rfl⟩;rw[<-hxs]at hB;have hds:ds=[]:=by simpa[JS]using hI
  have hx:xs.reverse=Lib.decDigits 0:=by rw[hxs,hds,Lib.decDigits_one (by decide)];rfl
  have hlen:xs.length<=2147483650:=by rw[hxs,hds];simp
  have elt:decide (((0:Nat):Int)<0)=false:=rfl
 case' neg=>
  have e0:decide (((n:Nat):Int)=0)=false:=decide_eq_false (by omega);simp only[e0,go_sem];obtain⟨xs,hxs⟩:∃xs,xs=ds:=⟨_,rfl⟩;rw[<-hxs]at hB;have hx:xs.reverse=Lib.decDigits n:=by rw[hxs,<-hI,if_neg h0]
  have hlen:xs.length<=2147483650:=by rw[hxs];omega
  have elt:decide (((n:Nat):Int)<0)=false:=decide_eq_false (by omega)
 all_goals
  clear hl hI hxs;simp only[elt,hB.ln,go_sem,zF (n:=((xs.length:Nat):Int)-1) (by omega) (by omega)];refine Sem.loop (fun a:Nat×AV×List qB=>a.1<=xs.length/\BL h.length a.2.2 a.2.1 (xs.reverse.take a.1)/\(∀j,j<h.length->a.2.2[j]?=h[j]?)/\h.length<=a.2.2.length)
   (fun a=>(⟨[(3,v),(6,a.2.1),(7,.int .i64 (((xs.length:Nat):Int)-1-(a.1:Nat)))],[],a.2.2⟩:VSt)) (fun a=>xs.length-a.1) (0,.lst 1 [] true,h) (by kernel_rfl) ⟨nZl _,.inl ⟨rfl,rfl⟩,fun _ _=>rfl,nLr _⟩ (by simp only[Int.natCast_zero,Int.ofNat_zero,Int.sub_zero];exact Can.sub (by simp[go_sem]) (by simp[go_sem])) ?_
  rintro⟨k,v6,h2⟩ ⟨hk,hB6,hold,hln⟩;simp only at hk hB6 hold hln;simp only[go_sem];by_cases hlt:k<xs.length
  ·have e1:((xs.length:Nat):Int)-1-(k:Int)=((xs.length-1-k:Nat):Int):=by omega
   have e2:decide ((0:Int)<=((xs.length-1-k:Nat):Int))=true:=decide_eq_true (by omega);have hj:xs.length-1-k<xs.length:=by omega
   obtain⟨id,x1,x2⟩:=(hB.old hold).ix hj;simp only[ge_iff_le,e1,e2,x1,x2,go_sem];refine zG (v:=enB xs[xs.length-1-k]) rfl rfl ?_;simp only[go_sem];refine Uk (b:=xs[xs.length-1-k]) hB6.push (by simp;omega) (by rw[gCl]) (by simp;omega) fun v' h' hB' g1 g2=> ?_;simp only[go_sem,zF (n:=((xs.length-1-k:Nat):Int)-1) (by omega) (by omega)];refine qf (k+1,v',h') ⟨by simp only;omega, ?_,fun j hj=> ?_, ?_⟩ (by simp only;omega) ?_
   ·have e3:xs.reverse.take (k+1)=xs.reverse.take k++[xs[xs.length-1-k]]:=by
     rw[List.take_succ_eq_append_getElem (by simp;omega),List.getElem_reverse]
    rw[e3];exact hB'
   ·have hj':j<h2.length:=by omega
    rw[g2 j hj,gAl hj'];exact hold j hj
   ·simp only[lAp]at g1;simp only;omega
   ·rw[show ((xs.length-1-k:Nat):Int)-1=((xs.length:Nat):Int)-1-((k+1:Nat):Int) by omega];exact Can.sub (by simp[go_sem]) (by simp[go_sem])
  ·obtain rfl:k=xs.length:=by omega
   have e2:decide ((0:Int)<=((xs.length:Nat):Int)-1-(xs.length:Nat))=false:=decide_eq_false (by omega);simp only[ge_iff_le,e2,go_sem];obtain⟨w1,w2⟩:=hB6.els;refine qUA (a:=xs.reverse.take xs.length) w1 w2 ?_;simp only[go_sem];refine qE rfl ?_;rw[show xs.reverse.take xs.length=xs.reverse by rw[<-List.length_reverse,lTl],hx,Lib.itoa,if_neg (by omega)];rfl
end Go.Ab
namespace Go.Ab
open Go
set_option maxRecDepth 10000
set_option maxHeartbeats 2000000
def cdS:List Str:=[[111,107],[105,110,118,97,108,105,100],[114,97,110,103,101],[110,111,116,102,111,117,110,100],[102,117,108,108],[115,116,97,116,101],[115,121,110,116,97,120],[110,97,109,101],[116,121,112,101],[108,101,118,101,108],[108,105,110,101,97,114],[99,108,97,115,104],[98,117,100,103,101,116],[114,101,97,100],[102,111,114,109,97,116]]
def cdN(k:Int):Str:=if k=1 then [105,110,118,97,108,105,100]else if k=2 then [114,97,110,103,101]else [115,121,110,116,97,120]
theorem c954:Pure Gm 954 [] (.lst 1 (cdS.map qW) false):=by
 refine pJ UW ?_;simp only[UW,qI,go_sem];rw[show zA _ _ _ _=some (cdS.map qW)from rfl];simp only[go_sem];exact KG (Cv.row rfl rfl rfl (by decide))
theorem c575{k:Int}(hk:k=1\/k=2\/k=6):Pure Gm 575 [.int .i64 k] (.str (cdN k)):=by
 refine pJ Vw ?_;simp only[Vw,qI,go_sem];refine qG J1 ?_;simp only[go_sem];rcases hk with rfl | rfl | rfl
 all_goals
  simp only[show (decide ((0:Int)<=1)&&decide ((1:Int)<=14))=true from rfl,show (decide ((0:Int)<=2)&&decide ((2:Int)<=14))=true from rfl,show (decide ((0:Int)<=6)&&decide ((6:Int)<=14))=true from rfl,Bool.not_true,go_sem];refine qG c954 ?_;simp only[go_sem]
 ·rw[show (cdS.map qW)[1]?=some (.str [105,110,118,97,108,105,100])from rfl];simp only[oMs,go_sem];exact qE rfl rfl
 ·rw[show (cdS.map qW)[2]?=some (.str [114,97,110,103,101])from rfl];simp only[oMs,go_sem];exact qE rfl rfl
 ·rw[show idx 1 (some (AV.lst 1 (cdS.map qW) false)) (some (.int .i64 6))=some (.ept (.str [115,121,110,116,97,120]) 0)from rfl];simp only[go_sem];exact qE rfl rfl
theorem c578{k:Int}(hk:k=1\/k=2\/k=6):Pure Gm 578 [.int .i64 k] (.str (cdN k)):=by
 refine pJ Vz ?_;simp only[Vz,qI,go_sem];refine jK (e':=.agg (cdS.map qW)) rfl rfl rfl rfl ?_;simp only[lNa,lSz,go_sem];rcases hk with rfl | rfl | rfl
 all_goals
  simp only[show decide ((1:Int)<0)=false from rfl,show decide ((2:Int)<0)=false from rfl,show decide ((6:Int)<0)=false from rfl,ge_iff_le,show decide ((15:Int)<=1)=false from rfl,show decide ((15:Int)<=2)=false from rfl,show decide ((15:Int)<=6)=false from rfl,go_sem]
 ·refine JH (v:=.ptr 0 0 1) rfl ?_;simp only[go_sem];rw[show (cdS.map qW)[1]?=some (.str [105,110,118,97,108,105,100])from rfl];simp only[go_sem];exact qE rfl rfl
 ·refine JH (v:=.ptr 0 0 2) rfl ?_;simp only[go_sem];rw[show (cdS.map qW)[2]?=some (.str [114,97,110,103,101])from rfl];simp only[go_sem];exact qE rfl rfl
 ·refine JH (v:=.ptr 0 0 6) rfl ?_;simp only[go_sem];rw[show (cdS.map qW)[6]?=some (.str [115,121,110,116,97,120])from rfl];simp only[go_sem];exact qE rfl rfl
end Go.Ab
namespace Go.Ab
open Go
set_option maxRecDepth 10000
set_option maxHeartbeats 2000000
theorem qR3{t:Str}:(zB t).2.2=0\/(zB t).2.2=1\/(zB t).2.2=2\/(zB t).2.2=6:=by
 unfold zB;split
 ·split
  ·simp
  ·split
   ·simp
   ·split<;>simp
 ·rename_i h;simp only;unfold qn at h|-;split
  ·simp
  ·rename_i h1;rw[if_neg h1]at h;split
   ·simp
   ·rename_i e;rw[e]at h;exact absurd rfl h
theorem decL:∀n:Nat,(Lib.decDigits n).length<=n+1:=fun n=>by
 induction n using Nat.strongRecOn with
 | _ n ih=>
  rw[Lib.decDigits];split
  ·simp
  ·rename_i h;have:=ih (n/10) (by omega);simp only[lAp,lCo,lNi];omega
theorem XK(n:Nat):(Lib.itoa (n:Int)).length<=n+1:=by
 rw[Lib.itoa,if_neg (by omega)];exact decL _
def dgT(t:Str):Str:=if (zB t).2.2=0 then []else Lib.itoa (lcV t (zB t).2.1).1++[58]++Lib.itoa (lcV t (zB t).2.1).2++[58,32]++cdN (zB t).2.2
theorem qO3(k:Int):(cdN k).length<=10:=by unfold cdN;split<;>(try split)<;>simp
theorem c226{t:Str}(hl:t.length<=1048576):Pure Gm 226 [.str t] (.str (dgT t)):=by
 refine pJ VZ ?_;simp only[VZ,qI,go_sem];refine qG c267 ?_;have hv:jY t=.tup [(zB t).1.enc,.int .i64 (zB t).2.1,.int .i64 (zB t).2.2]:=rfl;have hc:=qR3 (t:=t);have hd:dgT t=if (zB t).2.2=0 then []else Lib.itoa (lcV t (zB t).2.1).1++[58]++Lib.itoa (lcV t (zB t).2.1).2++[58,32]++cdN (zB t).2.2:=rfl;generalize (zB t).1=x at*;generalize (zB t).2.1=pa at*;generalize (zB t).2.2=pc at*;rw[hv];simp only[go_sem];refine qK (k:=2) rfl qY.ln ⟨_,rfl⟩ (by decide) ?_;simp only[go_sem];by_cases h0:pc=0
 ·simp only[decide_eq_true h0,go_sem];exact qE rfl (by rw[hd,if_pos h0])
 simp only[decide_eq_false h0,go_sem];rw[if_neg h0]at hd;refine qG (c573 hl) ?_;have hin:=qQQ (s:=t) (a:=pa) hl;obtain⟨a,ha⟩:∃a:Nat,(lcV t pa).1=a:=⟨(lcV t pa).1.toNat,by omega⟩;obtain⟨b,hb⟩:∃b:Nat,(lcV t pa).2=b:=⟨(lcV t pa).2.toNat,by omega⟩;rw[ha,hb]at hin hd;simp only[ha,hb,go_sem];have la:=XK a;have lb:=XK b;have lc:=qO3 pc;refine qG (c574 (by omega)) ?_;simp only[go_sem];rw[Jv (by simp only[lCo,lNi];omega)];simp only[go_sem];refine qG (c574 (by omega)) ?_;simp only[go_sem];rw[Jv (by simp only[lAp,lCo,lNi];omega)];simp only[go_sem];rw[Jv (by simp only[lAp,lCo,lNi];omega)];simp only[go_sem];refine qG (c575 (hc.resolve_left h0)) ?_;simp only[go_sem];rw[Jv (by simp only[lAp,lCo,lNi];omega)];simp only[go_sem];exact qE rfl (by rw[hd])
theorem c227{t:Str}(hl:t.length<=1048576):Pure Gm 227 [.str t] (.str (dgT t)):=by
 refine pJ Va ?_;simp only[Va,qI,go_sem];have hf:=n264 (t:=t);have hp:∀n,lay (jY t) n=(.tup [(lay (zB t).1.enc n).1,.int .i64 (zB t).2.1,.int .i64 (zB t).2.2],(lay (zB t).1.enc n).2):=fun n=>qX2;have hc:=qR3 (t:=t);have hd:dgT t=if (zB t).2.2=0 then []else Lib.itoa (lcV t (zB t).2.1).1++[58]++Lib.itoa (lcV t (zB t).2.1).2++[58,32]++cdN (zB t).2.2:=rfl;generalize (zB t).1=x at*;generalize (zB t).2.1=pa at*;generalize (zB t).2.2=pc at*;refine qU7 hf ?_;simp only[go_sem,hp,lNa,lNi];refine qK (k:=2) rfl (qX4 x 0) (qX3 x 0) (by decide) ?_;simp only[go_sem];by_cases h0:pc=0
 ·simp only[decide_eq_true h0,go_sem];exact qE rfl (by rw[hd,if_pos h0])
 simp only[decide_eq_false h0,go_sem];rw[if_neg h0]at hd;refine qG (c576 hl) ?_;have hin:=qQQ (s:=t) (a:=pa) hl;obtain⟨a,ha⟩:∃a:Nat,(lcV t pa).1=a:=⟨(lcV t pa).1.toNat,by omega⟩;obtain⟨b,hb⟩:∃b:Nat,(lcV t pa).2=b:=⟨(lcV t pa).2.toNat,by omega⟩;rw[ha,hb]at hin hd;simp only[ha,hb,go_sem];have la:=XK a;have lb:=XK b;have lc:=qO3 pc;refine qG (Ux (n:=a) (by omega) (by omega)) ?_;simp only[go_sem];rw[Jv (by simp only[lCo,lNi];omega)];simp only[go_sem];refine qG (Ux (n:=b) (by omega) (by omega)) ?_;simp only[go_sem];rw[Jv (by simp only[lAp,lCo,lNi];omega)];simp only[go_sem];rw[Jv (by simp only[lAp,lCo,lNi];omega)];simp only[go_sem];refine qG (c578 (hc.resolve_left h0)) ?_;simp only[go_sem];rw[Jv (by simp only[lAp,lCo,lNi];omega)];simp only[go_sem];exact qE rfl (by rw[hd])
theorem c33{t:Str}:Pure Gm 33 [.str t] (.bool true):=by
 refine pJ F33 ?_;simp only[F33,qI,go_sem];by_cases hl:(1048576:Int)<t.length
 ·simp only[decide_eq_true hl,go_sem];exact qE rfl rfl
 simp only[decide_eq_false hl,go_sem];refine qG (c226 (by omega)) ?_;simp only[go_sem];refine qG (c227 (by omega)) ?_;simp only[go_sem];exact qE rfl rfl
end Go.Ab
