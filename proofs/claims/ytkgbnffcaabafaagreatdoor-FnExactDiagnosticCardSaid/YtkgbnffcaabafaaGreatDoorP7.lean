/- Texts Par17 .. Tm21: the abstract machine, its laws and contracts of functions: lemmas for the statement. No condition. -/
import Derived.Test.YtkgbnffcaabafaaGreatDoorP6
set_option linter.unusedSimpArgs false
set_option linter.unusedVariables false
namespace Go.Ab
open Go
set_option maxRecDepth 10000
set_option maxHeartbeats 2000000
mutual
def qC.nod:qC->Nat->Option Nat
 |.mk k n ks,d=>if d=0 then none else if okT k n ks.length then qC.nods ks (d-1) 1 else none
def qC.nods:List qC->Nat->Nat->Option Nat
 |[],_,s=>some s
 | x::xs,d,s=>match x.nod d with
  | none=>none
  | some k=>qC.nods xs d (s+k)
end
theorem qC.nod_eq(x:qC)(d:Nat):x.nod d=if d=0 then none else if okT x.Kind x.Name x.Kids.length then qC.nods x.Kids (d-1) 1 else none:=by cases x;rw[qC.nod];rfl
theorem qC.shps_ge:∀{xs:List qC}{d s d1 s1:Nat},qC.shps xs d s=some (d1,s1)->d<=d1
 |[],d,s,d1,s1,h=>by simp only[qC.shps,oSi,Prod.mk.injEq]at h;omega
 | x::xs,d,s,d1,s1,h=>by
  simp only[qC.shps]at h;split at h
  ·have:=qC.shps_ge h;omega
  ·cases h
theorem qC.nods_shps{e:Nat}:∀{xs:List qC},(∀y∈xs,y.nod e=if y.shp.2.2=true/\y.shp.1<=e then some y.shp.2.1 else none)->∀{d s:Nat},d<=e+1->
  qC.nods xs e s=match qC.shps xs d s with
   | none=>none
   | some (d1,s1)=>if d1<=e+1 then some s1 else none
 |[],_,d,s,hd=>by simp[qC.nods,qC.shps,hd]
 | x::xs,ih,d,s,hd=>by
  have hx:=ih x (by simp);have hxs:=fun(d s:Nat)(q:d<=e+1)=>qC.nods_shps (xs:=xs) (fun y hy=>ih y (by simp[hy])) (d:=d) (s:=s) q;simp only[qC.nods,qC.shps,hx];generalize x.shp=p;obtain⟨d',s',ok⟩:=p;cases ok with
  | false=>simp
  | true=>
   simp only[true_and];by_cases h:d'<=e
   ·rw[if_pos h];exact hxs _ _ (by omega)
   ·rw[if_neg h];cases hq:qC.shps xs (max d (d'+1)) (s+s')with
    | none=>rfl
    | some p=>
     obtain⟨d1,s1⟩:=p;have:=qC.shps_ge hq;simp only;rw[if_neg (by omega)]
theorem qC.nod_shp:∀(x:qC)(d:Nat),x.nod d=if x.shp.2.2=true/\x.shp.1<=d then some x.shp.2.1 else none:=qC.ind fun x ih d=>by
 rw[qC.nod_eq,qC.shp_eq];cases d with
 | zero=>
  rw[if_pos rfl];split
  ·simp
  ·rename_i d1 s1 h;have:=qC.shps_ge h;rw[if_neg (fun q=>by simp only at q;omega)]
 | succ e=>
  rw[if_neg (by omega),Nat.add_sub_cancel];rw[qC.nods_shps (fun y hy=>ih y hy e) (show 1<=e+1 by omega)];cases qC.shps x.Kids 1 1 with
  | none=>simp
  | some p=>
   obtain⟨d1,s1⟩:=p;simp only;cases okT x.Kind x.Name x.Kids.length<;>simp
def jB:Option Nat->Int
 | none=> -1
 | some n=>n
theorem qbG(x:qC):ja x=(decide (1<=jB (x.nod 6))&&decide (jB (x.nod 6)<=16)):=by
 rw[qC.nod_shp,ja];have h1:∀y:qC,y.shp.2.2=true->1<=y.shp.2.1:=fun y hy=>by
  rw[qC.shp_eq]at hy|-;split
  ·rename_i q;rw[q]at hy;cases hy
  ·rename_i d s h;have:∀{xs:List qC}{d s d1 s1:Nat},qC.shps xs d s=some (d1,s1)->s<=s1:=by
    intro xs
    induction xs with
    | nil=>intro d s d1 s1 h;simp only[qC.shps,oSi,Prod.mk.injEq]at h;omega
    | cons z zs ihz=>
     intro d s d1 s1 h;simp only[qC.shps]at h;split at h
     ·have:=ihz h;omega
     ·cases h
   exact this h
 by_cases a:x.shp.2.2=true
 ·have:=h1 x a;by_cases b:x.shp.1<=6
  ·rw[if_pos ⟨a,b⟩,a,decide_eq_true b];have e1:decide (1<=jB (some x.shp.2.1))=true:=decide_eq_true (by simp only[jB];omega);rw[e1,Bool.true_and,Bool.true_and,Bool.true_and,decide_eq_decide];simp only[jB];omega
  ·rw[if_neg (fun q=>b q.2),decide_eq_false b];simp[jB]
 ·rw[if_neg (fun q=>a q.1)];simp[jB,a]
theorem qC.nod_le{x:qC}{d n:Nat}(h:x.nod d=some n):n<=x.nd:=by
 rw[qC.nod_shp]at h;split at h
 ·cases h;exact(qC.shp_le x).2
 ·cases h
theorem c541(x:qC):∀(d:Nat)(hd:d<=6)(hb:x.bd)(hn:x.nd<=1048576),Pure Gm 541 [x.enc,.int .i64 (d:Nat)] (.int .i64 (jB (x.nod d))):=by
 induction x using qC.ind with
 | _ x ih=>
 intro d hd hb hn;refine pJ Vt ?_;simp only[Vt,qI,go_sem];refine zV qC.ln ?_;simp only[go_sem];have er:=qC.nod_eq x d;rw[qC.nd_eq]at hn;rw[qC.bd_eq]at hb;obtain⟨b1,b2,b3⟩:=hb;by_cases h0:d=0
 ·have e0:decide (((d:Nat):Int)<1)=true:=decide_eq_true (by omega);simp only[e0,go_sem];exact qE rfl (by rw[er,if_pos h0];rfl)
 have e0:decide (((d:Nat):Int)<1)=false:=decide_eq_false (by omega);simp only[e0,go_sem];rw[if_neg h0]at er;have e1:x.Kids.length<=1048576:=by
  have:∀xs:List qC,xs.length<=qP qC.nd xs:=fun xs=>by
   induction xs with
   | nil=>simp
   | cons y ys ihy=>have:=qC.nd_eq y;simp only[lCo,qP];omega
  have:=this x.Kids;omega
 have z1:decide (((x.Kids.length:Nat):Int)=0)=decide (x.Kids.length=0):=by rw[decide_eq_decide];omega
 have z2:decide (((x.Kids.length:Nat):Int)=2)=decide (x.Kids.length=2):=by rw[decide_eq_decide];omega
 have z3:decide (((x.Kids.length:Nat):Int)=1)=decide (x.Kids.length=1):=by rw[decide_eq_decide];omega
 cases hok:okT x.Kind x.Name x.Kids.length
 ·have bad:AV.int .i64 (-1)=.int .i64 (jB (x.nod d)):=by rw[er,hok];rfl
  by_cases k1:x.Kind=1
  ·have k2:¬x.Kind=2:=by omega
   simp only[decide_eq_true k1,decide_eq_false k2,go_sem,z1];by_cases q:x.Kids.length=0
   ·simp only[decide_eq_true q,Bool.not_true,Bool.not_false,go_sem];by_cases q2:x.Name=[]
    ·simp[okT,k1,q,q2]at hok
    ·simp only[decide_eq_false k2,decide_eq_false q2,Bool.not_false,go_sem];exact qE rfl bad
   ·simp only[decide_eq_false q,Bool.not_false,go_sem];exact qE rfl bad
  simp only[decide_eq_false k1,go_sem];by_cases k2:x.Kind=2
  ·simp only[decide_eq_true k2,go_sem];refine qG (Je (by omega)) ?_;simp only[go_sem];cases q:zT x.Name
   ·simp only[Bool.not_false,go_sem];exact qE rfl bad
   ·simp only[Bool.not_true,go_sem];by_cases q2:x.Name=[73,110,116]
    ·simp only[decide_eq_true q2,go_sem];exact qE rfl bad
    ·simp only[decide_eq_false q2,go_sem,z1];by_cases q3:x.Kids.length=0
     ·simp[okT,k2,q,q2,q3]at hok
     ·simp only[decide_eq_false q3,Bool.not_false,go_sem];exact qE rfl bad
  simp only[decide_eq_false k2,go_sem];by_cases k3:x.Kind=3
  ·simp only[decide_eq_true k3,go_sem,z2];by_cases q:x.Kids.length=2
   ·simp only[decide_eq_true q,decide_eq_false k2,Bool.not_true,Bool.not_false,go_sem];by_cases q2:x.Name=[]
    ·simp[okT,k3,q,q2]at hok
    ·simp only[decide_eq_false q2,Bool.not_false,go_sem];exact qE rfl bad
   ·simp only[decide_eq_false q,Bool.not_false,go_sem];exact qE rfl bad
  simp only[decide_eq_false k3,go_sem];by_cases k4:x.Kind=4
  ·simp only[decide_eq_true k4,go_sem,z3];by_cases q:x.Kids.length=1
   ·simp only[decide_eq_true q,decide_eq_false k2,Bool.not_true,Bool.not_false,go_sem];by_cases q2:x.Name=[]
    ·simp[okT,k4,q,q2]at hok
    ·simp only[decide_eq_false q2,Bool.not_false,go_sem];exact qE rfl bad
   ·simp only[decide_eq_false q,Bool.not_false,go_sem];exact qE rfl bad
  simp only[decide_eq_false k4,go_sem];exact qE rfl bad
 rw[if_pos hok]at er;have four:(x.Kind=1/\x.Name=[]/\x.Kids.length=0)\/(x.Kind=2/\zT x.Name=true/\¬x.Name=[73,110,116]/\x.Kids.length=0)\/(x.Kind=3/\x.Name=[]/\x.Kids.length=2)\/(x.Kind=4/\x.Name=[]/\x.Kids.length=1):=by
  unfold okT at hok;split at hok
  ·rename_i k;simp at hok;exact .inl ⟨k,hok.1,by simp[hok.2]⟩
  ·split at hok
   ·rename_i k;simp at hok;exact .inr (.inl ⟨k,hok.1,hok.2.1,by simp[hok.2.2]⟩)
   ·split at hok
    ·rename_i k;simp at hok;exact .inr (.inr (.inl ⟨k,hok.1,hok.2⟩))
    ·split at hok
     ·rename_i k;simp at hok;exact .inr (.inr (.inr ⟨k,hok.1,hok.2⟩))
     ·cases hok
 rcases four with⟨k,q1,q2⟩ | ⟨k,q1,q2,q3⟩ | ⟨k,q1,q2⟩ | ⟨k,q1,q2⟩
 case' inl=>
  have k2:¬x.Kind=2:=by omega
  simp only[decide_eq_true k,decide_eq_false k2,go_sem,z1,decide_eq_true q1,decide_eq_true q2,Bool.not_true,Bool.not_false]
 case' inr.inl=>
  have k1:¬x.Kind=1:=by omega
  simp only[decide_eq_false k1,decide_eq_true k,go_sem];refine qG (Je (by omega)) ?_;simp only[q1,go_sem,decide_eq_false q2,z1,decide_eq_true q3,Bool.not_true,decide_eq_true k]
 case' inr.inr.inl=>
  have k1:¬x.Kind=1:=by omega
  have k2:¬x.Kind=2:=by omega
  simp only[decide_eq_false k1,decide_eq_false k2,decide_eq_true k,go_sem,z2,decide_eq_true q1,decide_eq_true q2,Bool.not_true,Bool.not_false]
 case' inr.inr.inr=>
  have k1:¬x.Kind=1:=by omega
  have k2:¬x.Kind=2:=by omega
  have k3:¬x.Kind=3:=by omega
  simp only[decide_eq_false k1,decide_eq_false k2,decide_eq_false k3,decide_eq_true k,go_sem,z3,decide_eq_true q1,decide_eq_true q2,Bool.not_true,Bool.not_false]
 all_goals
  refine Sem.loop (fun a:Nat×Nat=>a.1<=x.Kids.length/\a.2+qP qC.nd (x.Kids.drop a.1)<=1048576/\qC.nods x.Kids (d-1) 1=qC.nods (x.Kids.drop a.1) (d-1) a.2)
   (fun a=>(⟨[(1,.int .i64 (d:Nat)),(6,.int .i64 (a.2:Nat)),(7,.int .i64 (a.1:Nat))],[(2,x.enc)],[]⟩:VSt)) (fun a=>x.Kids.length-a.1) (0,1) (by kernel_rfl) ⟨nZl _,by simpa using hn,rfl⟩ (Can.sub (by simp[go_sem]) (by simp[go_sem])) ?_
  rintro⟨i,s⟩ ⟨hi,h3,hI⟩;simp only at hi h3 hI;simp only[go_sem];by_cases hlt:i<x.Kids.length
  ·have e2:decide ((i:Int)<(x.Kids.length:Nat))=true:=decide_eq_true (by omega);have hm:=gMm hlt;have hdr:x.Kids.drop i=x.Kids[i]::x.Kids.drop (i+1):=by simp
   rw[hdr]at h3 hI;simp only[qP]at h3;have e3:((d:Nat):Int)-1=((d-1:Nat):Int):=by omega
   simp only[e2,go_sem,gMp,gEg hlt,oMs,zF (n:=((d:Nat):Int)-1) (by omega) (by omega)];rw[e3];refine qG (ih _ hm (d-1) (by omega) (b3 _ hm) (by omega)) ?_;simp only[go_sem];rw[qC.nods]at hI;cases hk:x.Kids[i].nod (d-1)with
   | none=>
    rw[hk]at hI;simp only at hI;have e4:decide (jB none<0)=true:=rfl;simp only[e4,go_sem];exact qE rfl (by rw[er,hI];rfl)
   | some n=>
    rw[hk]at hI;simp only at hI;have hnl:=qC.nod_le hk;have e4:decide (jB (some n)<0)=false:=decide_eq_false (by simp only[jB];omega);have e5:(s:Int)+jB (some n)=((s+n:Nat):Int):=by simp only[jB];omega
    simp only[e4,e5,go_sem,zF (n:=((s+n:Nat):Int)) (by omega) (by omega),zC (show i<4611686018427387904 by omega)];exact qf (i+1,s+n) ⟨by simp only;omega,by simp only;omega,hI⟩ (by simp only;omega) (Can.sub (by simp[go_sem]) (by simp[go_sem]))
  ·have e2:decide ((i:Int)<(x.Kids.length:Nat))=false:=decide_eq_false (by omega);obtain rfl:i=x.Kids.length:=by omega
   simp only[e2,go_sem];refine qE rfl ?_;rw[er,hI];simp[qC.nods,jB]
theorem Uw{x:qC}(hb:x.bd)(hn:x.nd<=1048576):Pure Gm 208 [x.enc] (.bool (ja x)):=by
 refine pJ VY ?_;simp only[VY,qI,go_sem];refine zV qC.ln ?_;simp only[go_sem];refine qG (c541 x 6 (by decide) hb hn) ?_;simp only[go_sem];refine qG J1 ?_;simp only[go_sem];exact qE rfl (by rw[qbG])
end Go.Ab
namespace Go.Ab
open Go
set_option maxRecDepth 10000
set_option maxHeartbeats 2000000
theorem qTA{p:UInt8->Bool}:∀{l:Str},(l.takeWhile p).all p=true
 |[]=>rfl
 | x::l=>by
  by_cases h:p x=true
  ·rw[List.takeWhile_cons_of_pos h,lAc,h,qTA];rfl
  ·rw[List.takeWhile_cons_of_neg h];rfl
theorem qa1{t:Str}{i:Nat}(hk:(zE t i).1≠0):Jc (jI t i):=by
 intro h5 h3;by_cases hp:0<(qg t i).length
 ·have e:=kT hp;have ets:wG t i=jI t i:=by unfold wG;rw[if_neg hk]
  rw[ets]at e;have et:(jI t i).Text=qg t i:=by rw[e]
  rw[et];refine⟨qTA, ?_⟩;have ee:=X1 hp;cases q:za (qg t i)
  ·rfl
  ·exfalso;apply h3;rw[q]at ee;simp only[jI,ee,if_true]
 ·exfalso;apply h5;have hk':=hk;unfold zE at hk';rw[if_neg hp]at hk';simp only[jI];unfold zE;rw[if_neg hp];split
  ·rfl
  ·rename_i h1;rw[if_neg h1]at hk';split
   ·rfl
   ·rename_i h2;rw[if_neg h2]at hk';exact absurd rfl hk'
theorem kW{t:Str}:∀(f:Nat){i:Nat}{acc l:List qJ},jZ t f i acc=.ok l->(∀x∈acc,Jc x)->∀x∈l,Jc x
 | 0,i,acc,l,h,hx=>by simp only[jZ,Except.ok.injEq]at h;subst h;exact hx
 | f+1,i,acc,l,h,hx=>by
  simp only[jZ]at h;split at h
  ·split at h
   ·exact kW f h hx
   ·split at h
    ·cases h
    ·rename_i hk;refine kW f h fun x hm=> ?_;rcases jR.1 hm with hm | hm
     ·exact hx x hm
     ·simp only[lMg]at hm;subst hm;exact qa1 hk
  ·simp only[Except.ok.injEq]at h;subst h;exact hx
theorem qa4{t:Str}:∀x∈(qn t).1,Jc x:=by
 unfold qn;split
 ·exact fun x hx=>by simp at hx
 ·split
  ·exact fun x hx=>by simp at hx
  ·rename_i l h;exact kW _ h (fun x hx=>by simp at hx)
section
variable {h:List qB} {id a:Nat} {toks:List qJ} {bad:Bool} {t:Str}
theorem n358:SCall Gm 358 [.str t] h fun v h'=>if (qn t).2.2=0 then v=.tup [.ptr h.length 0 0,.int .i64 0,.int .i64 0]/\h'=h++[prS (qn t).1 0 false]else v=.tup [.nilp,.int .i64 (qn t).2.1,.int .i64 (qn t).2.2]/\h'=h:=by
 refine sI Vn ?_;simp only[Vn,qI,go_sem];refine qG c735 ?_;simp only[go_sem];by_cases hc:(qn t).2.2=0
 ·simp only[decide_eq_true hc,Bool.not_true,go_sem];refine JU rfl ?_;simp only[go_sem];rw[if_pos hc];exact⟨by trivial,by trivial⟩
 ·simp only[decide_eq_false hc,Bool.not_false,go_sem];rw[if_neg hc];exact⟨by trivial,by trivial⟩
theorem n738(ho:h[id]?=some (prS toks a bad))(hl:toks.length<=1048576):SCall Gm 738 [.ptr id 0 0,.str t] h fun v h'=>v=.int .i64 (nxt toks a t.length).At/\h'=h:=by
 refine sI UE ?_;unfold prS at ho;simp only[UE,qI,go_sem,ho,oMs,lMp];by_cases hlt:a<toks.length
 ·have e1:decide ((a:Int)<toks.length)=true:=decide_eq_true (by omega);simp only[e1,go_sem,ho,gMp,gEg hlt,oMs];exact⟨by simp[nxt,gEg hlt],trivial⟩
 ·have e1:decide ((a:Int)<toks.length)=false:=decide_eq_false (by omega);simp only[e1,go_sem];exact⟨by simp[nxt,gEn (show toks.length<=a by omega)],trivial⟩
def wx(toks:List qJ)(a:Nat)(bad:Bool):Bool:=bad || decide (a<toks.length)
theorem n360(ho:h[id]?=some (prS toks a bad))(hl:toks.length<=1048576):SCall Gm 360 [.ptr id 0 0,.str t] h fun v h'=>v=(if wx toks a bad then .tup [.int .i64 (nxt toks a t.length).At,.int .i64 6]else .tup [.int .i64 0,.int .i64 0])/\h'=h:=by
 refine sI Vo ?_;have ho':=ho;unfold prS at ho';simp only[Vo,qI,go_sem,ho',oMs,lMp];cases bad
 ·simp only[go_sem,ho',oMs,lMp];by_cases hlt:a<toks.length
  ·have e1:decide ((a:Int)<toks.length)=true:=decide_eq_true (by omega);have e2:wx toks a false=true:=by simp[wx,hlt]
   simp only[e1,go_sem];refine qZ rfl (n738 ho hl) ?_;simp only[go_sem];rw[e2,if_pos rfl];exact⟨by trivial,by trivial⟩
  ·have e1:decide ((a:Int)<toks.length)=false:=decide_eq_false (by omega);have e2:wx toks a false=false:=by simp[wx,hlt]
   simp only[e1,go_sem];rw[e2,if_neg (by decide)];exact⟨by trivial,by trivial⟩
 ·have e2:wx toks a true=true:=rfl;simp only[go_sem];refine qZ rfl (n738 ho hl) ?_;simp only[go_sem];rw[e2,if_pos rfl];exact⟨by trivial,by trivial⟩
end
end Go.Ab
namespace Go.Ab
open Go
set_option maxRecDepth 10000
set_option maxHeartbeats 2000000
def B2s(E:Ev)(d:Option Nat)(v:Option AV)(l:List qA)(ks:List Fr1)(st:VSt)(Q:qR->VSt->Prop):Prop:=match v with
 | some v=>(v=.nils\/wOf v=some 1)/\(match zR (toH st.h) v with
   | some el=>∃a:List UInt8,el=(a.map fun b:UInt8=>AV.int .u8 b.toNat)/\R E (.ops l::ks) (st.put d (.str a)) Q
   | none=>False)
 | none=>False
section
variable {E:Ev} {i:Nat} {d:Option Nat} {g:Option (Nat×Bool)} {x:Ao} {ck l:List qA} {ks:List Fr1} {s m:qj} {h:List qB} {Q:qR->VSt->Prop}
@[go_sem] theorem qc2:Go1 E (.mk i d g (.b2s x) ck) l ks ⟨s,m,h⟩ Q=B2s E d (ev (toE s) x) l ks ⟨s,m,h⟩ Q:=by
 unfold Go1 jt ju B2s;cases hq:ev (toE s) x<;>simp[qA.o,qA.d,AOp.isCall,qA.apC,AOp.isApp,hq]<;>exact fun _=>Iff.rfl
theorem qUA{v:AV}{e:Nat}{a:List UInt8}(hw:wOf v=some 1)(he:zR (toH h) v=some (a.map fun b:UInt8=>AV.int .u8 b.toNat))(hr:R E (.ops l::ks) ⟨(e,.str a)::s,m,h⟩ Q):B2s E (some e) (some v) l ks ⟨s,m,h⟩ Q:=
 ⟨.inr hw,by rw[he];exact⟨a,rfl,hr⟩⟩
end
end Go.Ab
namespace Go.Ab
open Go
set_option maxRecDepth 10000
set_option maxHeartbeats 2000000
theorem qC.layE(x:qC)(n:Nat):lay x.enc n=(.agg [.int .i64 x.Kind,.str x.Name,.slice 3 (n) 0 x.Kids.length false],(lay (.lst 3 (x.Kids.map qC.enc) false) (n)).2++[]):=by
 rw[qC.enc_eq];simp[lay,qa,wN,AV.rows,Nat.add_assoc,Nat.add_comm,Nat.add_left_comm]
def qC.wz(x:qC):Nat:=x.nd-1
theorem qC.nd_wz(x:qC):x.nd=1+x.wz:=by have:=x.nd_eq;unfold qC.wz;omega
theorem qC.wz_eq(x:qC):x.wz=x.Kids.length+qP qC.wz x.Kids:=by
 have h:∀xs:List qC,qP qC.nd xs=xs.length+qP qC.wz xs:=by
  intro xs
  induction xs with
  | nil=>rfl
  | cons a xs ih=>have:=a.nd_wz;simp only[qP,lCo];omega
 have:=x.nd_eq;unfold qC.wz;rw[this,h];unfold qC.wz;omega
end Go.Ab
namespace Go.Ab
open Go
set_option maxRecDepth 10000
set_option maxHeartbeats 2000000
end Go.Ab
namespace Go.Ab
open Go
set_option maxRecDepth 10000
set_option maxHeartbeats 2000000
inductive qD where
 | mk (Kind Num:Int) (Name:List UInt8) (Typ:qC) (Names:List (List UInt8)) (Kids:List qD)
def qD.Kind:qD->Int |.mk a _ _ _ _ _=>a
def qD.Num:qD->Int |.mk _ a _ _ _ _=>a
def qD.Name:qD->List UInt8 |.mk _ _ a _ _ _=>a
def qD.Typ:qD->qC |.mk _ _ _ a _ _=>a
def qD.Names:qD->List (List UInt8) |.mk _ _ _ _ a _=>a
def qD.Kids:qD->List qD |.mk _ _ _ _ _ a=>a
theorem qD.lt_of_mem{x:qD}{y:qD}(h:y∈x.Kids):SizeOf.sizeOf y<SizeOf.sizeOf x:=by
 cases x with
 | mk a b c d e f=>
  have:=List.sizeOf_lt_of_mem (show y∈f from h);simp only[qD.mk.sizeOf_spec];omega
theorem qD.ind{P:qD->Prop}(h:∀x,(∀y,y∈x.Kids->P y)->P x)(x:qD):P x:=
 h x fun y hy=>qD.ind h y
termination_by SizeOf.sizeOf x
decreasing_by exact qD.lt_of_mem hy
mutual
def qD.enc:qD->AV
 |.mk k v n t ns ks=>.agg [.int .i64 k,.int .i64 v,.str n,.int .i64 t.Kind,.str t.Name,.lst 3 (t.Kids.map qC.enc) false,.lst 1 (ns.map qW) false,.lst 8 (qD.encs ks) false]
def qD.encs:List qD->List AV
 |[]=>[]
 | x::xs=>x.enc::qD.encs xs
end
theorem qD.encs_eq:∀xs,qD.encs xs=xs.map qD.enc
 |[]=>by simp[qD.encs]
 | x::xs=>by simp[qD.encs,qD.encs_eq xs]
theorem qD.enc_eq(x:qD):x.enc=.agg [.int .i64 x.Kind,.int .i64 x.Num,.str x.Name,.int .i64 x.Typ.Kind,.str x.Typ.Name,.lst 3 (x.Typ.Kids.map qC.enc) false,.lst 1 (x.Names.map qW) false,.lst 8 (x.Kids.map qD.enc) false]:=by
 cases x;simp[qD.enc,qD.encs_eq,qD.Kind,qD.Num,qD.Name,qD.Typ,qD.Names,qD.Kids]
theorem qD.trx:∀x:qD,x.enc.tree=true:=qD.ind fun x ih=>by
 rw[qD.enc_eq];have h:∀xs:List qD,(∀y∈xs,y.enc.tree=true)->AV.trees (xs.map qD.enc)=true:=by
  intro xs
  induction xs with
  | nil=>intro _;rfl
  | cons a xs ihx=>intro h;simp only[lMc,AV.trees,bAt];exact⟨h a (by simp),ihx fun y hy=>h y (by simp[hy])⟩
 simp[AV.tree,AV.trees,zM shS.tree,zM qC.isSh.tree,h _ ih]
theorem qD.isSh:Sh qD.enc 8 (some 8):=⟨qD.trx,fun x=>by rw[qD.enc_eq];rfl,fun x=>by rw[qD.enc_eq];rfl,by decide,fun x=>by rw[qD.enc_eq];simp⟩
section
variable {x:qD}
@[go_sem] theorem qD.tr:x.enc.tree=true:=qD.trx x
@[go_sem] theorem qD.ln:x.enc.cells.length=8:=by rw[qD.enc_eq];rfl
@[go_sem] theorem qD.all:x.enc.part 0 (some 8)=some x.enc:=by rw[qD.enc_eq];rfl
@[go_sem] theorem qD.p0:x.enc.part 0 none=some (.int .i64 x.Kind):=by rw[qD.enc_eq];rfl
@[go_sem] theorem qD.p1:x.enc.part 1 none=some (.int .i64 x.Num):=by rw[qD.enc_eq];rfl
@[go_sem] theorem qD.p2:x.enc.part 2 none=some (.str x.Name):=by rw[qD.enc_eq];rfl
@[go_sem] theorem qD.p3:x.enc.part 3 (some 3)=some x.Typ.enc:=by rw[qD.enc_eq,qC.enc_eq];rfl
@[go_sem] theorem qD.p6:x.enc.part 6 none=some (.lst 1 (x.Names.map qW) false):=by rw[qD.enc_eq];rfl
@[go_sem] theorem qD.p7:x.enc.part 7 none=some (.lst 8 (x.Kids.map qD.enc) false):=by rw[qD.enc_eq];rfl
end
mutual
def qD.wz:qD->Nat
 |.mk _ _ _ t ns ks=>t.wz+(ns.length+(ks.length+qD.wzs ks))
def qD.wzs:List qD->Nat
 |[]=>0
 | x::xs=>x.wz+qD.wzs xs
end
theorem qD.wzs_eq:∀xs,qD.wzs xs=qP qD.wz xs
 |[]=>by simp[qD.wzs,qP]
 | x::xs=>by simp[qD.wzs,qP,qD.wzs_eq xs]
theorem qD.wz_eq(x:qD):x.wz=x.Typ.wz+(x.Names.length+(x.Kids.length+qP qD.wz x.Kids)):=by
 cases x;simp[qD.wz,qD.wzs_eq,qD.Typ,qD.Names,qD.Kids]
mutual
def qD.nd:qD->Nat
 |.mk _ _ _ _ _ ks=>1+qD.nds ks
def qD.nds:List qD->Nat
 |[]=>0
 | x::xs=>x.nd+qD.nds xs
end
theorem qD.nds_eq:∀xs,qD.nds xs=qP qD.nd xs
 |[]=>by simp[qD.nds,qP]
 | x::xs=>by simp[qD.nds,qP,qD.nds_eq xs]
theorem qD.nd_eq(x:qD):x.nd=1+qP qD.nd x.Kids:=by cases x;simp[qD.nd,qD.nds_eq,qD.Kids]
theorem qD.nd_wz:∀x:qD,x.nd<=x.wz+1:=qD.ind fun x ih=>by
 have h:∀xs:List qD,(∀y∈xs,y.nd<=y.wz+1)->qP qD.nd xs<=xs.length+qP qD.wz xs:=by
  intro xs
  induction xs with
  | nil=>intro _;exact nLr _
  | cons a xs ihx=>intro h;have:=h a (by simp);have:=ihx fun y hy=>h y (by simp[hy]);simp only[qP,lCo];omega
 have:=h x.Kids ih;rw[x.nd_eq,x.wz_eq];omega
mutual
def qD.bd:qD->Prop
 |.mk _ _ n t ns ks=>n.length<=20000/\t.bd/\(∀s∈ns,s.length<=20000)/\qD.bds ks
def qD.bds:List qD->Prop
 |[]=>True
 | x::xs=>x.bd/\qD.bds xs
end
theorem qD.bds_eq:∀xs,qD.bds xs↔∀y∈xs,qD.bd y
 |[]=>by simp[qD.bds]
 | x::xs=>by simp[qD.bds,qD.bds_eq xs]
theorem qD.bd_eq(x:qD):x.bd↔x.Name.length<=20000/\x.Typ.bd/\(∀s∈x.Names,s.length<=20000)/\∀y∈x.Kids,y.bd:=by
 cases x;simp[qD.bd,qD.bds_eq,qD.Name,qD.Typ,qD.Names,qD.Kids]
def noT:qC:=.mk 0 [] []
def tmk(k n:Int)(s:Str)(ks:List qD):qD:=.mk k n s noT [] ks
def qbM:qD:=tmk 0 0 [] []
end Go.Ab
namespace Go.Ab
open Go
set_option maxRecDepth 10000
set_option maxHeartbeats 2000000
def exB{α β:Type}(r:Except Nat (α×Nat))(k:α->Nat->Except Nat (β×Nat)):Except Nat (β×Nat):=match r with
 |.ok (t,b)=>k t b
 |.error b=>.error b
theorem qe{α β:Type}{t:α}{b:Nat}{k:α->Nat->Except Nat (β×Nat)}:exB (.ok (t,b)) k=k t b:=rfl
theorem qo{α β:Type}{b:Nat}{k:α->Nat->Except Nat (β×Nat)}:exB (.error b) k=.error b:=rfl
theorem qm{α β:Type}{r:Except Nat (α×Nat)}{k:α->Nat->Except Nat (β×Nat)}{x:β×Nat}(h:exB r k=.ok x):∃t b,r=.ok (t,b)/\k t b=.ok x:=by
 match r,h with
 |.ok (t,b),h=>exact⟨t,b,rfl,h⟩
def qQ(toks:List qJ)(s:Str)(a:Nat):Except Nat (Unit×Nat):=if isP toks a s then .ok ((),a+1)else .error a
def zN(toks:List qJ)(k:Int)(a:Nat):Except Nat (Str×Nat):=match toks[a]? with
 | some t=>if t.Kind=k then .ok (t.Text,a+1)else .error a
 | none=>.error a
def opN(toks:List qJ)(lo:Int)(s1 s2:Str)(a:Nat):Int:=if isP toks a s1 then lo else if isP toks a s2 then lo+1 else 0
def jG(toks:List qJ)(neg:Bool)(a:Nat):Except Nat (qD×Nat):=match toks[a]? with
 | some t=>if t.Kind=4/\(neg=true\/t.Text≠wh)then .ok (tmk 2 (if neg then-(qX t.Text:Int)else(qX t.Text:Int)) [] [],a+1)else .error a
 | none=>.error a
def bgP(toks:List qJ)(a:Nat):Bool:=(match toks[a]? with
 | some t=>decide (t.Kind=1) || (decide (t.Kind=2) || decide (t.Kind=4))
 | none=>false) || (isP toks a [33] || (isP toks a [40] || isP toks a [109,97,116,99,104]))
def jp(toks:List qJ):Nat->List Str->Nat->Except Nat (List Str×Nat)
 | 0,_,a=>.error a
 | n+1,acc,a=>exB (zN toks 1 a) fun s b=>if isP toks b [44]then jp toks n (acc++[s]) (b+1)else exB (qQ toks [93] b) fun _ b=>.ok (acc++[s],b)
def wP(toks:List qJ)(a:Nat):Except Nat (List Str×Nat):=if isP toks a [91]then jp toks (toks.length-a) [] (a+1)else .ok ([],a)
inductive Jb where
 | term
 | cmp
 | sum
 | sumL (t:qD)
 | prod
 | prodL (t:qD)
 | app
 | appL (t:qD)
 | pre
 | encl
 | con (s:Str) (ks:List qD)
 | mat
 | matL (ks:List qD)
 | bran
def pM(toks:List qJ):Nat->Jb->Nat->Except Nat (qD×Nat)
 | 0,_,a=>.error a
 | f+1,.term,a=>
  if isP toks a [92]then exB (zN toks 1 (a+1)) fun s b=>exB (qQ toks [58] b) fun _ b=>exB (pT toks (zj toks false b) false b) fun ty b=>exB (qQ toks [46] b) fun _ b=>exB (pM toks f .term b) fun t b=>.ok (.mk 4 0 s ty [] [t],b)
  else if isP toks a [108,101,116]then exB (zN toks 1 (a+1)) fun s b=>exB (qQ toks [61] b) fun _ b=>exB (pM toks f .term b) fun t b=>exB (qQ toks [105,110] b) fun _ b=>exB (pM toks f .term b) fun u b=>.ok (tmk 7 0 s [t,u],b)
  else if isP toks a [105,102]then exB (pM toks f .term (a+1)) fun t b=>exB (qQ toks [116,104,101,110] b) fun _ b=>exB (pM toks f .term b) fun u b=>exB (qQ toks [101,108,115,101] b) fun _ b=>exB (pM toks f .term b) fun v b=>.ok (tmk 11 0 [] [t,u,v],b)
  else pM toks f .cmp a
 | f+1,.cmp,a=>exB (pM toks f .sum a) fun t b=>if opN toks 5 [60] [61] b=0 then .ok (t,b)else exB (pM toks f .sum (b+1)) fun u c=>.ok (tmk 3 (opN toks 5 [60] [61] b) [] [t,u],c)
 | f+1,.sum,a=>exB (pM toks f .prod a) fun t b=>pM toks f (.sumL t) b
 | f+1,.sumL t,a=>if opN toks 1 [43] [45] a=0 then .ok (t,a)else exB (pM toks f .prod (a+1)) fun u b=>pM toks f (.sumL (tmk 3 (opN toks 1 [43] [45] a) [] [t,u])) b
 | f+1,.prod,a=>exB (pM toks f .app a) fun t b=>pM toks f (.prodL t) b
 | f+1,.prodL t,a=>if opN toks 3 [42] [47] a=0 then .ok (t,a)else exB (pM toks f .app (a+1)) fun u b=>pM toks f (.prodL (tmk 3 (opN toks 3 [42] [47] a) [] [t,u])) b
 | f+1,.app,a=>exB (pM toks f .pre a) fun t b=>pM toks f (.appL t) b
 | f+1,.appL t,a=>if bgP toks a then exB (pM toks f .pre a) fun u b=>pM toks f (.appL (tmk 5 0 [] [t,u])) b else .ok (t,a)
 | f+1,.pre,a=>
  if isP toks a [33]then exB (pM toks f .pre (a+1)) fun t b=>.ok (tmk 6 0 [] [t],b)
  else if isP toks a [40]then pM toks f .encl (a+1)
  else if isP toks a [109,97,116,99,104]then pM toks f .mat (a+1)
  else match toks[a]? with
   | none=>.error a
   | some t=>if t.Kind=1 then .ok (tmk 1 0 t.Text [],a+1)else if t.Kind=2 then(if isP toks (a+1) [91]then pM toks f (.con t.Text []) (a+2)else .ok (tmk 8 0 t.Text [],a+1))else jG toks false a
 | f+1,.encl,a=>exB (if isP toks a [45]then jG toks true (a+1)else pM toks f .term a) fun t b=>exB (qQ toks [41] b) fun _ b=>.ok (t,b)
 | f+1,.con s ks,a=>exB (pM toks f .term a) fun t b=>if isP toks b [44]then pM toks f (.con s (ks++[t])) (b+1)else exB (qQ toks [93] b) fun _ b=>.ok (tmk 8 0 s (ks++[t]),b)
 | f+1,.mat,a=>exB (pM toks f .term a) fun t b=>exB (qQ toks [123] b) fun _ b=>pM toks f (.matL [t]) b
 | f+1,.matL ks,a=>exB (pM toks f .bran a) fun t b=>if isP toks b [59]then pM toks f (.matL (ks++[t])) (b+1)else exB (qQ toks [125] b) fun _ b=>.ok (tmk 9 0 [] (ks++[t]),b)
 | f+1,.bran,a=>exB (zN toks 2 a) fun s b=>exB (wP toks b) fun ns b=>exB (qQ toks [45,62] b) fun _ b=>exB (pM toks f .term b) fun t b=>.ok (.mk 10 0 s noT ns [t],b)
def Jb.rk:Jb->Nat
 |.term=>6
 |.cmp=>5
 |.sum=>4
 |.prod=>3
 |.app=>2
 |.pre=>1
 |.encl=>7
 |.con _ _=>7
 |.mat=>7
 |.matL _=>2
 |.bran=>1
 | _=>2
def mJ(toks:List qJ)(j:Jb)(a:Nat):Nat:=20*(toks.length-a)+j.rk
theorem zq{toks:List qJ}{j j':Jb}{a b f:Nat}(h:mJ toks j a<=f+1)(hab:a<b)(hb:b<=toks.length):mJ toks j' b<=f:=by
 have h1:j'.rk<=7:=by cases j'<;>simp[Jb.rk]
 unfold mJ at h|-;omega
theorem jo{toks:List qJ}{j j':Jb}{a f:Nat}(h:mJ toks j a<=f+1)(hr:j'.rk<j.rk):mJ toks j' a<=f:=by
 unfold mJ at h|-;omega
theorem Jo{toks:List qJ}{j:Jb}{a:Nat}(h:mJ toks j a<=0):False:=by
 have h1:1<=j.rk:=by cases j<;>simp[Jb.rk]
 unfold mJ at h;omega
theorem jU{toks:List qJ}{s:Str}{a b:Nat}{u:Unit}(h:qQ toks s a=.ok (u,b)):a<b/\b=a+1/\b<=toks.length/\isP toks a s=true:=by
 unfold qQ at h;split at h
 ·rename_i h1;have:=qV h1;cases h;exact⟨by omega,rfl,this,h1⟩
 ·cases h
theorem ji{toks:List qJ}{k:Int}{a b:Nat}{s:Str}(h:zN toks k a=.ok (s,b)):a<b/\b<=toks.length/\b=a+1/\∃t∈toks,toks[a]?=some t/\t.Kind=k/\s=t.Text:=by
 unfold zN at h;split at h
 ·rename_i t h1;split at h
  ·have:=(gSi.1 h1).1;rename_i h2;cases h;exact⟨by omega,by omega,rfl,t,lMo h1,h1,h2,rfl⟩
  ·cases h
 ·cases h
theorem qRI{toks:List qJ}{neg:Bool}{a b:Nat}{t:qD}(h:jG toks neg a=.ok (t,b)):a<b/\b<=toks.length/\t.wz=0/\t.bd:=by
 unfold jG at h;split at h
 ·rename_i x h1;split at h
  ·have:=(gSi.1 h1).1;cases h;refine⟨by omega,by omega,rfl, ?_⟩;rw[qD.bd_eq];exact⟨by simp[tmk,qD.Name],by rw[qC.bd_eq];simp[tmk,qD.Typ,noT,qC.Name,qC.Kids],by simp[tmk,qD.Names],by simp[tmk,qD.Kids]⟩
  ·cases h
 ·cases h
theorem Qr{toks:List qJ}{lo:Int}{s1 s2:Str}{a:Nat}(h:¬opN toks lo s1 s2 a=0):a<toks.length:=by
 unfold opN at h;split at h
 ·rename_i h1;exact qV h1
 ·split at h
  ·rename_i h1;exact qV h1
  ·exact absurd rfl h
theorem qQ8{toks:List qJ}(hx:∀x∈toks,x.Text.length<=20000):∀(n:Nat){acc:List Str}{a b:Nat}{ns:List Str},(∀s∈acc,s.length<=20000)->jp toks n acc a=.ok (ns,b)->a<b/\b<=toks.length/\ns.length+a<acc.length+b/\∀s∈ns,s.length<=20000
 | 0,acc,a,b,ns,ha,h=>by simp[jp]at h
 | n+1,acc,a,b,ns,ha,h=>by
  simp only[jp]at h;obtain⟨s,c,h1,h⟩:=qm h;obtain⟨w1,w2,w3,t,w4,_,_,rfl⟩:=ji h1;have ha':∀s∈acc++[t.Text],s.length<=20000:=fun s hs=>by
   rcases jR.1 hs with hs | hs
   ·exact ha s hs
   ·simp only[lMg]at hs;subst hs;exact hx t w4
  split at h
  ·obtain⟨i1,i2,i3,i4⟩:=qQ8 hx n ha' h;simp only[lAp,lCo,lNi]at i3;exact⟨by omega,i2,by omega,i4⟩
  ·obtain⟨_,d,h2,h⟩:=qm h;obtain⟨n1,n2,n3,_⟩:=jU h2;cases h;simp only[lAp,lCo,lNi];exact⟨by omega,n3,by omega,ha'⟩
theorem qRA{toks:List qJ}(hx:∀x∈toks,x.Text.length<=20000){a b:Nat}{ns:List Str}(ha:a<=toks.length)(h:wP toks a=.ok (ns,b)):a<=b/\b<=toks.length/\ns.length+a<=b/\∀s∈ns,s.length<=20000:=by
 unfold wP at h;split at h
 ·obtain⟨i1,i2,i3,i4⟩:=qQ8 hx _ (fun s hs=>by cases hs) h;simp only[lNi]at i3;exact⟨by omega,i2,by omega,i4⟩
 ·cases h;exact⟨nLr _,ha,by simp,fun s hs=>by cases hs⟩
def Jb.good:Jb->Prop
 |.sumL t=>t.bd
 |.prodL t=>t.bd
 |.appL t=>t.bd
 |.con s ks=>s.length<=20000/\∀t∈ks,t.bd
 |.matL ks=>∀t∈ks,t.bd
 | _=>True
def Jb.bs:Jb->Nat
 |.sumL t=>t.wz+2
 |.prodL t=>t.wz+2
 |.appL t=>t.wz+2
 |.con _ ks=>ks.length+qP qD.wz ks+2
 |.matL ks=>ks.length+qP qD.wz ks+2
 | _=>0
def Jb.str:Jb->Nat
 |.sumL _=>0
 |.prodL _=>0
 |.appL _=>0
 | _=>1
theorem Wd{α:Type}{f:α->Nat}:∀{xs ys:List α},qP f (xs++ys)=qP f xs+qP f ys
 |[],ys=>by simp[qP]
 | x::xs,ys=>by simp only[lCa,qP,Wd (xs:=xs)];omega
theorem JL{k n:Int}{s:Str}{ks:List qD}:(tmk k n s ks).wz=ks.length+qP qD.wz ks:=by
 have:noT.wz=0:=rfl;rw[qD.wz_eq];simp[tmk,qD.Typ,qD.Names,qD.Kids,this]
theorem qRE:noT.bd:=by rw[qC.bd_eq];simp[noT,qC.Name,qC.Kids]
theorem JK{k n:Int}{s:Str}{ks:List qD}(hs:s.length<=20000)(hk:∀t∈ks,t.bd):(tmk k n s ks).bd:=by
 rw[qD.bd_eq];exact⟨hs,qRE,by simp[tmk,qD.Names],hk⟩
theorem jX{toks:List qJ}(hx:∀x∈toks,x.Text.length<=20000):∀(f:Nat)(j:Jb)(a:Nat){t:qD}{b:Nat},j.good->a<=toks.length->pM toks f j a=.ok (t,b)->a+j.str<=b/\b<=toks.length/\t.bd/\t.wz+2<=j.bs+2*(b-a):=by
 have hm:∀{a:Nat}{x:qJ},toks[a]?=some x->x.Text.length<=20000/\a<toks.length:=fun h=>⟨hx _ (lMo h),(gSi.1 h).1⟩;intro f
 induction f with
 | zero=>intro j a t b _ _ h;simp[pM]at h
 | succ f ih=>
 intro j a t b hg ha h;cases j with
 | term=>
  simp only[pM]at h;split at h
  ·rename_i q;have ql:=qV q;obtain⟨s,c1,e1,h⟩:=qm h;obtain⟨w1,w2,w3,tk,w4,_,_,rfl⟩:=ji e1;obtain⟨_,c2,e2,h⟩:=qm h;obtain⟨n1,n2,n3,_⟩:=jU e2;obtain⟨ty,c3,e3,h⟩:=qm h;obtain⟨t1,t2⟩:=K8 hx _ _ _ e3;have t3:=jP _ _ _ e3;obtain⟨_,c4,e4,h⟩:=qm h;obtain⟨m1,m2,m3,_⟩:=jU e4;obtain⟨u,c5,e5,h⟩:=qm h;obtain⟨i1,i2,i3,i4⟩:=ih .term _ trivial m3 e5;simp only[Jb.str,Jb.bs]at i1 i4;cases h;have:=ty.nd_wz;refine⟨by simp only[Jb.str];omega,i2, ?_, ?_⟩
   ·rw[qD.bd_eq];exact⟨hx _ w4,t1,by simp[qD.Names],fun y hy=>by simp[qD.Kids]at hy;subst hy;exact i3⟩
   ·rw[qD.wz_eq];simp only[qD.Typ,qD.Names,qD.Kids,qP,lNi,lCo,Jb.bs];omega
  split at h
  ·rename_i q;have ql:=qV q;obtain⟨s,c1,e1,h⟩:=qm h;obtain⟨w1,w2,w3,tk,w4,_,_,rfl⟩:=ji e1;obtain⟨_,c2,e2,h⟩:=qm h;obtain⟨n1,n2,n3,_⟩:=jU e2;obtain⟨u,c3,e3,h⟩:=qm h;obtain⟨i1,i2,i3,i4⟩:=ih .term _ trivial n3 e3;obtain⟨_,c4,e4,h⟩:=qm h;obtain⟨m1,m2,m3,_⟩:=jU e4;obtain⟨v,c5,e5,h⟩:=qm h;obtain⟨k1,k2,k3,k4⟩:=ih .term _ trivial m3 e5;simp only[Jb.str,Jb.bs]at i1 i4 k1 k4;cases h;refine⟨by simp only[Jb.str];omega,k2,JK (hx _ w4) (by simp[i3,k3]), ?_⟩;rw[JL];simp only[lCo,lNi,qP,Jb.bs];omega
  split at h
  ·rename_i q;have ql:=qV q;obtain⟨u,c3,e3,h⟩:=qm h;obtain⟨i1,i2,i3,i4⟩:=ih .term _ trivial (by omega) e3;obtain⟨_,c4,e4,h⟩:=qm h;obtain⟨m1,m2,m3,_⟩:=jU e4;obtain⟨v,c5,e5,h⟩:=qm h;obtain⟨k1,k2,k3,k4⟩:=ih .term _ trivial m3 e5;obtain⟨_,c6,e6,h⟩:=qm h;obtain⟨n1,n2,n3,_⟩:=jU e6;obtain⟨w,c7,e7,h⟩:=qm h;obtain⟨l1,l2,l3,l4⟩:=ih .term _ trivial n3 e7;simp only[Jb.str,Jb.bs]at i1 i4 k1 k4 l1 l4;cases h;refine⟨by simp only[Jb.str];omega,l2,JK (by simp) (by simp[i3,k3,l3]), ?_⟩;rw[JL];simp only[lCo,lNi,qP,Jb.bs];omega
  ·exact ih .cmp _ trivial ha h
 | cmp=>
  simp only[pM]at h;obtain⟨u,c,e1,h⟩:=qm h;obtain⟨i1,i2,i3,i4⟩:=ih .sum _ trivial ha e1;split at h
  ·cases h;exact⟨i1,i2,i3,i4⟩
  ·rename_i q;have ql:=Qr q;obtain⟨v,d,e2,h⟩:=qm h;obtain⟨k1,k2,k3,k4⟩:=ih .sum _ trivial ql e2;simp only[Jb.str,Jb.bs]at i1 i4 k1 k4;cases h;refine⟨by simp only[Jb.str];omega,k2,JK (by simp) (by simp[i3,k3]), ?_⟩;rw[JL];simp only[lCo,lNi,qP,Jb.bs];omega
 | sum=>
  simp only[pM]at h;obtain⟨u,c,e1,h⟩:=qm h;obtain⟨i1,i2,i3,i4⟩:=ih .prod _ trivial ha e1;obtain⟨k1,k2,k3,k4⟩:=ih (.sumL u) _ i3 i2 h;simp only[Jb.str,Jb.bs]at i1 i4 k1 k4;exact⟨by simp only[Jb.str];omega,k2,k3,by simp only[Jb.bs];omega⟩
 | sumL t0=>
  simp only[pM]at h;split at h
  ·cases h;exact⟨by simp[Jb.str],ha,hg,by simp[Jb.bs]⟩
  ·rename_i q;have ql:=Qr q;obtain⟨u,c,e1,h⟩:=qm h;obtain⟨i1,i2,i3,i4⟩:=ih .prod _ trivial ql e1;have hg2:Jb.good (.sumL (tmk 3 (opN toks 1 [43] [45] a) [] [t0,u])):=JK (k:=3) (n:=(opN toks 1 [43] [45] a)) (by simp) (fun y hy=>by
    simp only[List.mem_cons,List.not_mem_nil,or_false]at hy;rcases hy with rfl | rfl
    ·exact hg
    ·exact i3)
   obtain⟨k1,k2,k3,k4⟩:=ih _ _ hg2 i2 h;simp only[Jb.str,Jb.bs,JL,lCo,lNi,qP]at i1 i4 k1 k4;exact⟨by simp only[Jb.str];omega,k2,k3,by simp only[Jb.bs];omega⟩
 | prod=>
  simp only[pM]at h;obtain⟨u,c,e1,h⟩:=qm h;obtain⟨i1,i2,i3,i4⟩:=ih .app _ trivial ha e1;obtain⟨k1,k2,k3,k4⟩:=ih (.prodL u) _ i3 i2 h;simp only[Jb.str,Jb.bs]at i1 i4 k1 k4;exact⟨by simp only[Jb.str];omega,k2,k3,by simp only[Jb.bs];omega⟩
 | prodL t0=>
  simp only[pM]at h;split at h
  ·cases h;exact⟨by simp[Jb.str],ha,hg,by simp[Jb.bs]⟩
  ·rename_i q;have ql:=Qr q;obtain⟨u,c,e1,h⟩:=qm h;obtain⟨i1,i2,i3,i4⟩:=ih .app _ trivial ql e1;have hg2:Jb.good (.prodL (tmk 3 (opN toks 3 [42] [47] a) [] [t0,u])):=JK (k:=3) (n:=(opN toks 3 [42] [47] a)) (by simp) (fun y hy=>by
    simp only[List.mem_cons,List.not_mem_nil,or_false]at hy;rcases hy with rfl | rfl
    ·exact hg
    ·exact i3)
   obtain⟨k1,k2,k3,k4⟩:=ih _ _ hg2 i2 h;simp only[Jb.str,Jb.bs,JL,lCo,lNi,qP]at i1 i4 k1 k4;exact⟨by simp only[Jb.str];omega,k2,k3,by simp only[Jb.bs];omega⟩
 | app=>
  simp only[pM]at h;obtain⟨u,c,e1,h⟩:=qm h;obtain⟨i1,i2,i3,i4⟩:=ih .pre _ trivial ha e1;obtain⟨k1,k2,k3,k4⟩:=ih (.appL u) _ i3 i2 h;simp only[Jb.str,Jb.bs]at i1 i4 k1 k4;exact⟨by simp only[Jb.str];omega,k2,k3,by simp only[Jb.bs];omega⟩
 | appL t0=>
  simp only[pM]at h;split at h
  ·obtain⟨u,c,e1,h⟩:=qm h;obtain⟨i1,i2,i3,i4⟩:=ih .pre _ trivial ha e1;have hg2:Jb.good (.appL (tmk 5 0 [] [t0,u])):=JK (k:=5) (n:=0) (by simp) (fun y hy=>by
    simp only[List.mem_cons,List.not_mem_nil,or_false]at hy;rcases hy with rfl | rfl
    ·exact hg
    ·exact i3)
   obtain⟨k1,k2,k3,k4⟩:=ih _ _ hg2 i2 h;simp only[Jb.str,Jb.bs,JL,lCo,lNi,qP]at i1 i4 k1 k4;exact⟨by simp only[Jb.str];omega,k2,k3,by simp only[Jb.bs];omega⟩
  ·cases h;exact⟨by simp[Jb.str],ha,hg,by simp[Jb.bs]⟩
 | pre=>
  simp only[pM]at h;split at h
  ·rename_i q;have ql:=qV q;obtain⟨u,c,e1,h⟩:=qm h;obtain⟨i1,i2,i3,i4⟩:=ih .pre _ trivial ql e1;simp only[Jb.str,Jb.bs]at i1 i4;cases h;refine⟨by simp only[Jb.str];omega,i2,JK (by simp) (by simp[i3]), ?_⟩;rw[JL];simp only[lCo,lNi,qP,Jb.bs];omega
  split at h
  ·rename_i q;have ql:=qV q;obtain⟨i1,i2,i3,i4⟩:=ih .encl _ trivial ql h;simp only[Jb.str,Jb.bs]at i1 i4;exact⟨by simp only[Jb.str];omega,i2,i3,by simp only[Jb.bs];omega⟩
  split at h
  ·rename_i q;have ql:=qV q;obtain⟨i1,i2,i3,i4⟩:=ih .mat _ trivial ql h;simp only[Jb.str,Jb.bs]at i1 i4;exact⟨by simp only[Jb.str];omega,i2,i3,by simp only[Jb.bs];omega⟩
  split at h
  ·cases h
  ·rename_i tk e0;obtain⟨hl,hlt⟩:=hm e0;split at h
   ·cases h;refine⟨by simp only[Jb.str];omega,by omega,JK hl (by simp), ?_⟩;rw[JL];simp only[lNi,qP,Jb.bs];omega
   ·split at h
    ·split at h
     ·rename_i q;have ql:=qV q;obtain⟨i1,i2,i3,i4⟩:=ih (.con _ _) _ ⟨hl,by simp⟩ (by omega) h;simp only[Jb.str,Jb.bs,lNi,qP]at i1 i4;exact⟨by simp only[Jb.str];omega,i2,i3,by simp only[Jb.bs];omega⟩
     ·cases h;refine⟨by simp only[Jb.str];omega,by omega,JK hl (by simp), ?_⟩;rw[JL];simp only[lNi,qP,Jb.bs];omega
    ·obtain⟨n1,n2,n3,n4⟩:=qRI h;exact⟨by simp only[Jb.str];omega,n2,n4,by simp only[Jb.bs];omega⟩
 | encl=>
  simp only[pM]at h;obtain⟨u,c,e1,h⟩:=qm h;obtain⟨_,d,e2,h⟩:=qm h;obtain⟨n1,n2,n3,_⟩:=jU e2;cases h;split at e1
  ·obtain⟨m1,m2,m3,m4⟩:=qRI e1;exact⟨by simp only[Jb.str];omega,n3,m4,by simp only[Jb.bs];omega⟩
  ·obtain⟨i1,i2,i3,i4⟩:=ih .term _ trivial ha e1;simp only[Jb.str,Jb.bs]at i1 i4;exact⟨by simp only[Jb.str];omega,n3,i3,by simp only[Jb.bs];omega⟩
 | con s ks=>
  simp only[pM]at h;obtain⟨u,c,e1,h⟩:=qm h;obtain⟨i1,i2,i3,i4⟩:=ih .term _ trivial ha e1;have hg2:∀t∈ks++[u],t.bd:=fun t ht=>by
   rcases jR.1 ht with ht | ht
   ·exact hg.2 t ht
   ·simp only[lMg]at ht;subst ht;exact i3
  split at h
  ·rename_i q;have ql:=qV q;obtain⟨k1,k2,k3,k4⟩:=ih (.con s _) _ ⟨hg.1,hg2⟩ ql h;simp only[Jb.str,Jb.bs,Wd,lAp,lCo,lNi,qP]at i1 i4 k1 k4;exact⟨by simp only[Jb.str];omega,k2,k3,by simp only[Jb.bs];omega⟩
  ·obtain⟨_,d,e2,h⟩:=qm h;obtain⟨n1,n2,n3,_⟩:=jU e2;simp only[Jb.str,Jb.bs]at i1 i4;cases h;refine⟨by simp only[Jb.str];omega,n3,JK hg.1 hg2, ?_⟩;rw[JL];simp only[Wd,lAp,lCo,lNi,qP,Jb.bs];omega
 | mat=>
  simp only[pM]at h;obtain⟨u,c,e1,h⟩:=qm h;obtain⟨i1,i2,i3,i4⟩:=ih .term _ trivial ha e1;obtain⟨_,d,e2,h⟩:=qm h;obtain⟨n1,n2,n3,_⟩:=jU e2;obtain⟨k1,k2,k3,k4⟩:=ih (.matL _) _ (fun t ht=>by simp only[lMg]at ht;subst ht;exact i3) n3 h;simp only[Jb.str,Jb.bs,lCo,lNi,qP]at i1 i4 k1 k4;exact⟨by simp only[Jb.str];omega,k2,k3,by simp only[Jb.bs];omega⟩
 | matL ks=>
  simp only[pM]at h;obtain⟨u,c,e1,h⟩:=qm h;obtain⟨i1,i2,i3,i4⟩:=ih .bran _ trivial ha e1;have hg2:∀t∈ks++[u],t.bd:=fun t ht=>by
   rcases jR.1 ht with ht | ht
   ·exact hg t ht
   ·simp only[lMg]at ht;subst ht;exact i3
  split at h
  ·rename_i q;have ql:=qV q;obtain⟨k1,k2,k3,k4⟩:=ih (.matL _) _ hg2 ql h;simp only[Jb.str,Jb.bs,Wd,lAp,lCo,lNi,qP]at i1 i4 k1 k4;exact⟨by simp only[Jb.str];omega,k2,k3,by simp only[Jb.bs];omega⟩
  ·obtain⟨_,d,e2,h⟩:=qm h;obtain⟨n1,n2,n3,_⟩:=jU e2;simp only[Jb.str,Jb.bs]at i1 i4;cases h;refine⟨by simp only[Jb.str];omega,n3,JK (by simp) hg2, ?_⟩;rw[JL];simp only[Wd,lAp,lCo,lNi,qP,Jb.bs];omega
 | bran=>
  simp only[pM]at h;obtain⟨s,c1,e1,h⟩:=qm h;obtain⟨w1,w2,w3,tk,w4,_,_,rfl⟩:=ji e1;obtain⟨ns,c2,e2,h⟩:=qm h;obtain⟨m1,m2,m3,m4⟩:=qRA hx w2 e2;obtain⟨_,c3,e3,h⟩:=qm h;obtain⟨n1,n2,n3,_⟩:=jU e3;obtain⟨u,c4,e4,h⟩:=qm h;obtain⟨i1,i2,i3,i4⟩:=ih .term _ trivial n3 e4;simp only[Jb.str,Jb.bs]at i1 i4;cases h;refine⟨by simp only[Jb.str];omega,i2, ?_, ?_⟩
  ·rw[qD.bd_eq];exact⟨hx _ w4,qRE,m4,fun y hy=>by simp[qD.Kids]at hy;subst hy;exact i3⟩
  ·have:noT.wz=0:=rfl;rw[qD.wz_eq];simp only[qD.Typ,qD.Names,qD.Kids,qP,lNi,lCo,Jb.bs,this];omega
end Go.Ab
namespace Go.Ab
open Go
set_option maxRecDepth 10000
set_option maxHeartbeats 2000000
theorem qq.strT{S:List (Option Nat)}{h:List qB}{v:AV}{s:Str}(x:qq S h v (.str s)):v=.str s/\S=[]:=by
 have:=x.v;simp only[lay]at this;have l:=x.len;simp only[AV.rows]at l;exact⟨this.scal rfl (by simp) (by simp) (by simp) (by simp),lEz l⟩
def Ow(b u:Nat)(h:List qB)(v t:AV):Prop:=∃S,qq S h v t/\∀j,some j∈S->b<=j/\j<u
def Ows(b u:Nat)(h:List qB)(vs ts:List AV):Prop:=∃S,zP S h vs ts/\∀j,some j∈S->b<=j/\j<u
section
variable {b m u k w:Nat} {h h1 h2:List qB} {v t:AV} {vs ts:List AV} {o:qB} {id:Nat}
theorem Ow.to(x:Ow b u h v t)(hh:∀j,b<=j->j<u->h1[j]?=h[j]?):Ow b u h1 v t:=by
 obtain⟨S,x1,x2⟩:=x;exact⟨S,x1.heap fun j hj=>hh j (x2 j hj).1 (x2 j hj).2,x2⟩
theorem Ows.to(x:Ows b u h vs ts)(hh:∀j,b<=j->j<u->h1[j]?=h[j]?):Ows b u h1 vs ts:=by
 obtain⟨S,x1,x2⟩:=x;exact⟨S,x1.heap fun j hj=>hh j (x2 j hj).1 (x2 j hj).2,x2⟩
theorem Ow.mono{b' u':Nat}(x:Ow b u h v t)(hb:b'<=b)(hu:u<=u'):Ow b' u' h v t:=by
 obtain⟨S,x1,x2⟩:=x;exact⟨S,x1,fun j hj=>by have:=x2 j hj;omega⟩
theorem Ows.mono{b' u':Nat}(x:Ows b u h vs ts)(hb:b'<=b)(hu:u<=u'):Ows b' u' h vs ts:=by
 obtain⟨S,x1,x2⟩:=x;exact⟨S,x1,fun j hj=>by have:=x2 j hj;omega⟩
theorem Ow.ps(x:Ow b u h1 v t)(hu:u<=h1.length)(hid:id<b)(a:PS h1 id o h2):Ow b u h2 v t:=x.to fun j h3 h4=>a.old j (by omega) (by omega)
theorem Ow.push(x:Ow b u h v t)(hu:u<=h.length):Ow b u (h++[o]) v t:=x.to fun j h3 h4=>gAl (by omega)
theorem Ows.push(x:Ows b u h vs ts)(hu:u<=h.length):Ows b u (h++[o]) vs ts:=x.to fun j h3 h4=>gAl (by omega)
theorem Ow.set(x:Ow b u h v t)(hid:id<b\/u<=id):Ow b u (h.set id o) v t:=x.to fun j h3 h4=>gSn (by omega)
theorem Ows.nil:Ows b u h [] []:=⟨[],zP.nil,fun j hj=>by cases hj⟩
theorem Ow.one(x:Ow b u h v t):Ows b u h [v] [t]:=by
 obtain⟨S,x1,x2⟩:=x;exact⟨S,x1.one,x2⟩
theorem Ows.snoc(x:Ows b m h vs ts)(y:Ow m u h v t)(h1:b<=m)(h2:m<=u):Ows b u h (vs++[v]) (ts++[t]):=by
 obtain⟨S,x1,x2⟩:=x;obtain⟨S',y1,y2⟩:=y;refine⟨S++S',x1.snoc y1 fun j hj hj2=>by have:=x2 j hj;have:=y2 j hj2;omega,fun j hj=> ?_⟩;rcases jR.1 hj with hj | hj
 ·have:=x2 j hj;omega
 ·have:=y2 j hj;omega
theorem Ows.row(x:Ows b u h vs ts)(hr:h[k]?=some (.row w vs true))(hu:u<=k)(hb:b<=k):Ow b (k+1) h (.slice w k 0 ts.length false) (.lst w ts false):=by
 obtain⟨S,x1,x2⟩:=x;refine⟨some k::S,x1.row hr (fun hj=>by have:=x2 k hj;omega),fun j hj=> ?_⟩;rcases List.mem_cons.1 hj with e | hj
 ·cases e;omega
 ·have:=x2 j hj;omega
theorem Ow.nils:Ow b u h .nils (.lst w [] false):=⟨[none],qq.nils (c:=false),fun j hj=>by simp at hj⟩
theorem Ows.scal(x:Ows b u h vs ts){a:AV}(ha:∀n,lay a n=(a,[]))(hp:a.pl=true)(ht:a.tree=true):Ows b u h (vs++[a]) (ts++[a]):=by
 obtain⟨S,x1,x2⟩:=x;exact⟨S,x1.scal ha hp ht,x2⟩
theorem Ow.of(S:List (Option Nat))(x:qq S h v t)(hb:Bh b S h):Ow b h.length h v t:=⟨S,x,hb⟩
end
section
variable {b m1 m2 u:Nat} {h:List qB} {v5 v6 v7 v:AV}
theorem Zb{k n:Int}{s:Str}{T:qC}{ns:List Str}{ks:List qD}(x5:Ow b m1 h v5 (.lst 3 (T.Kids.map qC.enc) false))(x6:Ow m1 m2 h v6 (.lst 1 (ns.map qW) false))(x7:Ow m2 u h v7 (.lst 8 (ks.map qD.enc) false))(h1:b<=m1)(h2:m1<=m2)(h3:m2<=u):
  Ow b u h (.agg [.int .i64 k,.int .i64 n,.str s,.int .i64 T.Kind,.str T.Name,v5,v6,v7]) (qD.mk k n s T ns ks).enc:=by
 have a0:Ows b b h [.int .i64 k,.int .i64 n,.str s,.int .i64 T.Kind,.str T.Name] [.int .i64 k,.int .i64 n,.str s,.int .i64 T.Kind,.str T.Name]:=
  ((((Ows.nil.scal (a:=.int .i64 k) (fun _=>rfl) rfl rfl).scal (a:=.int .i64 n) (fun _=>rfl) rfl rfl).scal (a:=.str s) (fun _=>rfl) rfl rfl).scal (a:=.int .i64 T.Kind) (fun _=>rfl) rfl rfl).scal (a:=.str T.Name) (fun _=>rfl) rfl rfl
 have a1:=((a0.snoc x5 (nLr _) h1).snoc x6 h1 h2).snoc x7 (nLt h1 h2) h3;obtain⟨S,a2,a3⟩:=a1;rw[qD.enc_eq];exact⟨S,a2.agg,a3⟩
theorem QM{k n:Int}{s:Str}{ks:List qD}(x7:Ow b u h v7 (.lst 8 (ks.map qD.enc) false))(h3:b<=u):
  Ow b u h (.agg [.int .i64 k,.int .i64 n,.str s,.int .i64 0,.str [],.nils,.nils,v7]) (tmk k n s ks).enc:=
 Zb (m1:=b) (m2:=b) (T:=noT) (ns:=[]) Ow.nils Ow.nils x7 (nLr _) (nLr _) h3
theorem QL{k n:Int}{s:Str}(h3:b<=u):Ow b u h (.agg [.int .i64 k,.int .i64 n,.str s,.int .i64 0,.str [],.nils,.nils,.nils]) (tmk k n s []).enc:=
 QM (ks:=[]) Ow.nils h3
theorem Ow.shape{t:qD}(x:Ow b u h v t.enc):∃a0 a1 a2 a3 a4 a5 a6 a7,v=.agg [a0,a1,a2,a3,a4,a5,a6,a7]:=by
 obtain⟨S,x,_⟩:=x;rw[qD.enc_eq]at x;obtain⟨vs,rfl,y⟩:=x.aggs;have:=y.cnt
 match vs,this with
 |[a,b,c,d,e,f,g,h],_=>exact⟨a,b,c,d,e,f,g,h,rfl⟩
theorem Ow.shapeT{t:qC}(x:Ow b u h v t.enc):∃v2,v=.agg [.int .i64 t.Kind,.str t.Name,v2]/\Ow b u h v2 (.lst 3 (t.Kids.map qC.enc) false):=by
 obtain⟨S,x,hb⟩:=x;rw[qC.enc_eq]at x;obtain⟨vs,rfl,y⟩:=x.aggs;have:=y.cnt
 match vs,this with
 |[a,b,c],_=>
  obtain⟨S1,S2,rfl,p1,p2⟩:=y.uncons;obtain⟨rfl,rfl⟩:=p1.int;obtain⟨S3,S4,rfl,p3,p4⟩:=p2.uncons;obtain⟨rfl,rfl⟩:=p3.strT;obtain⟨S5,S6,rfl,p5,p6⟩:=p4.uncons;exact⟨c,rfl,S5,p5,fun j hj=>hb j (by simp[hj])⟩
end
end Go.Ab
namespace Go.Ab
open Go
set_option maxRecDepth 10000
set_option maxHeartbeats 2000000
theorem zL{α:Type}{xs:List α}{i:Nat}{x:α}(h:xs[i]?=some x):i<xs.length:=(gSi.1 h).1
section
variable {E:Ev} {ks:List Fr1} {s m:qj} {h:List qB} {Q:qR->VSt->Prop} {l:List qA} {i:Nat} {d:Option Nat} {g:Option (Nat×Bool)} {ck:List qA} {x y:Ao} {op:BinOp}
end
theorem idx1{id n i:Nat}(h:i<n):idx 1 (some (.slice 1 id 0 n false)) (some (.int .i64 (i:Nat)))=some (.ptr id i 0):=by simp[idx];omega
section
variable {bytes:List Int} {sid p:Nat} {seed:Int} {h:List qB} {K:AV->List qB->Prop}
variable {B:Nat} {n:Int}
end
end Go.Ab
namespace Go.Ab
open Go
set_option maxRecDepth 10000
set_option maxHeartbeats 2000000
def ZE(x:qJ):Prop:=x.Kind=4->zk x.Text=true/\x.Text≠[]
theorem Xc{s:Str}(h:zk s=true)(hn:s≠[]):s.all zI=true/\qX s<=2147483648/\Lib.decDigits (qX s)=s:=by
 simp only[zk,bAt,dTe,bNt,Bool.and_eq_false_iff,decide_eq_false_iff_not]at h;obtain⟨h1,h2,h3,h4⟩:=h;exact⟨h3,h4,qPI _ rfl hn h3 (fun q=>by rcases h2 with h2 | h2;exact absurd q h2;exact h2)⟩
theorem qVW:Lib.decDigits 2147483648=wh:=by
 repeat rw[W8 (by decide)]
 rw[Z6 (by decide)];rfl
theorem Kx{s:Str}(h:zk s=true)(hn:s≠[]):qX s=2147483648↔s=wh:=by
 constructor
 ·intro q;have:=(Xc h hn).2.2;rw[q,qVW]at this;exact this.symm
 ·rintro rfl;rfl
theorem qSE{s:Str}(h:zk s=true)(hn:s≠[])(hm:s≠wh):jq s=some (qX s:Int):=by
 obtain⟨h1,h2,h3⟩:=Xc h hn;have h4:qX s≠2147483648:=fun q=>hm ((Kx h hn).1 q);have hp:=qR2 hn h1 (by omega);have hi:Lib.itoa (qX s:Int)=s:=by
  unfold Lib.itoa;rw[if_neg (by omega),Int.toNat_natCast];exact h3
 unfold jq;rw[hp];simp only;rw[if_pos ⟨⟨by omega,by omega⟩,hi⟩]
theorem qZM{s:Str}(h:zk s=true)(hn:s≠[])(h0:s≠[48]):jq (45::s)=some (-(qX s:Int)):=by
 obtain⟨h1,h2,h3⟩:=Xc h hn;have h4:qX s≠0:=fun q=>by
  rw[q,Z6 (by decide)]at h3;exact h0 h3.symm
 have hp:Lib.parseIntB 64 (45::s)=.ok (-(qX s:Int)):=by
  unfold Lib.parseIntB;simp only;rw[if_pos (.inr rfl),Lib.parseUintB,if_neg hn,kC rfl h1 (by show qX s<=_;omega)];simp only;have e:jW 0 s=qX s:=rfl;rw[e];rw[if_neg (by intro q;exact q.1 rfl),if_neg (by intro q;have:=q.2;omega),if_pos (by rfl)]
 have hi:Lib.itoa (-(qX s:Int))=45::s:=by
  unfold Lib.itoa;rw[if_pos (by omega),Int.natAbs_neg,Int.natAbs_natCast,h3]
 unfold jq;rw[hp];simp only;rw[if_pos ⟨⟨by omega,by omega⟩,hi⟩]
def opT(j:Nat):Str:=(([43,45,42,47,60,61]:Str).drop (j-1)).take 1
def opI(s:Str):Int:=if s=[43]then 1 else if s=[45]then 2 else if s=[42]then 3 else if s=[47]then 4 else if s=[60]then 5 else if s=[61]then 6 else 0
theorem K3{s:Str}{j:Nat}(h1:1<=j)(h6:j<=6)(h:opT j=s):opI s=j:=by
 subst h;have:j=1\/j=2\/j=3\/j=4\/j=5\/j=6:=by omega
 rcases this with rfl | rfl | rfl | rfl | rfl | rfl<;>rfl
theorem qRR{s:Str}(h:∀j,1<=j->j<7->opT j≠s):opI s=0:=by
 unfold opI;rw[if_neg (fun q=>h 1 (by omega) (by omega) q.symm),if_neg (fun q=>h 2 (by omega) (by omega) q.symm),if_neg (fun q=>h 3 (by omega) (by omega) q.symm),if_neg (fun q=>h 4 (by omega) (by omega) q.symm),if_neg (fun q=>h 5 (by omega) (by omega) q.symm),if_neg (fun q=>h 6 (by omega) (by omega) q.symm)]
theorem qOM{n:Int}:Pure Gm 1050 [.int .i64 n] (.bool (decide (1<=n)&&decide (n<=6))):=by
 refine pJ YL ?_;simp only[YL,qI,go_sem];by_cases h:1<=n
 ·have e:decide (n≥1)=true:=decide_eq_true h;simp only[e,go_sem];exact qE rfl (by simp[h])
 ·have e:decide (n≥1)=false:=decide_eq_false h;simp only[e,go_sem];exact qE rfl (by simp[h])
theorem qUG{j:Nat}(h1:1<=j)(h6:j<=6):Pure Gm 1002 [.int .i64 (j:Nat)] (.str (opT j)):=by
 refine pJ YD ?_;simp only[YD,qI,go_sem];refine qG qOM ?_;simp only[go_sem];have e1:decide ((1:Int)<=(j:Nat))=true:=decide_eq_true (by omega);have e2:decide (((j:Nat):Int)<=6)=true:=decide_eq_true (by omega);simp only[e1,e2,Bool.and_self,Bool.not_true,go_sem];have e3:IntKind.i64.wrap (((j:Nat):Int)-1)=((j-1:Nat):Int):=by rw[zF (by omega) (by omega)];omega
 simp only[e3];refine JH (Wb (n:=j-1) (e:=j) rfl (by simp only[go_sem];rfl) (by simp only[go_sem];rfl) (by simp;omega) (by omega)) ?_;have e4:j-(j-1)=1:=by omega
 simp only[e4,go_sem];exact qE rfl rfl
theorem qOW{s:Str}:Pure Gm 1383 [.str s] (.int .i64 (opI s)):=by
 refine pJ Yx ?_;simp only[Yx,qI,go_sem];refine Sem.loop (fun i:Nat=>1<=i/\i<=7/\∀j,1<=j->j<i->opT j≠s) (fun i=>(⟨[(0,.str s),(3,.int .i64 (i:Nat))],[],[]⟩:VSt)) (fun i=>7-i) 1 (by kernel_rfl) ⟨by omega,by omega,fun j h1 h2=>by omega⟩ (Can.sub (by simp[go_sem]) (by simp[go_sem])) ?_;rintro i ⟨i1,i2,i3⟩;simp only[go_sem];by_cases hlt:i<=6
 ·have e:decide (((i:Nat):Int)<=6)=true:=decide_eq_true (by omega);simp only[e,go_sem];refine qG (qUG i1 hlt) ?_;simp only[go_sem];by_cases hs:opT i=s
  ·simp only[decide_eq_true hs,go_sem];exact qE rfl (by rw[K3 i1 hlt hs])
  ·simp only[decide_eq_false hs,go_sem,zC (show i<4611686018427387904 by omega)];refine qf (i+1) ⟨by omega,by omega,fun j h1 h2=> ?_⟩ (by omega) (Can.sub (by simp[go_sem]) (by simp[go_sem]));by_cases hj:j=i
   ·rw[hj];exact hs
   ·exact i3 j h1 (by omega)
 ·have e:decide (((i:Nat):Int)<=6)=false:=decide_eq_false (by omega);simp only[e,go_sem];obtain rfl:i=7:=by omega
  exact qE rfl (by rw[qRR i3])
section
variable {h:List qB} {id a:Nat} {toks:List qJ} {e:Int}
theorem WL{lid:Nat}{s1 s2:Str}{lo:Int}(ho:h[id]?=some (prI toks a e))(hl:toks.length<=1048576)(hr:h[lid]?=some (.row 1 [.str s1,.str s2] true))(hne:lid≠id)(q1:s1≠[])(q2:s2≠[])(o1:opI s1=lo)(o2:opI s2=lo+1)(hlo:¬lo=0):
  SCall Gm 1189 [.ptr id 0 0,.slice 1 lid 0 2 false] h fun v h'=>v=.int .i64 (opN toks lo s1 s2 a)/\h'=if opN toks lo s1 s2 a=0 then h else h.set id (prI toks (a+1) e):=by
 refine sI Ye ?_;simp only[Ye,qI,go_sem];have step:∀(i:Nat)(s:Str),[s1,s2][i]?=some s->i<2->idx 1 (some (.slice 1 lid 0 2 false)) (some (.int .i64 (i:Nat)))=some (.ptr lid i 0):=fun i s _ hi=>idx1 hi;refine Sem.loop (fun i:Nat=>i<=2/\(∀j s,j<i->[s1,s2][j]?=some s->isP toks a s=false)) (fun i=>(⟨[(0,.ptr id 0 0),(7,.slice 1 lid 0 2 false),(8,.int .i64 (2:Nat)),(9,.int .i64 (i:Nat))],[],h⟩:VSt)) (fun i=>2-i) 0 (by kernel_rfl) ⟨by omega,fun j s hj=>by omega⟩ (Can.sub (by simp[go_sem]) (by simp[go_sem])) ?_;rintro i ⟨i1,i2⟩;simp only[go_sem];by_cases hlt:i<2
 ·have e0:decide (((i:Nat):Int)<(2:Nat))=true:=decide_eq_true (by omega);simp only[e0,idx1 hlt,hr,go_sem];have:i=0\/i=1:=by omega
  rcases this with rfl | rfl
  ·simp only[List.getElem?_cons_zero,go_sem];refine qZ rfl (jA ho hl q1) ?_;rw[qi q1];simp only[go_sem];cases hb:isP toks a s1
   ·simp only[bFt,if_false,go_sem];refine qf 1 ⟨by omega,fun j s hj hs=> ?_⟩ (by omega) (Can.sub (by simp[go_sem];decide) (by simp[go_sem]));obtain rfl:j=0:=by omega
    cases hs;exact hb
   ·simp only[if_true,go_sem];refine qG qOW ?_;simp only[go_sem];rw[o1];have eo:opN toks lo s1 s2 a=lo:=by unfold opN;rw[if_pos hb]
    refine⟨by rw[eo], ?_⟩;rw[eo,if_neg hlo]
  ·simp only[List.getElem?_cons_succ,List.getElem?_cons_zero,go_sem];refine qZ rfl (jA ho hl q2) ?_;rw[qi q2];simp only[go_sem];have hb1:=i2 0 s1 (by omega) rfl;cases hb:isP toks a s2
   ·simp only[bFt,if_false,go_sem];refine qf 2 ⟨by omega,fun j s hj hs=> ?_⟩ (by omega) (Can.sub (by simp[go_sem];decide) (by simp[go_sem]));have:j=0\/j=1:=by omega
    rcases this with rfl | rfl
    ·cases hs;exact hb1
    ·cases hs;exact hb
   ·simp only[if_true,go_sem];refine qG qOW ?_;simp only[go_sem];rw[o2];have eo:opN toks lo s1 s2 a=lo+1:=by unfold opN;rw[if_neg (by rw[hb1];decide),if_pos hb]
    refine⟨by rw[eo], ?_⟩;by_cases h0:lo+1=0
    ·exfalso;unfold opI at o1 o2
     repeat' split at o2
     all_goals omega
    ·rw[eo,if_neg h0]
 ·have e0:decide (((i:Nat):Int)<(2:Nat))=false:=decide_eq_false (by omega);simp only[e0,go_sem];obtain rfl:i=2:=by omega
  have eo:opN toks lo s1 s2 a=0:=by unfold opN;rw[if_neg (by rw[i2 0 s1 (by omega) rfl];decide),if_neg (by rw[i2 1 s2 (by omega) rfl];decide)]
  exact⟨by rw[eo],by rw[eo,if_pos rfl]⟩
theorem Ks{n:Int}{a0 a1 a2 a3 a4 a5 a6 a7 b0 b1 b2 b3 b4 b5 b6 b7:AV}:SCall Gm 1190 [.int .i64 n,.agg [a0,a1,a2,a3,a4,a5,a6,a7],.agg [b0,b1,b2,b3,b4,b5,b6,b7]] h fun v h'=>
  v=.agg [.int .i64 3,.int .i64 n,.str [],.int .i64 0,.str [],.nils,.nils,.slice 8 h.length 0 2 false]/\h'=h++[.row 8 [.agg [a0,a1,a2,a3,a4,a5,a6,a7],.agg [b0,b1,b2,b3,b4,b5,b6,b7]] true]:=by
 refine sI Yf ?_;simp only[Yf,qI,go_sem];refine zV rfl ?_;simp only[go_sem];refine zV rfl ?_;simp only[go_sem];rw[show zA _ 8 _ _=some [.agg [a0,a1,a2,a3,a4,a5,a6,a7],.agg [b0,b1,b2,b3,b4,b5,b6,b7]]from rfl];simp only[go_sem];refine qK rfl rfl ⟨_,rfl⟩ (by decide) ?_;simp only[go_sem];exact⟨trivial,trivial⟩
theorem qUC:bgP toks a=((decide ((nxt toks a e).Kind=1) || (decide ((nxt toks a e).Kind=2) || decide ((nxt toks a e).Kind=4))) || (isP toks a [33] || (isP toks a [40] || isP toks a [109,97,116,99,104]))):=by
 unfold bgP nxt;cases h:toks[a]? with
 | none=>simp
 | some t=>simp
theorem qYU(ho:h[id]?=some (prI toks a e)):SCall Gm 1540 [.ptr id 0 0] h fun v h'=>v=.bool (bgP toks a)/\h'=h:=by
 refine sI VM ?_;simp only[VM,qI,go_sem];refine qZ rfl (Qo ho) ?_;simp only[go_sem];refine qK rfl rfl ⟨_,rfl⟩ (by decide) ?_;simp only[go_sem];rw[qUC (e:=e)];by_cases h1:(nxt toks a e).Kind=1
 ·simp only[decide_eq_true h1,go_sem];exact⟨by simp,trivial⟩
 simp only[decide_eq_false h1,go_sem];by_cases h2:(nxt toks a e).Kind=2
 ·simp only[decide_eq_true h2,go_sem];exact⟨by simp,trivial⟩
 simp only[decide_eq_false h2,go_sem];by_cases h3:(nxt toks a e).Kind=4
 ·simp only[decide_eq_true h3,go_sem];exact⟨by simp,trivial⟩
 simp only[decide_eq_false h3,go_sem];refine qZ rfl (XW ho) ?_;rw[qi (by decide)];simp only[go_sem];cases h4:isP toks a [33]
 case true=>
  simp only[go_sem];exact⟨by simp,trivial⟩
 simp only[go_sem];refine qZ rfl (XW ho) ?_;rw[qi (by decide)];simp only[go_sem];cases h5:isP toks a [40]
 case true=>
  simp only[go_sem];exact⟨by simp,trivial⟩
 simp only[go_sem];refine qZ rfl (XW ho) ?_;rw[qi (by decide)];simp only[go_sem];exact⟨by simp,trivial⟩
theorem qQ4{neg:Bool}(ho:h[id]?=some (prI toks a e))(hl:toks.length<=1048576)(hN:∀x∈toks,ZE x)(hx:∀x∈toks,x.Text.length<=20000):
  SCallX Gm 1556 [.ptr id 0 0,.bool neg] h (fun v h'=>∃n,jG toks neg a=.ok (tmk 2 n [] [],a+1)/\v=.agg [.int .i64 2,.int .i64 n,.str [],.int .i64 0,.str [],.nils,.nils,.nils]/\h'=h.set id (prI toks (a+1) e)) (fun v h'=>jG toks neg a=.error a/\v=wE (nxt toks a e).At):=by
 refine xI VU ?_;simp only[VU,qI,go_sem];refine qZ rfl (Qo ho) ?_;simp only[go_sem];refine qZ rfl (Qo ho) ?_;simp only[go_sem];have bad:(¬(nxt toks a e).Kind=4\/(neg=false/\(nxt toks a e).Text=wh))->jG toks neg a=.error a:=by
  intro q;unfold jG;unfold nxt at q;cases ht:toks[a]? with
  | none=>rfl
  | some t=>
   rw[ht]at q;simp only[Option.getD_some]at q;simp only;rw[if_neg];rintro⟨q1,q2⟩;rcases q with q | ⟨q3,q4⟩
   ·exact q q1
   ·rcases q2 with q2 | q2
    ·rw[q3]at q2;cases q2
    ·exact q2 q4
 by_cases h4:(nxt toks a e).Kind=4
 case neg=>
  simp only[decide_eq_false h4,Bool.not_false,go_sem];refine qT ((WM ho).mono (fun _ _ q=>q.elim) ?_);rintro v h' ⟨rfl,rfl⟩;exact⟨rfl,bad (.inl h4),rfl⟩
 have hlt:=QK (by decide) h4;have en:nxt toks a e=toks[a]:=by simp[nxt,gEg hlt]
 rw[en]at h4 bad;have hmem:=gMm hlt;obtain⟨k1,k2⟩:=hN _ hmem h4;have k3:=hx _ hmem;have ht:toks[a]?=some toks[a]:=gEg hlt;simp only[en];simp only[decide_eq_true h4,Bool.not_true,go_sem];have ho':=ho;unfold prI at ho';cases neg with
 | false=>
  simp only[Bool.not_false,go_sem];by_cases hm:toks[a].Text=wh
  ·have hm':toks[a].Text=[50,49,52,55,52,56,51,54,52,56]:=hm;simp only[decide_eq_true hm',go_sem];refine qT ((WM ho).mono (fun _ _ q=>q.elim) ?_);rintro v h' ⟨rfl,rfl⟩;exact⟨rfl,bad (.inr ⟨rfl,hm⟩),by rw[en]⟩
  ·have hm':¬toks[a].Text=[50,49,52,55,52,56,51,54,52,56]:=hm;simp only[decide_eq_false hm',go_sem,ho',oMs];simp only[zC (show a<4611686018427387904 by omega)];refine jK rfl ho' rfl rfl ?_;simp only[go_sem];refine qG (Wz (by omega)) ?_;rw[qSE k1 k2 hm];simp only[Option.getD_some,go_sem];refine qK rfl rfl ⟨_,rfl⟩ (by decide) ?_;simp only[go_sem];refine⟨_, ?_,rfl,rfl⟩;unfold jG;rw[ht];simp only;rw[if_pos ⟨h4,.inr hm⟩];rfl
 | true=>
  simp only[Bool.not_true,go_sem,ho',oMs];simp only[zC (show a<4611686018427387904 by omega)];refine jK rfl ho' rfl rfl ?_;simp only[go_sem];by_cases h0:toks[a].Text=[48]
  ·simp only[decide_eq_true h0,Bool.not_true,go_sem];refine qG (Wz (by omega)) ?_;rw[qSE k1 k2 (by rw[h0];decide)];simp only[Option.getD_some,go_sem];refine qK rfl rfl ⟨_,rfl⟩ (by decide) ?_;simp only[go_sem];refine⟨_, ?_,rfl,rfl⟩;unfold jG;rw[ht];simp only;rw[if_pos ⟨h4,.inl trivial⟩];have:qX toks[a].Text=0:=by rw[h0];rfl
   simp[this]
  ·simp only[decide_eq_false h0,Bool.not_false,go_sem];rw[Jv (by simp only[lCo,lNi];omega)];simp only[go_sem,lCa,lNa];refine qG (Wz (by simp only[lCo];omega)) ?_;rw[qZM k1 k2 h0];simp only[Option.getD_some,go_sem];refine qK rfl rfl ⟨_,rfl⟩ (by decide) ?_;simp only[go_sem];refine⟨_, ?_,rfl,rfl⟩;unfold jG;rw[ht];simp only;rw[if_pos ⟨h4,.inl trivial⟩];rfl
end
end Go.Ab
namespace Go.Ab
open Go
set_option maxRecDepth 10000
set_option maxHeartbeats 2000000
def CI(toks:List qJ)(e:Int)(id g f:Nat)(j:Jb):Prop:=∀(a:Nat)(h:List qB),mJ toks j a<=f->a<=toks.length->h[id]?=some (prI toks a e)->
 SCallX Gm g [.ptr id 0 0] h (fun v h'=>∃t b,pM toks f j a=.ok (t,b)/\PS h id (prI toks b e) h'/\Ow h.length h'.length h' v t.enc) (fun v _=>∃b,pM toks f j a=.error b/\v=wE (nxt toks b e).At)
structure wR(toks:List qJ)(e:Int)(id f:Nat):Prop where
 term:CI toks e id 511 f .term
 cmp:CI toks e id 877 f .cmp
 sum:CI toks e id 1188 f .sum
 prod:CI toks e id 1425 f .prod
 app:CI toks e id 1511 f .app
 pre:CI toks e id 1539 f .pre
 encl:CI toks e id 1553 f .encl
 mat:CI toks e id 1554 f .mat
 bran:CI toks e id 1560 f .bran
structure qv(toks:List qJ):Prop where
 l:toks.length<=1048576
 x:∀x∈toks,x.Text.length<=20000
 n:∀x∈toks,ZE x
 w:∀x∈toks,Jc x
theorem wi{b u:Nat}{h:List qB}{k n:Int}{s:Str}{vs:List AV}{ts:List qD}{c:Nat}(x:Ows b u h vs (ts.map qD.enc))(hu:u<=h.length)(hb:b<=h.length)(hc:ts.length=c):
  Ow b (h.length+1) (h++[.row 8 vs true]) (.agg [.int .i64 k,.int .i64 n,.str s,.int .i64 0,.str [],.nils,.nils,.slice 8 h.length 0 c false]) (tmk k n s ts).enc:=by
 subst hc;have y:=(x.push (o:=.row 8 vs true) hu).row (k:=h.length) (w:=8) (by simp) hu hb;rw[lMp]at y;exact QM y (by omega)
theorem zK{h:List qB}{o:qB}:(h++[o]).length=h.length+1:=by simp
section
variable {toks:List qJ} {e:Int} {id f:Nat}
theorem qXA(K:qv toks)(H:∀f',f'<=f->wR toks e id f'):CI toks e id 877 (f+1) .cmp:=by
 intro a h hf ha ho;have hid:=zL ho;refine xI UL ?_;simp only[UL,qI,go_sem];refine qT (((H f (nLr _)).sum a h (jo hf (by decide)) ha ho).mono ?_ ?_)
 case refine_2=>
  rintro v h1 ⟨b,q1,rfl⟩;exact⟨rfl,b,by simp only[pM,q1,qo],rfl⟩
 rintro v h1 ⟨t,b,q1,q2,q3⟩;obtain⟨p1,p2,_,_⟩:=jX K.x f .sum _ trivial ha q1;simp only[Jb.str]at p1;have hl1:=q2.len;obtain⟨a0,a1,a2,a3,a4,a5,a6,a7,rfl⟩:=q3.shape;simp only[go_sem];refine qK rfl rfl ⟨_,rfl⟩ (by decide) ?_;simp only[go_sem];rw[show zA _ 1 _ _=some [.str [60],.str [61]]from rfl];simp only[go_sem];have q2':=q2.push (x:=.row 1 [.str [60],.str [61]] true);have q3':=q3.push (o:=.row 1 [.str [60],.str [61]] true) (nLr _);refine qN ((WL (lo:=5) (s1:=[60]) (s2:=[61]) q2'.at' K.l (by simp) (by omega) (by decide) (by decide) rfl rfl (by decide)).mono ?_);rintro v h2 ⟨rfl,rfl⟩;simp only[go_sem];by_cases h0:opN toks 5 [60] [61] b=0
 ·simp only[h0,decide_true,Bool.not_true,if_true,go_sem];refine qK rfl rfl ⟨_,rfl⟩ (by decide) ?_;simp only[go_sem];exact⟨t,b,by simp only[pM,q1,qe,if_pos h0],q2',q3'.mono (nLr _) (by simp)⟩
 ·simp only[if_neg h0,decide_eq_false h0,Bool.not_false,go_sem];have ol:=Qr h0;have q2'':=q2'.trans (PS.set q2'.at' (o:=prI toks (b+1) e));have q3'':=q3'.set (id:=id) (o:=prI toks (b+1) e) (.inl hid);refine qT (((H f (nLr _)).sum (b+1) _ (zq hf (by omega) ol) ol q2''.at').mono ?_ ?_)
  case refine_2=>
   rintro v h1 ⟨c,r1,rfl⟩;exact⟨rfl,c,by simp only[pM,q1,qe,if_neg h0,r1,qo],rfl⟩
  rintro v h3 ⟨u,c,r1,r2,r3⟩;have hl3:=r2.len;simp only[lLs,zK]at hl3 r3;have q4:=q3''.ps (by simp) hid r2;obtain⟨b0,b1,b2,b3,b4,b5,b6,b7,rfl⟩:=r3.shape;simp only[go_sem];refine qN (Ks.mono ?_);rintro v h4 ⟨rfl,rfl⟩;simp only[go_sem];refine qK rfl rfl ⟨_,rfl⟩ (by decide) ?_;simp only[go_sem];refine⟨tmk 3 (opN toks 5 [60] [61] b) [] [t,u],c,by simp only[pM,q1,qe,if_neg h0,r1],(q2''.trans r2).push, ?_⟩;rw[zK];exact wi (ts:=[t,u]) ((q4.mono (nLr _) (Nat.le_succ _)).one.snoc r3 (by omega) (by omega)) (nLr _) (by omega) rfl
theorem qXF(K:qv toks)(H:∀f',f'<=f->wR toks e id f'):CI toks e id 1188 (f+1) .sum:=by
 intro a h hf ha ho;have hid:=zL ho;refine xI Yd ?_;simp only[Yd,qI,go_sem];refine qT (((H f (nLr _)).prod a h (jo hf (by decide)) ha ho).mono ?_ ?_)
 case refine_2=>
  rintro v h1 ⟨b,q1,rfl⟩;exact⟨rfl,b,by simp only[pM,q1,qo],rfl⟩
 rintro v h1 ⟨t,b,q1,q2,q3⟩;obtain⟨p1,p2,_,_⟩:=jX K.x f .prod _ trivial ha q1;simp only[Jb.str]at p1;obtain⟨a0,a1,a2,a3,a4,a5,a6,a7,rfl⟩:=q3.shape;have hl1:=q2.len;simp only[go_sem];refine qK rfl rfl ⟨_,rfl⟩ (by decide) ?_;simp only[go_sem];rw[show zA _ 1 _ _=some [.str [43],.str [45]]from rfl];simp only[go_sem];have q2':=q2.push (x:=.row 1 [.str [43],.str [45]] true);have q3':=q3.push (o:=.row 1 [.str [43],.str [45]] true) (nLr _);refine qN ((WL (lo:=1) (s1:=[43]) (s2:=[45]) q2'.at' K.l (by simp) (by omega) (by decide) (by decide) rfl rfl (by decide)).mono ?_);rintro v h2 ⟨rfl,rfl⟩;simp only[go_sem];have e0:pM toks (f+1) .sum a=pM toks f (.sumL t) b:=by simp only[pM,q1,qe]
 have st0:∀{h2:List qB}{x:Nat},PS h id (prI toks x e) h2->PS h id (prI toks (if opN toks 1 [43] [45] x=0 then x else x+1) e) (if opN toks 1 [43] [45] x=0 then h2 else h2.set id (prI toks (x+1) e)):=fun{h2 x} q=>by
  split
  ·exact q
  ·exact q.trans (PS.set q.at')
 have st1:∀{h2:List qB}{x:Nat}{v t:AV}{n:Nat},h2.length=n->Ow h.length n h2 v t->Ow h.length (if opN toks 1 [43] [45] x=0 then h2 else h2.set id (prI toks (x+1) e)).length (if opN toks 1 [43] [45] x=0 then h2 else h2.set id (prI toks (x+1) e)) v t:=fun{h2 x v t n} hn q=>by
  subst hn;split
  ·exact q
  ·rw[lLs];exact q.set (.inl hid)
 refine Sem.loop (fun s:Nat×qD×AV×Nat×List qB=>s.1<=f/\mJ toks (.sumL s.2.1) s.2.2.2.1<=s.1/\pM toks (f+1) .sum a=pM toks s.1 (.sumL s.2.1) s.2.2.2.1/\s.2.2.2.1<=toks.length/\(∃cs,s.2.2.1=.agg cs/\cs.length=8)/\PS h id (prI toks (if opN toks 1 [43] [45] s.2.2.2.1=0 then s.2.2.2.1 else s.2.2.2.1+1) e) s.2.2.2.2/\Ow h.length s.2.2.2.2.length s.2.2.2.2 s.2.2.1 s.2.1.enc)
  (fun s=>(⟨[(0,.ptr id 0 0),(4,.int .i64 (opN toks 1 [43] [45] s.2.2.2.1))],[(2,.agg [.int .i64 0,.int .i64 0,.str [],.int .i64 0,.str [],.nils,.nils,.nils]),(3,s.2.2.1)],s.2.2.2.2⟩:VSt)) (fun s=>toks.length-s.2.2.2.1) (f,t,.agg [a0,a1,a2,a3,a4,a5,a6,a7],b,if opN toks 1 [43] [45] b=0 then h1++[qB.row 1 [.str [43],.str [45]] true]else(h1++[qB.row 1 [.str [43],.str [45]] true]).set id (prI toks (b+1) e)) (by kernel_rfl) ?_ (Can.sub (by simp[go_sem]) (by simp[go_sem])) ?_
 ·exact⟨nLr _,by unfold mJ at hf|-;simp only[Jb.rk]at hf|-;omega,e0,p2,⟨_,rfl,rfl⟩,st0 q2',st1 rfl (q3'.mono (nLr _) (by simp))⟩
 rintro⟨f',t,v,b,g⟩ ⟨i1,i2,i3,i4,⟨cs,rfl,hcs⟩,i5,i6⟩;simp only at i1 i2 i3 i4 hcs i5 i6;obtain⟨a0,a1,a2,a3,a4,a5,a6,a7,hv⟩:=i6.shape;rw[hv]at i6|-;simp only[go_sem];obtain⟨f2,rfl⟩:∃f2,f'=f2+1:=⟨f'-1,by unfold mJ at i2;simp only[Jb.rk]at i2;omega⟩;by_cases h0:opN toks 1 [43] [45] b=0
 ·simp only[h0,decide_true,Bool.not_true,go_sem];rw[if_pos h0]at i5;refine qK rfl rfl ⟨_,rfl⟩ (by decide) ?_;simp only[go_sem];exact⟨t,b,by rw[i3];simp only[pM,if_pos h0],i5,i6⟩
 ·simp only[decide_eq_false h0,Bool.not_false,go_sem];rw[if_neg h0]at i5;have ol:=Qr h0;have hl5:=i5.len;refine qT (((H f2 (by omega)).prod (b+1) _ (zq i2 (by omega) ol) ol i5.at').mono ?_ ?_)
  case refine_2=>
   rintro v h1 ⟨c,r1,rfl⟩;exact⟨rfl,c,by rw[i3];simp only[pM,if_neg h0,r1,qo],rfl⟩
  rintro v h3 ⟨u,c,r1,r2,r3⟩;obtain⟨p3,p4,_,_⟩:=jX K.x f2 .prod _ trivial ol r1;simp only[Jb.str]at p3;have hl3:=r2.len;have q4:=i6.ps (nLr _) hid r2;obtain⟨b0,b1,b2,b3,b4,b5,b6,b7,rfl⟩:=r3.shape;simp only[go_sem];refine qN (Ks.mono ?_);rintro v h4 ⟨rfl,rfl⟩;simp only[go_sem];refine qK rfl rfl ⟨_,rfl⟩ (by decide) ?_;simp only[go_sem];rw[show zA _ 1 _ _=some [.str [43],.str [45]]from rfl];simp only[go_sem];have i5':=((i5.trans r2).push (x:=.row 8 [.agg [a0,a1,a2,a3,a4,a5,a6,a7],.agg [b0,b1,b2,b3,b4,b5,b6,b7]] true)).push (x:=.row 1 [.str [43],.str [45]] true);refine qN ((WL (lo:=1) (s1:=[43]) (s2:=[45]) i5'.at' K.l (by simp) (by simp;omega) (by decide) (by decide) rfl rfl (by decide)).mono ?_);rintro v h5 ⟨rfl,rfl⟩;simp only[go_sem];have i6':=wi (ts:=[t,u]) (k:=3) (n:=opN toks 1 [43] [45] b) (s:=[]) (q4.one.snoc r3 (by omega) (by omega)) (nLr _) (by omega) rfl;refine qf (f2,_,_,c,_) ⟨by simp only;omega,by simp only;unfold mJ at i2|-;simp only[Jb.rk]at i2|-;omega, ?_,p4,⟨_,rfl,rfl⟩,st0 i5',st1 rfl ((i6'.push (o:=.row 1 [.str [43],.str [45]] true) (by simp)).mono (nLr _) (by simp))⟩ (by simp only;omega) (Can.sub (by simp[go_sem]) (by simp[go_sem]));rw[i3];simp only[pM,if_neg h0,r1,qe];rfl
theorem qXE(K:qv toks)(H:∀f',f'<=f->wR toks e id f'):CI toks e id 1425 (f+1) .prod:=by
 intro a h hf ha ho;have hid:=zL ho;refine xI Y4 ?_;simp only[Y4,qI,go_sem];refine qT (((H f (nLr _)).app a h (jo hf (by decide)) ha ho).mono ?_ ?_)
 case refine_2=>
  rintro v h1 ⟨b,q1,rfl⟩;exact⟨rfl,b,by simp only[pM,q1,qo],rfl⟩
 rintro v h1 ⟨t,b,q1,q2,q3⟩;obtain⟨p1,p2,_,_⟩:=jX K.x f .app _ trivial ha q1;simp only[Jb.str]at p1;obtain⟨a0,a1,a2,a3,a4,a5,a6,a7,rfl⟩:=q3.shape;have hl1:=q2.len;simp only[go_sem];refine qK rfl rfl ⟨_,rfl⟩ (by decide) ?_;simp only[go_sem];rw[show zA _ 1 _ _=some [.str [42],.str [47]]from rfl];simp only[go_sem];have q2':=q2.push (x:=.row 1 [.str [42],.str [47]] true);have q3':=q3.push (o:=.row 1 [.str [42],.str [47]] true) (nLr _);refine qN ((WL (lo:=3) (s1:=[42]) (s2:=[47]) q2'.at' K.l (by simp) (by omega) (by decide) (by decide) rfl rfl (by decide)).mono ?_);rintro v h2 ⟨rfl,rfl⟩;simp only[go_sem];have e0:pM toks (f+1) .prod a=pM toks f (.prodL t) b:=by simp only[pM,q1,qe]
 have st0:∀{h2:List qB}{x:Nat},PS h id (prI toks x e) h2->PS h id (prI toks (if opN toks 3 [42] [47] x=0 then x else x+1) e) (if opN toks 3 [42] [47] x=0 then h2 else h2.set id (prI toks (x+1) e)):=fun{h2 x} q=>by
  split
  ·exact q
  ·exact q.trans (PS.set q.at')
 have st1:∀{h2:List qB}{x:Nat}{v t:AV}{n:Nat},h2.length=n->Ow h.length n h2 v t->Ow h.length (if opN toks 3 [42] [47] x=0 then h2 else h2.set id (prI toks (x+1) e)).length (if opN toks 3 [42] [47] x=0 then h2 else h2.set id (prI toks (x+1) e)) v t:=fun{h2 x v t n} hn q=>by
  subst hn;split
  ·exact q
  ·rw[lLs];exact q.set (.inl hid)
 refine Sem.loop (fun s:Nat×qD×AV×Nat×List qB=>s.1<=f/\mJ toks (.prodL s.2.1) s.2.2.2.1<=s.1/\pM toks (f+1) .prod a=pM toks s.1 (.prodL s.2.1) s.2.2.2.1/\s.2.2.2.1<=toks.length/\(∃cs,s.2.2.1=.agg cs/\cs.length=8)/\PS h id (prI toks (if opN toks 3 [42] [47] s.2.2.2.1=0 then s.2.2.2.1 else s.2.2.2.1+1) e) s.2.2.2.2/\Ow h.length s.2.2.2.2.length s.2.2.2.2 s.2.2.1 s.2.1.enc)
  (fun s=>(⟨[(0,.ptr id 0 0),(4,.int .i64 (opN toks 3 [42] [47] s.2.2.2.1))],[(2,.agg [.int .i64 0,.int .i64 0,.str [],.int .i64 0,.str [],.nils,.nils,.nils]),(3,s.2.2.1)],s.2.2.2.2⟩:VSt)) (fun s=>toks.length-s.2.2.2.1) (f,t,.agg [a0,a1,a2,a3,a4,a5,a6,a7],b,if opN toks 3 [42] [47] b=0 then h1++[qB.row 1 [.str [42],.str [47]] true]else(h1++[qB.row 1 [.str [42],.str [47]] true]).set id (prI toks (b+1) e)) (by kernel_rfl) ?_ (Can.sub (by simp[go_sem]) (by simp[go_sem])) ?_
 ·exact⟨nLr _,by unfold mJ at hf|-;simp only[Jb.rk]at hf|-;omega,e0,p2,⟨_,rfl,rfl⟩,st0 q2',st1 rfl (q3'.mono (nLr _) (by simp))⟩
 rintro⟨f',t,v,b,g⟩ ⟨i1,i2,i3,i4,⟨cs,rfl,hcs⟩,i5,i6⟩;simp only at i1 i2 i3 i4 hcs i5 i6;obtain⟨a0,a1,a2,a3,a4,a5,a6,a7,hv⟩:=i6.shape;rw[hv]at i6|-;simp only[go_sem];obtain⟨f2,rfl⟩:∃f2,f'=f2+1:=⟨f'-1,by unfold mJ at i2;simp only[Jb.rk]at i2;omega⟩;by_cases h0:opN toks 3 [42] [47] b=0
 ·simp only[h0,decide_true,Bool.not_true,go_sem];rw[if_pos h0]at i5;refine qK rfl rfl ⟨_,rfl⟩ (by decide) ?_;simp only[go_sem];exact⟨t,b,by rw[i3];simp only[pM,if_pos h0],i5,i6⟩
 ·simp only[decide_eq_false h0,Bool.not_false,go_sem];rw[if_neg h0]at i5;have ol:=Qr h0;have hl5:=i5.len;refine qT (((H f2 (by omega)).app (b+1) _ (zq i2 (by omega) ol) ol i5.at').mono ?_ ?_)
  case refine_2=>
   rintro v h1 ⟨c,r1,rfl⟩;exact⟨rfl,c,by rw[i3];simp only[pM,if_neg h0,r1,qo],rfl⟩
  rintro v h3 ⟨u,c,r1,r2,r3⟩;obtain⟨p3,p4,_,_⟩:=jX K.x f2 .app _ trivial ol r1;simp only[Jb.str]at p3;have hl3:=r2.len;have q4:=i6.ps (nLr _) hid r2;obtain⟨b0,b1,b2,b3,b4,b5,b6,b7,rfl⟩:=r3.shape;simp only[go_sem];refine qN (Ks.mono ?_);rintro v h4 ⟨rfl,rfl⟩;simp only[go_sem];refine qK rfl rfl ⟨_,rfl⟩ (by decide) ?_;simp only[go_sem];rw[show zA _ 1 _ _=some [.str [42],.str [47]]from rfl];simp only[go_sem];have i5':=((i5.trans r2).push (x:=.row 8 [.agg [a0,a1,a2,a3,a4,a5,a6,a7],.agg [b0,b1,b2,b3,b4,b5,b6,b7]] true)).push (x:=.row 1 [.str [42],.str [47]] true);refine qN ((WL (lo:=3) (s1:=[42]) (s2:=[47]) i5'.at' K.l (by simp) (by simp;omega) (by decide) (by decide) rfl rfl (by decide)).mono ?_);rintro v h5 ⟨rfl,rfl⟩;simp only[go_sem];have i6':=wi (ts:=[t,u]) (k:=3) (n:=opN toks 3 [42] [47] b) (s:=[]) (q4.one.snoc r3 (by omega) (by omega)) (nLr _) (by omega) rfl;refine qf (f2,_,_,c,_) ⟨by simp only;omega,by simp only;unfold mJ at i2|-;simp only[Jb.rk]at i2|-;omega, ?_,p4,⟨_,rfl,rfl⟩,st0 i5',st1 rfl ((i6'.push (o:=.row 1 [.str [42],.str [47]] true) (by simp)).mono (nLr _) (by simp))⟩ (by simp only;omega) (Can.sub (by simp[go_sem]) (by simp[go_sem]));rw[i3];simp only[pM,if_neg h0,r1,qe];rfl
end
end Go.Ab
namespace Go.Ab
open Go
set_option maxRecDepth 10000
set_option maxHeartbeats 2000000
def KL(B u:Nat)(h:List qB)(v:AV)(w:Nat)(xs:List AV):Prop:=(xs=[]/\v=.nils)\/∃k vs,v=.slice w k 0 xs.length false/\h[k]?=some (.row w vs true)/\Ows B k h vs xs/\B<=k/\k<u/\xs≠[]
section
variable {B u u2 k w id:Nat} {h h1 h2:List qB} {v X t:AV} {xs vs:List AV} {o:qB}
theorem KL.nil:KL B u h .nils w []:=.inl ⟨rfl,rfl⟩
theorem KL.to(x:KL B u h v w xs)(hh:∀j,B<=j->j<u->h1[j]?=h[j]?):KL B u h1 v w xs:=by
 rcases x with x | ⟨k,vs,x1,x2,x3,x4,x5,x6⟩
 ·exact .inl x
 ·exact .inr ⟨k,vs,x1,(hh k x4 x5).trans x2,x3.to fun j h1 h2=>hh j h1 (by omega),x4,x5,x6⟩
theorem KL.mono(x:KL B u h v w xs)(hu:u<=u2):KL B u2 h v w xs:=by
 rcases x with x | ⟨k,vs,x1,x2,x3,x4,x5,x6⟩
 ·exact .inl x
 ·exact .inr ⟨k,vs,x1,x2,x3,x4,by omega,x6⟩
theorem KL.ps(x:KL B u h1 v w xs)(hu:u<=h1.length)(hid:id<B)(a:PS h1 id o h2):KL B u h2 v w xs:=x.to fun j h3 h4=>a.old j (by omega) (by omega)
theorem KL.push(x:KL B u h v w xs)(hu:u<=h.length):KL B u (h++[o]) v w xs:=x.to fun j h3 h4=>gAl (by omega)
theorem KL.set(x:KL B u h v w xs)(hid:id<B):KL B u (h.set id o) v w xs:=x.to fun j h3 h4=>gSn (by omega)
theorem KL.ow(x:KL B u h v w xs):Ow B u h v (.lst w xs false):=by
 rcases x with⟨rfl,rfl⟩ | ⟨k,vs,rfl,x2,x3,x4,x5,x6⟩
 ·exact Ow.nils
 ·exact(x3.row x2 (nLr _) x4).mono (nLr _) x5
theorem JD(hX:Ow B u h X t)(hk:h[k]?=some (.row w [X] true))(hu:u<=k)(hb:B<=k):KL B (k+1) h (.slice w k 0 1 false) w [t]:=
 .inr ⟨k,[X],rfl,hk,hX.one.mono (nLr _) hu,hb,by omega,by simp⟩
theorem Kc{n:Nat}(hV:Ows B u h vs xs)(hX:Ow u u2 h X t)(hk:h[k]?=some (.row w (vs++[X]) true))(h1:B<=u)(h2:u<=u2)(hu:u2<=k)(hn:n=xs.length+1):KL B (k+1) h (.slice w k 0 n false) w (xs++[t]):=by
 subst hn;exact .inr ⟨k,vs++[X],by simp,hk,(hV.snoc hX h1 h2).mono (nLr _) hu,by omega,by omega,by simp⟩
theorem Ows.cnt(x:Ows B u h vs xs):vs.length=xs.length:=by obtain⟨S,x,_⟩:=x;exact x.cnt
variable {E:Ev} {l:List qA} {ks:List Fr1} {s m:qj} {Q:qR->VSt->Prop}
theorem zx{id2 d:Nat}{c2:Bool}(hK:KL B u h v w xs)(hX:Ow u u2 h X t)(h2:h[id2]?=some (.row w [X] true))(b1:B<=u)(b2:u<=u2)(b3:u2<=h.length)(hl:xs.length<4294967296)
  (hr:∀k' n' h',KL B h'.length h' (.slice w k' 0 n' false) w (xs++[t])->(∀j,j<B->h'[j]?=h[j]?)->h.length<=h'.length->R E (.ops l::ks) ⟨(d,.slice w k' 0 n' false)::s,m,h'⟩ Q):
  wm E w (some d) (some v) (some (.slice w id2 0 1 c2)) l ks ⟨s,m,h⟩ Q:=by
 rcases hK with⟨rfl,rfl⟩ | ⟨k,vs,rfl,x2,x3,x4,x5,x6⟩
 ·refine Um (ys:=[X]) (Els.row h2 rfl) (by simp) ?_;refine hr _ _ _ ?_ (fun j hj=>gAl (by omega)) (by simp);have:=JD (k:=h.length) (w:=w) ((hX.push (o:=.row w [X] true) b3).mono b1 (nLr _)) (by simp) b3 (by omega);simpa using this
 ·have hc:=x3.cnt;refine Zy h2 x2 hc hl ?_;refine hr _ _ _ ?_ (fun j hj=> ?_) (by simp)
  ·have g:∀j,j<h.length->j≠k->(h.set k qB.dead++[qB.row w (vs++[X]) true])[j]?=h[j]?:=fun j hj hne=>by
    rw[gAl (by simp;omega),gSn (Ne.symm hne)]
   have:=Kc (k:=h.length) (w:=w) (n:=xs.length+1) (x3.to (h1:=h.set k qB.dead++[qB.row w (vs++[X]) true]) fun j h3 h4=>g j (by omega) (by omega)) ((hX.to (h1:=h.set k qB.dead++[qB.row w (vs++[X]) true]) fun j h3 h4=>g j (by omega) (by omega)).mono (Nat.le_of_lt x5) (nLr _)) (by simp) x4 (by omega) b3 rfl;simpa using this
  ·rw[gAl (by simp;omega),gSn (by omega)]
end
section
variable {toks:List qJ} {e:Int} {id f:Nat}
theorem qW8(K:qv toks)(H:∀f',f'<=f->wR toks e id f'):CI toks e id 1511 (f+1) .app:=by
 intro a h hf ha ho;have hid:=zL ho;refine xI VH ?_;simp only[VH,qI,go_sem];refine qT (((H f (nLr _)).pre a h (jo hf (by decide)) ha ho).mono ?_ ?_)
 case refine_2=>
  rintro v h1 ⟨b,q1,rfl⟩;exact⟨rfl,b,by simp only[pM,q1,qo],rfl⟩
 rintro v h1 ⟨t,b,q1,q2,q3⟩;obtain⟨p1,p2,_,_⟩:=jX K.x f .pre _ trivial ha q1;simp only[Jb.str]at p1;obtain⟨a0,a1,a2,a3,a4,a5,a6,a7,rfl⟩:=q3.shape;have hl1:=q2.len;simp only[go_sem];refine qK rfl rfl ⟨_,rfl⟩ (by decide) ?_;simp only[go_sem];have e0:pM toks (f+1) .app a=pM toks f (.appL t) b:=by simp only[pM,q1,qe]
 refine Sem.loop (fun s:Nat×qD×AV×Nat×List qB=>s.1<=f/\mJ toks (.appL s.2.1) s.2.2.2.1<=s.1/\pM toks (f+1) .app a=pM toks s.1 (.appL s.2.1) s.2.2.2.1/\s.2.2.2.1<=toks.length/\(∃cs,s.2.2.1=.agg cs/\cs.length=8)/\PS h id (prI toks s.2.2.2.1 e) s.2.2.2.2/\Ow h.length s.2.2.2.2.length s.2.2.2.2 s.2.2.1 s.2.1.enc)
  (fun s=>(⟨[(0,.ptr id 0 0)],[(2,.agg [.int .i64 0,.int .i64 0,.str [],.int .i64 0,.str [],.nils,.nils,.nils]),(3,s.2.2.1)],s.2.2.2.2⟩:VSt)) (fun s=>toks.length-s.2.2.2.1) (f,t,.agg [a0,a1,a2,a3,a4,a5,a6,a7],b,h1) (by kernel_rfl) ?_ (Can.sub (by simp[go_sem]) (by simp[go_sem])) ?_
 ·exact⟨nLr _,by unfold mJ at hf|-;simp only[Jb.rk]at hf|-;omega,e0,p2,⟨_,rfl,rfl⟩,q2,q3⟩
 rintro⟨f',t,v,b,g⟩ ⟨i1,i2,i3,i4,⟨cs,rfl,hcs⟩,i5,i6⟩;simp only at i1 i2 i3 i4 hcs i5 i6;obtain⟨a0,a1,a2,a3,a4,a5,a6,a7,hv⟩:=i6.shape;rw[hv]at i6|-;simp only[go_sem];obtain⟨f2,rfl⟩:∃f2,f'=f2+1:=⟨f'-1,by unfold mJ at i2;simp only[Jb.rk]at i2;omega⟩;refine qZ rfl (qYU i5.at') ?_;simp only[go_sem];cases h0:bgP toks b
 ·simp only[go_sem];refine qK rfl rfl ⟨_,rfl⟩ (by decide) ?_;simp only[go_sem];exact⟨t,b,by rw[i3];simp only[pM,h0,bFt,if_false],i5,i6⟩
 ·simp only[go_sem];have hl5:=i5.len;refine qT (((H f2 (by omega)).pre b _ (jo (j:=.appL t) i2 (show 1<2 by decide)) i4 i5.at').mono ?_ ?_)
  case refine_2=>
   rintro v h1 ⟨c,r1,rfl⟩;exact⟨rfl,c,by rw[i3];simp only[pM,h0,if_true,r1,qo],rfl⟩
  rintro v h3 ⟨u,c,r1,r2,r3⟩;obtain⟨p3,p4,_,_⟩:=jX K.x f2 .pre _ trivial i4 r1;simp only[Jb.str]at p3;have hl3:=r2.len;have q4:=i6.ps (nLr _) hid r2;obtain⟨b0,b1,b2,b3,b4,b5,b6,b7,rfl⟩:=r3.shape;simp only[go_sem];rw[show zA _ 8 _ _=some [.agg [a0,a1,a2,a3,a4,a5,a6,a7],.agg [b0,b1,b2,b3,b4,b5,b6,b7]]from rfl];simp only[go_sem];refine qK rfl rfl ⟨_,rfl⟩ (by decide) ?_;simp only[go_sem];have i6':=wi (ts:=[t,u]) (k:=5) (n:=0) (s:=[]) (q4.one.snoc r3 (by omega) (by omega)) (nLr _) (by omega) rfl;refine qf (f2,_,_,c,_) ⟨by simp only;omega,by simp only;unfold mJ at i2|-;simp only[Jb.rk]at i2|-;omega, ?_,p4,⟨_,rfl,rfl⟩,(i5.trans r2).push,i6'.mono (nLr _) (by simp)⟩ (by simp only;omega) (Can.sub (by simp[go_sem]) (by simp[go_sem]));rw[i3];simp only[pM,h0,if_true,r1,qe];rfl
theorem qXB(K:qv toks)(H:∀f',f'<=f->wR toks e id f'):CI toks e id 1553 (f+1) .encl:=by
 intro a h hf ha ho;have hid:=zL ho;refine xI VQ ?_;simp only[VQ,qI,go_sem];refine qZ rfl (jA ho K.l (by decide)) ?_;rw[qi (by decide)];simp only[go_sem];cases hb:isP toks a [45]
 ·simp only[bFt,if_false,go_sem];refine qT (((H f (nLr _)).term a h (jo hf (by decide)) ha ho).mono ?_ ?_)
  case refine_2=>
   rintro v h1 ⟨b,q1,rfl⟩;exact⟨rfl,b,by simp only[pM,hb,bFt,if_false,q1,qo],rfl⟩
  rintro v h1 ⟨t,b,q1,q2,q3⟩;obtain⟨a0,a1,a2,a3,a4,a5,a6,a7,rfl⟩:=q3.shape;simp only[go_sem];refine qK rfl rfl ⟨_,rfl⟩ (by decide) ?_;simp only[go_sem];have e0:pM toks (f+1) .encl a=exB (qQ toks [41] b) fun _ b=>.ok (t,b):=by simp only[pM,hb,bFt,if_false,q1,qe]
  refine qT ((jT q2.at' K.l (by decide)).mono ?_ ?_)
  case refine_2=>
   rintro v2 h2 ⟨e1,rfl,rfl⟩;rw[qi (by decide)]at e1;exact⟨rfl,b,by rw[e0];simp only[qe,qQ,e1,bFt,if_false,qo],rfl⟩
  rintro v2 h2 ⟨e1,rfl⟩;rw[qi (by decide)]at e1;simp only[go_sem];refine qK rfl rfl ⟨_,rfl⟩ (by decide) ?_;simp only[go_sem];exact⟨t,b+1,by rw[e0];simp only[qQ,e1,if_true,qe],q2.trans (PS.set q2.at'),by rw[lLs];exact q3.set (.inl hid)⟩
 ·have hlt:=qV hb;simp only[if_true,go_sem];have q0:PS h id (prI toks (a+1) e) (h.set id (prI toks (a+1) e)):=PS.set ho;refine qT ((qQ4 (neg:=true) q0.at' K.l K.n K.x).mono ?_ ?_)
  case refine_2=>
   rintro v h1 ⟨q1,rfl⟩;exact⟨rfl,a+1,by simp only[pM,hb,if_true,q1,qo],rfl⟩
  rintro v h1 ⟨n,q1,rfl,rfl⟩;have q2:PS h id (prI toks (a+1+1) e) ((h.set id (prI toks (a+1) e)).set id (prI toks (a+1+1) e)):=q0.trans (PS.set q0.at');have q3:Ow h.length ((h.set id (prI toks (a+1) e)).set id (prI toks (a+1+1) e)).length ((h.set id (prI toks (a+1) e)).set id (prI toks (a+1+1) e)) _ _:=QL (k:=2) (n:=n) (s:=[]) (by simp);simp only[go_sem];refine qK rfl rfl ⟨_,rfl⟩ (by decide) ?_;simp only[go_sem];have e0:pM toks (f+1) .encl a=exB (qQ toks [41] (a+1+1)) fun _ b=>.ok (tmk 2 n [] [],b):=by simp only[pM,hb,if_true,q1,qe]
  refine qT ((jT q2.at' K.l (by decide)).mono ?_ ?_)
  case refine_2=>
   rintro v2 h2 ⟨e1,rfl,rfl⟩;rw[qi (by decide)]at e1;exact⟨rfl,a+1+1,by rw[e0];simp only[qe,qQ,e1,bFt,if_false,qo],rfl⟩
  rintro v2 h2 ⟨e1,rfl⟩;rw[qi (by decide)]at e1;simp only[go_sem];refine qK rfl rfl ⟨_,rfl⟩ (by decide) ?_;simp only[go_sem];exact⟨tmk 2 n [] [],a+1+1+1,by rw[e0];simp only[qQ,e1,if_true,qe],q2.trans (PS.set q2.at'),by rw[lLs];exact q3.set (.inl hid)⟩
theorem qXC(K:qv toks)(H:∀f',f'<=f->wR toks e id f'):CI toks e id 1554 (f+1) .mat:=by
 intro a h hf ha ho;have hid:=zL ho;refine xI VS ?_;simp only[VS,qI,go_sem];refine qT (((H f (nLr _)).term a h (jo hf (by decide)) ha ho).mono ?_ ?_)
 case refine_2=>
  rintro v h1 ⟨b,q1,rfl⟩;exact⟨rfl,b,by simp only[pM,q1,qo],rfl⟩
 rintro v h1 ⟨t,b,q1,q2,q3⟩;obtain⟨p1,p2,_,_⟩:=jX K.x f .term _ trivial ha q1;simp only[Jb.str]at p1;have hl1:=q2.len;obtain⟨a0,a1,a2,a3,a4,a5,a6,a7,rfl⟩:=q3.shape;simp only[go_sem];refine zG (v:=.agg [a0,a1,a2,a3,a4,a5,a6,a7]) rfl rfl ?_;simp only[go_sem];refine qK rfl rfl ⟨_,rfl⟩ (by decide) ?_;simp only[go_sem];have q2':=q2.push (x:=.row 8 [.agg [a0,a1,a2,a3,a4,a5,a6,a7]] true);have k0:=JD (w:=8) (q3.push (o:=.row 8 [.agg [a0,a1,a2,a3,a4,a5,a6,a7]] true) (nLr _)) (k:=h1.length) (by simp) (nLr _) hl1;have e0:pM toks (f+1) .mat a=exB (qQ toks [123] b) fun _ b=>pM toks f (.matL [t]) b:=by simp only[pM,q1,qe]
 refine qT ((jT q2'.at' K.l (by decide)).mono ?_ ?_)
 case refine_2=>
  rintro v2 h2 ⟨e1,rfl,rfl⟩;rw[qi (by decide)]at e1;exact⟨rfl,b,by rw[e0];simp only[qe,qQ,e1,bFt,if_false,qo],rfl⟩
 rintro v2 h2 ⟨e1,rfl⟩;rw[qi (by decide)]at e1;simp only[go_sem];have hlt:=qV e1;rw[show exB (qQ toks [123] b) (fun _ b=>pM toks f (.matL [t]) b)=pM toks f (.matL [t]) (b+1) by simp only[qQ,e1,if_true,qe]]at e0;have q4:=q2'.trans (PS.set q2'.at' (o:=prI toks (b+1) e));have k1:=k0.set (id:=id) (o:=prI toks (b+1) e) hid;obtain⟨f2,rfl⟩:∃f2,f=f2+1:=⟨f-1,by unfold mJ at hf;simp only[Jb.rk]at hf;omega⟩;have hf2:mJ toks (.matL [t]) (b+1)<=f2+1:=zq hf (by omega) hlt;refine qT (((H f2 (by omega)).bran (b+1) _ (jo hf2 (show 1<2 by decide)) hlt q4.at').mono ?_ ?_)
 case refine_2=>
  rintro v h1 ⟨c,r1,rfl⟩;exact⟨rfl,c,by rw[e0];simp only[pM,r1,qo],rfl⟩
 rintro v h3 ⟨u,c,r1,r2,r3⟩;obtain⟨p3,p4,_,_⟩:=jX K.x f2 .bran _ trivial hlt r1;simp only[Jb.str]at p3;have hl3:=r2.len;simp only[lLs,zK]at hl3 r3;have k2:=k1.ps (by simp) hid r2;obtain⟨b0,b1,b2,b3,b4,b5,b6,b7,rfl⟩:=r3.shape;simp only[go_sem];refine zG (v:=.agg [b0,b1,b2,b3,b4,b5,b6,b7]) rfl rfl ?_;simp only[go_sem];refine zx (k2.push (nLt (by omega) hl3)) (r3.push (o:=.row 8 [.agg [b0,b1,b2,b3,b4,b5,b6,b7]] true) (nLr _)) (by simp) (by omega) (by omega) (by simp) (by simp) ?_;intro kk nn h4 k3 g1 g2;rw[zK]at g2;simp only[go_sem];have e2:pM toks (f2+1+1) .mat a=(if isP toks c [59]then pM toks f2 (.matL [t,u]) (c+1)else exB (qQ toks [125] c) fun _ b=>.ok (tmk 9 0 [] [t,u],b)):=by rw[e0];simp only[pM,r1,qe,lCa,lNa]
 have q5:PS h id (prI toks c e) h4:=⟨(g1 id hid).trans (by rw[gAl (zL r2.at')];exact r2.at'),by omega,fun j hj hl=>by
  rw[g1 j hl,gAl (by omega)];exact(q4.trans r2).old j hj hl⟩
 refine Sem.loop (fun s:Nat×List qD×AV×Nat×List qB=>s.1<=f2/\20*(toks.length-(s.2.2.2.1+1))+2<=s.1/\pM toks (f2+1+1) .mat a=(if isP toks s.2.2.2.1 [59]then pM toks s.1 (.matL s.2.1) (s.2.2.2.1+1)else exB (qQ toks [125] s.2.2.2.1) fun _ b=>.ok (tmk 9 0 [] s.2.1,b))/\s.2.2.2.1<=toks.length/\PS h id (prI toks s.2.2.2.1 e) s.2.2.2.2/\KL h.length s.2.2.2.2.length s.2.2.2.2 s.2.2.1 8 (s.2.1.map qD.enc)/\s.2.1.length<=s.2.2.2.1/\∃kk nn,s.2.2.1=.slice 8 kk 0 nn false)
  (fun s=>(⟨[(0,.ptr id 0 0)],[(2,.agg [.int .i64 0,.int .i64 0,.str [],.int .i64 0,.str [],.nils,.nils,.nils]),(3,.agg [.int .i64 9,.int .i64 0,.str [],.int .i64 0,.str [],.nils,.nils,s.2.2.1])],s.2.2.2.2⟩:VSt)) (fun s=>toks.length-s.2.2.2.1) (f2,[t,u],.slice 8 kk 0 nn false,c,h4) (by kernel_rfl) ?_ (Can.sub (by simp[go_sem]) (by simp[go_sem])) ?_
 ·refine⟨nLr _, ?_,e2,p4,q5,by simpa using k3,by simp only[lCo,lNi];omega,_,_,rfl⟩;simp only;unfold mJ at hf2;simp only[Jb.rk]at hf2;omega
 clear e2 q5 k3 g1 g2 k2 r3 k1 k0 q4 q2';rintro⟨f',ks',w7,d,g⟩ ⟨i1,i2,i3,i4,i5,i6,i7,kk,nn,rfl⟩;simp only at i1 i2 i3 i4 i5 i6 i7;simp only[go_sem];refine qZ rfl (jA i5.at' K.l (by decide)) ?_;rw[qi (by decide)];simp only[go_sem];cases h0:isP toks d [59]
 ·simp only[bFt,if_false,go_sem];rw[h0,if_neg (by decide)]at i3;refine qT ((jT i5.at' K.l (by decide)).mono ?_ ?_)
  case refine_2=>
   rintro v2 h2 ⟨e1,rfl,rfl⟩;rw[qi (by decide)]at e1;exact⟨rfl,d,by rw[i3];simp only[qe,qQ,e1,bFt,if_false,qo],rfl⟩
  rintro v2 h2 ⟨e1,rfl⟩;rw[qi (by decide)]at e1;simp only[go_sem];refine qK rfl rfl ⟨_,rfl⟩ (by decide) ?_;simp only[go_sem];refine⟨tmk 9 0 [] ks',d+1,by rw[i3];simp only[qQ,e1,if_true,qe],i5.trans (PS.set i5.at'), ?_⟩;rw[lLs];exact QM (i6.set hid).ow i5.len
 ·have hlt:=qV h0;simp only[if_true,go_sem];rw[h0,if_pos rfl]at i3;have hl5:=i5.len;have i5':=i5.trans (PS.set i5.at' (o:=prI toks (d+1) e));have i6':=i6.set (id:=id) (o:=prI toks (d+1) e) hid;obtain⟨f3,rfl⟩:∃f3,f'=f3+1:=⟨f'-1,by omega⟩;refine qT (((H f3 (by omega)).bran (d+1) _ (by unfold mJ;simp only[Jb.rk];omega) hlt i5'.at').mono ?_ ?_)
  case refine_2=>
   rintro v h1 ⟨c,r1,rfl⟩;exact⟨rfl,c,by rw[i3];simp only[pM,r1,qo],rfl⟩
  rintro v h3 ⟨u,c,r1,r2,r3⟩;obtain⟨p3,p4,_,_⟩:=jX K.x f3 .bran _ trivial hlt r1;simp only[Jb.str]at p3;have hl3:=r2.len;simp only[lLs]at hl3 r3;have k2:=i6'.ps (by simp) hid r2;obtain⟨b0,b1,b2,b3,b4,b5,b6,b7,rfl⟩:=r3.shape;simp only[go_sem];refine zG (v:=.agg [b0,b1,b2,b3,b4,b5,b6,b7]) rfl rfl ?_;simp only[go_sem];have hlk:(ks'.map qD.enc).length<4294967296:=by rw[lMp];have:=K.l;omega
  refine zx (k2.push hl3) (r3.push (o:=.row 8 [.agg [b0,b1,b2,b3,b4,b5,b6,b7]] true) (nLr _)) (by simp) (by omega) (by omega) (by simp) hlk ?_;intro kk nn h4 k3 g1 g2;rw[zK]at g2;simp only[go_sem];refine qf (f3,ks'++[u],.slice 8 kk 0 nn false,c,h4) ⟨by simp only;omega,by simp only;omega, ?_,p4, ?_,by simpa using k3,by simp only[lAp,lCo,lNi];omega,_,_,rfl⟩ (by simp only;omega) (Can.sub (by simp[go_sem]) (by simp[go_sem]))
  ·simp only;rw[i3];simp only[pM,r1,qe]
  ·exact⟨(g1 id hid).trans (by rw[gAl (zL r2.at')];exact r2.at'),by simp only;omega,fun j hj hl=>by
    simp only;rw[g1 j hl,gAl (by omega)];exact(i5'.trans r2).old j hj hl⟩
end
end Go.Ab
namespace Go.Ab
open Go
set_option maxRecDepth 10000
set_option maxHeartbeats 2000000
structure Cg(id pb sb B:Nat)(h0:List qB):Prop where
 i:id<h0.length
 p:h0.length<=pb
 s:h0.length<=sb
 ps:pb≠sb
 pB:pb<B
 sB:sb<B
structure Cx(toks:List qJ)(e:Int)(id pb sb B:Nat)(h0:List qB)(a:Nat)(k:Int)(s:Str)(v6 v7:AV)(h:List qB):Prop where
 p:h[id]?=some (prI toks a e)
 f:∀j,j≠id->j<h0.length->h[j]?=h0[j]?
 b1:h[pb]?=some (.row 1 [.ptr id 0 0] true)
 b2:h[sb]?=some (.row 8 [.agg [.int .i64 k,.int .i64 0,.str s,.int .i64 0,.str [],.nils,v6,v7]] true)
 l:B<=h.length
section
variable {toks:List qJ} {e:Int} {id pb sb B f a b:Nat} {h0 h h':List qB} {k:Int} {s:Str} {v6 v7 w6 w7:AV}
theorem Cx.ps(C:Cx toks e id pb sb B h0 a k s v6 v7 h)(G:Cg id pb sb B h0)(q:PS h id (prI toks b e) h'):Cx toks e id pb sb B h0 b k s v6 v7 h':=by
 have:=C.l;have:=G.i;have:=G.p;have:=G.s;have:=G.pB;have:=G.sB;have:=q.len;exact⟨q.at',fun j hj hl=>(q.old j hj (by omega)).trans (C.f j hj hl),(q.old pb (by omega) (by omega)).trans C.b1,(q.old sb (by omega) (by omega)).trans C.b2,by omega⟩
theorem Cx.low(C:Cx toks e id pb sb B h0 a k s v6 v7 h)(G:Cg id pb sb B h0)(q:∀j,j<B->h'[j]?=h[j]?)(ql:h.length<=h'.length):Cx toks e id pb sb B h0 a k s v6 v7 h':=by
 have:=C.l;have:=G.i;have:=G.p;have:=G.s;have:=G.pB;have:=G.sB;exact⟨(q id (by omega)).trans C.p,fun j hj hl=>(q j (by omega)).trans (C.f j hj hl),(q pb (by omega)).trans C.b1,(q sb (by omega)).trans C.b2,by omega⟩
theorem Cx.box(C:Cx toks e id pb sb B h0 a k s v6 v7 h)(G:Cg id pb sb B h0):Cx toks e id pb sb B h0 a k s w6 w7 (h.set sb (.row 8 [.agg [.int .i64 k,.int .i64 0,.str s,.int .i64 0,.str [],.nils,w6,w7]] true)):=by
 have:=C.l;have:=G.i;have:=G.p;have:=G.s;have:=G.ps;have:=G.pB;have:=G.sB;exact⟨by rw[gSn (by omega)];exact C.p,fun j hj hl=>by rw[gSn (by omega)];exact C.f j hj hl,by rw[gSn (by omega)];exact C.b1,gSs (by omega),by simp;omega⟩
theorem Cx.fin(C:Cx toks e id pb sb B h0 a k s v6 v7 h)(G:Cg id pb sb B h0):PS h0 id (prI toks a e) h:=by
 have:=C.l;have:=G.p;have:=G.pB;exact⟨C.p,by omega,C.f⟩
theorem Wa{h:List qB}{o o':qB}:(h++[o]).set h.length o'=h++[o']:=by simp
theorem K7{b u:Nat}{h:List qB}{s:Str}:Ow b u h (.str s) (qW s):=by
 refine⟨[],⟨rfl,rfl,trivial, ?_⟩,fun j hj=>by cases hj⟩;simp only[qW,lay];exact .tree rfl
theorem Wi{p id i j w:Nat}{sh:Option Nat}{st m:qj}{h:List qB}{el:List AV}{rw':Bool}{v:AV}(hp:get st p=some (.ptr id i j))(ho:h[id]?=some (.row w el rw'))(he:(el[i]?).bind (·.part j sh)=some v):wQ (.load sh (.t p)) ⟨st,m,h⟩=some v:=by
 have hp':ev (toE st) (.t p)=some (.ptr id i j):=hp;simp only[wQ,val,hp',qaZ,ho];exact he
theorem qQ5{ns:List Str}(K:qv toks)(G:Cg id pb sb B h0)(C:Cx toks e id pb sb B h0 a k s v6 v7 h)(hK:KL B h.length h v6 1 (ns.map qW))(hns:ns.length<=1048576):
  SCallX Gm 1561 [.ptr sb 0 0,.ptr pb 0 0] h (fun _ h'=>∃x w6,zN toks 1 a=.ok (x,a+1)/\Cx toks e id pb sb B h0 (a+1) k s w6 v7 h'/\KL B h'.length h' w6 1 ((ns++[x]).map qW)) (fun v _=>zN toks 1 a=.error a/\v=wE (nxt toks a e).At):=by
 refine xI VX ?_;simp only[VX,qI,go_sem,C.b1,C.b2];refine Z2 ((JY C.p K.l (by decide)).mono ?_ ?_)
 case refine_2=>
  rintro v h1 ⟨hk,rfl,rfl⟩;refine⟨rfl, ?_,rfl⟩;unfold zN;unfold nxt at hk;cases ht:toks[a]? with
  | none=>rfl
  | some t=>rw[ht]at hk;simp only[Option.getD_some]at hk;simp only[if_neg hk]
 rintro v h1 ⟨hk,rfl,rfl⟩;have hlt:=QK (by decide) hk;have en:nxt toks a e=toks[a]:=by simp[nxt,gEg hlt]
 rw[en]at hk|-;have hw:zN toks 1 a=.ok (toks[a].Text,a+1):=by unfold zN;rw[gEg hlt];simp only[if_pos hk]
 have C1:=C.ps G (PS.set C.p (o:=prI toks (a+1) e));have hK1:=hK.set (id:=id) (o:=prI toks (a+1) e) (by have:=G.i;have:=G.p;have:=G.pB;omega);have hb:=C.l;have hrig:v6.rigid:=by
  rcases hK with⟨_,rfl⟩ | ⟨k,vs,rfl,x2,x3,x4,x5,x6⟩
  ·exact trivial
  ·intro q;exact x6 (lEz q.2)
 refine⟨⟨⟨rfl,v6,by simp only[go_sem], ?_,hrig⟩,trivial⟩, ?_⟩
 ·exact Wi (by simp only[go_sem];rfl) C1.b2 rfl
 simp only[go_sem];refine zG (v:=.str toks[a].Text) rfl rfl ?_;simp only[go_sem];refine zx (t:=qW toks[a].Text) (hK1.push (by simp)) K7 (by simp) hb (nLr _) (by simp) (by rw[lMp];omega) ?_;intro kk nn h4 k3 g1 g2;have C2:=C1.low G (h':=h4) (fun j hj=>by rw[g1 j hj,gAl (by simp;omega)]) (by simp at g2|-;omega);simp only[go_sem];refine jK rfl C2.b2 rfl rfl ?_;simp only[go_sem];refine⟨toks[a].Text,.slice 1 kk 0 nn false,hw,C2.box G, ?_⟩;rw[lLs];have:=k3.set (id:=sb) (o:=.row 8 [.agg [.int .i64 k,.int .i64 0,.str s,.int .i64 0,.str [],.nils,.slice 1 kk 0 nn false,v7]] true) G.sB;simpa using this
theorem qQ3{ks:List qD}(K:qv toks)(H:wR toks e id f)(hf:mJ toks .term a<=f)(ha:a<=toks.length)(G:Cg id pb sb B h0)(C:Cx toks e id pb sb B h0 a k s v6 v7 h)(hK:KL B h.length h v7 8 (ks.map qD.enc))(hks:ks.length<=1048576):
  SCallX Gm 1555 [.ptr sb 0 0,.ptr pb 0 0] h (fun _ h'=>∃t b w7,pM toks f .term a=.ok (t,b)/\Cx toks e id pb sb B h0 b k s v6 w7 h'/\KL B h'.length h' w7 8 ((ks++[t]).map qD.enc)) (fun v _=>∃b,pM toks f .term a=.error b/\v=wE (nxt toks b e).At):=by
 have hB:=C.l;have hsB:=G.sB;have hiB:id<B:=by have:=G.i;have:=G.p;have:=G.pB;omega
 refine xI VT ?_;simp only[VT,qI,go_sem,C.b1,C.b2];rcases hK with⟨hk0,rfl⟩ | ⟨kk,vs,rfl,x2,x3,x4,x5,x6⟩
 ·simp only[go_sem];refine Z2 ((H.term a h hf ha C.p).mono ?_ ?_)
  case refine_2=>
   rintro v h1 ⟨b,q1,rfl⟩;exact⟨rfl,b,q1,rfl⟩
  rintro v h1 ⟨t,b,q1,q2,q3⟩;have C1:=C.ps G q2;have hl:=q2.len;obtain⟨a0,a1,a2,a3,a4,a5,a6,a7,rfl⟩:=q3.shape;refine⟨⟨⟨rfl,.nils,by simp only[go_sem],Wi (by simp only[go_sem];rfl) C1.b2 rfl,trivial⟩,trivial⟩, ?_⟩;simp only[go_sem];refine Um (Els.lst) (by simp) ?_;have C2:=C1.low G (h':=h1++[.row 8 [.agg [.int .i64 0,.int .i64 0,.str [],.int .i64 0,.str [],.nils,.nils,.nils]] true]) (fun j hj=>gAl (by omega)) (by simp);simp only[lCo,lNi,go_sem];have ix:idx 8 (some (.slice 8 h1.length 0 1 false)) (some (.int .i64 0))=some (.ptr h1.length 0 0):=by simp[idx]
  simp only[ix,go_sem];refine jK (el:=[.agg [.int .i64 0,.int .i64 0,.str [],.int .i64 0,.str [],.nils,.nils,.nils]]) (e:=.agg [.int .i64 0,.int .i64 0,.str [],.int .i64 0,.str [],.nils,.nils,.nils]) (e':=.agg [a0,a1,a2,a3,a4,a5,a6,a7]) rfl gCl rfl (QO (k:=8) rfl rfl ⟨fun _=>⟨_,rfl⟩,fun _=>⟨_,rfl⟩⟩ (by decide)) ?_;rw[Wa,lSz];have C3:=C1.low G (h':=h1++[.row 8 [.agg [a0,a1,a2,a3,a4,a5,a6,a7]] true]) (fun j hj=>gAl (by omega)) (by simp);simp only[go_sem];refine Xx (by omega) (by simp[WC]) rfl C3.b2 rfl rfl ?_;simp only[go_sem];refine⟨t,b,.slice 8 h1.length 0 1 false,q1,C3.box G, ?_⟩;rw[lLs];have k3:=JD (w:=8) (B:=B) (k:=h1.length) ((q3.push (o:=.row 8 [.agg [a0,a1,a2,a3,a4,a5,a6,a7]] true) (nLr _)).mono hB (nLr _)) (by simp) (nLr _) (by omega);have k4:=k3.set (id:=sb) (o:=.row 8 [.agg [.int .i64 k,.int .i64 0,.str s,.int .i64 0,.str [],.nils,v6,.slice 8 h1.length 0 1 false]] true) hsB;rw[lMa,hk0];simpa using k4
 ·simp only[go_sem];refine Z2 ((H.term a h hf ha C.p).mono ?_ ?_)
  case refine_2=>
   rintro v h1 ⟨b,q1,rfl⟩;exact⟨rfl,b,q1,rfl⟩
  rintro v h1 ⟨t,b,q1,q2,q3⟩;have C1:=C.ps G q2;have hl:=q2.len;obtain⟨a0,a1,a2,a3,a4,a5,a6,a7,rfl⟩:=q3.shape;rw[lMp]at C1;refine⟨⟨⟨rfl,.slice 8 kk 0 ks.length false,by simp only[go_sem],Wi (by simp only[go_sem];rfl) C1.b2 rfl,fun q=>x6 (by rw[lEz q.2];rfl)⟩,trivial⟩, ?_⟩;simp only[go_sem];have hc:vs.length=ks.length:=by simpa using x3.cnt
  have x2':h1[kk]?=some (.row 8 vs true):=(q2.old kk (by omega) x5).trans x2;refine Un Els.lst x2' hc (by simp only[lCo,lNi];omega) ?_;have g:∀(o:qB)(j:Nat),j<h1.length->j≠kk->(h1.set kk qB.dead++[o])[j]?=h1[j]?:=fun o j hj hne=>by
   rw[gAl (by simp;omega),gSn (Ne.symm hne)]
  have el:(h1.set kk qB.dead).length=h1.length:=by simp
  simp only[lCo,lNi,go_sem];have ix:idx 8 (some (.slice 8 h1.length 0 (ks.length+(0+1)) false)) (some (.int .i64 (ks.length:Nat)))=some (.ptr h1.length ks.length 0):=by simp[idx];omega
  simp only[ix,go_sem];refine jK (el:=vs++[.agg [.int .i64 0,.int .i64 0,.str [],.int .i64 0,.str [],.nils,.nils,.nils]]) (e:=.agg [.int .i64 0,.int .i64 0,.str [],.int .i64 0,.str [],.nils,.nils,.nils]) (e':=.agg [a0,a1,a2,a3,a4,a5,a6,a7]) rfl (by rw[gAr (by omega),el,nSs];rfl) (by rw[gAr (by omega),hc,nSs];rfl) (QO (k:=8) rfl rfl ⟨fun _=>⟨_,rfl⟩,fun _=>⟨_,rfl⟩⟩ (by decide)) ?_;have es:(h1.set kk qB.dead++[qB.row 8 (vs++[AV.agg [.int .i64 0,.int .i64 0,.str [],.int .i64 0,.str [],.nils,.nils,.nils]]) true]).set h1.length (qB.row 8 ((vs++[AV.agg [.int .i64 0,.int .i64 0,.str [],.int .i64 0,.str [],.nils,.nils,.nils]]).set ks.length (.agg [a0,a1,a2,a3,a4,a5,a6,a7])) true)=h1.set kk qB.dead++[qB.row 8 (vs++[.agg [a0,a1,a2,a3,a4,a5,a6,a7]]) true]:=by
   have e1:(vs++[AV.agg [.int .i64 0,.int .i64 0,.str [],.int .i64 0,.str [],.nils,.nils,.nils]]).set ks.length (.agg [a0,a1,a2,a3,a4,a5,a6,a7])=vs++[.agg [a0,a1,a2,a3,a4,a5,a6,a7]]:=by
    rw[<-hc,lSr _ _ (nLr _),nSs];rfl
   rw[e1,lSr _ _ (by omega),el,nSs];rfl
  rw[es];have C3:=C1.low G (h':=h1.set kk qB.dead++[qB.row 8 (vs++[.agg [a0,a1,a2,a3,a4,a5,a6,a7]]) true]) (fun j hj=>g _ j (by omega) (by omega)) (by simp);simp only[go_sem];refine Xx (by omega) (by rw[gAr (by omega),el,nSs];rfl) rfl C3.b2 rfl rfl ?_;simp only[go_sem];refine⟨t,b,_,q1,C3.box G, ?_⟩;rw[lLs];have k3:=Kc (w:=8) (k:=h1.length) (n:=ks.length+(0+1)) (x3.to (h1:=h1.set kk qB.dead++[qB.row 8 (vs++[.agg [a0,a1,a2,a3,a4,a5,a6,a7]]) true]) fun j h3 h4=>(g _ j (by omega) (by omega)).trans (q2.old j (by omega) (by omega))) ((q3.to (h1:=h1.set kk qB.dead++[qB.row 8 (vs++[.agg [a0,a1,a2,a3,a4,a5,a6,a7]]) true]) fun j h3 h4=>g _ j (by omega) (by omega)).mono (b':=kk) (by omega) (nLr _)) (by rw[gAr (by omega),el,nSs];rfl) x4 (by omega) (by omega) (by simp);have k4:=k3.set (id:=sb) (o:=.row 8 [.agg [.int .i64 k,.int .i64 0,.str s,.int .i64 0,.str [],.nils,v6,.slice 8 h1.length 0 (ks.length+(0+1)) false]] true) hsB;rw[lMa];have e3:(h1.set kk qB.dead++[qB.row 8 (vs++[.agg [a0,a1,a2,a3,a4,a5,a6,a7]]) true]).length=h1.length+1:=by simp
  rw[e3];exact k4
end
end Go.Ab
namespace Go.Ab
open Go
set_option maxRecDepth 10000
set_option maxHeartbeats 2000000
section
variable {toks:List qJ} {e:Int} {id pb sb B f a b:Nat} {h0 h h':List qB} {k:Int} {s:Str} {v6 v7 w6 w7:AV}
theorem qQ9{n:Nat}{acc:List Str}{x:Str}(hw:zN toks 1 a=.ok (x,a+1)):jp toks (n+1) acc a=if isP toks (a+1) [44]then jp toks n (acc++[x]) (a+1+1)else exB (qQ toks [93] (a+1)) fun _ b=>.ok (acc++[x],b):=by
 simp only[jp,hw,qe]
theorem qYR(K:qv toks)(G:Cg id pb sb B h0)(C:Cx toks e id pb sb B h0 a k s .nils v7 h)(ha:a<=toks.length):
  SCallX Gm 1327 [.ptr id 0 0,.fn 1561 [.ptr sb 0 0,.ptr pb 0 0]] h (fun _ h'=>∃ns b w6,wP toks a=.ok (ns,b)/\Cx toks e id pb sb B h0 b k s w6 v7 h'/\KL B h'.length h' w6 1 (ns.map qW)) (fun v _=>∃b,wP toks a=.error b/\v=wE (nxt toks b e).At):=by
 have hB:=C.l;have hiB:id<B:=by have:=G.i;have:=G.p;have:=G.pB;omega
 refine xI QV ?_;simp only[QV,qI,go_sem];refine qZ rfl (jA C.p K.l (by decide)) ?_;rw[qi (by decide)];simp only[go_sem];cases hb:isP toks a [91]
 ·simp only[Bool.not_false,bFt,if_false,go_sem];exact⟨[],a,.nils,by simp only[wP,hb,bFt,if_false],C,.inl ⟨rfl,rfl⟩⟩
 have hlt:=qV hb;simp only[Bool.not_true,if_true,go_sem];have C1:=C.ps G (PS.set C.p (o:=prI toks (a+1) e));obtain⟨n,hn⟩:∃n,toks.length-a=n+1:=⟨toks.length-a-1,by omega⟩;have e0:wP toks a=jp toks (n+1) [] (a+1):=by simp only[wP,hb,if_true,hn]
 refine qT ((qQ5 (ns:=[]) K G C1 (.inl ⟨rfl,rfl⟩) (by simp)).mono ?_ ?_)
 case refine_2=>
  rintro v h1 ⟨q1,rfl⟩;exact⟨rfl,a+1,by rw[e0];simp only[jp,q1,qo],rfl⟩
 rintro v h1 ⟨x,w6,q1,C2,k2⟩;rw[qQ9 q1]at e0;obtain⟨_,p2,_⟩:=ji q1;simp only[lNa]at e0 k2;simp only[go_sem];refine Sem.loop (fun z:Nat×List Str×AV×Nat×List qB=>wP toks a=(if isP toks z.2.2.2.1 [44]then jp toks z.1 z.2.1 (z.2.2.2.1+1)else exB (qQ toks [93] z.2.2.2.1) fun _ b=>.ok (z.2.1,b))/\toks.length<=z.1+z.2.2.2.1/\Cx toks e id pb sb B h0 z.2.2.2.1 k s z.2.2.1 v7 z.2.2.2.2/\KL B z.2.2.2.2.length z.2.2.2.2 z.2.2.1 1 (z.2.1.map qW)/\z.2.1.length<=z.2.2.2.1/\z.2.2.2.1<=toks.length)
  (fun z=>(⟨[(0,.ptr id 0 0),(1,.fn 1561 [.ptr sb 0 0,.ptr pb 0 0])],[],z.2.2.2.2⟩:VSt)) (fun z=>toks.length-z.2.2.2.1) (n,[x],w6,a+1+1,h1) (by kernel_rfl) ⟨e0,by simp only;omega,C2,k2,by simp,p2⟩ (Can.sub (by simp[go_sem]) (by simp[go_sem])) ?_
 clear e0 k2 C2 C1 C hB hn q1;rintro⟨n,ns,w6,c,g⟩ ⟨i1,i2,i3,i4,i5,i6⟩;simp only at i1 i2 i3 i4 i5 i6;simp only[go_sem];refine qZ rfl (jA i3.p K.l (by decide)) ?_;rw[qi (by decide)];simp only[go_sem];cases hc:isP toks c [44]
 ·simp only[bFt,if_false,go_sem];rw[hc,if_neg (by decide)]at i1;refine qT ((jT i3.p K.l (by decide)).mono ?_ ?_)
  case refine_2=>
   rintro v2 h2 ⟨e1,rfl,rfl⟩;rw[qi (by decide)]at e1;exact⟨rfl,c,by rw[i1];simp only[qQ,e1,bFt,if_false,qo],rfl⟩
  rintro v2 h2 ⟨e1,rfl⟩;rw[qi (by decide)]at e1;simp only[go_sem];refine⟨ns,c+1,w6,by rw[i1];simp only[qQ,e1,if_true,qe],i3.ps G (PS.set i3.p), ?_⟩;rw[lLs];exact i4.set hiB
 ·have hlt:=qV hc;simp only[if_true,go_sem];rw[hc,if_pos rfl]at i1;obtain⟨n,rfl⟩:∃m,n=m+1:=⟨n-1,by omega⟩;have C1:=i3.ps G (PS.set i3.p (o:=prI toks (c+1) e));have i4':=i4.set (id:=id) (o:=prI toks (c+1) e) hiB;refine qT ((qQ5 K G C1 (by rw[lLs];exact i4') (by have:=K.l;omega)).mono ?_ ?_)
  case refine_2=>
   rintro v h1 ⟨q1,rfl⟩;exact⟨rfl,c+1,by rw[i1];simp only[jp,q1,qo],rfl⟩
  rintro v h1 ⟨x,w6',q1,C2,k2⟩;obtain⟨_,p2,_⟩:=ji q1;simp only[go_sem];refine qf (n,ns++[x],w6',c+1+1,h1) ⟨by simp only;rw[i1,qQ9 q1],by simp only;omega,C2,k2,by simp;omega,p2⟩ (by simp only;omega) (Can.sub (by simp[go_sem]) (by simp[go_sem]))
theorem qPA{n:Nat}{acc:List qD}{t:qD}(hw:pM toks n .term a=.ok (t,b)):pM toks (n+1) (.con s acc) a=if isP toks b [44]then pM toks n (.con s (acc++[t])) (b+1)else exB (qQ toks [93] b) fun _ b=>.ok (tmk 8 0 s (acc++[t]),b):=by
 simp only[pM,hw,qe]
theorem qYQ(K:qv toks)(H:∀f',f'<=f->wR toks e id f')(G:Cg id pb sb B h0)(C:Cx toks e id pb sb B h0 a 8 s v6 .nils h)(ha:a<=toks.length)(hf:20*(toks.length-(a+1))+7<=f):
  SCallX Gm 1327 [.ptr id 0 0,.fn 1555 [.ptr sb 0 0,.ptr pb 0 0]] h (fun _ h'=>∃ks b w7,(if isP toks a [91]then pM toks f (.con s []) (a+1)else .ok (tmk 8 0 s [],a))=.ok (tmk 8 0 s ks,b)/\Cx toks e id pb sb B h0 b 8 s v6 w7 h'/\KL B h'.length h' w7 8 (ks.map qD.enc)) (fun v _=>∃b,(if isP toks a [91]then pM toks f (.con s []) (a+1)else .ok (tmk 8 0 s [],a))=.error b/\v=wE (nxt toks b e).At):=by
 have hB:=C.l;have hiB:id<B:=by have:=G.i;have:=G.p;have:=G.pB;omega
 refine xI QV ?_;simp only[QV,qI,go_sem];refine qZ rfl (jA C.p K.l (by decide)) ?_;rw[qi (by decide)];simp only[go_sem];cases hb:isP toks a [91]
 ·simp only[Bool.not_false,bFt,if_false,go_sem];exact⟨[],a,.nils,rfl,C,.inl ⟨rfl,rfl⟩⟩
 have hlt:=qV hb;simp only[Bool.not_true,if_true,go_sem];have C1:=C.ps G (PS.set C.p (o:=prI toks (a+1) e));obtain⟨n,rfl⟩:∃n,f=n+1:=⟨f-1,by omega⟩;refine qT ((qQ3 (ks:=[]) K (H n (by omega)) (by unfold mJ;simp only[Jb.rk];omega) hlt G C1 (.inl ⟨rfl,rfl⟩) (by simp)).mono ?_ ?_)
 case refine_2=>
  rintro v h1 ⟨b,q1,rfl⟩;exact⟨rfl,b,by simp only[pM,q1,qo],rfl⟩
 rintro v h1 ⟨t,b,w7,q1,C2,k2⟩;have e0:=qPA (s:=s) (acc:=[]) q1;obtain⟨p1,p2,_,_⟩:=jX K.x n .term _ trivial hlt q1;simp only[Jb.str]at p1;simp only[lNa]at e0 k2;simp only[go_sem];refine Sem.loop (fun z:Nat×List qD×AV×Nat×List qB=>z.1<=n/\pM toks (n+1) (.con s []) (a+1)=(if isP toks z.2.2.2.1 [44]then pM toks z.1 (.con s z.2.1) (z.2.2.2.1+1)else exB (qQ toks [93] z.2.2.2.1) fun _ b=>.ok (tmk 8 0 s z.2.1,b))/\20*(toks.length-(z.2.2.2.1+1))+7<=z.1/\Cx toks e id pb sb B h0 z.2.2.2.1 8 s v6 z.2.2.1 z.2.2.2.2/\KL B z.2.2.2.2.length z.2.2.2.2 z.2.2.1 8 (z.2.1.map qD.enc)/\z.2.1.length<=z.2.2.2.1/\z.2.2.2.1<=toks.length)
  (fun z=>(⟨[(0,.ptr id 0 0),(1,.fn 1555 [.ptr sb 0 0,.ptr pb 0 0])],[],z.2.2.2.2⟩:VSt)) (fun z=>toks.length-z.2.2.2.1) (n,[t],w7,b,h1) (by kernel_rfl) ⟨nLr _,e0,by simp only;omega,C2,k2,by simp;omega,p2⟩ (Can.sub (by simp[go_sem]) (by simp[go_sem])) ?_
 clear e0 k2 C2 C1 C hB q1;rintro⟨m,ks,w7,c,g⟩ ⟨i0,i1,i2,i3,i4,i5,i6⟩;simp only at i0 i1 i2 i3 i4 i5 i6;simp only[go_sem];refine qZ rfl (jA i3.p K.l (by decide)) ?_;rw[qi (by decide)];simp only[go_sem];cases hc:isP toks c [44]
 ·simp only[bFt,if_false,go_sem];rw[hc,if_neg (by decide)]at i1;refine qT ((jT i3.p K.l (by decide)).mono ?_ ?_)
  case refine_2=>
   rintro v2 h2 ⟨e1,rfl,rfl⟩;rw[qi (by decide)]at e1;exact⟨rfl,c,by rw[i1];simp only[qQ,e1,bFt,if_false,qo],rfl⟩
  rintro v2 h2 ⟨e1,rfl⟩;rw[qi (by decide)]at e1;simp only[go_sem];refine⟨ks,c+1,w7,by rw[i1];simp only[qQ,e1,if_true,qe],i3.ps G (PS.set i3.p), ?_⟩;rw[lLs];exact i4.set hiB
 ·have hlt:=qV hc;simp only[if_true,go_sem];rw[hc,if_pos rfl]at i1;obtain⟨m,rfl⟩:∃x,m=x+1:=⟨m-1,by omega⟩;have C1:=i3.ps G (PS.set i3.p (o:=prI toks (c+1) e));have i4':=i4.set (id:=id) (o:=prI toks (c+1) e) hiB;refine qT ((qQ3 K (H m (by omega)) (by unfold mJ;simp only[Jb.rk];omega) hlt G C1 (by rw[lLs];exact i4') (by have:=K.l;omega)).mono ?_ ?_)
  case refine_2=>
   rintro v h1 ⟨b,q1,rfl⟩;exact⟨rfl,b,by rw[i1];simp only[pM,q1,qo],rfl⟩
  rintro v h1 ⟨t,d,w7',q1,C2,k2⟩;obtain⟨p1,p2,_,_⟩:=jX K.x m .term _ trivial hlt q1;simp only[Jb.str]at p1;simp only[go_sem];refine qf (m,ks++[t],w7',d,h1) ⟨by simp only;omega,by simp only;rw[i1,qPA q1],by simp only;omega,C2,k2,by simp;omega,p2⟩ (by simp only;omega) (Can.sub (by simp[go_sem]) (by simp[go_sem]))
theorem qW9(K:qv toks)(H:∀f',f'<=f->wR toks e id f'):CI toks e id 1560 (f+1) .bran:=by
 intro a h hf ha ho;have hid:=zL ho;refine xI VW ?_;simp only[VW,qI,go_sem];refine JU rfl ?_;simp only[gCl,go_sem];have q0:=(PS.refl ho).push (x:=.row 1 [.ptr id 0 0] true);refine qT ((JY (k:=2) q0.at' K.l (by decide)).mono ?_ ?_)
 case refine_2=>
  rintro v h1 ⟨hk,rfl,rfl⟩;refine⟨rfl,a, ?_,rfl⟩;have:zN toks 2 a=.error a:=by
   unfold zN;unfold nxt at hk;cases ht:toks[a]? with
   | none=>rfl
   | some t=>rw[ht]at hk;simp only[Option.getD_some]at hk;simp only[if_neg hk]
  simp only[pM,this,qo]
 rintro v h1 ⟨hk,rfl,rfl⟩;have hlt:=QK (by decide) hk;have en:nxt toks a e=toks[a]:=by simp[nxt,gEg hlt]
 rw[en]at hk|-;generalize hs:toks[a].Text=s;have hw:zN toks 2 a=.ok (s,a+1):=by unfold zN;rw[gEg hlt];simp only[if_pos hk,hs]
 simp only[go_sem];refine jK (el:=[.agg [.int .i64 0,.int .i64 0,.str [],.int .i64 0,.str [],.nils,.nils,.nils]]) (e:=.agg [.int .i64 0,.int .i64 0,.str [],.int .i64 0,.str [],.nils,.nils,.nils]) (e':=.agg [.int .i64 10,.int .i64 0,.str s,.int .i64 0,.str [],.nils,.nils,.nils]) rfl gCl rfl (QO (k:=8) rfl rfl ⟨fun _=>⟨_,rfl⟩,fun _=>⟨_,rfl⟩⟩ (by decide)) ?_;rw[Wa];simp only[lSz,go_sem];have G:Cg id h.length (h.length+1) (h.length+2) h:=⟨hid,nLr _,by omega,by omega,by omega,by omega⟩;have e1:((h++[qB.row 1 [.ptr id 0 0] true]).set id (prI toks (a+1) e)).length=h.length+1:=by simp
 have C:Cx toks e id h.length (h.length+1) (h.length+2) h (a+1) 10 s .nils .nils ((h++[qB.row 1 [.ptr id 0 0] true]).set id (prI toks (a+1) e)++[.row 8 [.agg [.int .i64 10,.int .i64 0,.str s,.int .i64 0,.str [],.nils,.nils,.nils]] true]):=by
  refine⟨?_,fun j hj hl=> ?_, ?_, ?_, ?_⟩
  ·rw[gAl (by omega),gSs (by simp;omega)]
  ·rw[gAl (by omega),gSn (by omega),gAl hl]
  ·rw[gAl (by omega),gSn (by omega),gCl]
  ·rw[<-e1];exact gCl
  ·simp
 rw[e1];generalize ((h++[qB.row 1 [.ptr id 0 0] true]).set id (prI toks (a+1) e)++[.row 8 [.agg [.int .i64 10,.int .i64 0,.str s,.int .i64 0,.str [],.nils,.nils,.nils]] true])=g0 at C|-;simp only[C.b1,go_sem];refine qT ((qYR K G C (by omega)).mono ?_ ?_)
 case refine_2=>
  rintro v h1 ⟨b,q1,rfl⟩;exact⟨rfl,b,by simp only[pM,hw,qe,q1,qo],rfl⟩
 rintro v g1 ⟨ns,b,w6,q1,C1,k1⟩;obtain⟨p1,p2,_,_⟩:=qRA K.x hlt q1;simp only[C1.b1,go_sem];refine qT ((jT C1.p K.l (by decide)).mono ?_ ?_)
 case refine_2=>
  rintro v2 h2 ⟨e2,rfl,rfl⟩;rw[qi (by decide)]at e2;exact⟨rfl,b,by simp only[pM,hw,qe,q1,qQ,e2,bFt,if_false,qo],rfl⟩
 rintro v2 h2 ⟨e2,rfl⟩;rw[qi (by decide)]at e2;have hlt2:=qV e2;have C2:=C1.ps G (PS.set C1.p (o:=prI toks (b+1) e));have k2:=k1.set (id:=id) (o:=prI toks (b+1) e) (by omega);simp only[C2.b1,go_sem];refine qT (((H f (nLr _)).term (b+1) _ (zq hf (by omega) hlt2) hlt2 C2.p).mono ?_ ?_)
 case refine_2=>
  rintro v h1 ⟨c,r1,rfl⟩;exact⟨rfl,c,by simp only[pM,hw,qe,q1,qQ,e2,if_true,r1,qo],rfl⟩
 rintro v g3 ⟨t,c,r1,r2,r3⟩;have C3:=C2.ps G r2;have hl3:=r2.len;have hB:=C1.l;have k3:=k2.ps (by simp) (by omega) r2;simp only[lLs]at hl3 r3;obtain⟨a0,a1,a2,a3,a4,a5,a6,a7,rfl⟩:=r3.shape;simp only[go_sem];refine zG (v:=.agg [a0,a1,a2,a3,a4,a5,a6,a7]) rfl rfl ?_;have C4:=C3.low G (h':=g3++[.row 8 [.agg [a0,a1,a2,a3,a4,a5,a6,a7]] true]) (fun j hj=>gAl (by have:=C3.l;omega)) (by simp);simp only[go_sem];refine jK (e':=.agg [.int .i64 10,.int .i64 0,.str s,.int .i64 0,.str [],.nils,w6,.slice 8 g3.length 0 1 false]) rfl C4.b2 rfl rfl ?_;have C5:=C4.box G (w6:=w6) (w7:=.slice 8 g3.length 0 1 false);simp only[lSz,C5.b2,go_sem];refine qK rfl rfl ⟨_,rfl⟩ (by decide) ?_;simp only[go_sem];refine⟨.mk 10 0 s noT ns [t],c,by simp only[pM,hw,qe,q1,qQ,e2,if_true,r1],C5.fin G, ?_⟩;have x6:=((k3.push (o:=.row 8 [.agg [a0,a1,a2,a3,a4,a5,a6,a7]] true) hl3).set (id:=h.length+1) (o:=.row 8 [.agg [.int .i64 10,.int .i64 0,.str s,.int .i64 0,.str [],.nils,w6,.slice 8 g3.length 0 1 false]] true) (by omega)).ow;have x7:=((JD (w:=8) (B:=g1.length) (k:=g3.length) (r3.push (o:=.row 8 [.agg [a0,a1,a2,a3,a4,a5,a6,a7]] true) (nLr _)) (by simp) (nLr _) hl3).set (id:=h.length+1) (o:=.row 8 [.agg [.int .i64 10,.int .i64 0,.str s,.int .i64 0,.str [],.nils,w6,.slice 8 g3.length 0 1 false]] true) (by omega)).ow;rw[lLs,zK];exact(Zb (T:=noT) (ks:=[t]) (m1:=h.length+2) (b:=h.length+2) Ow.nils x6 x7 (nLr _) (by omega) (by omega)).mono (by omega) (nLr _)
end
end Go.Ab
namespace Go.Ab
open Go
set_option maxRecDepth 10000
set_option maxHeartbeats 2000000
section
variable {toks:List qJ} {e:Int} {id f:Nat}
theorem Wk{k:Int}{a:Nat}(hk:¬(nxt toks a e).Kind=k):zN toks k a=.error a:=by
 unfold zN;unfold nxt at hk;cases ht:toks[a]? with
 | none=>rfl
 | some t=>rw[ht]at hk;simp only[Option.getD_some]at hk;simp only[if_neg hk]
theorem Wl{k:Int}{a:Nat}(h0:k≠0)(hk:(nxt toks a e).Kind=k):zN toks k a=.ok ((nxt toks a e).Text,a+1):=by
 have hlt:=QK h0 hk;have en:nxt toks a e=toks[a]:=by simp[nxt,gEg hlt]
 rw[en]at hk|-;unfold zN;rw[gEg hlt];simp only[if_pos hk]
theorem qXD(K:qv toks)(H:∀f',f'<=f->wR toks e id f'):CI toks e id 1539 (f+1) .pre:=by
 intro a h hf ha ho;have hid:=zL ho;refine xI VL ?_;simp only[VL,qI,go_sem];refine JU rfl ?_;simp only[gCl,go_sem];have q0:=(PS.refl ho).push (x:=.row 1 [.ptr id 0 0] true);refine qZ rfl (jA q0.at' K.l (by decide)) ?_;rw[qi (by decide)];have lb:∀{x:Nat},((h++[qB.row 1 [.ptr id 0 0] true]).set id (prI toks x e))[h.length]?=some (.row 1 [.ptr id 0 0] true):=fun{x}=>by
  rw[gSn (by omega)];exact gCl
 simp only[go_sem];cases hb:isP toks a [33]
 case true=>
  have hlt:=qV hb;have q1:=q0.trans (PS.set q0.at' (o:=prI toks (a+1) e));simp only[if_true,lb,go_sem];refine qT (((H f (nLr _)).pre (a+1) _ (zq hf (by omega) hlt) hlt q1.at').mono ?_ ?_)
  case refine_2=>
   rintro v h1 ⟨c,r1,rfl⟩;exact⟨rfl,c,by simp only[pM,hb,if_true,r1,qo],rfl⟩
  rintro v h1 ⟨t,c,r1,r2,r3⟩;have hl:=r2.len;simp only[lLs,zK]at hl r3;obtain⟨a0,a1,a2,a3,a4,a5,a6,a7,rfl⟩:=r3.shape;simp only[go_sem];refine zG (v:=.agg [a0,a1,a2,a3,a4,a5,a6,a7]) rfl rfl ?_;simp only[go_sem];refine qK rfl rfl ⟨_,rfl⟩ (by decide) ?_;simp only[go_sem];refine⟨tmk 6 0 [] [t],c,by simp only[pM,hb,if_true,r1,qe],(q1.trans r2).push, ?_⟩;rw[zK];exact wi (ts:=[t]) (r3.mono (by omega) (nLr _)).one (nLr _) (by omega) rfl
 simp only[bFt,if_false,gCl,go_sem];refine qZ rfl (jA q0.at' K.l (by decide)) ?_;rw[qi (by decide)];simp only[go_sem];cases hc:isP toks a [40]
 case true=>
  have hlt:=qV hc;have q1:=q0.trans (PS.set q0.at' (o:=prI toks (a+1) e));simp only[if_true,lb,go_sem];refine qT (((H f (nLr _)).encl (a+1) _ (zq hf (by omega) hlt) hlt q1.at').mono ?_ ?_)
  case refine_2=>
   rintro v h1 ⟨c,r1,rfl⟩;exact⟨rfl,c,by simp only[pM,hb,hc,bFt,if_false,if_true,r1],rfl⟩
  rintro v h1 ⟨t,c,r1,r2,r3⟩;have hl:=r2.len;simp only[lLs,zK]at hl r3;obtain⟨a0,a1,a2,a3,a4,a5,a6,a7,rfl⟩:=r3.shape;simp only[go_sem];refine qK rfl rfl ⟨_,rfl⟩ (by decide) ?_;simp only[go_sem];exact⟨t,c,by simp only[pM,hb,hc,bFt,if_false,if_true,r1],q1.trans r2,r3.mono (by omega) (nLr _)⟩
 simp only[bFt,if_false,gCl,go_sem];refine qZ rfl (jA q0.at' K.l (by decide)) ?_;rw[qi (by decide)];simp only[go_sem];cases hd:isP toks a [109,97,116,99,104]
 case true=>
  have hlt:=qV hd;have q1:=q0.trans (PS.set q0.at' (o:=prI toks (a+1) e));simp only[if_true,lb,go_sem];refine qT (((H f (nLr _)).mat (a+1) _ (zq hf (by omega) hlt) hlt q1.at').mono ?_ ?_)
  case refine_2=>
   rintro v h1 ⟨c,r1,rfl⟩;exact⟨rfl,c,by simp only[pM,hb,hc,hd,bFt,if_false,if_true,r1],rfl⟩
  rintro v h1 ⟨t,c,r1,r2,r3⟩;have hl:=r2.len;simp only[lLs,zK]at hl r3;obtain⟨a0,a1,a2,a3,a4,a5,a6,a7,rfl⟩:=r3.shape;simp only[go_sem];refine qK rfl rfl ⟨_,rfl⟩ (by decide) ?_;simp only[go_sem];exact⟨t,c,by simp only[pM,hb,hc,hd,bFt,if_false,if_true,r1],q1.trans r2,r3.mono (by omega) (nLr _)⟩
 simp only[bFt,if_false,gCl,go_sem];refine qZ rfl (Qo q0.at') ?_;simp only[go_sem];have e0:pM toks (f+1) .pre a=match toks[a]? with
   | none=>.error a
   | some t=>if t.Kind=1 then .ok (tmk 1 0 t.Text [],a+1)else if t.Kind=2 then(if isP toks (a+1) [91]then pM toks f (.con t.Text []) (a+2)else .ok (tmk 8 0 t.Text [],a+1))else jG toks false a:=by
  simp only[pM,hb,hc,hd,bFt,if_false]<;>(cases toks[a]?<;>rfl)
 have q1:=q0.trans (PS.set q0.at' (o:=prI toks (a+1) e));by_cases h1:(nxt toks a e).Kind=1
 ·have hlt:=QK (by decide) h1;have en:nxt toks a e=toks[a]:=by simp[nxt,gEg hlt]
  simp only[decide_eq_true h1,gCl,go_sem];refine qT ((JY (k:=1) q0.at' K.l (by decide)).mono ?_ ?_)
  case refine_2=>rintro v h2 ⟨hk,_⟩;exact absurd h1 hk
  rintro v h2 ⟨hk,rfl,rfl⟩;simp only[go_sem];refine qK rfl rfl ⟨_,rfl⟩ (by decide) ?_;simp only[go_sem];rw[en]at h1|-;rw[gEg hlt]at e0;simp only[if_pos h1]at e0;exact⟨_,a+1,e0,q1,QL (by simp)⟩
 simp only[decide_eq_false h1,go_sem];by_cases h2:(nxt toks a e).Kind=2
 ·have hlt:=QK (by decide) h2;have en:nxt toks a e=toks[a]:=by simp[nxt,gEg hlt]
  simp only[decide_eq_true h2,gCl,go_sem];refine qT ((JY (k:=2) q0.at' K.l (by decide)).mono ?_ ?_)
  case refine_2=>rintro v h3 ⟨hk,_⟩;exact absurd h2 hk
  rintro v h3 ⟨hk,rfl,rfl⟩;rw[en]at h1 h2|-;rw[gEg hlt]at e0;simp only[if_neg h1,if_pos h2]at e0;generalize toks[a].Text=s at e0|-;simp only[go_sem];refine jK (el:=[.agg [.int .i64 0,.int .i64 0,.str [],.int .i64 0,.str [],.nils,.nils,.nils]]) (e:=.agg [.int .i64 0,.int .i64 0,.str [],.int .i64 0,.str [],.nils,.nils,.nils]) (e':=.agg [.int .i64 8,.int .i64 0,.str s,.int .i64 0,.str [],.nils,.nils,.nils]) rfl gCl rfl (QO (k:=8) rfl rfl ⟨fun _=>⟨_,rfl⟩,fun _=>⟨_,rfl⟩⟩ (by decide)) ?_;rw[Wa];simp only[lSz,go_sem];have G:Cg id h.length (h.length+1) (h.length+2) h:=⟨hid,nLr _,by omega,by omega,by omega,by omega⟩;have e1:((h++[qB.row 1 [.ptr id 0 0] true]).set id (prI toks (a+1) e)).length=h.length+1:=by simp
  have C:Cx toks e id h.length (h.length+1) (h.length+2) h (a+1) 8 s .nils .nils ((h++[qB.row 1 [.ptr id 0 0] true]).set id (prI toks (a+1) e)++[.row 8 [.agg [.int .i64 8,.int .i64 0,.str s,.int .i64 0,.str [],.nils,.nils,.nils]] true]):=by
   refine⟨?_,fun j hj hl=> ?_, ?_, ?_, ?_⟩
   ·rw[gAl (by omega),gSs (by simp;omega)]
   ·rw[gAl (by omega),gSn (by omega),gAl hl]
   ·rw[gAl (by omega),gSn (by omega),gCl]
   ·rw[<-e1];exact gCl
   ·simp
  rw[e1];generalize ((h++[qB.row 1 [.ptr id 0 0] true]).set id (prI toks (a+1) e)++[.row 8 [.agg [.int .i64 8,.int .i64 0,.str s,.int .i64 0,.str [],.nils,.nils,.nils]] true])=g0 at C|-;simp only[C.b1,go_sem];refine qT ((qYQ K H G C hlt (by unfold mJ at hf;simp only[Jb.rk]at hf;omega)).mono ?_ ?_)
  case refine_2=>
   rintro v h1 ⟨b,q1,rfl⟩;exact⟨rfl,b,by rw[e0];exact q1,rfl⟩
  rintro v g1 ⟨ks,b,w7,r1,C1,k1⟩;simp only[C1.b2,go_sem];refine qK rfl rfl ⟨_,rfl⟩ (by decide) ?_;simp only[go_sem];refine⟨_,b,by rw[e0];exact r1,C1.fin G, ?_⟩;exact(QM k1.ow C1.l).mono (by omega) (nLr _)
 simp only[decide_eq_false h2,gCl,go_sem];refine qT ((qQ4 (neg:=false) q0.at' K.l K.n K.x).mono ?_ ?_)
 case refine_2=>
  rintro v h3 ⟨r1,rfl⟩;refine⟨rfl,a, ?_,rfl⟩;rw[e0];cases ht:toks[a]? with
  | none=>rfl
  | some t=>
   have en:nxt toks a e=t:=by simp[nxt,ht]
   rw[en]at h1 h2;simp only[if_neg h1,if_neg h2];exact r1
 rintro v h3 ⟨n,r1,rfl,rfl⟩;simp only[go_sem];refine qK rfl rfl ⟨_,rfl⟩ (by decide) ?_;simp only[go_sem];refine⟨tmk 2 n [] [],a+1, ?_,q1,QL (by simp)⟩;rw[e0];cases ht:toks[a]? with
 | none=>unfold jG at r1;rw[ht]at r1;cases r1
 | some t=>
  have en:nxt toks a e=t:=by simp[nxt,ht]
  rw[en]at h1 h2;simp only[if_neg h1,if_neg h2];exact r1
theorem qXG(K:qv toks)(H:∀f',f'<=f->wR toks e id f'):CI toks e id 511 (f+1) .term:=by
 intro a h hf ha ho;have hid:=zL ho;refine xI Vr ?_;simp only[Vr,qI,go_sem];refine qZ rfl (jA ho K.l (by decide)) ?_;rw[qi (by decide)];simp only[go_sem];have HT:=(H f (nLr _)).term;cases hb:isP toks a [92]
 case true=>
  have hlt:=qV hb;have q1:=PS.set ho (o:=prI toks (a+1) e);simp only[if_true,go_sem];refine qT ((JY (k:=1) q1.at' K.l (by decide)).mono ?_ ?_)
  case refine_2=>
   rintro v h1 ⟨hk,rfl,rfl⟩;exact⟨rfl,a+1,by simp only[pM,hb,if_true,Wk hk,qo],rfl⟩
  rintro v h1 ⟨hk,rfl,rfl⟩;have hw:=Wl (by decide) hk;have hlw:=(ji hw).2.1;generalize (nxt toks (a+1) e).Text=s at hw|-;have q2:=q1.trans (PS.set q1.at' (o:=prI toks (a+1+1) e));simp only[go_sem];refine qK rfl rfl ⟨_,rfl⟩ (by decide) ?_;simp only[go_sem];refine qT ((jT q2.at' K.l (by decide)).mono ?_ ?_)
  case refine_2=>
   rintro v2 h2 ⟨e2,rfl,rfl⟩;rw[qi (by decide)]at e2;exact⟨rfl,a+1+1,by simp only[pM,hb,if_true,hw,qe,qQ,e2,bFt,if_false,qo],rfl⟩
  rintro v2 h2 ⟨e2,rfl⟩;rw[qi (by decide)]at e2;have hlt2:=qV e2;have q3:=q2.trans (PS.set q2.at' (o:=prI toks (a+1+1+1) e));simp only[go_sem];refine qT ((qQ6 K.l (zj toks false (a+1+1+1)) false (a+1+1+1) _ (nLr _) hlt2 q3.at').mono ?_ ?_)
  case refine_2=>
   rintro v h1 ⟨c,r1,rfl⟩;exact⟨rfl,c,by simp only[pM,hb,if_true,hw,qe,qQ,e2,r1,qo],rfl⟩
  rintro v h3 ⟨ty,c,S,r1,r2,r3,r4⟩;have r3:=Ow.of S r3 r4;clear r4;have hpt:=jP _ _ _ r1;have hl:=r2.len;simp only[lLs]at hl r3;obtain⟨v5,rfl,x5⟩:=r3.shapeT;simp only[go_sem];refine Qm (c':=.agg [.int .i64 4,.int .i64 0,.str s,.int .i64 ty.Kind,.str ty.Name,v5,.nils,.nils]) rfl rfl ?_;simp only[go_sem];have q4:=q3.trans r2;refine qT ((jT q4.at' K.l (by decide)).mono ?_ ?_)
  case refine_2=>
   rintro v2 h2 ⟨e3,rfl,rfl⟩;rw[qi (by decide)]at e3;exact⟨rfl,c,by simp only[pM,hb,if_true,hw,qe,qQ,e2,r1,e3,bFt,if_false,qo],rfl⟩
  rintro v2 h4 ⟨e3,rfl⟩;rw[qi (by decide)]at e3;have hlt3:=qV e3;have q5:=q4.trans (PS.set q4.at' (o:=prI toks (c+1) e));have x5':=x5.set (id:=id) (o:=prI toks (c+1) e) (.inl hid);simp only[go_sem];refine qT ((HT (c+1) _ (zq hf (by omega) hlt3) hlt3 q5.at').mono ?_ ?_)
  case refine_2=>
   rintro v h1 ⟨d,t1,rfl⟩;exact⟨rfl,d,by simp only[pM,hb,if_true,hw,qe,qQ,e2,r1,e3,t1,qo],rfl⟩
  rintro v h5 ⟨t,d,t1,t2,t3⟩;have hl5:=t2.len;simp only[lLs]at hl5 t3;have x5'':=x5'.ps (by simp) hid t2;obtain⟨a0,a1,a2,a3,a4,a5,a6,a7,rfl⟩:=t3.shape;simp only[go_sem];refine zG (v:=.agg [a0,a1,a2,a3,a4,a5,a6,a7]) rfl rfl ?_;simp only[go_sem];refine qK rfl rfl ⟨_,rfl⟩ (by decide) ?_;simp only[go_sem];refine⟨.mk 4 0 s ty [] [t],d,by simp only[pM,hb,if_true,hw,qe,qQ,e2,r1,e3,t1],(q5.trans t2).push, ?_⟩;have x7:=(JD (w:=8) (B:=h3.length) (k:=h5.length) (t3.push (o:=.row 8 [.agg [a0,a1,a2,a3,a4,a5,a6,a7]] true) (nLr _)) (by simp) (nLr _) hl5).ow;rw[zK];exact Zb (ns:=[]) (ks:=[t]) (m1:=h3.length) (m2:=h3.length) (x5''.push hl5) Ow.nils x7 hl (nLr _) (by omega)
 simp only[bFt,if_false,go_sem];refine qZ rfl (jA ho K.l (by decide)) ?_;rw[qi (by decide)];simp only[go_sem];cases hc:isP toks a [108,101,116]
 case true=>
  have hlt:=qV hc;have q1:=PS.set ho (o:=prI toks (a+1) e);simp only[if_true,go_sem];refine qT ((JY (k:=1) q1.at' K.l (by decide)).mono ?_ ?_)
  case refine_2=>
   rintro v h1 ⟨hk,rfl,rfl⟩;exact⟨rfl,a+1,by simp only[pM,hb,hc,bFt,if_false,if_true,Wk hk,qo],rfl⟩
  rintro v h1 ⟨hk,rfl,rfl⟩;have hw:=Wl (by decide) hk;generalize (nxt toks (a+1) e).Text=s at hw|-;have q2:=q1.trans (PS.set q1.at' (o:=prI toks (a+1+1) e));simp only[go_sem];refine qK rfl rfl ⟨_,rfl⟩ (by decide) ?_;simp only[go_sem];refine qT ((jT q2.at' K.l (by decide)).mono ?_ ?_)
  case refine_2=>
   rintro v2 h2 ⟨e2,rfl,rfl⟩;rw[qi (by decide)]at e2;exact⟨rfl,a+1+1,by simp only[pM,hb,hc,bFt,if_false,if_true,hw,qe,qQ,e2,qo],rfl⟩
  rintro v2 h2 ⟨e2,rfl⟩;rw[qi (by decide)]at e2;have hlt2:=qV e2;have q3:=q2.trans (PS.set q2.at' (o:=prI toks (a+1+1+1) e));simp only[go_sem];refine qT ((HT (a+1+1+1) _ (zq hf (by omega) hlt2) hlt2 q3.at').mono ?_ ?_)
  case refine_2=>
   rintro v h1 ⟨c,r1,rfl⟩;exact⟨rfl,c,by simp only[pM,hb,hc,bFt,if_false,if_true,hw,qe,qQ,e2,r1,qo],rfl⟩
  rintro v h3 ⟨t,c,r1,r2,r3⟩;obtain⟨p1,p2,_,_⟩:=jX K.x f .term _ trivial hlt2 r1;simp only[Jb.str]at p1;have hl:=r2.len;simp only[lLs]at hl r3;obtain⟨a0,a1,a2,a3,a4,a5,a6,a7,rfl⟩:=r3.shape;simp only[go_sem];refine qK rfl rfl ⟨_,rfl⟩ (by decide) ?_;simp only[go_sem];have q4:=q3.trans r2;refine qT ((jT q4.at' K.l (by decide)).mono ?_ ?_)
  case refine_2=>
   rintro v2 h2 ⟨e3,rfl,rfl⟩;rw[qi (by decide)]at e3;exact⟨rfl,c,by simp only[pM,hb,hc,bFt,if_false,if_true,hw,qe,qQ,e2,r1,e3,qo],rfl⟩
  rintro v2 h4 ⟨e3,rfl⟩;rw[qi (by decide)]at e3;have hlt3:=qV e3;have q5:=q4.trans (PS.set q4.at' (o:=prI toks (c+1) e));have r3':=r3.set (id:=id) (o:=prI toks (c+1) e) (.inl hid);simp only[go_sem];refine qT ((HT (c+1) _ (zq hf (by omega) hlt3) hlt3 q5.at').mono ?_ ?_)
  case refine_2=>
   rintro v h1 ⟨d,t1,rfl⟩;exact⟨rfl,d,by simp only[pM,hb,hc,bFt,if_false,if_true,hw,qe,qQ,e2,r1,e3,t1,qo],rfl⟩
  rintro v h5 ⟨u,d,t1,t2,t3⟩;have hl5:=t2.len;simp only[lLs]at hl5 t3;have r3'':=r3'.ps (by simp) hid t2;obtain⟨b0,b1,b2,b3,b4,b5,b6,b7,rfl⟩:=t3.shape;simp only[go_sem];rw[show zA _ 8 _ _=some [.agg [a0,a1,a2,a3,a4,a5,a6,a7],.agg [b0,b1,b2,b3,b4,b5,b6,b7]]from rfl];simp only[go_sem];refine qK rfl rfl ⟨_,rfl⟩ (by decide) ?_;simp only[go_sem];refine⟨tmk 7 0 s [t,u],d,by simp only[pM,hb,hc,bFt,if_false,if_true,hw,qe,qQ,e2,r1,e3,t1],(q5.trans t2).push, ?_⟩;rw[zK];exact wi (ts:=[t,u]) (r3''.one.snoc t3 hl hl5) (nLr _) (by omega) rfl
 simp only[bFt,if_false,go_sem];refine qZ rfl (jA ho K.l (by decide)) ?_;rw[qi (by decide)];simp only[go_sem];cases hd:isP toks a [105,102]
 case true=>
  have hlt:=qV hd;have q1:=PS.set ho (o:=prI toks (a+1) e);simp only[if_true,go_sem];refine qT ((HT (a+1) _ (zq hf (by omega) hlt) hlt q1.at').mono ?_ ?_)
  case refine_2=>
   rintro v h1 ⟨c,r1,rfl⟩;exact⟨rfl,c,by simp only[pM,hb,hc,hd,bFt,if_false,if_true,r1,qo],rfl⟩
  rintro v h3 ⟨t,c,r1,r2,r3⟩;obtain⟨p1,p2,_,_⟩:=jX K.x f .term _ trivial hlt r1;simp only[Jb.str]at p1;have hl:=r2.len;simp only[lLs]at hl r3;obtain⟨a0,a1,a2,a3,a4,a5,a6,a7,rfl⟩:=r3.shape;simp only[go_sem];refine qK rfl rfl ⟨_,rfl⟩ (by decide) ?_;simp only[go_sem];have q4:=q1.trans r2;refine qT ((jT q4.at' K.l (by decide)).mono ?_ ?_)
  case refine_2=>
   rintro v2 h2 ⟨e3,rfl,rfl⟩;rw[qi (by decide)]at e3;exact⟨rfl,c,by simp only[pM,hb,hc,hd,bFt,if_false,if_true,r1,qe,qQ,e3,qo],rfl⟩
  rintro v2 h4 ⟨e3,rfl⟩;rw[qi (by decide)]at e3;have hlt3:=qV e3;have q5:=q4.trans (PS.set q4.at' (o:=prI toks (c+1) e));have r3':=r3.set (id:=id) (o:=prI toks (c+1) e) (.inl hid);simp only[go_sem];refine qT ((HT (c+1) _ (zq hf (by omega) hlt3) hlt3 q5.at').mono ?_ ?_)
  case refine_2=>
   rintro v h1 ⟨d,t1,rfl⟩;exact⟨rfl,d,by simp only[pM,hb,hc,hd,bFt,if_false,if_true,r1,qe,qQ,e3,t1,qo],rfl⟩
  rintro v h5 ⟨u,d,t1,t2,t3⟩;obtain⟨p3,p4,_,_⟩:=jX K.x f .term _ trivial hlt3 t1;simp only[Jb.str]at p3;have hl5:=t2.len;simp only[lLs]at hl5 t3;have r3'':=r3'.ps (by simp) hid t2;obtain⟨b0,b1,b2,b3,b4,b5,b6,b7,rfl⟩:=t3.shape;simp only[go_sem];refine qK rfl rfl ⟨_,rfl⟩ (by decide) ?_;simp only[go_sem];have q6:=q5.trans t2;refine qT ((jT q6.at' K.l (by decide)).mono ?_ ?_)
  case refine_2=>
   rintro v2 h2 ⟨e4,rfl,rfl⟩;rw[qi (by decide)]at e4;exact⟨rfl,d,by simp only[pM,hb,hc,hd,bFt,if_false,if_true,r1,qe,qQ,e3,t1,e4,qo],rfl⟩
  rintro v2 h6 ⟨e4,rfl⟩;rw[qi (by decide)]at e4;have hlt4:=qV e4;have q7:=q6.trans (PS.set q6.at' (o:=prI toks (d+1) e));have r4:=r3''.set (id:=id) (o:=prI toks (d+1) e) (.inl hid);have t4:=t3.set (id:=id) (o:=prI toks (d+1) e) (.inl (by omega));simp only[go_sem];refine qT ((HT (d+1) _ (zq hf (by omega) hlt4) hlt4 q7.at').mono ?_ ?_)
  case refine_2=>
   rintro v h1 ⟨d2,u1,rfl⟩;exact⟨rfl,d2,by simp only[pM,hb,hc,hd,bFt,if_false,if_true,r1,qe,qQ,e3,t1,e4,u1,qo],rfl⟩
  rintro v h7 ⟨w,d2,u1,u2,u3⟩;have hl7:=u2.len;simp only[lLs]at hl7 u3;have r5:=r4.ps (by simp;omega) hid u2;have t5:=t4.ps (by simp) (by omega) u2;obtain⟨c0,c1,c2,c3,c4,c5,c6,c7,rfl⟩:=u3.shape;simp only[go_sem];rw[show zA _ 8 _ _=some [.agg [a0,a1,a2,a3,a4,a5,a6,a7],.agg [b0,b1,b2,b3,b4,b5,b6,b7],.agg [c0,c1,c2,c3,c4,c5,c6,c7]]from rfl];simp only[go_sem];refine qK rfl rfl ⟨_,rfl⟩ (by decide) ?_;simp only[go_sem];refine⟨tmk 11 0 [] [t,u,w],d2,by simp only[pM,hb,hc,hd,bFt,if_false,if_true,r1,qe,qQ,e3,t1,e4,u1],(q7.trans u2).push, ?_⟩;rw[zK];exact wi (ts:=[t,u,w]) ((r5.one.snoc t5 hl hl5).snoc u3 (by omega) hl7) (nLr _) (by omega) rfl
 simp only[bFt,if_false,go_sem];refine qT (((H f (nLr _)).cmp a h (jo hf (by decide)) ha ho).mono ?_ ?_)
 case refine_2=>
  rintro v h1 ⟨c,r1,rfl⟩;exact⟨rfl,c,by simp only[pM,hb,hc,hd,bFt,if_false,r1],rfl⟩
 rintro v h1 ⟨t,c,r1,r2,r3⟩;obtain⟨a0,a1,a2,a3,a4,a5,a6,a7,rfl⟩:=r3.shape;simp only[go_sem];refine qK rfl rfl ⟨_,rfl⟩ (by decide) ?_;simp only[go_sem];exact⟨t,c,by simp only[pM,hb,hc,hd,bFt,if_false,r1],r2,r3⟩
theorem allI(K:qv toks):∀f,wR toks e id f:=by
 intro f
 induction f using Nat.strongRecOn with
 | _ f ih=>
 cases f with
 | zero=>
  constructor<;>(intro a h hf;exact(Jo hf).elim)
 | succ f=>
  have H:∀f',f'<=f->wR toks e id f':=fun f' hf=>ih f' (by omega);exact⟨qXG K H,qXA K H,qXF K H,qXE K H,qW8 K H,qXD K H,qXB K H,qXC K H,qW9 K H⟩
end
end Go.Ab
namespace Go.Ab
open Go
set_option maxRecDepth 10000
set_option maxHeartbeats 2000000
def Xf:List Str:=[[43],[45],[42],[47],[60],[61]]
def gd{α:Type}(bad:Bool)(a:Nat)(r:Except Nat (α×Nat)):Except Nat (α×Nat):=if bad then .error a else r
def SPr{α:Type}(r:Except Nat (α×Nat))(x:α)(b:Nat)(bad:Bool):Prop:=match r with
 |.ok (x',b')=>x=x'/\b=b'/\bad=false
 |.error b'=>b=b'/\bad=true
section
variable {α β:Type} {r:Except Nat (α×Nat)} {x:α} {y:β} {a b c:Nat} {bad bad0 bad':Bool} {k:α->Nat->Except Nat (β×Nat)}
theorem SPr.bind(h:SPr (gd bad0 a r) x b bad)(q:SPr (gd bad b (k x b)) y c bad'):SPr (gd bad0 a (exB r k)) y c bad':=by
 cases bad0 with
 | true=>obtain⟨rfl,rfl⟩:=h;exact q
 | false=>
  match r,h with
  |.ok (x',b'),h=>obtain⟨rfl,rfl,rfl⟩:=h;exact q
  |.error b',h=>obtain⟨rfl,rfl⟩:=h;exact q
theorem SPr.ret:SPr (gd bad a (.ok (x,a))) x a bad:=by cases bad<;>simp[SPr,gd]
theorem qp:gd false a r=r:=rfl
theorem SPr.bd:SPr (gd true a r) x a true:=⟨rfl,rfl⟩
end
section
variable {h:List qB} {id a:Nat} {toks:List qJ} {bad:Bool}
theorem KW{s:Str}(hw:∀x∈toks,Jc x)(hs:s.all qz=false\/za s=true):isS toks a bad s=(!bad&&isP toks a s):=by
 cases bad
 ·rw[Jk hw hs];rfl
 ·rfl
theorem t737{s:Str}(K:qv toks)(hs:s.all qz=false\/za s=true)(ho:h[id]?=some (prS toks a bad)):SCall Gm 737 [.ptr id 0 0,.str s] h fun v h'=>(bad=false/\isP toks a s=true/\v=.bool true/\h'=h.set id (prS toks (a+1) false))\/((!bad&&isP toks a s)=false/\v=.bool false/\h'=h):=by
 refine(QJ ho K.l).mono ?_;rintro v h' ⟨rfl,rfl⟩;rw[KW K.w hs];cases bad
 ·cases e:isP toks a s
  ·right;exact⟨rfl,rfl,by simp⟩
  ·left;exact⟨rfl,rfl,rfl,by simp⟩
 ·right;exact⟨rfl,rfl,by simp⟩
theorem t872{s:Str}(K:qv toks)(hs:s.all qz=false\/za s=true)(ha:a<=toks.length)(ho:h[id]?=some (prS toks a bad)):SCall Gm 872 [.ptr id 0 0,.str s] h fun _ h'=>∃b bad',SPr (gd bad a (qQ toks s a)) () b bad'/\a<=b/\b<=toks.length/\h'=h.set id (prS toks b bad'):=by
 refine(n872 ho K.l).mono ?_;rintro v h' rfl;rw[KW K.w hs];cases bad
 ·cases e:isP toks a s
  ·exact⟨a,true,by simp[gd,qQ,e,SPr],nLr _,ha,by simp⟩
  ·exact⟨a+1,false,by simp[gd,qQ,e,SPr],by omega,qV e,by simp⟩
 ·exact⟨a,true,SPr.bd,nLr _,ha,by simp⟩
theorem t871{k:Int}(K:qv toks)(ha:a<=toks.length)(ho:h[id]?=some (prS toks a bad)):SCall Gm 871 [.ptr id 0 0,.int .i64 k] h fun v h'=>∃x b bad',SPr (gd bad a (zN toks k a)) x b bad'/\a<=b/\b<=toks.length/\v=.str x/\h'=h.set id (prS toks b bad')/\(bad'=true->x=[]/\b=a):=by
 refine(Kv ho K.l).mono ?_;rintro v h' q;cases hk:kdS toks a bad k
 ·rw[hk]at q;simp only[bFt,if_false]at q;obtain⟨rfl,rfl⟩:=q;refine⟨[],a,true, ?_,nLr _,ha,rfl,rfl,fun _=>⟨rfl,rfl⟩⟩;cases bad
  ·rw[qp];unfold zN;unfold kdS at hk;cases ht:toks[a]? with
   | none=>exact⟨rfl,rfl⟩
   | some t=>rw[ht]at hk;simp at hk;simp[hk,SPr]
  ·exact SPr.bd
 ·rw[hk]at q;simp only[if_true]at q;obtain⟨rfl,rfl⟩:=q;obtain⟨hlt,rfl,hk'⟩:=QC hk;refine⟨_,a+1,false, ?_,by omega,hlt,rfl,rfl,fun q=>by cases q⟩;rw[qp];unfold zN;rw[gEg hlt];simp[hk',SPr]
theorem qRQ{s:Str}{j:Nat}(h1:1<=j)(h6:j<=6):opI s=j↔s=opT j:=by
 constructor
 ·intro h;have:j=1\/j=2\/j=3\/j=4\/j=5\/j=6:=by omega
  unfold opI at h
  repeat' split at h
  all_goals first | omega | (subst_vars;rcases this with rfl | rfl | rfl | rfl | rfl | rfl<;>first | rfl | (exfalso;omega))
 ·rintro rfl;exact K3 h1 h6 rfl
end
theorem qOY:Pure Gm 1470 [] (.lst 1 (Xf.map qW) false):=by
 refine pJ VC ?_;simp only[VC,qI,go_sem];rw[show zA _ _ _ _=some (Xf.map qW)from rfl];simp only[go_sem];exact KG (Cv.row rfl rfl rfl (by decide))
theorem qUY{s:Str}:Pure Gm 1424 [.str s] (.int .i64 (opI s)):=by
 refine pJ Y3 ?_;simp only[Y3,qI,go_sem];refine Sem.loop (fun i:Nat=>i<=6/\∀j,1<=j->j<i+1->opT j≠s) (fun i=>(⟨[(0,.str s),(3,.int .i64 (i:Nat))],[],[]⟩:VSt)) (fun i=>6-i) 0 (by kernel_rfl) ⟨by omega,fun j h1 h2=>by omega⟩ (Can.sub (by simp[go_sem]) (by simp[go_sem])) ?_;rintro i ⟨i2,i3⟩;simp only[go_sem];refine qG qOY ?_;have l6:Xf.length=6:=rfl;simp only[lMp,l6,go_sem];by_cases hlt:i<6
 ·have e:decide (((i:Nat):Int)<((6:Nat):Int))=true:=decide_eq_true (by omega);simp only[e,go_sem];refine qG qOY ?_;have ei:Xf[i]?=some (opT (i+1)):=by
   have:i=0\/i=1\/i=2\/i=3\/i=4\/i=5:=by omega
   rcases this with rfl | rfl | rfl | rfl | rfl | rfl<;>rfl
  simp only[gMp,ei,oMs,qW,go_sem];by_cases hs:opT (i+1)=s
  ·simp only[decide_eq_true hs,zC (show i<4611686018427387904 by omega),go_sem];exact qE rfl (by rw[K3 (by omega) (by omega) hs])
  ·simp only[decide_eq_false hs,go_sem,zC (show i<4611686018427387904 by omega)];refine qf (i+1) ⟨by omega,fun j h1 h2=> ?_⟩ (by omega) (Can.sub (by simp[go_sem]) (by simp[go_sem]));by_cases hj:j=i+1
   ·rw[hj];exact hs
   ·exact i3 j h1 (by omega)
 ·have e:decide (((i:Nat):Int)<((6:Nat):Int))=false:=decide_eq_false (by omega);simp only[e,go_sem];obtain rfl:i=6:=by omega
  exact qE rfl (by rw[qRR i3])
end Go.Ab
namespace Go.Ab
open Go
set_option maxRecDepth 10000
set_option maxHeartbeats 2000000
def opS(toks:List qJ)(bad:Bool)(lo:Int)(s1 s2:Str)(a:Nat):Int:=if bad then 0 else opN toks lo s1 s2 a
section
variable {h:List qB} {id a:Nat} {toks:List qJ} {bad:Bool}
theorem qQF{s:Str}{x:qJ}(hw:∀x∈toks,Jc x)(hs:s.all qz=false\/za s=true)(hx:toks[a]?=some x):isP toks a s=decide (x.Text=s):=by
 rw[<-Jk hw hs];simp[isS,hx]
theorem qaS{j:Nat}{s1 s2:Str}(K:qv toks)(h1:1<=j)(h5:j<=5)(e1:opT j=s1)(e2:opT (j+1)=s2)(q1:s1.all qz=false\/za s1=true)(q2:s2.all qz=false\/za s2=true)(ho:h[id]?=some (prS toks a bad)):
  SCall Gm 1187 [.ptr id 0 0,.int .i64 (j:Nat),.int .i64 ((j+1:Nat):Int)] h fun v h'=>v=.int .i64 (opS toks bad j s1 s2 a)/\h'=if opS toks bad j s1 s2 a=0 then h else h.set id (prS toks (a+1) false):=by
 refine sI Yc ?_;have ho':=ho;unfold prS at ho';simp only[Yc,qI,go_sem,ho',oMs,lMp];cases bad
 case true=>
  simp only[go_sem];exact⟨rfl,by simp[opS]⟩
 simp only[go_sem,ho'];by_cases hlt:a<toks.length
 ·have e3:decide ((toks.length:Int)<=a)=false:=decide_eq_false (by omega);simp only[ge_iff_le,e3,go_sem,ho',gMp,gEg hlt,oMs];refine qG qUY ?_;simp only[go_sem];refine qG J1 ?_;simp only[go_sem];have eo:opS toks false j s1 s2 a=if opI toks[a].Text=j\/opI toks[a].Text=((j+1:Nat):Int)then opI toks[a].Text else 0:=by
   have hx:toks[a]?=some toks[a]:=gEg hlt;simp only[opS,bFt,if_false,opN,qQF K.w q1 hx,qQF K.w q2 hx,dTe];have i1:=qRQ (s:=toks[a].Text) h1 (by omega);have i2:=qRQ (s:=toks[a].Text) (j:=j+1) (by omega) (by omega);rw[e1]at i1;rw[e2]at i2;by_cases g1:toks[a].Text=s1
   ·rw[if_pos g1,if_pos (.inl (i1.2 g1)),i1.2 g1]
   ·rw[if_neg g1];by_cases g2:toks[a].Text=s2
    ·rw[if_pos g2,if_pos (.inr (i2.2 g2)),i2.2 g2];omega
    ·rw[if_neg g2,if_neg];rintro(q | q)
     ·exact g1 (i1.1 q)
     ·exact g2 (i2.1 q)
  by_cases hin:opI toks[a].Text=j\/opI toks[a].Text=((j+1:Nat):Int)
  ·have e4:(decide (((j:Nat):Int)<=opI toks[a].Text)&&decide (opI toks[a].Text<=((j+1:Nat):Int)))=true:=by
    rw[bAt];exact⟨decide_eq_true (by omega),decide_eq_true (by omega)⟩
   rw[if_pos hin]at eo;simp only[e4,Bool.not_true,go_sem,ho',oMs,zC (show a<4611686018427387904 by have:=K.l;omega)];refine jK (e':=.agg [.lst 3 (toks.map qJ.enc) false,.int .i64 ((a+1:Nat):Int),.bool false]) rfl ho' rfl rfl ?_;simp only[go_sem];rw[eo];exact⟨rfl,by rw[if_neg (by omega)];rfl⟩
  ·have e4:(decide (((j:Nat):Int)<=opI toks[a].Text)&&decide (opI toks[a].Text<=((j+1:Nat):Int)))=false:=by
    rw[<-Bool.not_eq_true,bAt];rintro⟨g1,g2⟩;have g1:=odT g1;have g2:=odT g2;omega
   rw[if_neg hin]at eo;simp only[e4,Bool.not_false,go_sem];rw[eo];exact⟨rfl,by simp⟩
 ·have e3:decide ((toks.length:Int)<=a)=true:=decide_eq_true (by omega);simp only[ge_iff_le,e3,go_sem];have eo:opS toks false j s1 s2 a=0:=by
   simp[opS,opN,isP,gEn (show toks.length<=a by omega)]
  rw[eo];exact⟨rfl,by simp⟩
theorem kP{j:Nat}{lo hi:Int}{s1 s2:Str}(K:qv toks)(e0:lo=j)(e3:hi=lo+1)(h1:1<=j)(h5:j<=5)(e1:opT j=s1)(e2:opT (j+1)=s2)(q1:s1.all qz=false\/za s1=true)(q2:s2.all qz=false\/za s2=true)(ho:h[id]?=some (prS toks a bad)):
  SCall Gm 1187 [.ptr id 0 0,.int .i64 lo,.int .i64 hi] h fun v h'=>v=.int .i64 (opS toks bad lo s1 s2 a)/\h'=if opS toks bad lo s1 s2 a=0 then h else h.set id (prS toks (a+1) false):=by
 subst e0 e3;exact qaS K h1 h5 e1 e2 q1 q2 ho
theorem K4{lo:Int}{s1 s2:Str}(h:¬opS toks bad lo s1 s2 a=0):bad=false/\a<toks.length/\opS toks bad lo s1 s2 a=opN toks lo s1 s2 a:=by
 unfold opS at h|-;cases bad
 ·exact⟨rfl,Qr h,rfl⟩
 ·simp at h
theorem qaT(K:qv toks)(ho:h[id]?=some (prS toks a bad)):SCall Gm 1538 [.ptr id 0 0] h fun v h'=>v=.bool (!bad&&bgP toks a)/\h'=h:=by
 refine sI VK ?_;simp only[VK,qI,go_sem];have eb:(!bad&&bgP toks a)=((kdS toks a bad 1 || (kdS toks a bad 2 || kdS toks a bad 4)) || (isS toks a bad [33] || (isS toks a bad [40] || isS toks a bad [109,97,116,99,104]))):=by
  cases bad
  ·rw[Jk K.w (.inl rfl),Jk K.w (.inl rfl),Jk K.w (.inr rfl)];unfold bgP kdS;cases toks[a]?<;>rfl
  ·rfl
 rw[eb];refine qZ rfl (Qp ho) ?_;simp only[go_sem];cases k1:kdS toks a bad 1
 case true=>simp only[go_sem];refine⟨by simp,trivial⟩
 simp only[go_sem];refine qZ rfl (Qp ho) ?_;simp only[go_sem];cases k2:kdS toks a bad 2
 case true=>simp only[go_sem];refine⟨by simp,trivial⟩
 simp only[go_sem];refine qZ rfl (Qp ho) ?_;simp only[go_sem];cases k3:kdS toks a bad 4
 case true=>simp only[go_sem];refine⟨by simp,trivial⟩
 simp only[go_sem];refine qZ rfl (WK ho) ?_;simp only[go_sem];cases k4:isS toks a bad [40]
 case true=>simp only[go_sem];refine⟨by simp,trivial⟩
 simp only[go_sem];refine qZ rfl (WK ho) ?_;simp only[go_sem];cases k5:isS toks a bad [33]
 case true=>simp only[go_sem];refine⟨by simp,trivial⟩
 simp only[go_sem];refine qZ rfl (WK ho) ?_;simp only[go_sem];cases isS toks a bad [109,97,116,99,104]<;>exact⟨by rfl,trivial⟩
theorem qaU{neg:Bool}(K:qv toks)(ha:a<=toks.length)(ho:h[id]?=some (prS toks a bad)):SCall Gm 1551 [.ptr id 0 0,.int .i64 (if neg then 2147483648 else 2147483647)] h fun v h'=>∃n b bad',(0<=n/\n<=2147483648)/\SPr (gd bad a (jG toks neg a)) (tmk 2 (if neg then-n else n) [] []) b bad'/\a<=b/\b<=toks.length/\v=.int .i64 n/\h'=h.set id (prS toks b bad'):=by
 refine sI VO ?_;simp only[VO,qI,go_sem];have hid:=zL ho;refine qN ((t871 K ha ho).mono ?_);rintro v h1 ⟨s,b,bad1,q1,q2,q3,rfl,rfl,q4⟩;simp only[go_sem];have hs:(s.all zI=true/\qX s<=2147483648/\s.length<=10)/\(bad1=false->bad=false/\b=a+1/\zk s=true/\s≠[]/\∃t,toks[a]?=some t/\t.Kind=4/\t.Text=s)/\(bad1=true->gd bad a (jG toks neg a)=.error a/\b=a/\s=[]):=by
  cases bad1 with
  | true=>
   obtain⟨rfl,rfl⟩:=q4 rfl;refine⟨⟨rfl,by simp[qX,wX],by simp⟩,fun q=>(by cases q),fun _=>⟨?_,rfl,rfl⟩⟩;cases bad
   ·rw[qp]at q1|-;unfold zN at q1;unfold jG;cases ht:toks[b]? with
    | none=>rfl
    | some t=>
     rw[ht]at q1;simp only at q1|-;by_cases hk:t.Kind=4
     ·rw[if_pos hk]at q1;exact absurd q1.2.2 (by decide)
     ·rw[if_neg fun q=>hk q.1]
   ·rfl
  | false=>
   cases bad
   ·rw[qp]at q1;unfold zN at q1;cases ht:toks[a]? with
    | none=>rw[ht]at q1;exact absurd q1.2 (by decide)
    | some t=>
     rw[ht]at q1;simp only at q1;by_cases hk:t.Kind=4
     ·rw[if_pos hk]at q1;obtain⟨rfl,rfl,_⟩:=q1;obtain⟨n1,n2⟩:=K.n t (lMo ht) hk;obtain⟨p1,p2,_⟩:=Xc n1 n2;have hl10:t.Text.length<=10:=by
       have:=n1;simp only[zk,bAt,dTe]at this;exact this.1
      exact⟨⟨p1,p2,hl10⟩,fun _=>⟨rfl,rfl,n1,n2,t,rfl,hk,rfl⟩,fun q=>by cases q⟩
     ·rw[if_neg hk]at q1;exact absurd q1.2 (by decide)
   ·exact absurd q1.2 (by decide)
 obtain⟨⟨p1,p2,p3⟩,hf,ht⟩:=hs;clear q1 q4;refine Sem.loop (fun i:Nat=>i<=s.length) (fun i=>(⟨[(0,.ptr id 0 0),(1,.int .i64 (if neg then 2147483648 else 2147483647)),(5,.str s),(6,.int .i64 (qX (s.take i):Nat)),(7,.int .i64 (i:Nat))],[],h.set id (prS toks b bad1)⟩:VSt)) (fun i=>s.length-i) 0 (by kernel_rfl) (nZl _) (Can.sub (by simp[go_sem,qX,wX]) (by simp[go_sem])) ?_;intro i hi;simp only[go_sem];by_cases hlt:i<s.length
 ·have e1:decide ((i:Int)<(s.length:Nat))=true:=decide_eq_true (by omega);have et:s.take (i+1)=s.take i++[s[i]]:=by rw[List.take_add_one,gEg hlt];rfl
  simp only[e1,gEg hlt,oMs,go_sem];have hI:(s.take i).all zI=true:=by
   rw[lAt]at p1|-;exact fun x hx=>p1 x (List.mem_of_mem_take hx)
  have hd:zI s[i]=true:=by rw[lAt]at p1;exact p1 _ (gMm hlt)
  have hb:=JT.1 hd;have hv:=qRJ hI;have hp:10^(s.take i).length<=10^10:=Nat.pow_le_pow_right (by decide) (by simp;omega);have h10':(10:Nat)^10=10000000000:=by decide
  have w1:IntKind.u8.wrap (((s[i].toNat:Nat):Int)-48)=((s[i].toNat-48:Nat):Int):=by rw[IntWalk.u8_in _ ⟨by omega,by omega⟩];omega
  simp only[w1,zF (n:=((s[i].toNat-48:Nat):Int)) (by omega) (by omega),zF (n:=10*((qX (s.take i):Nat):Int)) (by omega) (by omega),zF (n:=10*((qX (s.take i):Nat):Int)+((s[i].toNat-48:Nat):Int)) (by omega) (by omega),zC (show i<4611686018427387904 by omega)];have en:qX (s.take (i+1))=10*qX (s.take i)+(s[i].toNat-48):=by rw[et];unfold qX;rw[Xb,JF,wX]
  have ee:10*((qX (s.take i):Nat):Int)+((s[i].toNat-48:Nat):Int)=((qX (s.take (i+1)):Nat):Int):=by rw[en];omega
  rw[ee];exact qf (i+1) (show i+1<=s.length by omega) (by omega) (Can.sub (by simp[go_sem]) (by simp[go_sem]))
 ·have e1:decide ((i:Int)<(s.length:Nat))=false:=decide_eq_false (by omega);obtain rfl:i=s.length:=by omega
  simp only[e1,lTl,go_sem];have fin:∀(x:bad1=false->neg=true\/s≠wh),SPr (gd bad a (jG toks neg a)) (tmk 2 (if neg then-((qX s:Nat):Int)else((qX s:Nat):Int)) [] []) b bad1:=by
   intro x;cases bad1 with
   | true=>rw[(ht rfl).1];exact⟨(ht rfl).2.1,rfl⟩
   | false=>
    obtain⟨rfl,rfl,_,_,t,r1,r2,rfl⟩:=hf rfl;rw[qp];unfold jG;rw[r1];simp only;rw[if_pos ⟨r2,x rfl⟩];cases neg<;>exact⟨rfl,rfl,rfl⟩
  cases neg with
  | true=>
   simp only[if_true,decide_eq_false (show ¬((2147483648:Int)<((qX s:Nat):Int)) by omega),gt_iff_lt,go_sem];exact⟨((qX s:Nat):Int),b,bad1,⟨by omega,by omega⟩,fin fun _=>.inl rfl,q2,q3,rfl,rfl⟩
  | false=>
   by_cases hm:qX s=2147483648
   ·have hb1:bad1=false:=by
     cases bad1 with
     | false=>rfl
     | true=>obtain⟨_,_,rfl⟩:=ht rfl;simp[qX,wX]at hm
    subst hb1;obtain⟨rfl,rfl,n1,n2,t,r1,r2,rfl⟩:=hf rfl;simp only[bFt,if_false,gt_iff_lt,decide_eq_true (show ((2147483647:Int)<((qX t.Text:Nat):Int)) by omega),go_sem];have o1:(h.set id (prS toks (a+1) false))[id]?=some (.row 3 [.agg [.lst 3 (toks.map qJ.enc) false,.int .i64 ((a+1:Nat):Int),.bool false]] true):=by rw[gSs hid];rfl
    have e5:((a+1:Nat):Int)-1=((a:Nat):Int):=by omega
    simp only[o1,oMs,go_sem,e5,zF (n:=((a:Nat):Int)) (by omega) (by have:=K.l;omega)];refine jK (e':=.agg [.lst 3 (toks.map qJ.enc) false,.int .i64 (a:Nat),.bool false]) rfl o1 rfl rfl ?_;simp only[List.set_set,lSz,go_sem];have o2:(h.set id (.row 3 [.agg [.lst 3 (toks.map qJ.enc) false,.int .i64 (a:Nat),.bool false]] true))[id]?=some (.row 3 [.agg [.lst 3 (toks.map qJ.enc) false,.int .i64 (a:Nat),.bool false]] true):=by rw[gSs hid]
    refine jK (e':=.agg [.lst 3 (toks.map qJ.enc) false,.int .i64 (a:Nat),.bool true]) rfl o2 rfl rfl ?_;simp only[List.set_set,lSz,go_sem];refine⟨_,a,true,⟨by omega,by omega⟩, ?_,nLr _,ha,rfl,rfl⟩;rw[qp];unfold jG;rw[r1];simp only;rw[if_neg (fun g=>g.2.elim (fun x=>by cases x) fun x=>x ((Kx n1 n2).1 hm))];exact⟨rfl,rfl⟩
   ·simp only[bFt,if_false,decide_eq_false (show ¬((2147483647:Int)<((qX s:Nat):Int)) by omega),gt_iff_lt,go_sem];exact⟨((qX s:Nat):Int),b,bad1,⟨by omega,by omega⟩,fin fun q=>.inr (by obtain⟨_,_,n1,n2,_⟩:=hf q;exact fun q=>hm ((Kx n1 n2).2 q)),q2,q3,rfl,rfl⟩
end
end Go.Ab
namespace Go.Ab
open Go
set_option maxRecDepth 10000
set_option maxHeartbeats 2000000
def RS(toks:List qJ)(id:Nat)(h:List qB)(r:Except Nat (qD×Nat))(a:Nat)(v:AV)(h':List qB):Prop:=
 ∃t b bad',SPr r t b bad'/\a<=b/\b<=toks.length/\PS h id (prS toks b bad') h'/\Ow h.length h'.length h' v t.enc
def CS(toks:List qJ)(id g f:Nat)(j:Jb):Prop:=∀(a:Nat)(bad:Bool)(h:List qB),mJ toks j a<=f->a<=toks.length->h[id]?=some (prS toks a bad)->
 SCall Gm g [.ptr id 0 0] h (fun v h'=>RS toks id h (gd bad a (pM toks f j a)) a v h')
structure wk(toks:List qJ)(id f:Nat):Prop where
 term:CS toks id 509 f .term
 cmp:CS toks id 873 f .cmp
 sum:CS toks id 1186 f .sum
 prod:CS toks id 1423 f .prod
 app:CS toks id 1510 f .app
 pre:CS toks id 1537 f .pre
 bran:CS toks id 1559 f .bran
 mat:∀(a:Nat)(h:List qB),mJ toks .mat (a+1)<=f->isP toks a [109,97,116,99,104]=true->h[id]?=some (prS toks a false)->SCall Gm 1552 [.ptr id 0 0] h (fun v h'=>RS toks id h (pM toks f .mat (a+1)) a v h')
 con:∀(a:Nat)(h:List qB)(s:Str),20*(toks.length-(a+1))+7<=f->zN toks 2 a=.ok (s,a+1)->h[id]?=some (prS toks a false)->SCall Gm 1550 [.ptr id 0 0] h (fun v h'=>RS toks id h (if isP toks (a+1) [91]then pM toks f (.con s []) (a+2)else .ok (tmk 8 0 s [],a+1)) a v h')
section
variable {h:List qB} {id a b f:Nat} {toks:List qJ} {bad:Bool}
theorem qZB:∀(f:Nat)(flag:Bool){a b:Nat},a<=toks.length->pT toks f flag a=.error b->a<=b/\b<=toks.length:=by
 intro f
 induction f with
 | zero=>intro flag a b ha hq;simp only[pT]at hq;cases hq;exact⟨nLr _,ha⟩
 | succ f ih=>
  intro flag a b ha hq;cases flag with
  | true=>
   simp only[pT]at hq;split at hq
   ·rename_i h1;have:=qV h1;split at hq
    ·cases hq
    ·rename_i h2;cases hq;have:=ih true this h2;omega
   ·split at hq
    ·rename_i h1;have:=qV h1;split at hq
     ·rename_i h2;have:=jP _ _ _ h2;split at hq
      ·cases hq
      ·cases hq;omega
     ·rename_i h2;cases hq;have:=ih false this h2;omega
    ·split at hq
     ·split at hq
      ·cases hq
      ·cases hq;omega
     ·cases hq;omega
  | false=>
   simp only[pT]at hq;split at hq
   ·rename_i h2;have:=jP _ _ _ h2;split at hq
    ·rename_i h3;have:=qV h3;split at hq
     ·cases hq
     ·rename_i h4;cases hq;have:=ih false this h4;omega
    ·cases hq
   ·rename_i h2;cases hq;exact ih true ha h2
theorem if0{lo:Int}{s1 s2:Str}{t:qD}{X:Except Nat (qD×Nat)}(h0:opS toks bad lo s1 s2 b=0):SPr (gd bad b (if opN toks lo s1 s2 b=0 then .ok (t,b)else X)) t b bad:=by
 cases bad
 ·rw[show opN toks lo s1 s2 b=0 from h0,if_pos rfl];exact SPr.ret
 ·exact SPr.bd
theorem qZZ(K:qv toks)(H:∀f',f'<=f->wk toks id f'):CS toks id 873 (f+1) .cmp:=by
 intro a bad h hf ha ho;have hid:=zL ho;refine sI UI ?_;simp only[UI,qI,go_sem];refine qN (((H f (nLr _)).sum a bad h (jo hf (by decide)) ha ho).mono ?_);rintro v h1 ⟨t,b,bad1,q1,l1,l2,q2,q3⟩;have hl1:=q2.len;obtain⟨a0,a1,a2,a3,a4,a5,a6,a7,rfl⟩:=q3.shape;simp only[go_sem];refine qK rfl rfl ⟨_,rfl⟩ (by decide) ?_;simp only[go_sem];refine qN ((kP (j:=5) (lo:=5) (hi:=6) (s1:=[60]) (s2:=[61]) K rfl rfl (by decide) (by decide) rfl rfl (.inl rfl) (.inl rfl) q2.at').mono ?_);rintro v h2 ⟨rfl,rfl⟩;simp only[go_sem];by_cases h0:opS toks bad1 5 [60] [61] b=0
 ·simp only[h0,decide_true,if_true,go_sem];refine qK rfl rfl ⟨_,rfl⟩ (by decide) ?_;simp only[go_sem];exact⟨t,b,bad1,q1.bind (if0 h0),l1,l2,q2,q3⟩
 ·simp only[if_neg h0,decide_eq_false h0,go_sem];obtain⟨rfl,ol,eo⟩:=K4 h0;have q2'':=q2.trans (PS.set q2.at' (o:=prS toks (b+1) false));have q3'':=q3.set (id:=id) (o:=prS toks (b+1) false) (.inl hid);refine qN (((H f (nLr _)).sum (b+1) false _ (zq hf (by omega) ol) ol q2''.at').mono ?_);rintro v h3 ⟨u,c,bad3,r1,m1,m2,r2,r3⟩;have hl3:=r2.len;simp only[lLs]at hl3 r3;have q4:=q3''.ps (by simp) hid r2;obtain⟨b0,b1,b2,b3,b4,b5,b6,b7,rfl⟩:=r3.shape;simp only[go_sem];rw[show zA _ 8 _ _=some [.agg [a0,a1,a2,a3,a4,a5,a6,a7],.agg [b0,b1,b2,b3,b4,b5,b6,b7]]from rfl];simp only[go_sem];refine qK rfl rfl ⟨_,rfl⟩ (by decide) ?_;simp only[go_sem];refine⟨tmk 3 (opS toks false 5 [60] [61] b) [] [t,u],c,bad3,q1.bind ?_,by omega,m2,(q2''.trans r2).push, ?_⟩
  ·rw[qp,if_neg (by rw[<-eo];exact h0),<-qp (a:=b+1) (r:=exB _ _)];exact r1.bind (eo▸SPr.ret)
  rw[zK];exact wi (ts:=[t,u]) ((q4.mono (nLr _) (nLr _)).one.snoc r3 (by omega) (by omega)) (nLr _) (by omega) rfl
end
end Go.Ab
namespace Go.Ab
open Go
set_option maxRecDepth 10000
set_option maxHeartbeats 2000000
section
variable {h:List qB} {id a b f:Nat} {toks:List qJ} {bad:Bool}
theorem qR6(K:qv toks){t:qD}{bad':Bool}(ha:a<=toks.length)(r1:SPr (gd bad a (pM toks f .pre a)) t b bad')(hb:bad'=false):a+1<=b:=by
 subst hb;cases bad
 ·rw[qp]at r1;cases hr:pM toks f .pre a with
  | error d=>rw[hr]at r1;exact absurd r1.2 (by decide)
  | ok x=>rw[hr]at r1;obtain⟨rfl,rfl,_⟩:=r1;exact(jX K.x f .pre _ trivial ha hr).1
 ·exact absurd r1.2 (by decide)
theorem qZ4(K:qv toks)(H:∀f',f'<=f->wk toks id f'):CS toks id 1186 (f+1) .sum:=by
 intro a bad h hf ha ho;have hid:=zL ho;refine sI Yb ?_;simp only[Yb,qI,go_sem];refine qN (((H f (nLr _)).prod a bad h (jo hf (by decide)) ha ho).mono ?_);rintro v h1 ⟨t,b,bad1,q1,l1,l2,q2,q3⟩;have hl1:=q2.len;obtain⟨a0,a1,a2,a3,a4,a5,a6,a7,rfl⟩:=q3.shape;simp only[go_sem];refine qK rfl rfl ⟨_,rfl⟩ (by decide) ?_;simp only[go_sem];refine Sem.loop (fun s:Nat×qD×AV×Nat×Bool×List qB=>s.1<=f/\mJ toks (.sumL s.2.1) s.2.2.2.1<=s.1/\(∀y c bad',SPr (gd s.2.2.2.2.1 s.2.2.2.1 (pM toks s.1 (.sumL s.2.1) s.2.2.2.1)) y c bad'->SPr (gd bad a (pM toks (f+1) .sum a)) y c bad')/\(a<=s.2.2.2.1/\s.2.2.2.1<=toks.length)/\(∃cs,s.2.2.1=.agg cs/\cs.length=8)/\PS h id (prS toks s.2.2.2.1 s.2.2.2.2.1) s.2.2.2.2.2/\Ow h.length s.2.2.2.2.2.length s.2.2.2.2.2 s.2.2.1 s.2.1.enc)
  (fun s=>(⟨[(0,.ptr id 0 0)],[(2,.agg [.int .i64 0,.int .i64 0,.str [],.int .i64 0,.str [],.nils,.nils,.nils]),(3,s.2.2.1)],s.2.2.2.2.2⟩:VSt)) (fun s=>toks.length-s.2.2.2.1) (f,t,.agg [a0,a1,a2,a3,a4,a5,a6,a7],b,bad1,h1) (by kernel_rfl) ?_ (Can.sub (by simp[go_sem]) (by simp[go_sem])) ?_
 ·exact⟨nLr _,by unfold mJ at hf|-;simp only[Jb.rk]at hf|-;omega,fun y c bad' q=>q1.bind q,⟨l1,l2⟩,⟨_,rfl,rfl⟩,q2,q3⟩
 clear q1 l1 l2 q2 q3 hl1;rintro⟨f',t,v,b,bad2,g⟩ ⟨i1,i2,i3,⟨l1,l2⟩,⟨cs,rfl,hcs⟩,i5,i6⟩;simp only at i1 i2 i3 l1 l2 hcs i5 i6;obtain⟨a0,a1,a2,a3,a4,a5,a6,a7,hv⟩:=i6.shape;rw[hv]at i6|-;simp only[go_sem];obtain⟨f2,rfl⟩:∃f2,f'=f2+1:=⟨f'-1,by unfold mJ at i2;simp only[Jb.rk]at i2;omega⟩;refine qN ((kP (j:=1) (lo:=1) (hi:=2) (s1:=[43]) (s2:=[45]) K rfl rfl (by decide) (by decide) rfl rfl (.inl rfl) (.inl rfl) i5.at').mono ?_);rintro v h2 ⟨rfl,rfl⟩;simp only[go_sem];by_cases h0:opS toks bad2 1 [43] [45] b=0
 ·simp only[h0,decide_true,if_true,go_sem];refine qK rfl rfl ⟨_,rfl⟩ (by decide) ?_;simp only[go_sem];exact⟨t,b,bad2,i3 _ _ _ (by simp only[pM];exact if0 h0),l1,l2,i5,i6⟩
 ·simp only[if_neg h0,decide_eq_false h0,go_sem];obtain⟨rfl,ol,eo⟩:=K4 h0;have i5':=i5.trans (PS.set i5.at' (o:=prS toks (b+1) false));have i6':=i6.set (id:=id) (o:=prS toks (b+1) false) (.inl hid);have hl5:=i5.len;refine qN (((H f2 (by omega)).prod (b+1) false _ (zq i2 (by omega) ol) ol i5'.at').mono ?_);rintro v h3 ⟨u,c,bad3,r1,m1,m2,r2,r3⟩;have hl3:=r2.len;simp only[lLs]at hl3 r3;have q4:=i6'.ps (by simp) hid r2;obtain⟨b0,b1,b2,b3,b4,b5,b6,b7,rfl⟩:=r3.shape;simp only[go_sem];rw[show zA _ 8 _ _=some [.agg [a0,a1,a2,a3,a4,a5,a6,a7],.agg [b0,b1,b2,b3,b4,b5,b6,b7]]from rfl];simp only[go_sem];refine qK rfl rfl ⟨_,rfl⟩ (by decide) ?_;simp only[go_sem];have i6':=wi (ts:=[t,u]) (k:=3) (n:=opS toks false 1 [43] [45] b) (s:=[]) (q4.one.snoc r3 (by omega) (by omega)) (nLr _) (by omega) rfl;refine qf (f2,_,_,c,bad3,_) ⟨by simp only;omega,by simp only;unfold mJ at i2|-;simp only[Jb.rk]at i2|-;omega,fun y d bad' q=>i3 _ _ _ ?_,⟨by simp only;omega,m2⟩,⟨_,rfl,rfl⟩,(i5'.trans r2).push,i6'.mono (nLr _) (by simp)⟩ (by simp only;omega) (Can.sub (by simp[go_sem]) (by simp[go_sem]));simp only[pM];rw[qp,if_neg (by rw[<-eo];exact h0),<-qp (a:=b+1) (r:=exB _ _)];exact r1.bind (eo▸q)
theorem qZ3(K:qv toks)(H:∀f',f'<=f->wk toks id f'):CS toks id 1423 (f+1) .prod:=by
 intro a bad h hf ha ho;have hid:=zL ho;refine sI Y2 ?_;simp only[Y2,qI,go_sem];refine qN (((H f (nLr _)).app a bad h (jo hf (by decide)) ha ho).mono ?_);rintro v h1 ⟨t,b,bad1,q1,l1,l2,q2,q3⟩;have hl1:=q2.len;obtain⟨a0,a1,a2,a3,a4,a5,a6,a7,rfl⟩:=q3.shape;simp only[go_sem];refine qK rfl rfl ⟨_,rfl⟩ (by decide) ?_;simp only[go_sem];refine Sem.loop (fun s:Nat×qD×AV×Nat×Bool×List qB=>s.1<=f/\mJ toks (.prodL s.2.1) s.2.2.2.1<=s.1/\(∀y c bad',SPr (gd s.2.2.2.2.1 s.2.2.2.1 (pM toks s.1 (.prodL s.2.1) s.2.2.2.1)) y c bad'->SPr (gd bad a (pM toks (f+1) .prod a)) y c bad')/\(a<=s.2.2.2.1/\s.2.2.2.1<=toks.length)/\(∃cs,s.2.2.1=.agg cs/\cs.length=8)/\PS h id (prS toks s.2.2.2.1 s.2.2.2.2.1) s.2.2.2.2.2/\Ow h.length s.2.2.2.2.2.length s.2.2.2.2.2 s.2.2.1 s.2.1.enc)
  (fun s=>(⟨[(0,.ptr id 0 0)],[(2,.agg [.int .i64 0,.int .i64 0,.str [],.int .i64 0,.str [],.nils,.nils,.nils]),(3,s.2.2.1)],s.2.2.2.2.2⟩:VSt)) (fun s=>toks.length-s.2.2.2.1) (f,t,.agg [a0,a1,a2,a3,a4,a5,a6,a7],b,bad1,h1) (by kernel_rfl) ?_ (Can.sub (by simp[go_sem]) (by simp[go_sem])) ?_
 ·exact⟨nLr _,by unfold mJ at hf|-;simp only[Jb.rk]at hf|-;omega,fun y c bad' q=>q1.bind q,⟨l1,l2⟩,⟨_,rfl,rfl⟩,q2,q3⟩
 clear q1 l1 l2 q2 q3 hl1;rintro⟨f',t,v,b,bad2,g⟩ ⟨i1,i2,i3,⟨l1,l2⟩,⟨cs,rfl,hcs⟩,i5,i6⟩;simp only at i1 i2 i3 l1 l2 hcs i5 i6;obtain⟨a0,a1,a2,a3,a4,a5,a6,a7,hv⟩:=i6.shape;rw[hv]at i6|-;simp only[go_sem];obtain⟨f2,rfl⟩:∃f2,f'=f2+1:=⟨f'-1,by unfold mJ at i2;simp only[Jb.rk]at i2;omega⟩;refine qN ((kP (j:=3) (lo:=3) (hi:=4) (s1:=[42]) (s2:=[47]) K rfl rfl (by decide) (by decide) rfl rfl (.inl rfl) (.inl rfl) i5.at').mono ?_);rintro v h2 ⟨rfl,rfl⟩;simp only[go_sem];by_cases h0:opS toks bad2 3 [42] [47] b=0
 ·simp only[h0,decide_true,if_true,go_sem];refine qK rfl rfl ⟨_,rfl⟩ (by decide) ?_;simp only[go_sem];exact⟨t,b,bad2,i3 _ _ _ (by simp only[pM];exact if0 h0),l1,l2,i5,i6⟩
 ·simp only[if_neg h0,decide_eq_false h0,go_sem];obtain⟨rfl,ol,eo⟩:=K4 h0;have i5':=i5.trans (PS.set i5.at' (o:=prS toks (b+1) false));have i6':=i6.set (id:=id) (o:=prS toks (b+1) false) (.inl hid);have hl5:=i5.len;refine qN (((H f2 (by omega)).app (b+1) false _ (zq i2 (by omega) ol) ol i5'.at').mono ?_);rintro v h3 ⟨u,c,bad3,r1,m1,m2,r2,r3⟩;have hl3:=r2.len;simp only[lLs]at hl3 r3;have q4:=i6'.ps (by simp) hid r2;obtain⟨b0,b1,b2,b3,b4,b5,b6,b7,rfl⟩:=r3.shape;simp only[go_sem];rw[show zA _ 8 _ _=some [.agg [a0,a1,a2,a3,a4,a5,a6,a7],.agg [b0,b1,b2,b3,b4,b5,b6,b7]]from rfl];simp only[go_sem];refine qK rfl rfl ⟨_,rfl⟩ (by decide) ?_;simp only[go_sem];have i6':=wi (ts:=[t,u]) (k:=3) (n:=opS toks false 3 [42] [47] b) (s:=[]) (q4.one.snoc r3 (by omega) (by omega)) (nLr _) (by omega) rfl;refine qf (f2,_,_,c,bad3,_) ⟨by simp only;omega,by simp only;unfold mJ at i2|-;simp only[Jb.rk]at i2|-;omega,fun y d bad' q=>i3 _ _ _ ?_,⟨by simp only;omega,m2⟩,⟨_,rfl,rfl⟩,(i5'.trans r2).push,i6'.mono (nLr _) (by simp)⟩ (by simp only;omega) (Can.sub (by simp[go_sem]) (by simp[go_sem]));simp only[pM];rw[qp,if_neg (by rw[<-eo];exact h0),<-qp (a:=b+1) (r:=exB _ _)];exact r1.bind (eo▸q)
theorem qZX(K:qv toks)(H:∀f',f'<=f->wk toks id f'):CS toks id 1510 (f+1) .app:=by
 intro a bad h hf ha ho;have hid:=zL ho;refine sI VG ?_;simp only[VG,qI,go_sem];refine qN (((H f (nLr _)).pre a bad h (jo hf (by decide)) ha ho).mono ?_);rintro v h1 ⟨t,b,bad1,q1,l1,l2,q2,q3⟩;have hl1:=q2.len;obtain⟨a0,a1,a2,a3,a4,a5,a6,a7,rfl⟩:=q3.shape;simp only[go_sem];refine qK rfl rfl ⟨_,rfl⟩ (by decide) ?_;simp only[go_sem];refine Sem.loop (fun s:Nat×qD×AV×Nat×Bool×List qB=>s.1<=f/\(s.2.2.2.2.1=false->mJ toks (.appL s.2.1) s.2.2.2.1<=s.1)/\(∀y c bad',SPr (gd s.2.2.2.2.1 s.2.2.2.1 (pM toks s.1 (.appL s.2.1) s.2.2.2.1)) y c bad'->SPr (gd bad a (pM toks (f+1) .app a)) y c bad')/\(a<=s.2.2.2.1/\s.2.2.2.1<=toks.length)/\(∃cs,s.2.2.1=.agg cs/\cs.length=8)/\PS h id (prS toks s.2.2.2.1 s.2.2.2.2.1) s.2.2.2.2.2/\Ow h.length s.2.2.2.2.2.length s.2.2.2.2.2 s.2.2.1 s.2.1.enc)
  (fun s=>(⟨[(0,.ptr id 0 0)],[(2,.agg [.int .i64 0,.int .i64 0,.str [],.int .i64 0,.str [],.nils,.nils,.nils]),(3,s.2.2.1)],s.2.2.2.2.2⟩:VSt)) (fun s=>2*(toks.length-s.2.2.2.1)+(if s.2.2.2.2.1 then 0 else 1)) (f,t,.agg [a0,a1,a2,a3,a4,a5,a6,a7],b,bad1,h1) (by kernel_rfl) ?_ (Can.sub (by simp[go_sem]) (by simp[go_sem])) ?_
 ·exact⟨nLr _,fun hb=>by have:=qR6 K ha q1 hb;unfold mJ at hf|-;simp only[Jb.rk]at hf|-;omega,fun y c bad' q=>q1.bind q,⟨l1,l2⟩,⟨_,rfl,rfl⟩,q2,q3⟩
 clear q1 l1 l2 q2 q3 hl1;rintro⟨f',t,v,b,bad2,g⟩ ⟨i1,i2,i3,⟨l1,l2⟩,⟨cs,rfl,hcs⟩,i5,i6⟩;simp only at i1 i2 i3 l1 l2 hcs i5 i6;obtain⟨a0,a1,a2,a3,a4,a5,a6,a7,hv⟩:=i6.shape;rw[hv]at i6|-;simp only[go_sem];refine qZ rfl (qaT K i5.at') ?_;simp only[go_sem];cases h0:(!bad2&&bgP toks b)
 ·simp only[go_sem];refine qK rfl rfl ⟨_,rfl⟩ (by decide) ?_;simp only[go_sem];refine⟨t,b,bad2,i3 _ _ _ ?_,l1,l2,i5,i6⟩;cases bad2
  ·obtain⟨f2,rfl⟩:∃f2,f'=f2+1:=⟨f'-1,by have i2:=i2 rfl;unfold mJ at i2;simp only[Jb.rk]at i2;omega⟩;have h0:bgP toks b=false:=h0;simp only[pM,h0,bFt,if_false];exact SPr.ret
  ·exact SPr.bd
 ·rw[bAt]at h0;obtain⟨hb2,h0⟩:=h0;have hb2:bad2=false:=by simpa using hb2
  subst hb2;have i2:=i2 rfl;obtain⟨f2,rfl⟩:∃f2,f'=f2+1:=⟨f'-1,by unfold mJ at i2;simp only[Jb.rk]at i2;omega⟩;simp only[go_sem];have hl5:=i5.len;refine qN (((H f2 (by omega)).pre b false _ (jo (j:=.appL t) i2 (show 1<2 by decide)) l2 i5.at').mono ?_);rintro v h3 ⟨u,c,bad3,r1,m1,m2,r2,r3⟩;have hl3:=r2.len;have q4:=i6.ps (nLr _) hid r2;obtain⟨b0,b1,b2,b3,b4,b5,b6,b7,rfl⟩:=r3.shape;simp only[go_sem];rw[show zA _ 8 _ _=some [.agg [a0,a1,a2,a3,a4,a5,a6,a7],.agg [b0,b1,b2,b3,b4,b5,b6,b7]]from rfl];simp only[go_sem];refine qK rfl rfl ⟨_,rfl⟩ (by decide) ?_;simp only[go_sem];have i6':=wi (ts:=[t,u]) (k:=5) (n:=0) (s:=[]) (q4.one.snoc r3 (by omega) (by omega)) (nLr _) (by omega) rfl;have hst:bad3=false->b+1<=c:=fun hb=>qR6 K l2 r1 hb;refine qf (f2,_,_,c,bad3,_) ⟨by simp only;omega,fun hb=>by have:=hst hb;simp only;unfold mJ at i2|-;simp only[Jb.rk]at i2|-;omega,fun y d bad' q=>i3 _ _ _ ?_,⟨by simp only;omega,m2⟩,⟨_,rfl,rfl⟩,(i5.trans r2).push,i6'.mono (nLr _) (by simp)⟩ (by cases bad3<;>simp<;>first | omega | (have:=hst rfl;omega)) (Can.sub (by simp[go_sem]) (by simp[go_sem]));simp only[pM,h0,if_true];exact r1.bind q
end
end Go.Ab
namespace Go.Ab
open Go
set_option maxRecDepth 10000
set_option maxHeartbeats 2000000
section
variable {h:List qB} {id a b c f:Nat} {toks:List qJ} {bad bad' bad0:Bool}
theorem SPr.nb{α:Type}{r:Except Nat (α×Nat)}{x:α}(s:SPr (gd bad0 a r) x b false):bad0=false:=by
 cases bad0
 ·rfl
 ·exact absurd s.2 (by decide)
theorem qTT{k:Int}{x:Str}(s:SPr (gd bad0 a (zN toks k a)) x b false):b=a+1/\bad0=false/\zN toks k a=.ok (x,a+1):=by
 have:=s.nb;subst this;rw[qp]at s;cases hr:zN toks k a with
 | error d=>rw[hr]at s;exact absurd s.2 (by decide)
 | ok y=>rw[hr]at s;obtain⟨rfl,rfl,_⟩:=s;have:=(ji hr).2.2.1;exact⟨this,rfl,by rw[<-this]⟩
theorem WN{s:Str}{u:Unit}(q:SPr (gd bad0 a (qQ toks s a)) u b false):b=a+1/\bad0=false/\isP toks a s=true:=by
 have:=q.nb;subst this;rw[qp]at q;cases hr:qQ toks s a with
 | error d=>rw[hr]at q;exact absurd q.2 (by decide)
 | ok y=>rw[hr]at q;obtain⟨_,rfl,_⟩:=q;have:=jU hr;exact⟨this.2.1,rfl,this.2.2.2⟩
theorem jN{s:Str}(K:qv toks)(hs:s.all qz=false\/za s=true)(ha:a<=toks.length)(ho:h[id]?=some (prS toks a bad)):SCall Gm 872 [.ptr id 0 0,.str s] h fun _ h'=>∃b bad',SPr (gd bad a (qQ toks s a)) () b bad'/\a<=b/\b<=toks.length/\PS h id (prS toks b bad') h':=
 (t872 K hs ha ho).mono fun _ _ ⟨b,bad',q1,q2,q3,q4⟩=>⟨b,bad',q1,q2,q3,q4▸PS.set ho⟩
theorem JJ{k:Int}(K:qv toks)(ha:a<=toks.length)(ho:h[id]?=some (prS toks a bad)):SCall Gm 871 [.ptr id 0 0,.int .i64 k] h fun v h'=>∃x b bad',SPr (gd bad a (zN toks k a)) x b bad'/\a<=b/\b<=toks.length/\v=.str x/\PS h id (prS toks b bad') h':=
 (t871 K ha ho).mono fun _ _ ⟨x,b,bad',q1,q2,q3,q4,q5,_⟩=>⟨x,b,bad',q1,q2,q3,q4,q5▸PS.set ho⟩
theorem wF{s:Str}(K:qv toks)(hs:s.all qz=false\/za s=true)(ho:h[id]?=some (prS toks a bad)):SCall Gm 737 [.ptr id 0 0,.str s] h fun v h'=>(bad=false/\isP toks a s=true/\v=.bool true/\PS h id (prS toks (a+1) false) h')\/((!bad&&isP toks a s)=false/\v=.bool false/\h=h'):=
 (t737 K hs ho).mono fun _ _ q=>q.elim (fun⟨q1,q2,q3,q4⟩=>.inl ⟨q1,q2,q3,q4▸PS.set ho⟩) fun⟨q1,q2,q3⟩=>.inr ⟨q1,q2,q3.symm⟩
theorem qS8{neg:Bool}{m:Int}(K:qv toks)(hm:m=if neg then 2147483648 else 2147483647)(ha:a<=toks.length)(ho:h[id]?=some (prS toks a bad)):SCall Gm 1551 [.ptr id 0 0,.int .i64 m] h fun v h'=>∃n b bad',(0<=n/\n<=2147483648)/\SPr (gd bad a (jG toks neg a)) (tmk 2 (if neg then-n else n) [] []) b bad'/\a<=b/\b<=toks.length/\v=.int .i64 n/\PS h id (prS toks b bad') h':=
 hm▸(qaU K ha ho).mono fun _ _ ⟨n,b,bad',q0,q1,q2,q3,q4,q5⟩=>⟨n,b,bad',q0,q1,q2,q3,q4,q5▸PS.set ho⟩
theorem qUB(K:qv toks)(ho:h[id]?=some (prS toks a true)):SCall Gm 736 [.ptr id 0 0] h fun v h'=>v=.agg [.int .i64 2,.str [],.nils]/\PS h id (prS toks a true) h'/\h'.length=h.length:=by
 refine sI Zr ?_;simp only[Zr,qI,go_sem];refine qZ rfl (QJ ho K.l) ?_;rw[WD];simp only[bFt,if_false,go_sem];refine qZ rfl (QJ ho K.l) ?_;rw[WD];simp only[bFt,if_false,go_sem];refine qN ((Kv ho K.l).mono ?_);rintro v h1 hv;rw[qXR]at hv;simp only[bFt,if_false]at hv;obtain⟨rfl,rfl⟩:=hv;simp only[show decide (([]:Str)=[73,110,116])=false from rfl,go_sem];refine qZ rfl Kt ?_;simp only[go_sem];refine qK rfl rfl ⟨_,rfl⟩ (by decide) ?_;simp only[go_sem];exact⟨trivial,PS.set ho,by simp⟩
theorem Xz(K:qv toks)(ha:a<=toks.length)(ho:h[id]?=some (prS toks a bad)):SCall Gm 359 [.ptr id 0 0] h fun v h'=>∃t b bad',SPr (gd bad a (pT toks (zj toks false a) false a)) t b bad'/\a<=b/\b<=toks.length/\PS h id (prS toks b bad') h'/\Ow h.length h'.length h' v t.enc:=by
 cases bad with
 | false=>
  refine(qZ6 K.l K.w (zj toks false a) false a h (nLr _) ha ho).mono ?_;rintro v h' ⟨t,b,bad',S,q1,q2,q3,q4⟩;have hb:a<=b/\b<=toks.length:=by
   cases hr:pT toks (zj toks false a) false a with
   | ok x=>rw[hr]at q1;obtain⟨_,rfl,_⟩:=q1;have:=jP _ _ _ hr;omega
   | error d=>rw[hr]at q1;obtain⟨rfl,_⟩:=q1;exact qZB _ _ ha hr
  refine⟨t,b,bad', ?_,hb.1,hb.2,q2,Ow.of S q3 q4⟩;rw[qp];generalize pT toks (zj toks false a) false a=r at q1
  match r,q1 with
  |.ok (t',b'),q1=>exact q1
  |.error b',q1=>exact q1
 | true=>
  refine sI Zq ?_;simp only[Zq,qI,go_sem];refine qN ((qUB K ho).mono ?_);rintro v h1 ⟨rfl,q1,q2⟩;simp only[go_sem];refine qK rfl rfl ⟨_,rfl⟩ (by decide) ?_;simp only[go_sem];refine qZ rfl (QJ q1.at' K.l) ?_;rw[WD];simp only[bFt,if_false,go_sem];refine qK rfl rfl ⟨_,rfl⟩ (by decide) ?_;simp only[go_sem];refine⟨Jg [],a,true,SPr.bd,nLr _,ha,q1,Ow.of [none] Zc fun j hj=>by simp at hj⟩
theorem Xy(K:qv toks)(H:CS toks id 509 f .term)(hf:bad=false->mJ toks .term a<=f)(ha:a<=toks.length)(ho:h[id]?=some (prS toks a bad)):SCall Gm 1333 [.ptr id 0 0] h (fun v h'=>RS toks id h (gd bad a (pM toks f .term a)) a v h'):=by
 refine sI Yw ?_;have ho':=ho;unfold prS at ho';simp only[Yw,qI,go_sem,ho',oMs];cases bad with
 | true=>
  simp only[go_sem];refine qK rfl rfl ⟨_,rfl⟩ (by decide) ?_;simp only[go_sem];exact⟨qbM,a,true,SPr.bd,nLr _,ha,PS.refl ho,QL (nLr _)⟩
 | false=>
  simp only[go_sem];refine qN ((H a false h (hf rfl) ha ho).mono ?_);rintro v h1 ⟨t,b,bad1,q1,l1,l2,q2,q3⟩;obtain⟨a0,a1,a2,a3,a4,a5,a6,a7,rfl⟩:=q3.shape;simp only[go_sem];refine qK rfl rfl ⟨_,rfl⟩ (by decide) ?_;simp only[go_sem];exact⟨t,b,bad1,q1,l1,l2,q2,q3⟩
end
end Go.Ab
namespace Go.Ab
open Go
set_option maxRecDepth 10000
set_option maxHeartbeats 2000000
section
variable {h:List qB} {id a b f:Nat} {toks:List qJ} {bad:Bool}
theorem qZ5(K:qv toks)(H:∀f',f'<=f->wk toks id f'):CS toks id 509 (f+1) .term:=by
 intro a bad h hf ha ho;have hid:=zL ho;have HT:=(H f (nLr _)).term;have q0:=PS.refl ho;refine sI Vq ?_;simp only[Vq,qI,go_sem];refine qN ((wF (s:=[92]) K (.inl rfl) ho).mono ?_);rintro v0 h0 (⟨rfl,hb,rfl,r0⟩ | ⟨hb,rfl,rfl⟩)
 case inl=>
  have hlt:=qV hb;have hl0:=r0.len;simp only[go_sem];refine qN ((JJ (k:=1) K hlt r0.at').mono ?_);rintro w1 g1 ⟨x1,b1,bad1,s1,m1,l1,rfl,r1⟩;simp only[go_sem];have hl1:=r1.len;have q1:=r0.trans r1;refine qK rfl rfl ⟨_,rfl⟩ (by decide) ?_;simp only[go_sem];refine qN ((jN (s:=[58]) K (.inl rfl) l1 q1.at').mono ?_);rintro w2 g2 ⟨b2,bad2,s2,m2,l2,r2⟩;simp only[go_sem];have hl2:=r2.len;have q2:=q1.trans r2;refine qN ((Xz K l2 q2.at').mono ?_);rintro w3 g3 ⟨t3,b3,bad3,s3,m3,l3,r3,o3⟩;obtain⟨v3,rfl,p3⟩:=o3.shapeT;simp only[go_sem];have hl3:=r3.len;have q3:=q2.trans r3;refine Qm (c':=.agg [.int .i64 4,.int .i64 0,.str x1,.int .i64 t3.Kind,.str t3.Name,v3,.nils,.nils]) rfl rfl ?_;simp only[go_sem];refine qN ((jN (s:=[46]) K (.inl rfl) l3 q3.at').mono ?_);rintro w4 g4 ⟨b4,bad4,s4,m4,l4,r4⟩;simp only[go_sem];have hl4:=r4.len;replace p3:=p3.ps (by omega) (by omega) r4;have q4:=q3.trans r4;refine qN ((HT b4 bad4 _ (zq hf (by omega) l4) l4 q4.at').mono ?_);rintro w5 g5 ⟨t5,b5,bad5,s5,m5,l5,r5,o5⟩;obtain⟨a0,a1,a2,a3,a4,a5,a6,a7,rfl⟩:=o5.shape;simp only[go_sem];have hl5:=r5.len;replace p3:=p3.ps (by omega) (by omega) r5;have q5:=q4.trans r5;refine zG (v:=.agg [a0,a1,a2,a3,a4,a5,a6,a7]) rfl rfl ?_;simp only[go_sem];refine qK rfl rfl ⟨_,rfl⟩ (by decide) ?_;simp only[go_sem];refine⟨.mk 4 0 x1 t3 [] [t5],b5,bad5, ?_,by omega,l5,q5.push, ?_⟩
  ·rw[qp];simp only[pM,hb,if_true];rw[<-qp (a:=a+1) (r:=exB _ _)];exact s1.bind (s2.bind (s3.bind (s4.bind (s5.bind (SPr.ret)))))
  have x7:=(JD (w:=8) (B:=g4.length) (k:=g5.length) (o5.push (o:=.row 8 [.agg [a0,a1,a2,a3,a4,a5,a6,a7]] true) (nLr _)) (by simp) (nLr _) (by omega)).ow;rw[zK];exact(Zb (ns:=[]) (ks:=[t5]) (m1:=g3.length) (m2:=g4.length) (p3.push (by omega)) Ow.nils x7 (by omega) (by omega) (by omega)).mono (by omega) (nLr _)
 simp only[go_sem];refine qN ((wF (s:=[108,101,116]) K (.inr rfl) ho).mono ?_);rintro v0 h0 (⟨rfl,hc,rfl,r0⟩ | ⟨hc,rfl,rfl⟩)
 case inl=>
  have hb:isP toks a [92]=false:=hb;have hlt:=qV hc;have hl0:=r0.len;simp only[go_sem];refine qN ((JJ (k:=1) K hlt r0.at').mono ?_);rintro w1 g1 ⟨x1,b1,bad1,s1,m1,l1,rfl,r1⟩;simp only[go_sem];have hl1:=r1.len;have q1:=r0.trans r1;refine qK rfl rfl ⟨_,rfl⟩ (by decide) ?_;simp only[go_sem];refine qN ((jN (s:=[61]) K (.inl rfl) l1 q1.at').mono ?_);rintro w2 g2 ⟨b2,bad2,s2,m2,l2,r2⟩;simp only[go_sem];have hl2:=r2.len;have q2:=q1.trans r2;refine qN ((HT b2 bad2 _ (zq hf (by omega) l2) l2 q2.at').mono ?_);rintro w3 g3 ⟨t3,b3,bad3,s3,m3,l3,r3,o3⟩;obtain⟨a0,a1,a2,a3,a4,a5,a6,a7,rfl⟩:=o3.shape;simp only[go_sem];have hl3:=r3.len;have q3:=q2.trans r3;have k0:KL h.length g2.length g3 .nils 8 ([]:List AV):=KL.nil;refine zG (v:=.agg [a0,a1,a2,a3,a4,a5,a6,a7]) rfl rfl ?_;simp only[go_sem];refine zx ((k0.mono (u2:=g2.length) (by omega)).push (by omega)) (o3.push (o:=.row 8 [.agg [a0,a1,a2,a3,a4,a5,a6,a7]] true) (nLr _)) (by simp) (by omega) (by omega) (by simp) (by simp) ?_;intro kk4 nn4 g4 k4 y4 z4;rw[zK]at z4;simp only[go_sem];have q4:PS h id (prS toks b3 bad3) g4:=⟨(y4 id hid).trans (by rw[gAl (zL q3.at')];exact q3.at'),by omega,fun j hj hl=>by
   rw[y4 j hl,gAl (by omega)];exact q3.old j hj hl⟩
  refine qN ((jN (s:=[105,110]) K (.inr rfl) l3 q4.at').mono ?_);rintro w5 g5 ⟨b5,bad5,s5,m5,l5,r5⟩;simp only[go_sem];have hl5:=r5.len;replace k4:=k4.ps (by omega) (by omega) r5;have q5:=q4.trans r5;refine qN ((HT b5 bad5 _ (zq hf (by omega) l5) l5 q5.at').mono ?_);rintro w6 g6 ⟨t6,b6,bad6,s6,m6,l6,r6,o6⟩;obtain⟨a0,a1,a2,a3,a4,a5,a6,a7,rfl⟩:=o6.shape;simp only[go_sem];have hl6:=r6.len;replace k4:=k4.ps (by omega) (by omega) r6;have q6:=q5.trans r6;refine zG (v:=.agg [a0,a1,a2,a3,a4,a5,a6,a7]) rfl rfl ?_;simp only[go_sem];refine zx ((k4.mono (u2:=g5.length) (by omega)).push (by omega)) (o6.push (o:=.row 8 [.agg [a0,a1,a2,a3,a4,a5,a6,a7]] true) (nLr _)) (by simp) (by omega) (by omega) (by simp) (by simp) ?_;intro kk7 nn7 g7 k7 y7 z7;rw[zK]at z7;simp only[go_sem];have q7:PS h id (prS toks b6 bad6) g7:=⟨(y7 id hid).trans (by rw[gAl (zL q6.at')];exact q6.at'),by omega,fun j hj hl=>by
   rw[y7 j hl,gAl (by omega)];exact q6.old j hj hl⟩
  refine qK rfl rfl ⟨_,rfl⟩ (by decide) ?_;simp only[go_sem];refine⟨tmk 7 0 x1 [t3,t6],b6,bad6, ?_,by omega,l6,q7, ?_⟩
  ·rw[qp];simp only[pM,hb,hc,bFt,if_false,if_true];rw[<-qp (a:=a+1) (r:=exB _ _)];exact s1.bind (s2.bind (s3.bind (s5.bind (s6.bind (SPr.ret)))))
  exact QM k7.ow (by omega)
 simp only[go_sem];refine qN ((wF (s:=[105,102]) K (.inr rfl) ho).mono ?_);rintro v0 h0 (⟨rfl,hd,rfl,r0⟩ | ⟨hd,rfl,rfl⟩)
 case inl=>
  have hb:isP toks a [92]=false:=hb;have hc:isP toks a [108,101,116]=false:=hc;have hlt:=qV hd;have hl0:=r0.len;simp only[go_sem];refine qK rfl rfl ⟨_,rfl⟩ (by decide) ?_;simp only[go_sem];refine qN ((HT (a+1) false _ (zq hf (by omega) hlt) hlt r0.at').mono ?_);rintro w1 g1 ⟨t1,b1,bad1,s1,m1,l1,r1,o1⟩;obtain⟨a0,a1,a2,a3,a4,a5,a6,a7,rfl⟩:=o1.shape;simp only[go_sem];have hl1:=r1.len;have q1:=r0.trans r1;have k0:KL h.length h0.length g1 .nils 8 ([]:List AV):=KL.nil;refine zG (v:=.agg [a0,a1,a2,a3,a4,a5,a6,a7]) rfl rfl ?_;simp only[go_sem];refine zx ((k0.mono (u2:=h0.length) (by omega)).push (by omega)) (o1.push (o:=.row 8 [.agg [a0,a1,a2,a3,a4,a5,a6,a7]] true) (nLr _)) (by simp) (by omega) (by omega) (by simp) (by simp) ?_;intro kk2 nn2 g2 k2 y2 z2;rw[zK]at z2;simp only[go_sem];have q2:PS h id (prS toks b1 bad1) g2:=⟨(y2 id hid).trans (by rw[gAl (zL q1.at')];exact q1.at'),by omega,fun j hj hl=>by
   rw[y2 j hl,gAl (by omega)];exact q1.old j hj hl⟩
  refine qN ((jN (s:=[116,104,101,110]) K (.inr rfl) l1 q2.at').mono ?_);rintro w3 g3 ⟨b3,bad3,s3,m3,l3,r3⟩;simp only[go_sem];have hl3:=r3.len;replace k2:=k2.ps (by omega) (by omega) r3;have q3:=q2.trans r3;refine qN ((HT b3 bad3 _ (zq hf (by omega) l3) l3 q3.at').mono ?_);rintro w4 g4 ⟨t4,b4,bad4,s4,m4,l4,r4,o4⟩;obtain⟨a0,a1,a2,a3,a4,a5,a6,a7,rfl⟩:=o4.shape;simp only[go_sem];have hl4:=r4.len;replace k2:=k2.ps (by omega) (by omega) r4;have q4:=q3.trans r4;refine zG (v:=.agg [a0,a1,a2,a3,a4,a5,a6,a7]) rfl rfl ?_;simp only[go_sem];refine zx ((k2.mono (u2:=g3.length) (by omega)).push (by omega)) (o4.push (o:=.row 8 [.agg [a0,a1,a2,a3,a4,a5,a6,a7]] true) (nLr _)) (by simp) (by omega) (by omega) (by simp) (by simp) ?_;intro kk5 nn5 g5 k5 y5 z5;rw[zK]at z5;simp only[go_sem];have q5:PS h id (prS toks b4 bad4) g5:=⟨(y5 id hid).trans (by rw[gAl (zL q4.at')];exact q4.at'),by omega,fun j hj hl=>by
   rw[y5 j hl,gAl (by omega)];exact q4.old j hj hl⟩
  refine qN ((jN (s:=[101,108,115,101]) K (.inr rfl) l4 q5.at').mono ?_);rintro w6 g6 ⟨b6,bad6,s6,m6,l6,r6⟩;simp only[go_sem];have hl6:=r6.len;replace k5:=k5.ps (by omega) (by omega) r6;have q6:=q5.trans r6;refine qN ((HT b6 bad6 _ (zq hf (by omega) l6) l6 q6.at').mono ?_);rintro w7 g7 ⟨t7,b7,bad7,s7,m7,l7,r7,o7⟩;obtain⟨a0,a1,a2,a3,a4,a5,a6,a7,rfl⟩:=o7.shape;simp only[go_sem];have hl7:=r7.len;replace k5:=k5.ps (by omega) (by omega) r7;have q7:=q6.trans r7;refine zG (v:=.agg [a0,a1,a2,a3,a4,a5,a6,a7]) rfl rfl ?_;simp only[go_sem];refine zx ((k5.mono (u2:=g6.length) (by omega)).push (by omega)) (o7.push (o:=.row 8 [.agg [a0,a1,a2,a3,a4,a5,a6,a7]] true) (nLr _)) (by simp) (by omega) (by omega) (by simp) (by simp) ?_;intro kk8 nn8 g8 k8 y8 z8;rw[zK]at z8;simp only[go_sem];have q8:PS h id (prS toks b7 bad7) g8:=⟨(y8 id hid).trans (by rw[gAl (zL q7.at')];exact q7.at'),by omega,fun j hj hl=>by
   rw[y8 j hl,gAl (by omega)];exact q7.old j hj hl⟩
  refine qK rfl rfl ⟨_,rfl⟩ (by decide) ?_;simp only[go_sem];refine⟨tmk 11 0 [] [t1,t4,t7],b7,bad7, ?_,by omega,l7,q8, ?_⟩
  ·rw[qp];simp only[pM,hb,hc,hd,bFt,if_false,if_true];rw[<-qp (a:=a+1) (r:=exB _ _)];exact s1.bind (s3.bind (s4.bind (s6.bind (s7.bind (SPr.ret)))))
  exact QM k8.ow (by omega)
 simp only[go_sem];refine qN (((H f (nLr _)).cmp a bad _ (jo hf (by decide)) ha ho).mono ?_);rintro v h1 ⟨t,b,bad1,q1,l1,l2,q2,q3⟩;obtain⟨a0,a1,a2,a3,a4,a5,a6,a7,rfl⟩:=q3.shape;simp only[go_sem];refine qK rfl rfl ⟨_,rfl⟩ (by decide) ?_;simp only[go_sem];refine⟨t,b,bad1, ?_,l1,l2,q2,q3⟩;cases bad
 ·have hb:isP toks a [92]=false:=hb;have hc:isP toks a [108,101,116]=false:=hc;have hd:isP toks a [105,102]=false:=hd;simp only[pM,hb,hc,hd,bFt,if_false];exact q1
 ·exact q1
end
end Go.Ab
namespace Go.Ab
open Go
set_option maxRecDepth 10000
set_option maxHeartbeats 2000000
section
variable {h:List qB} {id a b f:Nat} {toks:List qJ} {bad:Bool}
theorem KZ{k:Int}{s:Str}(h:kdS toks a false k=true)(h5:k≠5)(h3:k≠3):isP toks a s=false:=by
 obtain⟨hlt,_,hk⟩:=QC h;unfold isP;rw[gEg hlt];simp[hk,h5,h3]
theorem Ka{k:Int}(h:kdS toks a false k=true):∃s,zN toks k a=.ok (s,a+1)/\∃t,toks[a]?=some t/\t.Kind=k/\t.Text=s:=by
 obtain⟨hlt,_,hk⟩:=QC h;refine⟨toks[a].Text, ?_,toks[a],gEg hlt,hk,rfl⟩;unfold zN;rw[gEg hlt];simp[hk]
theorem qZY(K:qv toks)(H:∀f',f'<=f->wk toks id f'):CS toks id 1559 (f+1) .bran:=by
 intro a bad h hf ha ho;have hid:=zL ho;refine sI VV ?_;simp only[VV,qI,go_sem];refine qN ((JJ (k:=2) K ha (PS.refl ho).at').mono ?_);rintro w1 g1 ⟨x1,b1,bad1,s1,m1,l1,rfl,r1⟩;simp only[go_sem];have hl1:=r1.len;have q1:=(PS.refl ho).trans r1;refine qK rfl rfl ⟨_,rfl⟩ (by decide) ?_;simp only[go_sem];have tail:∀(g:List qB)(d:Nat)(bd2:Bool)(ns:List Str)(v6:AV),a<=d->d<=toks.length->(bd2=false->a+1<=d)->PS h id (prS toks d bd2) g->KL h.length g.length g v6 1 (ns.map qW)->(∀y c bad',SPr (gd bd2 d (exB (qQ toks [45,62] d) fun _ b=>exB (pM toks f .term b) fun t b=>.ok (.mk 10 0 x1 noT ns [t],b))) y c bad'->SPr (gd bad a (pM toks (f+1) .bran a)) y c bad')->True:=fun _ _ _ _ _ _ _ _ _ _ _=>trivial;clear tail;refine qN ((wF (s:=[91]) K (.inl rfl) q1.at').mono ?_);rintro v0 h0 (⟨rfl,hb,rfl,r0⟩ | ⟨hb,rfl,rfl⟩)
 case inr=>
  have e1:∀y c bad',SPr (gd bad1 b1 (exB (qQ toks [45,62] b1) fun _ b=>exB (pM toks f .term b) fun t b=>.ok (.mk 10 0 x1 noT [] [t],b))) y c bad'->SPr (gd bad a (pM toks (f+1) .bran a)) y c bad':=fun y c bad' q=>by
   simp only[pM];refine s1.bind ?_;cases bad1
   ·have hb:isP toks b1 [91]=false:=hb;simp only[wP,hb,bFt,if_false,qe];exact q
   ·exact q
  have hs1:bad1=false->a+1<=b1:=by rintro rfl;have:=qTT s1;omega
  have k1:KL h.length g1.length g1 .nils 1 (([]:List Str).map qW):=KL.nil;simp only[go_sem];refine qN ((jN (s:=[45,62]) K (.inl rfl) l1 q1.at').mono ?_);rintro w21 g21 ⟨b21,bad21,s21,m21,l21,r21⟩;simp only[go_sem];have hl21:=r21.len;replace k1:=k1.ps (by omega) (by omega) r21;have q21:=q1.trans r21;refine qN ((Xy K (H f (nLr _)).term (by rintro rfl;have:=WN s21;have:=hs1 (by first | rfl | exact(WN s21).2.1);unfold mJ at hf|-;simp only[Jb.rk]at hf|-;omega) l21 q21.at').mono ?_);rintro w22 g22 ⟨t22,b22,bad22,s22,m22,l22,r22,o22⟩;obtain⟨a0,a1,a2,a3,a4,a5,a6,a7,rfl⟩:=o22.shape;simp only[go_sem];have hl22:=r22.len;replace k1:=k1.ps (by omega) (by omega) r22;have q22:=q21.trans r22;refine zG (v:=.agg [a0,a1,a2,a3,a4,a5,a6,a7]) rfl rfl ?_;simp only[go_sem];refine qK rfl rfl ⟨_,rfl⟩ (by decide) ?_;simp only[go_sem];refine⟨.mk 10 0 x1 noT [] [t22],b22,bad22,e1 _ _ _ (s21.bind (s22.bind (SPr.ret))),by omega,l22,q22.push, ?_⟩;have x7:=(JD (w:=8) (B:=g21.length) (k:=g22.length) (o22.push (o:=.row 8 [.agg [a0,a1,a2,a3,a4,a5,a6,a7]] true) (nLr _)) (by simp) (nLr _) (by omega)).ow;rw[zK];exact Zb (T:=noT) (ks:=[t22]) (m1:=h.length) (m2:=g21.length) (b:=h.length) Ow.nils ((k1.mono (u2:=g21.length) (by omega)).push (by omega)).ow x7 (nLr _) (by omega) (by omega)
 have hlt:=qV hb;have hl0:=r0.len;obtain⟨rfl,rfl,hw⟩:=qTT s1;have q0:=q1.trans r0;simp only[go_sem];refine qN ((JJ (k:=1) K hlt q0.at').mono ?_);rintro w2 g2 ⟨x2,b2,bad2,s2,m2,l2,rfl,r2⟩;simp only[go_sem];have hl2:=r2.len;have q2:=q0.trans r2;have k0:KL h.length g2.length g2 .nils 1 (([]:List Str).map qW):=KL.nil;have e0:∀y c bad',SPr (gd bad2 b2 (if isP toks b2 [44]then jp toks (toks.length-(a+1)-1) [x2] (b2+1)else exB (qQ toks [93] b2) fun _ b=>.ok ([x2],b))) y c bad'->SPr (gd false (a+1) (wP toks (a+1))) y c bad':=fun y c bad' q=>by
  obtain⟨n,hn⟩:∃n,toks.length-(a+1)=n+1:=⟨toks.length-(a+1)-1,by omega⟩;simp only[wP,hb,if_true,hn,jp,lNa];rw[hn]at q;rw[qp,<-qp (a:=a+1+1) (r:=exB _ _)];exact s2.bind q
 refine zG (v:=.str x2) rfl rfl ?_;simp only[go_sem];refine zx (t:=qW x2) (k0.push (by simp)) K7 (by simp) (by omega) (nLr _) (by simp) (by simp) ?_;intro kk3 nn3 g3 k3 y3 z3;rw[zK]at z3;simp only[go_sem];have q3:PS h id (prS toks b2 bad2) g3:=⟨(y3 id hid).trans (by rw[gAl (zL q2.at')];exact q2.at'),by omega,fun j hj hl=>by
  rw[y3 j hl,gAl (by omega)];exact q2.old j hj hl⟩
 refine Sem.loop (fun z:Nat×List Str×AV×Nat×Bool×List qB=>(∀y c bad',SPr (gd z.2.2.2.2.1 z.2.2.2.1 (if isP toks z.2.2.2.1 [44]then jp toks z.1 z.2.1 (z.2.2.2.1+1)else exB (qQ toks [93] z.2.2.2.1) fun _ b=>.ok (z.2.1,b))) y c bad'->SPr (gd false (a+1) (wP toks (a+1))) y c bad')/\toks.length<=z.1+z.2.2.2.1/\PS h id (prS toks z.2.2.2.1 z.2.2.2.2.1) z.2.2.2.2.2/\KL h.length z.2.2.2.2.2.length z.2.2.2.2.2 z.2.2.1 1 (z.2.1.map qW)/\z.2.1.length<=z.2.2.2.1/\z.2.2.2.1<=toks.length/\a+1<=z.2.2.2.1/\∃kk nn,z.2.2.1=.slice 1 kk 0 nn false)
  (fun z=>(⟨[(0,.ptr id 0 0)],[(2,.agg [.int .i64 0,.int .i64 0,.str [],.int .i64 0,.str [],.nils,.nils,.nils]),(3,.agg [.int .i64 10,.int .i64 0,.str x1,.int .i64 0,.str [],.nils,z.2.2.1,.nils])],z.2.2.2.2.2⟩:VSt)) (fun z=>toks.length-z.2.2.2.1) (toks.length-(a+1)-1,[x2],.slice 1 kk3 0 nn3 false,b2,bad2,g3) (by kernel_rfl) ⟨e0,by simp only;omega,q3,by simpa using k3,by simp;omega,l2,by simp only;omega,_,_,rfl⟩ (Can.sub (by simp[go_sem]) (by simp[go_sem])) ?_
 clear e0 k3 y3 z3 q3 k0 q2 r2 s2 m2 l2 q0 r0 hl2 hl0;rintro⟨n,ns,w6,d,bd,g⟩ ⟨i1,i2,i3,i4,i5,i6,i7,kk,nn,rfl⟩;simp only at i1 i2 i3 i4 i5 i6 i7;simp only[go_sem];have hl3:=i3.len;refine qN ((wF (s:=[44]) K (.inl rfl) i3.at').mono ?_);rintro v0 h4 (⟨rfl,hc,rfl,r0⟩ | ⟨hc,rfl,rfl⟩)
 case inl=>
  have hlt:=qV hc;have hl0:=r0.len;simp only[go_sem];rw[hc,if_pos rfl,qp]at i1;obtain⟨n,rfl⟩:∃m,n=m+1:=⟨n-1,by omega⟩;have q0:=i3.trans r0;have i4:=i4.ps (nLr _) (by omega) r0;refine qN ((JJ (k:=1) K hlt q0.at').mono ?_);rintro w2 g2 ⟨x2,b2,bad2,s2,m2,l2,rfl,r2⟩;have hl2:=r2.len;simp only[go_sem];have i4:=i4.ps hl0 (by omega) r2;have q2:=q0.trans r2;refine zG (v:=.str x2) rfl rfl ?_;simp only[go_sem];refine zx (t:=qW x2) ((i4.mono (u2:=g2.length) (by omega)).push (nLr _)) K7 (by simp) (by omega) (nLr _) (by simp) (by rw[lMp];have:=K.l;omega) ?_;intro kk3 nn3 g3 k3 y3 z3;rw[zK]at z3;simp only[go_sem];have q3:PS h id (prS toks b2 bad2) g3:=⟨(y3 id hid).trans (by rw[gAl (zL q2.at')];exact q2.at'),by omega,fun j hj hl=>by
   rw[y3 j hl,gAl (by omega)];exact q2.old j hj hl⟩
  refine qf (n,ns++[x2],.slice 1 kk3 0 nn3 false,b2,bad2,g3) ⟨fun y c bad' q=>i1 y c bad' ?_,by simp only;omega,q3,by simpa using k3,by simp;omega,l2,by simp only;omega,_,_,rfl⟩ (by simp only;omega) (Can.sub (by simp[go_sem]) (by simp[go_sem]));simp only[jp];rw[<-qp (a:=d+1) (r:=exB _ _)];exact s2.bind q
 simp only[go_sem];refine qN ((jN (s:=[93]) K (.inl rfl) i6 i3.at').mono ?_);rintro w5 g5 ⟨b5,bad5,s5,m5,l5,r5⟩;simp only[go_sem];have hl5:=r5.len;have q5:=i3.trans r5;have k5:=i4.ps (nLr _) (by omega) r5;have e1:∀y c bad',SPr (gd bad5 b5 (exB (qQ toks [45,62] b5) fun _ b=>exB (pM toks f .term b) fun t b=>.ok (.mk 10 0 x1 noT ns [t],b))) y c bad'->SPr (gd false a (pM toks (f+1) .bran a)) y c bad':=fun y c bad' q=>by
  simp only[pM];refine s1.bind ?_;have s6:SPr (gd false (a+1) (wP toks (a+1))) ns b5 bad5:=i1 _ _ _ (by
   cases bd
   ·have hc:isP toks d [44]=false:=hc;rw[hc,if_neg (by decide)];exact s5.bind SPr.ret
   ·have:=s5;obtain⟨rfl,rfl⟩:=this;exact SPr.bd)
  exact s6.bind q
 have hs1:bad5=false->a+1<=b5:=fun _=>by omega
 refine qN ((jN (s:=[45,62]) K (.inl rfl) l5 q5.at').mono ?_);rintro w21 g21 ⟨b21,bad21,s21,m21,l21,r21⟩;simp only[go_sem];have hl21:=r21.len;replace k5:=k5.ps (by omega) (by omega) r21;have q21:=q5.trans r21;refine qN ((Xy K (H f (nLr _)).term (by rintro rfl;have:=WN s21;have:=hs1 (by first | rfl | exact(WN s21).2.1);unfold mJ at hf|-;simp only[Jb.rk]at hf|-;omega) l21 q21.at').mono ?_);rintro w22 g22 ⟨t22,b22,bad22,s22,m22,l22,r22,o22⟩;obtain⟨a0,a1,a2,a3,a4,a5,a6,a7,rfl⟩:=o22.shape;simp only[go_sem];have hl22:=r22.len;replace k5:=k5.ps (by omega) (by omega) r22;have q22:=q21.trans r22;refine zG (v:=.agg [a0,a1,a2,a3,a4,a5,a6,a7]) rfl rfl ?_;simp only[go_sem];refine qK rfl rfl ⟨_,rfl⟩ (by decide) ?_;simp only[go_sem];refine⟨.mk 10 0 x1 noT ns [t22],b22,bad22,e1 _ _ _ (s21.bind (s22.bind (SPr.ret))),by omega,l22,q22.push, ?_⟩;have x7:=(JD (w:=8) (B:=g21.length) (k:=g22.length) (o22.push (o:=.row 8 [.agg [a0,a1,a2,a3,a4,a5,a6,a7]] true) (nLr _)) (by simp) (nLr _) (by omega)).ow;rw[zK];exact Zb (T:=noT) (ks:=[t22]) (m1:=h.length) (m2:=g21.length) (b:=h.length) Ow.nils ((k5.mono (u2:=g21.length) (by omega)).push (by omega)).ow x7 (nLr _) (by omega) (by omega)
end
end Go.Ab
namespace Go.Ab
open Go
set_option maxRecDepth 10000
set_option maxHeartbeats 2000000
section
variable {h:List qB} {id a b f:Nat} {toks:List qJ} {bad:Bool}
theorem qZ0(K:qv toks)(H:∀f',f'<=f->wk toks id f'):∀(a:Nat)(h:List qB)(s:Str),20*(toks.length-(a+1))+7<=f+1->zN toks 2 a=.ok (s,a+1)->h[id]?=some (prS toks a false)->SCall Gm 1550 [.ptr id 0 0] h (fun v h'=>RS toks id h (if isP toks (a+1) [91]then pM toks (f+1) (.con s []) (a+2)else .ok (tmk 8 0 s [],a+1)) a v h'):=by
 intro a h s hf hw ho;have hid:=zL ho;have ha:=(ji hw).2.1;refine sI VN ?_;simp only[VN,qI,go_sem];refine qN ((JJ (k:=2) K (by omega) ho).mono ?_);rintro w1 g1 ⟨x1,b1,bad1,s1,m1,l1,rfl,q1⟩;rw[qp,hw]at s1;obtain⟨rfl,rfl,rfl⟩:=s1;have hl1:=q1.len;simp only[go_sem];refine qK rfl rfl ⟨_,rfl⟩ (by decide) ?_;simp only[go_sem];refine qN ((wF (s:=[91]) K (.inl rfl) q1.at').mono ?_);rintro v0 h0 (⟨_,hb,rfl,r0⟩ | ⟨hb,rfl,rfl⟩)
 case inr=>
  have hb:isP toks (a+1) [91]=false:=hb;simp only[go_sem];refine qK rfl rfl ⟨_,rfl⟩ (by decide) ?_;simp only[go_sem];refine⟨tmk 8 0 x1 [],a+1,false, ?_,by omega,l1,q1,QL hl1⟩;rw[hb];exact⟨rfl,rfl,rfl⟩
 have hlt:=qV hb;have hl0:=r0.len;have q0:=q1.trans r0;simp only[go_sem];rw[hb,if_pos rfl];refine qN (((H f (nLr _)).term (a+1+1) false _ (by unfold mJ;simp only[Jb.rk];omega) hlt q0.at').mono ?_);rintro w2 g2 ⟨t2,b2,bad2,s2,m2,l2,r2,o2⟩;obtain⟨a0,a1,a2,a3,a4,a5,a6,a7,rfl⟩:=o2.shape;simp only[go_sem];have hl2:=r2.len;have q2:=q0.trans r2;have k0:KL h.length h0.length g2 .nils 8 ([]:List AV):=KL.nil;refine zG (v:=.agg [a0,a1,a2,a3,a4,a5,a6,a7]) rfl rfl ?_;simp only[go_sem];refine zx ((k0.mono (u2:=h0.length) (by omega)).push (by omega)) (o2.push (o:=.row 8 [.agg [a0,a1,a2,a3,a4,a5,a6,a7]] true) (nLr _)) (by simp) (by omega) (by omega) (by simp) (by simp) ?_;intro kk3 nn3 g3 k3 y3 z3;rw[zK]at z3;simp only[go_sem];have q3:PS h id (prS toks b2 bad2) g3:=⟨(y3 id hid).trans (by rw[gAl (zL q2.at')];exact q2.at'),by omega,fun j hj hl=>by
  rw[y3 j hl,gAl (by omega)];exact q2.old j hj hl⟩
 refine Sem.loop (fun s:Nat×List qD×AV×Nat×Bool×List qB=>s.1<=f/\(s.2.2.2.1<toks.length->s.2.2.2.2.1=false->20*(toks.length-(s.2.2.2.1+1))+7<=s.1)/\(∀y c bad',SPr (gd s.2.2.2.2.1 s.2.2.2.1 (if isP toks s.2.2.2.1 [44]then pM toks s.1 (.con x1 s.2.1) (s.2.2.2.1+1)else exB (qQ toks [93] s.2.2.2.1) fun _ b=>.ok (tmk 8 0 x1 s.2.1,b))) y c bad'->SPr (pM toks (f+1) (.con x1 []) (a+1+1)) y c bad')/\a<=s.2.2.2.1/\s.2.2.2.1<=toks.length/\PS h id (prS toks s.2.2.2.1 s.2.2.2.2.1) s.2.2.2.2.2/\KL h.length s.2.2.2.2.2.length s.2.2.2.2.2 s.2.2.1 8 (s.2.1.map qD.enc)/\s.2.1.length<=s.2.2.2.1+1/\∃kk nn,s.2.2.1=.slice 8 kk 0 nn false)
  (fun s=>(⟨[(0,.ptr id 0 0)],[(2,.agg [.int .i64 0,.int .i64 0,.str [],.int .i64 0,.str [],.nils,.nils,.nils]),(3,.agg [.int .i64 8,.int .i64 0,.str x1,.int .i64 0,.str [],.nils,.nils,s.2.2.1])],s.2.2.2.2.2⟩:VSt)) (fun s=>toks.length-s.2.2.2.1) (f,[t2],.slice 8 kk3 0 nn3 false,b2,bad2,g3) (by kernel_rfl) ?_ (Can.sub (by simp[go_sem]) (by simp[go_sem])) ?_
 ·refine⟨nLr _,fun h1 h2=>by simp only at h1|-;omega,fun y c bad' q=> ?_,by simp only;omega,l2,q3,by simpa using k3,by simp,_,_,rfl⟩;simp only[pM,lNa];rw[<-qp (a:=a+1+1) (r:=exB _ _)];exact s2.bind q
 clear s2 k0 k3 y3 z3 q3 q2 r2 o2 l2 q0 r0 hl2 hl0;rintro⟨f',ks',w7,d,bd,g⟩ ⟨i1,i2,i3,i4,i5,i6,i7,i8,kk,nn,rfl⟩;simp only at i1 i2 i3 i4 i5 i6 i7 i8;simp only[go_sem];have hl6:=i6.len;refine qN ((wF (s:=[44]) K (.inl rfl) i6.at').mono ?_);rintro v0 h4 (⟨rfl,hc,rfl,r0⟩ | ⟨hc,rfl,rfl⟩)
 case inl=>
  have hlt:=qV hc;have hl0:=r0.len;have i2:=i2 hlt rfl;simp only[go_sem];rw[hc,if_pos rfl,qp]at i3;obtain⟨f3,rfl⟩:∃f3,f'=f3+1:=⟨f'-1,by omega⟩;have q0:=i6.trans r0;have i7:=i7.ps (nLr _) (by omega) r0;refine qN (((H f3 (by omega)).term (d+1) false _ (by unfold mJ;simp only[Jb.rk];omega) hlt q0.at').mono ?_);rintro v h3 ⟨u,c,bad3,s3,m3,l3,r3,o3⟩;have hl3:=r3.len;have i7:=i7.ps hl0 (by omega) r3;have q3:=q0.trans r3;obtain⟨a0,a1,a2,a3,a4,a5,a6,a7,rfl⟩:=o3.shape;simp only[go_sem];refine zG (v:=.agg [a0,a1,a2,a3,a4,a5,a6,a7]) rfl rfl ?_;simp only[go_sem];have hlk:(ks'.map qD.enc).length<4294967296:=by rw[lMp];have:=K.l;omega
  refine zx ((i7.mono (u2:=h4.length) hl0).push hl3) (o3.push (o:=.row 8 [.agg [a0,a1,a2,a3,a4,a5,a6,a7]] true) (nLr _)) (by simp) (by omega) (by omega) (by simp) hlk ?_;intro kk nn g5 k5 y5 z5;rw[zK]at z5;simp only[go_sem];have q5:PS h id (prS toks c bad3) g5:=⟨(y5 id hid).trans (by rw[gAl (zL q3.at')];exact q3.at'),by omega,fun j hj hl=>by
   rw[y5 j hl,gAl (by omega)];exact q3.old j hj hl⟩
  refine qf (f3,ks'++[u],.slice 8 kk 0 nn false,c,bad3,g5) ⟨by simp only;omega,fun h1 h2=>by simp only at h1|-;omega,fun y e bad' q=>i3 y e bad' ?_,by simp only;omega,l3,q5,by simpa using k5,by simp only[lAp,lCo,lNi];omega,_,_,rfl⟩ (by simp only;omega) (Can.sub (by simp[go_sem]) (by simp[go_sem]));simp only[pM];rw[<-qp (a:=d+1) (r:=exB _ _)];exact s3.bind q
 simp only[go_sem];refine qN ((jN (s:=[93]) K (.inl rfl) i5 i6.at').mono ?_);rintro w5 g5 ⟨b5,bad5,s5,m5,l5,r5⟩;simp only[go_sem];have hl5:=r5.len;have q5:=i6.trans r5;have k5:=i7.ps (nLr _) (by omega) r5;refine qK rfl rfl ⟨_,rfl⟩ (by decide) ?_;simp only[go_sem];refine⟨tmk 8 0 x1 ks',b5,bad5,i3 _ _ _ (by
  cases bd
  ·have hc:isP toks d [44]=false:=hc;rw[hc,if_neg (by decide)];exact s5.bind SPr.ret
  ·have:=s5;obtain⟨rfl,rfl⟩:=this;exact SPr.bd),by omega,l5,q5,QM (k5.mono hl5).ow q5.len⟩
theorem qZ1(K:qv toks)(H:∀f',f'<=f->wk toks id f'):∀(a:Nat)(h:List qB),mJ toks .mat (a+1)<=f+1->isP toks a [109,97,116,99,104]=true->h[id]?=some (prS toks a false)->SCall Gm 1552 [.ptr id 0 0] h (fun v h'=>RS toks id h (pM toks (f+1) .mat (a+1)) a v h'):=by
 intro a h hf hm ho;have hid:=zL ho;have hla:=qV hm;refine sI VP ?_;simp only[VP,qI,go_sem];refine qN ((jN (s:=[109,97,116,99,104]) K (.inr rfl) (by omega) ho).mono ?_);rintro w1 g1 ⟨b1,bad1,s1,m1,l1,q1⟩;rw[qp,qQ,if_pos hm]at s1;obtain⟨_,rfl,rfl⟩:=s1;have hl1:=q1.len;simp only[go_sem];refine qN (((H f (nLr _)).term (a+1) false _ (jo hf (by decide)) l1 q1.at').mono ?_);rintro w2 g2 ⟨t2,b2,bad2,s2,m2,l2,r2,o2⟩;obtain⟨a0,a1,a2,a3,a4,a5,a6,a7,rfl⟩:=o2.shape;simp only[go_sem];have hl2:=r2.len;have q2:=q1.trans r2;refine zG (v:=.agg [a0,a1,a2,a3,a4,a5,a6,a7]) rfl rfl ?_;simp only[go_sem];refine qK rfl rfl ⟨_,rfl⟩ (by decide) ?_;simp only[go_sem];have q3:=q2.push (x:=.row 8 [.agg [a0,a1,a2,a3,a4,a5,a6,a7]] true);have k3:=JD (w:=8) (B:=h.length) ((o2.push (o:=.row 8 [.agg [a0,a1,a2,a3,a4,a5,a6,a7]] true) (nLr _)).mono (b':=h.length) (by omega) (nLr _)) (k:=g2.length) (by simp) (nLr _) (by omega);have hl3:g2.length+1=(g2++[qB.row 8 [.agg [a0,a1,a2,a3,a4,a5,a6,a7]] true]).length:=by simp
 rw[hl3]at k3;generalize g2++[qB.row 8 [.agg [a0,a1,a2,a3,a4,a5,a6,a7]] true]=g3 at q3 k3 hl3|-;refine qN ((jN (s:=[123]) K (.inl rfl) l2 q3.at').mono ?_);rintro w4 g4 ⟨b4,bad4,s4,m4,l4,r4⟩;simp only[go_sem];have hl4:=r4.len;replace k3:=k3.ps (by omega) (by omega) r4;have q4:=q3.trans r4;obtain⟨f2,rfl⟩:∃f2,f=f2+1:=⟨f-1,by unfold mJ at hf;simp only[Jb.rk]at hf;omega⟩;refine qN (((H f2 (by omega)).bran b4 bad4 _ (by unfold mJ at hf|-;simp only[Jb.rk]at hf|-;omega) l4 q4.at').mono ?_);rintro w5 g5 ⟨t5,b5,bad5,s5,m5,l5,r5,o5⟩;obtain⟨a0,a1,a2,a3,a4,a5,a6,a7,rfl⟩:=o5.shape;simp only[go_sem];have hl5:=r5.len;replace k3:=k3.ps (by omega) (by omega) r5;have q5:=q4.trans r5;refine zG (v:=.agg [a0,a1,a2,a3,a4,a5,a6,a7]) rfl rfl ?_;simp only[go_sem];refine zx ((k3.mono (u2:=g4.length) (by omega)).push (by omega)) (o5.push (o:=.row 8 [.agg [a0,a1,a2,a3,a4,a5,a6,a7]] true) (nLr _)) (by simp) (by omega) (by omega) (by simp) (by simp) ?_;intro kk6 nn6 g6 k6 y6 z6;rw[zK]at z6;simp only[go_sem];have q6:PS h id (prS toks b5 bad5) g6:=⟨(y6 id hid).trans (by rw[gAl (zL q5.at')];exact q5.at'),by omega,fun j hj hl=>by
  rw[y6 j hl,gAl (by omega)];exact q5.old j hj hl⟩
 refine Sem.loop (fun s:Nat×List qD×AV×Nat×Bool×List qB=>s.1<=f2+1/\(s.2.2.2.1<toks.length->s.2.2.2.2.1=false->20*(toks.length-(s.2.2.2.1+1))+2<=s.1)/\(∀y c bad',SPr (gd s.2.2.2.2.1 s.2.2.2.1 (if isP toks s.2.2.2.1 [59]then pM toks s.1 (.matL s.2.1) (s.2.2.2.1+1)else exB (qQ toks [125] s.2.2.2.1) fun _ b=>.ok (tmk 9 0 [] s.2.1,b))) y c bad'->SPr (pM toks (f2+1+1) .mat (a+1)) y c bad')/\a<=s.2.2.2.1/\s.2.2.2.1<=toks.length/\PS h id (prS toks s.2.2.2.1 s.2.2.2.2.1) s.2.2.2.2.2/\KL h.length s.2.2.2.2.2.length s.2.2.2.2.2 s.2.2.1 8 (s.2.1.map qD.enc)/\s.2.1.length<=s.2.2.2.1+1/\∃kk nn,s.2.2.1=.slice 8 kk 0 nn false)
  (fun s=>(⟨[(0,.ptr id 0 0)],[(2,.agg [.int .i64 0,.int .i64 0,.str [],.int .i64 0,.str [],.nils,.nils,.nils]),(3,.agg [.int .i64 9,.int .i64 0,.str [],.int .i64 0,.str [],.nils,.nils,s.2.2.1])],s.2.2.2.2.2⟩:VSt)) (fun s=>toks.length-s.2.2.2.1) (f2,[t2,t5],.slice 8 kk6 0 nn6 false,b5,bad5,g6) (by kernel_rfl) ?_ (Can.sub (by simp[go_sem]) (by simp[go_sem])) ?_
 ·refine⟨by simp only;omega,fun h1 h2=>by unfold mJ at hf;simp only[Jb.rk]at hf;simp only at h1|-;omega,fun y c bad' q=> ?_,by simp only;omega,l5,q6,by simpa using k6,by simp only[lCo,lNi];omega,_,_,rfl⟩;simp only[pM,lCa,lNa];rw[<-qp (a:=a+1) (r:=exB _ _)];exact s2.bind (s4.bind (s5.bind q))
 clear s2 s4 s5 k3 k6 y6 z6 q3 q6 q4 q5 r2 r4 r5 o2 o5 q2 q1;rintro⟨f',ks',w7,d,bd,g⟩ ⟨i1,i2,i3,i4,i5,i6,i7,i8,kk,nn,rfl⟩;simp only at i1 i2 i3 i4 i5 i6 i7 i8;simp only[go_sem];have hl6:=i6.len;refine qN ((wF (s:=[59]) K (.inl rfl) i6.at').mono ?_);rintro v0 h4 (⟨rfl,hc,rfl,r0⟩ | ⟨hc,rfl,rfl⟩)
 case inl=>
  have hlt:=qV hc;have hl0:=r0.len;have i2:=i2 hlt rfl;simp only[go_sem];rw[hc,if_pos rfl,qp]at i3;obtain⟨f3,rfl⟩:∃f3,f'=f3+1:=⟨f'-1,by omega⟩;have q0:=i6.trans r0;have i7:=i7.ps (nLr _) (by omega) r0;refine qN (((H f3 (by omega)).bran (d+1) false _ (by unfold mJ;simp only[Jb.rk];omega) hlt q0.at').mono ?_);rintro v h3 ⟨u,c,bad3,s3,m3,l3,r3,o3⟩;have hl3:=r3.len;have i7:=i7.ps hl0 (by omega) r3;have q3:=q0.trans r3;obtain⟨a0,a1,a2,a3,a4,a5,a6,a7,rfl⟩:=o3.shape;simp only[go_sem];refine zG (v:=.agg [a0,a1,a2,a3,a4,a5,a6,a7]) rfl rfl ?_;simp only[go_sem];have hlk:(ks'.map qD.enc).length<4294967296:=by rw[lMp];have:=K.l;omega
  refine zx ((i7.mono (u2:=h4.length) hl0).push hl3) (o3.push (o:=.row 8 [.agg [a0,a1,a2,a3,a4,a5,a6,a7]] true) (nLr _)) (by simp) (by omega) (by omega) (by simp) hlk ?_;intro kk nn g5 k5 y5 z5;rw[zK]at z5;simp only[go_sem];have q5:PS h id (prS toks c bad3) g5:=⟨(y5 id hid).trans (by rw[gAl (zL q3.at')];exact q3.at'),by omega,fun j hj hl=>by
   rw[y5 j hl,gAl (by omega)];exact q3.old j hj hl⟩
  refine qf (f3,ks'++[u],.slice 8 kk 0 nn false,c,bad3,g5) ⟨by simp only;omega,fun h1 h2=>by simp only at h1|-;omega,fun y e bad' q=>i3 y e bad' ?_,by simp only;omega,l3,q5,by simpa using k5,by simp only[lAp,lCo,lNi];omega,_,_,rfl⟩ (by simp only;omega) (Can.sub (by simp[go_sem]) (by simp[go_sem]));simp only[pM];rw[<-qp (a:=d+1) (r:=exB _ _)];exact s3.bind q
 simp only[go_sem];refine qN ((jN (s:=[125]) K (.inl rfl) i5 i6.at').mono ?_);rintro w5 g5 ⟨b5,bad5,s5,m5,l5,r5⟩;simp only[go_sem];have hl5:=r5.len;have q5:=i6.trans r5;have k5:=i7.ps (nLr _) (by omega) r5;refine qK rfl rfl ⟨_,rfl⟩ (by decide) ?_;simp only[go_sem];refine⟨tmk 9 0 [] ks',b5,bad5,i3 _ _ _ (by
  cases bd
  ·have hc:isP toks d [59]=false:=hc;rw[hc,if_neg (by decide)];exact s5.bind SPr.ret
  ·have:=s5;obtain⟨rfl,rfl⟩:=this;exact SPr.bd),by omega,l5,q5,QM (k5.mono hl5).ow q5.len⟩
end
end Go.Ab
namespace Go.Ab
open Go
set_option maxRecDepth 10000
set_option maxHeartbeats 2000000
section
variable {h:List qB} {id a b f:Nat} {toks:List qJ} {bad:Bool}
theorem KY{k:Int}(h:kdS toks a false k=false){t:qJ}(ht:toks[a]?=some t):t.Kind≠k:=by
 unfold kdS at h;rw[ht]at h;simpa using h
theorem qZ2(K:qv toks)(H:∀f',f'<=f->wk toks id f'):CS toks id 1537 (f+1) .pre:=by
 intro a bad h hf ha ho;have hid:=zL ho;refine sI VJ ?_;simp only[VJ,qI,go_sem];refine qN ((wF (s:=[33]) K (.inl rfl) ho).mono ?_);rintro v0 h0 (⟨rfl,hb,rfl,r0⟩ | ⟨hb,rfl,rfl⟩)
 case inl=>
  have hlt:=qV hb;have hl0:=r0.len;simp only[go_sem];refine qN (((H f (nLr _)).pre (a+1) false _ (zq hf (by omega) hlt) hlt r0.at').mono ?_);rintro v h1 ⟨t,b,bad1,s1,m1,l1,r1,o1⟩;have hl1:=r1.len;obtain⟨a0,a1,a2,a3,a4,a5,a6,a7,rfl⟩:=o1.shape;simp only[go_sem];refine zG (v:=.agg [a0,a1,a2,a3,a4,a5,a6,a7]) rfl rfl ?_;simp only[go_sem];refine qK rfl rfl ⟨_,rfl⟩ (by decide) ?_;simp only[go_sem];refine⟨tmk 6 0 [] [t],b,bad1, ?_,by omega,l1,(r0.trans r1).push, ?_⟩
  ·rw[qp];simp only[pM,hb,if_true];rw[<-qp (a:=a+1) (r:=exB _ _)];exact s1.bind SPr.ret
  rw[zK];exact wi (ts:=[t]) (o1.mono (by omega) (nLr _)).one (nLr _) (by omega) rfl
 simp only[go_sem];refine qZ rfl (Qp ho) ?_;simp only[go_sem];cases k1:kdS toks a bad 1
 case true=>
  obtain⟨_,rfl,_⟩:=QC k1;obtain⟨s,hw,t,e1,e2,e3⟩:=Ka k1;simp only[go_sem];refine qN ((JJ (k:=1) K ha ho).mono ?_);rintro w g ⟨x,b,bad1,s1,m1,l1,rfl,r1⟩;rw[qp,hw]at s1;obtain⟨rfl,rfl,rfl⟩:=s1;simp only[go_sem];refine qK rfl rfl ⟨_,rfl⟩ (by decide) ?_;simp only[go_sem];refine⟨tmk 1 0 x [],a+1,false, ?_,m1,l1,r1,QL r1.len⟩;rw[qp];simp only[pM,KZ k1 (by decide) (by decide),bFt,if_false,e1,if_pos e2];exact⟨by rw[e3],rfl,rfl⟩
 simp only[go_sem];refine qZ rfl (Qp ho) ?_;simp only[go_sem];cases k2:kdS toks a bad 2
 case true=>
  obtain⟨_,rfl,_⟩:=QC k2;obtain⟨s,hw,t,e1,e2,e3⟩:=Ka k2;simp only[go_sem];refine qN (((H f (nLr _)).con a h s (by unfold mJ at hf;simp only[Jb.rk]at hf;have:=(ji hw).2.1;omega) hw ho).mono ?_);rintro v h1 ⟨t',b,bad1,s1,m1,l1,r1,o1⟩;obtain⟨a0,a1,a2,a3,a4,a5,a6,a7,rfl⟩:=o1.shape;simp only[go_sem];refine qK rfl rfl ⟨_,rfl⟩ (by decide) ?_;simp only[go_sem];refine⟨t',b,bad1, ?_,m1,l1,r1,o1⟩;rw[qp];simp only[pM,KZ k2 (by decide) (by decide),bFt,if_false,e1,if_neg (show ¬t.Kind=1 by rw[e2];decide),if_pos e2,e3];exact s1
 simp only[go_sem];refine qZ rfl (Qp ho) ?_;simp only[go_sem];cases k4:kdS toks a bad 4
 case true=>
  obtain⟨_,rfl,_⟩:=QC k4;obtain⟨s,hw,t,e1,e2,e3⟩:=Ka k4;simp only[go_sem];refine qN ((qS8 (neg:=false) (m:=2147483647) K rfl ha ho).mono ?_);rintro w g ⟨n,b,bad1,hn,s1,m1,l1,rfl,r1⟩;simp only[go_sem];refine qK rfl rfl ⟨_,rfl⟩ (by decide) ?_;simp only[go_sem];refine⟨tmk 2 n [] [],b,bad1, ?_,m1,l1,r1,QL r1.len⟩;rw[qp]at s1|-;simp only[pM,KZ k4 (by decide) (by decide),bFt,if_false,e1,if_neg (show ¬t.Kind=1 by rw[e2];decide),if_neg (show ¬t.Kind=2 by rw[e2];decide)];exact s1
 simp only[go_sem];refine qZ rfl (WK ho) ?_;simp only[go_sem];rw[KW K.w (.inr rfl)];cases hm:(!bad&&isP toks a [109,97,116,99,104])
 case true=>
  rw[bAt]at hm;obtain⟨hb2,hm⟩:=hm;have hb2:bad=false:=by simpa using hb2
  subst hb2;have hb:isP toks a [33]=false:=hb;have hlt:=qV hm;have h40:isP toks a [40]=false:=by
   unfold isP at hm|-;rw[gEg hlt]at hm|-;simp only[bAt,dTe]at hm;simp[hm.1]
  simp only[go_sem];refine qN (((H f (nLr _)).mat a h (zq hf (by omega) hlt) hm ho).mono ?_);rintro v h1 ⟨t',b,bad1,s1,m1,l1,r1,o1⟩;obtain⟨a0,a1,a2,a3,a4,a5,a6,a7,rfl⟩:=o1.shape;simp only[go_sem];refine qK rfl rfl ⟨_,rfl⟩ (by decide) ?_;simp only[go_sem];refine⟨t',b,bad1, ?_,m1,l1,r1,o1⟩;rw[qp];simp only[pM,hb,h40,hm,bFt,if_false,if_true];exact s1
 simp only[go_sem];have ep:∀y c bad',SPr (gd bad a (exB (qQ toks [40] a) fun _ b=>pM toks f .encl b)) y c bad'->SPr (gd bad a (pM toks (f+1) .pre a)) y c bad':=fun y c bad' q=>by
  cases bad
  ·have hb:isP toks a [33]=false:=hb;have hm:isP toks a [109,97,116,99,104]=false:=hm;rw[qp]at q|-;cases h4:isP toks a [40]
   ·simp only[pM,hb,h4,hm,bFt,if_false];simp only[qQ,h4,bFt,if_false,qo]at q;cases ht:toks[a]? with
    | none=>exact q
    | some t=>
     simp only[if_neg (KY k1 ht),if_neg (KY k2 ht),jG,ht];rw[if_neg fun z=>KY k4 ht z.1];exact q
   ·simp only[pM,hb,h4,bFt,if_false,if_true];simp only[qQ,h4,if_true,qe]at q;exact q
  ·exact q
 refine qN ((jN (s:=[40]) K (.inl rfl) ha ho).mono ?_);rintro w1 g1 ⟨b1,bad1,s1,m1,l1,r1⟩;have hl1:=r1.len;have hb1:bad1=false->b1=a+1:=by rintro rfl;exact(WN s1).1
 simp only[go_sem];have ee:∀y c bad',SPr (gd bad1 b1 (exB (if isP toks b1 [45]then jG toks true (b1+1)else pM toks (f-1) .term b1) fun t b=>exB (qQ toks [41] b) fun _ b=>.ok (t,b))) y c bad'->SPr (gd bad a (pM toks (f+1) .pre a)) y c bad':=fun y c bad' q=>ep _ _ _ (s1.bind (by
  cases bad1
  ·obtain⟨f2,rfl⟩:∃f2,f=f2+1:=⟨f-1,by have:=hb1 rfl;unfold mJ at hf;simp only[Jb.rk]at hf;omega⟩;simp only[pM];exact q
  ·exact q))
 refine qN ((wF (s:=[45]) K (.inl rfl) r1.at').mono ?_);rintro v0 g2 (⟨rfl,hd,rfl,r2⟩ | ⟨hd,rfl,rfl⟩)
 case inl=>
  have hlt:=qV hd;have q2:=r1.trans r2;simp only[go_sem];refine qN ((qS8 (neg:=true) (m:=2147483648) K rfl hlt q2.at').mono ?_);rintro w g3 ⟨n,b3,bad3,hn,s3,m3,l3,rfl,r3⟩;have q3:=q2.trans r3;simp only[go_sem];refine qN ((jN (s:=[41]) K (.inl rfl) l3 q3.at').mono ?_);rintro w1 g4 ⟨b4,bad4,s4,m4,l4,r4⟩;have q4:=q3.trans r4;simp only[go_sem];refine qK rfl rfl ⟨_,rfl⟩ (by decide) ?_;simp only[go_sem];refine⟨tmk 2 (-n) [] [],b4,bad4,ee _ _ _ ?_,by omega,l4,q4,(by rw[zF (n:=0-n) (by omega) (by omega),Int.zero_sub];exact QL q4.len)⟩;rw[qp,if_pos hd,<-qp (a:=b1+1) (r:=exB _ _)];exact s3.bind (s4.bind SPr.ret)
 simp only[go_sem];refine qN ((Xy (f:=f-1) K (H (f-1) (by omega)).term (by rintro rfl;have:=hb1 rfl;unfold mJ at hf|-;simp only[Jb.rk]at hf|-;omega) l1 r1.at').mono ?_);rintro v g3 ⟨t,b3,bad3,s3,m3,l3,r3,o3⟩;have q3:=r1.trans r3;obtain⟨a0,a1,a2,a3,a4,a5,a6,a7,rfl⟩:=o3.shape;simp only[go_sem];refine qK rfl rfl ⟨_,rfl⟩ (by decide) ?_;simp only[go_sem];have hl3:=r3.len;refine qN ((jN (s:=[41]) K (.inl rfl) l3 q3.at').mono ?_);rintro w1 g4 ⟨b4,bad4,s4,m4,l4,r4⟩;have q4:=q3.trans r4;simp only[go_sem];refine qK rfl rfl ⟨_,rfl⟩ (by decide) ?_;simp only[go_sem];refine⟨t,b4,bad4,ee _ _ _ ?_,by omega,l4,q4,(o3.ps (nLr _) (by omega) r4).mono hl1 r4.len⟩;cases bad1
 ·have hd:isP toks b1 [45]=false:=hd;rw[hd,if_neg (by decide)];exact s3.bind (s4.bind SPr.ret)
 ·obtain⟨rfl,rfl⟩:=s3;obtain⟨rfl,rfl⟩:=s4;exact SPr.bd
theorem allS(K:qv toks):∀f,wk toks id f:=by
 intro f
 induction f using Nat.strongRecOn with
 | _ f ih=>
 cases f with
 | zero=>
  exact⟨fun a bad h hf=>(Jo hf).elim,fun a bad h hf=>(Jo hf).elim,fun a bad h hf=>(Jo hf).elim,fun a bad h hf=>(Jo hf).elim,fun a bad h hf=>(Jo hf).elim,fun a bad h hf=>(Jo hf).elim,fun a bad h hf=>(Jo hf).elim,fun a h hf=>(Jo hf).elim,fun a h s hf=>by omega⟩
 | succ f=>
  have H:∀f',f'<=f->wk toks id f':=fun f' hf=>ih f' (by omega);exact⟨qZ5 K H,qZZ K H,qZ4 K H,qZ3 K H,qZX K H,qZ2 K H,qZY K H,qZ1 K H,qZ0 K H⟩
end
end Go.Ab
namespace Go.Ab
open Go
set_option maxRecDepth 10000
set_option maxHeartbeats 2000000
def kLo(k:Int):Int:=if k=1\/k=2 then 0 else if k=4\/k=6\/k=10 then 1 else if k=3\/k=5\/k=7 then 2 else if k=8 then 0 else if k=9 then 2 else if k=11 then 3 else 0
def kHi(k:Int):Int:=if k=1\/k=2 then 0 else if k=4\/k=6\/k=10 then 1 else if k=3\/k=5\/k=7 then 2 else if k=8 then 3 else if k=9 then 5 else if k=11 then 3 else-1
theorem Kb(k:Int):k=1\/k=2\/k=3\/k=4\/k=5\/k=6\/k=7\/k=8\/k=9\/k=10\/k=11\/(¬k=1/\¬k=2/\¬k=3/\¬k=4/\¬k=5/\¬k=6/\¬k=7/\¬k=8/\¬k=9/\¬k=10/\¬k=11):=by omega
def zU(t:qC):Bool:=decide (t.Kind=0)&&(decide (t.Name=[])&&decide (t.Kids.length=0))
def QD(ns:List Str)(s:Str):Nat->Int
 | 0=> -1
 | n+1=>if ns[n]?=some s then(n:Int)else QD ns s n
theorem qQM{ns:List Str}{s:Str}:∀{n:Nat},n<=ns.length->decide (0<=QD ns s n)=(ns.take n).any fun y=>y==s
 | 0,_=>by simp[QD]
 | n+1,h=>by
  have hlt:n<ns.length:=by omega
  have ht:ns.take (n+1)=ns.take n++[ns[n]]:=by rw[List.take_add_one,gEg hlt];rfl
  rw[ht,List.any_append,List.any_cons,List.any_nil,Bool.or_false,QD,gEg hlt];by_cases q:ns[n]=s
  ·simp[q]
  ·rw[if_neg (by simpa using q),qQM (by omega)];simp[q]
def wO(pre:List Str):List Str->Bool
 |[]=>true
 | x::xs=>zY x&&(!(pre.any fun y=>y==x)&&wO (pre++[x]) xs)
def qO(t:qD):Bool:=
 (if t.Kind=1\/t.Kind=4\/t.Kind=7 then zY t.Name else if t.Kind=8\/t.Kind=10 then zT t.Name else decide (t.Name=[]))&&
 ((if t.Kind=4 then ja t.Typ else zU t.Typ)&&
 ((if t.Kind=10 then decide (t.Names.length<=3)&&wO [] t.Names else decide (t.Names.length=0))&&
 (if t.Kind=2 then decide (-2147483648<=t.Num)&&decide (t.Num<=2147483647)else if t.Kind=3 then decide (1<=t.Num)&&decide (t.Num<=6)else decide (t.Num=0))))
def qb(t:qD):Bool:=(decide (kLo t.Kind<=t.Kids.length)&&decide ((t.Kids.length:Int)<=kHi t.Kind))&&qO t
theorem qbF{s m:Nat->Option AV}{h:AH}{w i:Nat}{x y:Ao}{xs:List AV}(hx:ev s x=some (.lst w xs false))(hy:ev s y=some (.int .i64 (i:Nat)))(hi:i<=xs.length):val (.slc w x none (some y) none) s m h=some (.lst w (xs.take i) false):=by
 simp[val,hx,hy,bnd,hi]
theorem kD{E:Ev}{d:Option Nat}{l:List qA}{ks:List Fr1}{st:VSt}{Q:qR->VSt->Prop}{s m:qj}{h:List qB}{w i:Nat}{x y:Ao}{xs:List AV}(hx:ev (toE s) x=some (.lst w xs false))(hy:ev (toE s) y=some (.int .i64 (i:Nat)))(hi:i<=xs.length)(q:Put E (some (.lst w (xs.take i) false)) d l ks st Q):Put E (val (.slc w x none (some y) none) (toE s) (toE m) (toH h)) d l ks st Q:=by
 have e:=qbF (w:=w) (m:=toE m) (h:=toH h) hx hy hi;rw[e];exact q
theorem qQ7{ns:List Str}{i:Nat}(h:i<ns.length):wO (ns.take i) (ns.drop i)=(zY ns[i]&&(!((ns.take i).any fun y=>y==ns[i])&&wO (ns.take (i+1)) (ns.drop (i+1)))):=by
 have hd:ns.drop i=ns[i]::ns.drop (i+1):=by simp
 have ht:ns.take (i+1)=ns.take i++[ns[i]]:=by rw[List.take_add_one,gEg h];rfl
 rw[hd,wO,ht]
theorem qUJ{k:Int}:Pure Gm 1104 [.int .i64 k] (.tup [.int .i64 (kLo k),.int .i64 (kHi k)]):=by
 refine pJ YT ?_;simp only[YT,qI,go_sem];rcases Kb k with rfl | rfl | rfl | rfl | rfl | rfl | rfl | rfl | rfl | rfl | rfl | ⟨h1,h2,h3,h4,h5,h6,h7,h8,h9,h10,h11⟩
 case' inr.inr.inr.inr.inr.inr.inr.inr.inr.inr.inr=>simp only[h1,h2,h3,h4,h5,h6,h7,h8,h9,h10,h11,decide_false,go_sem]
 all_goals (try simp only[Int.reduceEq,decide_true,decide_false,go_sem])
 all_goals exact zJ rfl (by simp_all[kLo,kHi])
theorem wt{t:qC}:Pure Gm 1391 [t.enc] (.bool (zU t)):=by
 refine pJ Yy ?_;simp only[Yy,qI,go_sem];refine zV qC.ln ?_;simp only[go_sem];have z0:decide (((t.Kids.length:Nat):Int)=0)=decide (t.Kids.length=0):=by rw[decide_eq_decide];omega
 by_cases h1:t.Kind=0
 ·simp only[h1,decide_true,go_sem];by_cases h2:t.Name=[]
  ·simp only[h2,decide_true,go_sem,z0];exact qE rfl (by simp[zU,h1,h2])
  ·simp only[decide_eq_false h2,go_sem];exact qE rfl (by simp[zU,h1,h2])
 ·simp only[decide_eq_false h1,go_sem];exact qE rfl (by simp[zU,h1])
theorem c729{ns:List Str}{s:Str}(hl:ns.length<=4194304):Pure Gm 729 [.lst 1 (ns.map qW) false,.str s] (.int .i64 (QD ns s ns.length)):=by
 refine pI UA (by simp[AV.trees,AV.tree,zM shS.tree]) rfl ?_;simp only[UA,qI,go_sem];simp only[lMp,zF (n:=(ns.length:Int)-1) (by omega) (by omega),go_sem];refine Sem.loop (fun n:Nat=>n<=ns.length/\QD ns s ns.length=QD ns s n) (fun n=>(⟨[(0,.lst 1 (ns.map qW) false),(1,.str s),(5,.int .i64 ((n:Int)-1))],[],[]⟩:VSt)) (fun n=>n) ns.length (by kernel_rfl) ⟨nLr _,rfl⟩ (Can.sub (by simp[go_sem]) (by simp[go_sem])) ?_;rintro n ⟨hn,hI⟩;simp only[go_sem];cases n with
 | zero=>
  simp only[show decide (((0:Nat):Int)-1≥0)=false from rfl,ge_iff_le,go_sem];exact qE rfl (by rw[hI];rfl)
 | succ n=>
  have e0:((n+1:Nat):Int)-1=(n:Int):=by omega
  have e1:decide ((0:Int)<=(n:Int))=true:=decide_eq_true (by omega);have hlt:n<ns.length:=by omega
  simp only[e0,ge_iff_le,e1,gMp,gEg hlt,oMs,qW,go_sem];rw[QD,gEg hlt]at hI;by_cases q:ns[n]=s
  ·simp only[decide_eq_true q,go_sem];exact qE rfl (by rw[hI,if_pos (by rw[q])])
  ·simp only[decide_eq_false q,go_sem,zF (n:=(n:Int)-1) (by omega) (by omega)];rw[if_neg (by simpa using q)]at hI;exact qf n ⟨by omega,hI⟩ (by omega) (Can.sub (by simp[go_sem]) (by simp[go_sem]))
theorem qUV{ns:List Str}(hl:ns.length<=4194304)(hx:∀s∈ns,s.length<=20000):Pure Gm 1392 [.lst 1 (ns.map qW) false] (.bool (wO [] ns)):=by
 refine pI Yz (by simp[AV.trees,AV.tree,zM shS.tree]) rfl ?_;simp only[Yz,qI,go_sem];refine Sem.loop (fun i:Nat=>i<=ns.length/\wO [] ns=wO (ns.take i) (ns.drop i)) (fun i=>(⟨[(0,.lst 1 (ns.map qW) false),(3,.int .i64 (i:Nat))],[],[]⟩:VSt)) (fun i=>ns.length-i) 0 (by kernel_rfl) ⟨nZl _,rfl⟩ (Can.sub (by simp[go_sem]) (by simp[go_sem])) ?_;rintro i ⟨hi,hI⟩;simp only[lMp,go_sem];by_cases hlt:i<ns.length
 ·have e1:decide ((i:Int)<(ns.length:Nat))=true:=decide_eq_true (by omega);rw[qQ7 hlt]at hI;simp only[e1,gMp,gEg hlt,oMs,qW,go_sem];refine qG (Qb (by have:=hx _ (gMm hlt);omega)) ?_;simp only[go_sem];cases h1:zY ns[i]
  ·simp only[Bool.not_false,go_sem];exact qE rfl (by rw[hI,h1,Bool.false_and])
  simp only[Bool.not_true,gMp,gEg hlt,oMs,qW,lMp,go_sem];refine kD (i:=i) (xs:=ns.map qW) rfl rfl (by rw[lMp];omega) ?_;rw[<-List.map_take];simp only[gMp,gEg hlt,oMs,qW,go_sem];refine qG (c729 (by rw[lLt];omega)) ?_;have hg:=qQM (ns:=ns.take i) (s:=ns[i]) (nLr _);rw[lTl]at hg;simp only[ge_iff_le,hg,go_sem];cases h2:(ns.take i).any fun y=>y==ns[i]
  ·simp only[zC (show i<4611686018427387904 by omega),go_sem];exact qf (i+1) ⟨by omega,by rw[hI,h1,h2];rfl⟩ (by omega) (Can.sub (by simp[go_sem]) (by simp[go_sem]))
  ·simp only[go_sem];exact qE rfl (by rw[hI,h1,h2];rfl)
 ·have e1:decide ((i:Int)<(ns.length:Nat))=false:=decide_eq_false (by omega);simp only[e1,go_sem];obtain rfl:i=ns.length:=by omega
  exact qE rfl (by rw[hI,List.drop_length,wO])
theorem qU5{ks:List qC}(hl:ks.length<=4194304):Pure Gm 332 [.lst 3 (ks.map qC.enc) false,.nils,.fn 73 []] (.bool (decide (ks.length=0))):=by
 refine pI Vj (by simp[AV.trees,AV.tree,zM qC.isSh.tree]) rfl ?_;simp only[Vj,qI,go_sem];by_cases h0:ks.length=0
 ·have e:decide (((ks.length:Nat):Int)=0)=true:=decide_eq_true (by omega);simp only[e,Bool.not_true,lMp,go_sem];refine Sem.loop (fun i:Nat=>i=0) (fun i=>(⟨[(1,.nils),(2,.fn 73 []),(15,.lst 3 (ks.map qC.enc) false),(16,.int .i64 ks.length),(17,.int .i64 (i:Nat))],[],[]⟩:VSt)) (fun i=>0) 0 (by kernel_rfl) rfl (Can.sub (by simp[go_sem]) (by simp[go_sem])) ?_;rintro i rfl;have e2:decide (((0:Nat):Int)<((ks.length:Nat):Int))=false:=decide_eq_false (by omega);simp only[e2,go_sem];exact qE rfl (by rw[decide_eq_true h0])
 ·have e:decide (((ks.length:Nat):Int)=0)=false:=decide_eq_false (by omega);simp only[e,Bool.not_false,go_sem];exact qE rfl (by rw[decide_eq_false h0])
theorem c73z{t:qC}(hl:t.Kids.length<=4194304):Pure Gm 73 [t.enc,.agg [.int .i64 0,.str [],.nils]] (.bool (zU t)):=by
 refine pJ F73 ?_;simp only[F73,qI,go_sem];refine zV qC.ln ?_;simp only[go_sem];refine zV rfl ?_;simp only[go_sem];by_cases h1:t.Kind=0
 ·simp only[h1,decide_true,go_sem];by_cases h2:t.Name=[]
  ·simp only[h2,decide_true,go_sem];refine qG (qU5 hl) ?_;simp only[go_sem];exact qE rfl (by simp[zU,h1,h2])
  ·simp only[decide_eq_false h2,go_sem];exact qE rfl (by simp[zU,h1,h2])
 ·simp only[decide_eq_false h1,go_sem];exact qE rfl (by simp[zU,h1])
theorem qUN{t:qC}(hl:t.Kids.length<=4194304):Pure Gm 1143 [t.enc] (.bool (zU t)):=by
 refine pJ YY ?_;simp only[YY,qI,go_sem];refine zV qC.ln ?_;simp only[go_sem];refine qG (c73z hl) ?_;simp only[go_sem];exact qE rfl rfl
theorem qUO{ns:List Str}(hl:ns.length<=1048576)(hx:∀s∈ns,s.length<=20000):Pure Gm 1144 [.lst 1 (ns.map qW) false] (.bool (decide (ns.length<=3)&&wO [] ns)):=by
 refine pI YZ (by simp[AV.trees,AV.tree,zM shS.tree]) rfl ?_;simp only[YZ,qI,go_sem];refine Sem.loop (fun i:Nat=>i<=ns.length/\wO [] ns=wO (ns.take i) (ns.drop i)) (fun i=>(⟨[(0,.lst 1 (ns.map qW) false),(5,.lst 1 (ns.map qW) false),(6,.int .i64 ns.length),(7,.int .i64 (i:Nat))],[],[]⟩:VSt)) (fun i=>ns.length-i) 0 (by kernel_rfl) ⟨nZl _,rfl⟩ (Can.sub (by simp[go_sem]) (by simp[go_sem])) ?_;rintro i ⟨hi,hI⟩;simp only[go_sem];by_cases hlt:i<ns.length
 ·have e1:decide ((i:Int)<(ns.length:Nat))=true:=decide_eq_true (by omega);rw[qQ7 hlt]at hI;simp only[e1,gMp,gEg hlt,oMs,qW,go_sem];refine qG (jz (by have:=hx _ (gMm hlt);omega)) ?_;simp only[go_sem];cases h1:zY ns[i]
  ·simp only[Bool.not_false,go_sem];exact qE rfl (by rw[hI,h1,Bool.false_and,Bool.and_false])
  simp only[Bool.not_true,gMp,gEg hlt,oMs,qW,lMp,go_sem];refine kD (i:=i) (xs:=ns.map qW) rfl rfl (by rw[lMp];omega) ?_;rw[<-List.map_take];simp only[gMp,gEg hlt,oMs,qW,go_sem];refine qG (c732 (by rw[lLt];omega)) ?_;have hg:((ns.take i).any fun x=>ns[i]==x)=((ns.take i).any fun y=>y==ns[i]):=by congr 1;funext x;exact Bool.beq_comm
  simp only[hg,go_sem];cases h2:(ns.take i).any fun y=>y==ns[i]
  ·simp only[zC (show i<4611686018427387904 by omega),go_sem];exact qf (i+1) ⟨by omega,by rw[hI,h1,h2];rfl⟩ (by omega) (Can.sub (by simp[go_sem]) (by simp[go_sem]))
  ·simp only[go_sem];exact qE rfl (by rw[hI,h1,h2,Bool.not_true,Bool.false_and,Bool.and_false,Bool.and_false])
 ·have e1:decide ((i:Int)<(ns.length:Nat))=false:=decide_eq_false (by omega);simp only[e1,go_sem];obtain rfl:i=ns.length:=by omega
  have hz:decide (((ns.length:Nat):Int)<=3)=decide (ns.length<=3):=by rw[decide_eq_decide];omega
  exact qE rfl (by rw[hI,List.drop_length,wO,Bool.and_true,hz])
end Go.Ab
namespace Go.Ab
open Go
set_option maxRecDepth 10000
set_option maxHeartbeats 2000000
structure TB(x:qD):Prop where
 n:x.Name.length<=20000
 t:x.Typ.bd
 tn:x.Typ.nd<=1048576
 tk:x.Typ.Kids.length<=4194304
 s:∀s∈x.Names,s.length<=20000
 l:x.Names.length<=1048576
 k:x.Kids.length<=4194304
theorem qUK{t:qD}(B:TB t):Pure Gm 1105 [.ept t.enc 0] (.bool (qO t)):=by
 refine pJ YU ?_;simp only[YU,qI,go_sem];have B1:t.Name.length<=4611686018427387904:=by have:=B.n;omega
 have z0:decide ((0:Int)<((t.Names.length:Nat):Int))= !decide (t.Names.length=0):=by
  by_cases h:t.Names.length=0
  ·simp[h]
  ·simp[h];omega
 have z3:decide ((3:Int)<((t.Names.length:Nat):Int))= !decide (t.Names.length<=3):=by
  by_cases h:t.Names.length<=3
  ·simp[h];omega
  ·simp[h];omega
 rcases Kb t.Kind with hk | hk | hk | hk | hk | hk | hk | hk | hk | hk | hk | ⟨h1,h2,h3,h4,h5,h6,h7,h8,h9,h10,h11⟩
 ·simp only[hk,Int.reduceEq,decide_true,decide_false,Bool.not_true,Bool.not_false,ge_iff_le,gt_iff_lt,z0,z3,go_sem];refine qG (Qb B1) ?_;cases hL:zY t.Name
  ·simp only[hk,Int.reduceEq,decide_true,decide_false,Bool.not_true,Bool.not_false,ge_iff_le,gt_iff_lt,z0,z3,go_sem];exact qE rfl (by simp[qO,hk,hL])
  simp only[hk,Int.reduceEq,decide_true,decide_false,Bool.not_true,Bool.not_false,ge_iff_le,gt_iff_lt,z0,z3,go_sem];refine qG (wt) ?_;cases hT:zU t.Typ
  ·simp only[hk,Int.reduceEq,decide_true,decide_false,Bool.not_true,Bool.not_false,ge_iff_le,gt_iff_lt,z0,z3,go_sem];exact qE rfl (by simp[qO,hk,hL,hT])
  simp only[hk,Int.reduceEq,decide_true,decide_false,Bool.not_true,Bool.not_false,ge_iff_le,gt_iff_lt,z0,z3,go_sem];by_cases hN:t.Names.length=0
  case neg=>
   simp only[decide_eq_false hN,hk,Int.reduceEq,decide_true,decide_false,Bool.not_true,Bool.not_false,ge_iff_le,gt_iff_lt,z0,z3,go_sem];exact qE rfl (by simp only[qO,hk,hL,hT,hN];simp_all)
  simp only[decide_eq_true hN,hk,Int.reduceEq,decide_true,decide_false,Bool.not_true,Bool.not_false,ge_iff_le,gt_iff_lt,z0,z3,go_sem];exact qE rfl (by simp[qO,hk,hL,hT,hN])
 ·simp only[hk,Int.reduceEq,decide_true,decide_false,Bool.not_true,Bool.not_false,ge_iff_le,gt_iff_lt,z0,z3,go_sem];by_cases hL:t.Name=[]
  case neg=>
   simp only[decide_eq_false hL,hk,Int.reduceEq,decide_true,decide_false,Bool.not_true,Bool.not_false,ge_iff_le,gt_iff_lt,z0,z3,go_sem];exact qE rfl (by simp[qO,hk,hL])
  simp only[decide_eq_true hL,hk,Int.reduceEq,decide_true,decide_false,Bool.not_true,Bool.not_false,ge_iff_le,gt_iff_lt,z0,z3,go_sem];refine qG (wt) ?_;cases hT:zU t.Typ
  ·simp only[hk,Int.reduceEq,decide_true,decide_false,Bool.not_true,Bool.not_false,ge_iff_le,gt_iff_lt,z0,z3,go_sem];exact qE rfl (by simp[qO,hk,hL,hT])
  simp only[hk,Int.reduceEq,decide_true,decide_false,Bool.not_true,Bool.not_false,ge_iff_le,gt_iff_lt,z0,z3,go_sem];by_cases hN:t.Names.length=0
  case neg=>
   simp only[decide_eq_false hN,hk,Int.reduceEq,decide_true,decide_false,Bool.not_true,Bool.not_false,ge_iff_le,gt_iff_lt,z0,z3,go_sem];exact qE rfl (by simp only[qO,hk,hL,hT,hN];simp_all)
  simp only[decide_eq_true hN,hk,Int.reduceEq,decide_true,decide_false,Bool.not_true,Bool.not_false,ge_iff_le,gt_iff_lt,z0,z3,go_sem];refine qG J1 ?_;simp only[hk,Int.reduceEq,decide_true,decide_false,Bool.not_true,Bool.not_false,ge_iff_le,gt_iff_lt,z0,z3,go_sem];exact qE rfl (by simp[qO,hk,hL,hT,hN])
 ·simp only[hk,Int.reduceEq,decide_true,decide_false,Bool.not_true,Bool.not_false,ge_iff_le,gt_iff_lt,z0,z3,go_sem];by_cases hL:t.Name=[]
  case neg=>
   simp only[decide_eq_false hL,hk,Int.reduceEq,decide_true,decide_false,Bool.not_true,Bool.not_false,ge_iff_le,gt_iff_lt,z0,z3,go_sem];exact qE rfl (by simp[qO,hk,hL])
  simp only[decide_eq_true hL,hk,Int.reduceEq,decide_true,decide_false,Bool.not_true,Bool.not_false,ge_iff_le,gt_iff_lt,z0,z3,go_sem];refine qG (wt) ?_;cases hT:zU t.Typ
  ·simp only[hk,Int.reduceEq,decide_true,decide_false,Bool.not_true,Bool.not_false,ge_iff_le,gt_iff_lt,z0,z3,go_sem];exact qE rfl (by simp[qO,hk,hL,hT])
  simp only[hk,Int.reduceEq,decide_true,decide_false,Bool.not_true,Bool.not_false,ge_iff_le,gt_iff_lt,z0,z3,go_sem];by_cases hN:t.Names.length=0
  case neg=>
   simp only[decide_eq_false hN,hk,Int.reduceEq,decide_true,decide_false,Bool.not_true,Bool.not_false,ge_iff_le,gt_iff_lt,z0,z3,go_sem];exact qE rfl (by simp only[qO,hk,hL,hT,hN];simp_all)
  simp only[decide_eq_true hN,hk,Int.reduceEq,decide_true,decide_false,Bool.not_true,Bool.not_false,ge_iff_le,gt_iff_lt,z0,z3,go_sem];refine qG J1 ?_;simp only[hk,Int.reduceEq,decide_true,decide_false,Bool.not_true,Bool.not_false,ge_iff_le,gt_iff_lt,z0,z3,go_sem];exact qE rfl (by simp[qO,hk,hL,hT,hN])
 ·simp only[hk,Int.reduceEq,decide_true,decide_false,Bool.not_true,Bool.not_false,ge_iff_le,gt_iff_lt,z0,z3,go_sem];refine qG (Qb B1) ?_;cases hL:zY t.Name
  ·simp only[hk,Int.reduceEq,decide_true,decide_false,Bool.not_true,Bool.not_false,ge_iff_le,gt_iff_lt,z0,z3,go_sem];exact qE rfl (by simp[qO,hk,hL])
  simp only[hk,Int.reduceEq,decide_true,decide_false,Bool.not_true,Bool.not_false,ge_iff_le,gt_iff_lt,z0,z3,go_sem];refine qG (Uw B.t B.tn) ?_;cases hT:ja t.Typ
  ·simp only[hk,Int.reduceEq,decide_true,decide_false,Bool.not_true,Bool.not_false,ge_iff_le,gt_iff_lt,z0,z3,go_sem];exact qE rfl (by simp[qO,hk,hL,hT])
  simp only[hk,Int.reduceEq,decide_true,decide_false,Bool.not_true,Bool.not_false,ge_iff_le,gt_iff_lt,z0,z3,go_sem];by_cases hN:t.Names.length=0
  case neg=>
   simp only[decide_eq_false hN,hk,Int.reduceEq,decide_true,decide_false,Bool.not_true,Bool.not_false,ge_iff_le,gt_iff_lt,z0,z3,go_sem];exact qE rfl (by simp only[qO,hk,hL,hT,hN];simp_all)
  simp only[decide_eq_true hN,hk,Int.reduceEq,decide_true,decide_false,Bool.not_true,Bool.not_false,ge_iff_le,gt_iff_lt,z0,z3,go_sem];exact qE rfl (by simp[qO,hk,hL,hT,hN])
 ·simp only[hk,Int.reduceEq,decide_true,decide_false,Bool.not_true,Bool.not_false,ge_iff_le,gt_iff_lt,z0,z3,go_sem];by_cases hL:t.Name=[]
  case neg=>
   simp only[decide_eq_false hL,hk,Int.reduceEq,decide_true,decide_false,Bool.not_true,Bool.not_false,ge_iff_le,gt_iff_lt,z0,z3,go_sem];exact qE rfl (by simp[qO,hk,hL])
  simp only[decide_eq_true hL,hk,Int.reduceEq,decide_true,decide_false,Bool.not_true,Bool.not_false,ge_iff_le,gt_iff_lt,z0,z3,go_sem];refine qG (wt) ?_;cases hT:zU t.Typ
  ·simp only[hk,Int.reduceEq,decide_true,decide_false,Bool.not_true,Bool.not_false,ge_iff_le,gt_iff_lt,z0,z3,go_sem];exact qE rfl (by simp[qO,hk,hL,hT])
  simp only[hk,Int.reduceEq,decide_true,decide_false,Bool.not_true,Bool.not_false,ge_iff_le,gt_iff_lt,z0,z3,go_sem];by_cases hN:t.Names.length=0
  case neg=>
   simp only[decide_eq_false hN,hk,Int.reduceEq,decide_true,decide_false,Bool.not_true,Bool.not_false,ge_iff_le,gt_iff_lt,z0,z3,go_sem];exact qE rfl (by simp only[qO,hk,hL,hT,hN];simp_all)
  simp only[decide_eq_true hN,hk,Int.reduceEq,decide_true,decide_false,Bool.not_true,Bool.not_false,ge_iff_le,gt_iff_lt,z0,z3,go_sem];exact qE rfl (by simp[qO,hk,hL,hT,hN])
 ·simp only[hk,Int.reduceEq,decide_true,decide_false,Bool.not_true,Bool.not_false,ge_iff_le,gt_iff_lt,z0,z3,go_sem];by_cases hL:t.Name=[]
  case neg=>
   simp only[decide_eq_false hL,hk,Int.reduceEq,decide_true,decide_false,Bool.not_true,Bool.not_false,ge_iff_le,gt_iff_lt,z0,z3,go_sem];exact qE rfl (by simp[qO,hk,hL])
  simp only[decide_eq_true hL,hk,Int.reduceEq,decide_true,decide_false,Bool.not_true,Bool.not_false,ge_iff_le,gt_iff_lt,z0,z3,go_sem];refine qG (wt) ?_;cases hT:zU t.Typ
  ·simp only[hk,Int.reduceEq,decide_true,decide_false,Bool.not_true,Bool.not_false,ge_iff_le,gt_iff_lt,z0,z3,go_sem];exact qE rfl (by simp[qO,hk,hL,hT])
  simp only[hk,Int.reduceEq,decide_true,decide_false,Bool.not_true,Bool.not_false,ge_iff_le,gt_iff_lt,z0,z3,go_sem];by_cases hN:t.Names.length=0
  case neg=>
   simp only[decide_eq_false hN,hk,Int.reduceEq,decide_true,decide_false,Bool.not_true,Bool.not_false,ge_iff_le,gt_iff_lt,z0,z3,go_sem];exact qE rfl (by simp only[qO,hk,hL,hT,hN];simp_all)
  simp only[decide_eq_true hN,hk,Int.reduceEq,decide_true,decide_false,Bool.not_true,Bool.not_false,ge_iff_le,gt_iff_lt,z0,z3,go_sem];exact qE rfl (by simp[qO,hk,hL,hT,hN])
 ·simp only[hk,Int.reduceEq,decide_true,decide_false,Bool.not_true,Bool.not_false,ge_iff_le,gt_iff_lt,z0,z3,go_sem];refine qG (Qb B1) ?_;cases hL:zY t.Name
  ·simp only[hk,Int.reduceEq,decide_true,decide_false,Bool.not_true,Bool.not_false,ge_iff_le,gt_iff_lt,z0,z3,go_sem];exact qE rfl (by simp[qO,hk,hL])
  simp only[hk,Int.reduceEq,decide_true,decide_false,Bool.not_true,Bool.not_false,ge_iff_le,gt_iff_lt,z0,z3,go_sem];refine qG (wt) ?_;cases hT:zU t.Typ
  ·simp only[hk,Int.reduceEq,decide_true,decide_false,Bool.not_true,Bool.not_false,ge_iff_le,gt_iff_lt,z0,z3,go_sem];exact qE rfl (by simp[qO,hk,hL,hT])
  simp only[hk,Int.reduceEq,decide_true,decide_false,Bool.not_true,Bool.not_false,ge_iff_le,gt_iff_lt,z0,z3,go_sem];by_cases hN:t.Names.length=0
  case neg=>
   simp only[decide_eq_false hN,hk,Int.reduceEq,decide_true,decide_false,Bool.not_true,Bool.not_false,ge_iff_le,gt_iff_lt,z0,z3,go_sem];exact qE rfl (by simp only[qO,hk,hL,hT,hN];simp_all)
  simp only[decide_eq_true hN,hk,Int.reduceEq,decide_true,decide_false,Bool.not_true,Bool.not_false,ge_iff_le,gt_iff_lt,z0,z3,go_sem];exact qE rfl (by simp[qO,hk,hL,hT,hN])
 ·simp only[hk,Int.reduceEq,decide_true,decide_false,Bool.not_true,Bool.not_false,ge_iff_le,gt_iff_lt,z0,z3,go_sem];refine qG (Je B1) ?_;cases hL:zT t.Name
  ·simp only[hk,Int.reduceEq,decide_true,decide_false,Bool.not_true,Bool.not_false,ge_iff_le,gt_iff_lt,z0,z3,go_sem];exact qE rfl (by simp[qO,hk,hL])
  simp only[hk,Int.reduceEq,decide_true,decide_false,Bool.not_true,Bool.not_false,ge_iff_le,gt_iff_lt,z0,z3,go_sem];refine qG (wt) ?_;cases hT:zU t.Typ
  ·simp only[hk,Int.reduceEq,decide_true,decide_false,Bool.not_true,Bool.not_false,ge_iff_le,gt_iff_lt,z0,z3,go_sem];exact qE rfl (by simp[qO,hk,hL,hT])
  simp only[hk,Int.reduceEq,decide_true,decide_false,Bool.not_true,Bool.not_false,ge_iff_le,gt_iff_lt,z0,z3,go_sem];by_cases hN:t.Names.length=0
  case neg=>
   simp only[decide_eq_false hN,hk,Int.reduceEq,decide_true,decide_false,Bool.not_true,Bool.not_false,ge_iff_le,gt_iff_lt,z0,z3,go_sem];exact qE rfl (by simp only[qO,hk,hL,hT,hN];simp_all)
  simp only[decide_eq_true hN,hk,Int.reduceEq,decide_true,decide_false,Bool.not_true,Bool.not_false,ge_iff_le,gt_iff_lt,z0,z3,go_sem];exact qE rfl (by simp[qO,hk,hL,hT,hN])
 ·simp only[hk,Int.reduceEq,decide_true,decide_false,Bool.not_true,Bool.not_false,ge_iff_le,gt_iff_lt,z0,z3,go_sem];by_cases hL:t.Name=[]
  case neg=>
   simp only[decide_eq_false hL,hk,Int.reduceEq,decide_true,decide_false,Bool.not_true,Bool.not_false,ge_iff_le,gt_iff_lt,z0,z3,go_sem];exact qE rfl (by simp[qO,hk,hL])
  simp only[decide_eq_true hL,hk,Int.reduceEq,decide_true,decide_false,Bool.not_true,Bool.not_false,ge_iff_le,gt_iff_lt,z0,z3,go_sem];refine qG (wt) ?_;cases hT:zU t.Typ
  ·simp only[hk,Int.reduceEq,decide_true,decide_false,Bool.not_true,Bool.not_false,ge_iff_le,gt_iff_lt,z0,z3,go_sem];exact qE rfl (by simp[qO,hk,hL,hT])
  simp only[hk,Int.reduceEq,decide_true,decide_false,Bool.not_true,Bool.not_false,ge_iff_le,gt_iff_lt,z0,z3,go_sem];by_cases hN:t.Names.length=0
  case neg=>
   simp only[decide_eq_false hN,hk,Int.reduceEq,decide_true,decide_false,Bool.not_true,Bool.not_false,ge_iff_le,gt_iff_lt,z0,z3,go_sem];exact qE rfl (by simp only[qO,hk,hL,hT,hN];simp_all)
  simp only[decide_eq_true hN,hk,Int.reduceEq,decide_true,decide_false,Bool.not_true,Bool.not_false,ge_iff_le,gt_iff_lt,z0,z3,go_sem];exact qE rfl (by simp[qO,hk,hL,hT,hN])
 ·simp only[hk,Int.reduceEq,decide_true,decide_false,Bool.not_true,Bool.not_false,ge_iff_le,gt_iff_lt,z0,z3,go_sem];refine qG (Je B1) ?_;cases hL:zT t.Name
  ·simp only[hk,Int.reduceEq,decide_true,decide_false,Bool.not_true,Bool.not_false,ge_iff_le,gt_iff_lt,z0,z3,go_sem];exact qE rfl (by simp[qO,hk,hL])
  simp only[hk,Int.reduceEq,decide_true,decide_false,Bool.not_true,Bool.not_false,ge_iff_le,gt_iff_lt,z0,z3,go_sem];refine qG (wt) ?_;cases hT:zU t.Typ
  ·simp only[hk,Int.reduceEq,decide_true,decide_false,Bool.not_true,Bool.not_false,ge_iff_le,gt_iff_lt,z0,z3,go_sem];exact qE rfl (by simp[qO,hk,hL,hT])
  simp only[hk,Int.reduceEq,decide_true,decide_false,Bool.not_true,Bool.not_false,ge_iff_le,gt_iff_lt,z0,z3,go_sem];by_cases hN:t.Names.length<=3
  case neg=>
   simp only[decide_eq_false hN,hk,Int.reduceEq,decide_true,decide_false,Bool.not_true,Bool.not_false,ge_iff_le,gt_iff_lt,z0,z3,go_sem];exact qE rfl (by simp[qO,hk,hL,hT,hN])
  simp only[decide_eq_true hN,hk,Int.reduceEq,decide_true,decide_false,Bool.not_true,Bool.not_false,ge_iff_le,gt_iff_lt,z0,z3,go_sem];refine qG (qUV (by have:=B.l;omega) B.s) ?_;cases hD:wO [] t.Names
  ·simp only[hk,Int.reduceEq,decide_true,decide_false,Bool.not_true,Bool.not_false,ge_iff_le,gt_iff_lt,z0,z3,go_sem];exact qE rfl (by simp[qO,hk,hL,hT,hN,hD])
  simp only[hk,Int.reduceEq,decide_true,decide_false,Bool.not_true,Bool.not_false,ge_iff_le,gt_iff_lt,z0,z3,go_sem];exact qE rfl (by simp[qO,hk,hL,hT,hN,hD])
 ·simp only[hk,Int.reduceEq,decide_true,decide_false,Bool.not_true,Bool.not_false,ge_iff_le,gt_iff_lt,z0,z3,go_sem];by_cases hL:t.Name=[]
  case neg=>
   simp only[decide_eq_false hL,hk,Int.reduceEq,decide_true,decide_false,Bool.not_true,Bool.not_false,ge_iff_le,gt_iff_lt,z0,z3,go_sem];exact qE rfl (by simp[qO,hk,hL])
  simp only[decide_eq_true hL,hk,Int.reduceEq,decide_true,decide_false,Bool.not_true,Bool.not_false,ge_iff_le,gt_iff_lt,z0,z3,go_sem];refine qG (wt) ?_;cases hT:zU t.Typ
  ·simp only[hk,Int.reduceEq,decide_true,decide_false,Bool.not_true,Bool.not_false,ge_iff_le,gt_iff_lt,z0,z3,go_sem];exact qE rfl (by simp[qO,hk,hL,hT])
  simp only[hk,Int.reduceEq,decide_true,decide_false,Bool.not_true,Bool.not_false,ge_iff_le,gt_iff_lt,z0,z3,go_sem];by_cases hN:t.Names.length=0
  case neg=>
   simp only[decide_eq_false hN,hk,Int.reduceEq,decide_true,decide_false,Bool.not_true,Bool.not_false,ge_iff_le,gt_iff_lt,z0,z3,go_sem];exact qE rfl (by simp only[qO,hk,hL,hT,hN];simp_all)
  simp only[decide_eq_true hN,hk,Int.reduceEq,decide_true,decide_false,Bool.not_true,Bool.not_false,ge_iff_le,gt_iff_lt,z0,z3,go_sem];exact qE rfl (by simp[qO,hk,hL,hT,hN])
 ·simp only[h1,h2,h3,h4,h5,h6,h7,h8,h9,h10,h11,Int.reduceEq,decide_true,decide_false,Bool.not_true,Bool.not_false,ge_iff_le,gt_iff_lt,z0,z3,go_sem];by_cases hL:t.Name=[]
  case neg=>
   simp only[decide_eq_false hL,h1,h2,h3,h4,h5,h6,h7,h8,h9,h10,h11,Int.reduceEq,decide_true,decide_false,Bool.not_true,Bool.not_false,ge_iff_le,gt_iff_lt,z0,z3,go_sem];exact qE rfl (by simp[qO,h1,h2,h3,h4,h5,h6,h7,h8,h9,h10,h11,hL])
  simp only[decide_eq_true hL,h1,h2,h3,h4,h5,h6,h7,h8,h9,h10,h11,Int.reduceEq,decide_true,decide_false,Bool.not_true,Bool.not_false,ge_iff_le,gt_iff_lt,z0,z3,go_sem];refine qG (wt) ?_;cases hT:zU t.Typ
  ·simp only[h1,h2,h3,h4,h5,h6,h7,h8,h9,h10,h11,Int.reduceEq,decide_true,decide_false,Bool.not_true,Bool.not_false,ge_iff_le,gt_iff_lt,z0,z3,go_sem];exact qE rfl (by simp[qO,h1,h2,h3,h4,h5,h6,h7,h8,h9,h10,h11,hL,hT])
  simp only[h1,h2,h3,h4,h5,h6,h7,h8,h9,h10,h11,Int.reduceEq,decide_true,decide_false,Bool.not_true,Bool.not_false,ge_iff_le,gt_iff_lt,z0,z3,go_sem];by_cases hN:t.Names.length=0
  case neg=>
   simp only[decide_eq_false hN,h1,h2,h3,h4,h5,h6,h7,h8,h9,h10,h11,Int.reduceEq,decide_true,decide_false,Bool.not_true,Bool.not_false,ge_iff_le,gt_iff_lt,z0,z3,go_sem];exact qE rfl (by simp only[qO,h1,h2,h3,h4,h5,h6,h7,h8,h9,h10,h11,hL,hT,hN];simp_all)
  simp only[decide_eq_true hN,h1,h2,h3,h4,h5,h6,h7,h8,h9,h10,h11,Int.reduceEq,decide_true,decide_false,Bool.not_true,Bool.not_false,ge_iff_le,gt_iff_lt,z0,z3,go_sem];exact qE rfl (by simp[qO,h1,h2,h3,h4,h5,h6,h7,h8,h9,h10,h11,hL,hT,hN])
end Go.Ab
namespace Go.Ab
open Go
set_option maxRecDepth 10000
set_option maxHeartbeats 2000000
theorem qYY{t:qD}(h:qb t=true):kLo t.Kind<=t.Kids.length/\(t.Kids.length:Int)<=kHi t.Kind:=by
 simp only[qb,bAt,dTe]at h;exact h.1
theorem WO{t:qD}{lo hi:Int}(h1:kLo t.Kind=lo)(h2:kHi t.Kind=hi)(h:¬(lo<=t.Kids.length/\(t.Kids.length:Int)<=hi)):false=qb t:=by
 cases e:qb t
 ·rfl
 ·have:=qYY e;rw[h1,h2]at this;exact absurd this h
theorem c807{t:qD}(B:TB t):Pure Gm 807 [t.enc] (.bool (qb t)):=by
 refine pJ UF ?_;simp only[UF,qI,go_sem];have B1:t.Name.length<=4611686018427387904:=by have:=B.n;omega
 have z0:decide ((0:Int)<((t.Names.length:Nat):Int))= !decide (t.Names.length=0):=by
  by_cases h:t.Names.length=0
  ·simp[h]
  ·simp[h];omega
 have zn:t.Names.length=0↔t.Names=[]:=List.length_eq_zero_iff;refine zV qD.ln ?_;simp only[go_sem];refine qG (qUN B.tk) ?_;simp only[go_sem];rcases Kb t.Kind with hk | hk | hk | hk | hk | hk | hk | hk | hk | hk | hk | ⟨h1,h2,h3,h4,h5,h6,h7,h8,h9,h10,h11⟩
 ·simp only[hk,Int.reduceEq,decide_true,decide_false,Bool.not_true,Bool.not_false,ge_iff_le,gt_iff_lt,z0,go_sem];by_cases hN:t.Names.length=0
  case neg=>
   simp only[decide_eq_false hN,hk,Int.reduceEq,decide_true,decide_false,Bool.not_true,Bool.not_false,ge_iff_le,gt_iff_lt,z0,go_sem];have hN:¬t.Names=[]:=fun q=>hN (zn.2 q);exact qE rfl (congrArg AV.bool (by rw[Bool.eq_iff_iff];simp[qb,kLo,kHi,qO,hk,hN]))
  simp only[decide_eq_true hN,hk,Int.reduceEq,decide_true,decide_false,Bool.not_true,Bool.not_false,ge_iff_le,gt_iff_lt,z0,go_sem];have hN:t.Names=[]:=zn.1 hN;cases hT:zU t.Typ
  case false=>
   simp only[hk,Int.reduceEq,decide_true,decide_false,Bool.not_true,Bool.not_false,ge_iff_le,gt_iff_lt,z0,go_sem];exact qE rfl (congrArg AV.bool (by rw[Bool.eq_iff_iff];simp[qb,kLo,kHi,qO,hk,hN,hT]))
  simp only[hk,Int.reduceEq,decide_true,decide_false,Bool.not_true,Bool.not_false,ge_iff_le,gt_iff_lt,z0,go_sem];by_cases hM:t.Num=0
  case neg=>
   simp only[decide_eq_false hM,hk,Int.reduceEq,decide_true,decide_false,Bool.not_true,Bool.not_false,ge_iff_le,gt_iff_lt,z0,go_sem];exact qE rfl (congrArg AV.bool (by rw[Bool.eq_iff_iff];simp[qb,kLo,kHi,qO,hk,hN,hT,hM]))
  simp only[decide_eq_true hM,hk,Int.reduceEq,decide_true,decide_false,Bool.not_true,Bool.not_false,ge_iff_le,gt_iff_lt,z0,go_sem];refine qG (jz B1) ?_;simp only[hk,Int.reduceEq,decide_true,decide_false,Bool.not_true,Bool.not_false,ge_iff_le,gt_iff_lt,z0,go_sem];refine qG (jm B1) ?_;simp only[hk,Int.reduceEq,decide_true,decide_false,Bool.not_true,Bool.not_false,ge_iff_le,gt_iff_lt,z0,go_sem];cases hL:zY t.Name
  case false=>
   simp only[hk,Int.reduceEq,decide_true,decide_false,Bool.not_true,Bool.not_false,ge_iff_le,gt_iff_lt,z0,go_sem];exact qE rfl (congrArg AV.bool (by rw[Bool.eq_iff_iff];simp[qb,kLo,kHi,qO,hk,hN,hT,hM,hL]))
  simp only[hk,Int.reduceEq,decide_true,decide_false,Bool.not_true,Bool.not_false,ge_iff_le,gt_iff_lt,z0,go_sem];exact qE rfl (congrArg AV.bool (by rw[Bool.eq_iff_iff];simp[qb,kLo,kHi,qO,hk,hN,hT,hM,hL]<;>omega))
 ·simp only[hk,Int.reduceEq,decide_true,decide_false,Bool.not_true,Bool.not_false,ge_iff_le,gt_iff_lt,z0,go_sem];by_cases hN:t.Names.length=0
  case neg=>
   simp only[decide_eq_false hN,hk,Int.reduceEq,decide_true,decide_false,Bool.not_true,Bool.not_false,ge_iff_le,gt_iff_lt,z0,go_sem];have hN:¬t.Names=[]:=fun q=>hN (zn.2 q);exact qE rfl (congrArg AV.bool (by rw[Bool.eq_iff_iff];simp[qb,kLo,kHi,qO,hk,hN]))
  simp only[decide_eq_true hN,hk,Int.reduceEq,decide_true,decide_false,Bool.not_true,Bool.not_false,ge_iff_le,gt_iff_lt,z0,go_sem];have hN:t.Names=[]:=zn.1 hN;cases hT:zU t.Typ
  case false=>
   simp only[hk,Int.reduceEq,decide_true,decide_false,Bool.not_true,Bool.not_false,ge_iff_le,gt_iff_lt,z0,go_sem];exact qE rfl (congrArg AV.bool (by rw[Bool.eq_iff_iff];simp[qb,kLo,kHi,qO,hk,hN,hT]))
  simp only[hk,Int.reduceEq,decide_true,decide_false,Bool.not_true,Bool.not_false,ge_iff_le,gt_iff_lt,z0,go_sem];refine qG (jz B1) ?_;simp only[hk,Int.reduceEq,decide_true,decide_false,Bool.not_true,Bool.not_false,ge_iff_le,gt_iff_lt,z0,go_sem];refine qG (jm B1) ?_;simp only[hk,Int.reduceEq,decide_true,decide_false,Bool.not_true,Bool.not_false,ge_iff_le,gt_iff_lt,z0,go_sem];by_cases hL:t.Name=[]
  case neg=>
   simp only[decide_eq_false hL,hk,Int.reduceEq,decide_true,decide_false,Bool.not_true,Bool.not_false,ge_iff_le,gt_iff_lt,z0,go_sem];exact qE rfl (congrArg AV.bool (by rw[Bool.eq_iff_iff];simp[qb,kLo,kHi,qO,hk,hN,hT,hL]))
  simp only[decide_eq_true hL,hk,Int.reduceEq,decide_true,decide_false,Bool.not_true,Bool.not_false,ge_iff_le,gt_iff_lt,z0,go_sem];by_cases hC:((t.Kids.length:Nat):Int)=0
  case neg=>
   simp only[decide_eq_false hC,hk,Int.reduceEq,decide_true,decide_false,Bool.not_true,Bool.not_false,ge_iff_le,gt_iff_lt,z0,go_sem];exact qE rfl (congrArg AV.bool (WO (lo:=0) (hi:=0) (by rw[hk];decide) (by rw[hk];decide) (by omega)))
  simp only[decide_eq_true hC,hk,Int.reduceEq,decide_true,decide_false,Bool.not_true,Bool.not_false,ge_iff_le,gt_iff_lt,z0,go_sem];refine qG (qON) ?_;simp only[hk,Int.reduceEq,decide_true,decide_false,Bool.not_true,Bool.not_false,ge_iff_le,gt_iff_lt,z0,go_sem];exact qE rfl (congrArg AV.bool (by rw[Bool.eq_iff_iff];simp[qb,kLo,kHi,qO,hk,hN,hT,hL,hC]))
 ·simp only[hk,Int.reduceEq,decide_true,decide_false,Bool.not_true,Bool.not_false,ge_iff_le,gt_iff_lt,z0,go_sem];by_cases hN:t.Names.length=0
  case neg=>
   simp only[decide_eq_false hN,hk,Int.reduceEq,decide_true,decide_false,Bool.not_true,Bool.not_false,ge_iff_le,gt_iff_lt,z0,go_sem];have hN:¬t.Names=[]:=fun q=>hN (zn.2 q);exact qE rfl (congrArg AV.bool (by rw[Bool.eq_iff_iff];simp[qb,kLo,kHi,qO,hk,hN]))
  simp only[decide_eq_true hN,hk,Int.reduceEq,decide_true,decide_false,Bool.not_true,Bool.not_false,ge_iff_le,gt_iff_lt,z0,go_sem];have hN:t.Names=[]:=zn.1 hN;cases hT:zU t.Typ
  case false=>
   simp only[hk,Int.reduceEq,decide_true,decide_false,Bool.not_true,Bool.not_false,ge_iff_le,gt_iff_lt,z0,go_sem];exact qE rfl (congrArg AV.bool (by rw[Bool.eq_iff_iff];simp[qb,kLo,kHi,qO,hk,hN,hT]))
  simp only[hk,Int.reduceEq,decide_true,decide_false,Bool.not_true,Bool.not_false,ge_iff_le,gt_iff_lt,z0,go_sem];refine qG (jz B1) ?_;simp only[hk,Int.reduceEq,decide_true,decide_false,Bool.not_true,Bool.not_false,ge_iff_le,gt_iff_lt,z0,go_sem];refine qG (jm B1) ?_;simp only[hk,Int.reduceEq,decide_true,decide_false,Bool.not_true,Bool.not_false,ge_iff_le,gt_iff_lt,z0,go_sem];by_cases hL:t.Name=[]
  case neg=>
   simp only[decide_eq_false hL,hk,Int.reduceEq,decide_true,decide_false,Bool.not_true,Bool.not_false,ge_iff_le,gt_iff_lt,z0,go_sem];exact qE rfl (congrArg AV.bool (by rw[Bool.eq_iff_iff];simp[qb,kLo,kHi,qO,hk,hN,hT,hL]))
  simp only[decide_eq_true hL,hk,Int.reduceEq,decide_true,decide_false,Bool.not_true,Bool.not_false,ge_iff_le,gt_iff_lt,z0,go_sem];by_cases hC:((t.Kids.length:Nat):Int)=2
  case neg=>
   simp only[decide_eq_false hC,hk,Int.reduceEq,decide_true,decide_false,Bool.not_true,Bool.not_false,ge_iff_le,gt_iff_lt,z0,go_sem];exact qE rfl (congrArg AV.bool (WO (lo:=2) (hi:=2) (by rw[hk];decide) (by rw[hk];decide) (by omega)))
  simp only[decide_eq_true hC,hk,Int.reduceEq,decide_true,decide_false,Bool.not_true,Bool.not_false,ge_iff_le,gt_iff_lt,z0,go_sem];refine qG (qOM) ?_;simp only[hk,Int.reduceEq,decide_true,decide_false,Bool.not_true,Bool.not_false,ge_iff_le,gt_iff_lt,z0,go_sem];exact qE rfl (congrArg AV.bool (by rw[Bool.eq_iff_iff];simp[qb,kLo,kHi,qO,hk,hN,hT,hL,hC]))
 ·simp only[hk,Int.reduceEq,decide_true,decide_false,Bool.not_true,Bool.not_false,ge_iff_le,gt_iff_lt,z0,go_sem];by_cases hN:t.Names.length=0
  case neg=>
   simp only[decide_eq_false hN,hk,Int.reduceEq,decide_true,decide_false,Bool.not_true,Bool.not_false,ge_iff_le,gt_iff_lt,z0,go_sem];have hN:¬t.Names=[]:=fun q=>hN (zn.2 q);exact qE rfl (congrArg AV.bool (by rw[Bool.eq_iff_iff];simp[qb,kLo,kHi,qO,hk,hN]))
  simp only[decide_eq_true hN,hk,Int.reduceEq,decide_true,decide_false,Bool.not_true,Bool.not_false,ge_iff_le,gt_iff_lt,z0,go_sem];have hN:t.Names=[]:=zn.1 hN;by_cases hM:t.Num=0
  case neg=>
   simp only[decide_eq_false hM,hk,Int.reduceEq,decide_true,decide_false,Bool.not_true,Bool.not_false,ge_iff_le,gt_iff_lt,z0,go_sem];exact qE rfl (congrArg AV.bool (by rw[Bool.eq_iff_iff];simp[qb,kLo,kHi,qO,hk,hN,hM]))
  simp only[decide_eq_true hM,hk,Int.reduceEq,decide_true,decide_false,Bool.not_true,Bool.not_false,ge_iff_le,gt_iff_lt,z0,go_sem];refine qG (jz B1) ?_;simp only[hk,Int.reduceEq,decide_true,decide_false,Bool.not_true,Bool.not_false,ge_iff_le,gt_iff_lt,z0,go_sem];refine qG (jm B1) ?_;simp only[hk,Int.reduceEq,decide_true,decide_false,Bool.not_true,Bool.not_false,ge_iff_le,gt_iff_lt,z0,go_sem];cases hL:zY t.Name
  case false=>
   simp only[hk,Int.reduceEq,decide_true,decide_false,Bool.not_true,Bool.not_false,ge_iff_le,gt_iff_lt,z0,go_sem];exact qE rfl (congrArg AV.bool (by rw[Bool.eq_iff_iff];simp[qb,kLo,kHi,qO,hk,hN,hM,hL]))
  simp only[hk,Int.reduceEq,decide_true,decide_false,Bool.not_true,Bool.not_false,ge_iff_le,gt_iff_lt,z0,go_sem];by_cases hC:((t.Kids.length:Nat):Int)=1
  case neg=>
   simp only[decide_eq_false hC,hk,Int.reduceEq,decide_true,decide_false,Bool.not_true,Bool.not_false,ge_iff_le,gt_iff_lt,z0,go_sem];exact qE rfl (congrArg AV.bool (WO (lo:=1) (hi:=1) (by rw[hk];decide) (by rw[hk];decide) (by omega)))
  simp only[decide_eq_true hC,hk,Int.reduceEq,decide_true,decide_false,Bool.not_true,Bool.not_false,ge_iff_le,gt_iff_lt,z0,go_sem];refine qG (c74 B.t B.tn) ?_;simp only[hk,Int.reduceEq,decide_true,decide_false,Bool.not_true,Bool.not_false,ge_iff_le,gt_iff_lt,z0,go_sem];exact qE rfl (congrArg AV.bool (by rw[Bool.eq_iff_iff];simp[qb,kLo,kHi,qO,hk,hN,hM,hL,hC]))
 ·simp only[hk,Int.reduceEq,decide_true,decide_false,Bool.not_true,Bool.not_false,ge_iff_le,gt_iff_lt,z0,go_sem];by_cases hN:t.Names.length=0
  case neg=>
   simp only[decide_eq_false hN,hk,Int.reduceEq,decide_true,decide_false,Bool.not_true,Bool.not_false,ge_iff_le,gt_iff_lt,z0,go_sem];have hN:¬t.Names=[]:=fun q=>hN (zn.2 q);exact qE rfl (congrArg AV.bool (by rw[Bool.eq_iff_iff];simp[qb,kLo,kHi,qO,hk,hN]))
  simp only[decide_eq_true hN,hk,Int.reduceEq,decide_true,decide_false,Bool.not_true,Bool.not_false,ge_iff_le,gt_iff_lt,z0,go_sem];have hN:t.Names=[]:=zn.1 hN;cases hT:zU t.Typ
  case false=>
   simp only[hk,Int.reduceEq,decide_true,decide_false,Bool.not_true,Bool.not_false,ge_iff_le,gt_iff_lt,z0,go_sem];exact qE rfl (congrArg AV.bool (by rw[Bool.eq_iff_iff];simp[qb,kLo,kHi,qO,hk,hN,hT]))
  simp only[hk,Int.reduceEq,decide_true,decide_false,Bool.not_true,Bool.not_false,ge_iff_le,gt_iff_lt,z0,go_sem];by_cases hM:t.Num=0
  case neg=>
   simp only[decide_eq_false hM,hk,Int.reduceEq,decide_true,decide_false,Bool.not_true,Bool.not_false,ge_iff_le,gt_iff_lt,z0,go_sem];exact qE rfl (congrArg AV.bool (by rw[Bool.eq_iff_iff];simp[qb,kLo,kHi,qO,hk,hN,hT,hM]))
  simp only[decide_eq_true hM,hk,Int.reduceEq,decide_true,decide_false,Bool.not_true,Bool.not_false,ge_iff_le,gt_iff_lt,z0,go_sem];refine qG (jz B1) ?_;simp only[hk,Int.reduceEq,decide_true,decide_false,Bool.not_true,Bool.not_false,ge_iff_le,gt_iff_lt,z0,go_sem];refine qG (jm B1) ?_;simp only[hk,Int.reduceEq,decide_true,decide_false,Bool.not_true,Bool.not_false,ge_iff_le,gt_iff_lt,z0,go_sem];by_cases hL:t.Name=[]
  case neg=>
   simp only[decide_eq_false hL,hk,Int.reduceEq,decide_true,decide_false,Bool.not_true,Bool.not_false,ge_iff_le,gt_iff_lt,z0,go_sem];exact qE rfl (congrArg AV.bool (by rw[Bool.eq_iff_iff];simp[qb,kLo,kHi,qO,hk,hN,hT,hM,hL]))
  simp only[decide_eq_true hL,hk,Int.reduceEq,decide_true,decide_false,Bool.not_true,Bool.not_false,ge_iff_le,gt_iff_lt,z0,go_sem];exact qE rfl (congrArg AV.bool (by rw[Bool.eq_iff_iff];simp[qb,kLo,kHi,qO,hk,hN,hT,hM,hL]<;>omega))
 ·simp only[hk,Int.reduceEq,decide_true,decide_false,Bool.not_true,Bool.not_false,ge_iff_le,gt_iff_lt,z0,go_sem];by_cases hN:t.Names.length=0
  case neg=>
   simp only[decide_eq_false hN,hk,Int.reduceEq,decide_true,decide_false,Bool.not_true,Bool.not_false,ge_iff_le,gt_iff_lt,z0,go_sem];have hN:¬t.Names=[]:=fun q=>hN (zn.2 q);exact qE rfl (congrArg AV.bool (by rw[Bool.eq_iff_iff];simp[qb,kLo,kHi,qO,hk,hN]))
  simp only[decide_eq_true hN,hk,Int.reduceEq,decide_true,decide_false,Bool.not_true,Bool.not_false,ge_iff_le,gt_iff_lt,z0,go_sem];have hN:t.Names=[]:=zn.1 hN;cases hT:zU t.Typ
  case false=>
   simp only[hk,Int.reduceEq,decide_true,decide_false,Bool.not_true,Bool.not_false,ge_iff_le,gt_iff_lt,z0,go_sem];exact qE rfl (congrArg AV.bool (by rw[Bool.eq_iff_iff];simp[qb,kLo,kHi,qO,hk,hN,hT]))
  simp only[hk,Int.reduceEq,decide_true,decide_false,Bool.not_true,Bool.not_false,ge_iff_le,gt_iff_lt,z0,go_sem];by_cases hM:t.Num=0
  case neg=>
   simp only[decide_eq_false hM,hk,Int.reduceEq,decide_true,decide_false,Bool.not_true,Bool.not_false,ge_iff_le,gt_iff_lt,z0,go_sem];exact qE rfl (congrArg AV.bool (by rw[Bool.eq_iff_iff];simp[qb,kLo,kHi,qO,hk,hN,hT,hM]))
  simp only[decide_eq_true hM,hk,Int.reduceEq,decide_true,decide_false,Bool.not_true,Bool.not_false,ge_iff_le,gt_iff_lt,z0,go_sem];refine qG (jz B1) ?_;simp only[hk,Int.reduceEq,decide_true,decide_false,Bool.not_true,Bool.not_false,ge_iff_le,gt_iff_lt,z0,go_sem];refine qG (jm B1) ?_;simp only[hk,Int.reduceEq,decide_true,decide_false,Bool.not_true,Bool.not_false,ge_iff_le,gt_iff_lt,z0,go_sem];by_cases hL:t.Name=[]
  case neg=>
   simp only[decide_eq_false hL,hk,Int.reduceEq,decide_true,decide_false,Bool.not_true,Bool.not_false,ge_iff_le,gt_iff_lt,z0,go_sem];exact qE rfl (congrArg AV.bool (by rw[Bool.eq_iff_iff];simp[qb,kLo,kHi,qO,hk,hN,hT,hM,hL]))
  simp only[decide_eq_true hL,hk,Int.reduceEq,decide_true,decide_false,Bool.not_true,Bool.not_false,ge_iff_le,gt_iff_lt,z0,go_sem];exact qE rfl (congrArg AV.bool (by rw[Bool.eq_iff_iff];simp[qb,kLo,kHi,qO,hk,hN,hT,hM,hL]<;>omega))
 ·simp only[hk,Int.reduceEq,decide_true,decide_false,Bool.not_true,Bool.not_false,ge_iff_le,gt_iff_lt,z0,go_sem];by_cases hN:t.Names.length=0
  case neg=>
   simp only[decide_eq_false hN,hk,Int.reduceEq,decide_true,decide_false,Bool.not_true,Bool.not_false,ge_iff_le,gt_iff_lt,z0,go_sem];have hN:¬t.Names=[]:=fun q=>hN (zn.2 q);exact qE rfl (congrArg AV.bool (by rw[Bool.eq_iff_iff];simp[qb,kLo,kHi,qO,hk,hN]))
  simp only[decide_eq_true hN,hk,Int.reduceEq,decide_true,decide_false,Bool.not_true,Bool.not_false,ge_iff_le,gt_iff_lt,z0,go_sem];have hN:t.Names=[]:=zn.1 hN;cases hT:zU t.Typ
  case false=>
   simp only[hk,Int.reduceEq,decide_true,decide_false,Bool.not_true,Bool.not_false,ge_iff_le,gt_iff_lt,z0,go_sem];exact qE rfl (congrArg AV.bool (by rw[Bool.eq_iff_iff];simp[qb,kLo,kHi,qO,hk,hN,hT]))
  simp only[hk,Int.reduceEq,decide_true,decide_false,Bool.not_true,Bool.not_false,ge_iff_le,gt_iff_lt,z0,go_sem];by_cases hM:t.Num=0
  case neg=>
   simp only[decide_eq_false hM,hk,Int.reduceEq,decide_true,decide_false,Bool.not_true,Bool.not_false,ge_iff_le,gt_iff_lt,z0,go_sem];exact qE rfl (congrArg AV.bool (by rw[Bool.eq_iff_iff];simp[qb,kLo,kHi,qO,hk,hN,hT,hM]))
  simp only[decide_eq_true hM,hk,Int.reduceEq,decide_true,decide_false,Bool.not_true,Bool.not_false,ge_iff_le,gt_iff_lt,z0,go_sem];refine qG (jz B1) ?_;simp only[hk,Int.reduceEq,decide_true,decide_false,Bool.not_true,Bool.not_false,ge_iff_le,gt_iff_lt,z0,go_sem];refine qG (jm B1) ?_;simp only[hk,Int.reduceEq,decide_true,decide_false,Bool.not_true,Bool.not_false,ge_iff_le,gt_iff_lt,z0,go_sem];cases hL:zY t.Name
  case false=>
   simp only[hk,Int.reduceEq,decide_true,decide_false,Bool.not_true,Bool.not_false,ge_iff_le,gt_iff_lt,z0,go_sem];exact qE rfl (congrArg AV.bool (by rw[Bool.eq_iff_iff];simp[qb,kLo,kHi,qO,hk,hN,hT,hM,hL]))
  simp only[hk,Int.reduceEq,decide_true,decide_false,Bool.not_true,Bool.not_false,ge_iff_le,gt_iff_lt,z0,go_sem];exact qE rfl (congrArg AV.bool (by rw[Bool.eq_iff_iff];simp[qb,kLo,kHi,qO,hk,hN,hT,hM,hL]<;>omega))
 ·simp only[hk,Int.reduceEq,decide_true,decide_false,Bool.not_true,Bool.not_false,ge_iff_le,gt_iff_lt,z0,go_sem];by_cases hN:t.Names.length=0
  case neg=>
   simp only[decide_eq_false hN,hk,Int.reduceEq,decide_true,decide_false,Bool.not_true,Bool.not_false,ge_iff_le,gt_iff_lt,z0,go_sem];have hN:¬t.Names=[]:=fun q=>hN (zn.2 q);exact qE rfl (congrArg AV.bool (by rw[Bool.eq_iff_iff];simp[qb,kLo,kHi,qO,hk,hN]))
  simp only[decide_eq_true hN,hk,Int.reduceEq,decide_true,decide_false,Bool.not_true,Bool.not_false,ge_iff_le,gt_iff_lt,z0,go_sem];have hN:t.Names=[]:=zn.1 hN;cases hT:zU t.Typ
  case false=>
   simp only[hk,Int.reduceEq,decide_true,decide_false,Bool.not_true,Bool.not_false,ge_iff_le,gt_iff_lt,z0,go_sem];exact qE rfl (congrArg AV.bool (by rw[Bool.eq_iff_iff];simp[qb,kLo,kHi,qO,hk,hN,hT]))
  simp only[hk,Int.reduceEq,decide_true,decide_false,Bool.not_true,Bool.not_false,ge_iff_le,gt_iff_lt,z0,go_sem];by_cases hM:t.Num=0
  case neg=>
   simp only[decide_eq_false hM,hk,Int.reduceEq,decide_true,decide_false,Bool.not_true,Bool.not_false,ge_iff_le,gt_iff_lt,z0,go_sem];exact qE rfl (congrArg AV.bool (by rw[Bool.eq_iff_iff];simp[qb,kLo,kHi,qO,hk,hN,hT,hM]))
  simp only[decide_eq_true hM,hk,Int.reduceEq,decide_true,decide_false,Bool.not_true,Bool.not_false,ge_iff_le,gt_iff_lt,z0,go_sem];refine qG (jz B1) ?_;simp only[hk,Int.reduceEq,decide_true,decide_false,Bool.not_true,Bool.not_false,ge_iff_le,gt_iff_lt,z0,go_sem];refine qG (jm B1) ?_;simp only[hk,Int.reduceEq,decide_true,decide_false,Bool.not_true,Bool.not_false,ge_iff_le,gt_iff_lt,z0,go_sem];cases hL:zT t.Name
  case false=>
   simp only[hk,Int.reduceEq,decide_true,decide_false,Bool.not_true,Bool.not_false,ge_iff_le,gt_iff_lt,z0,go_sem];exact qE rfl (congrArg AV.bool (by rw[Bool.eq_iff_iff];simp[qb,kLo,kHi,qO,hk,hN,hT,hM,hL]))
  simp only[hk,Int.reduceEq,decide_true,decide_false,Bool.not_true,Bool.not_false,ge_iff_le,gt_iff_lt,z0,go_sem];exact qE rfl (congrArg AV.bool (by rw[Bool.eq_iff_iff];simp[qb,kLo,kHi,qO,hk,hN,hT,hM,hL]<;>omega))
 ·simp only[hk,Int.reduceEq,decide_true,decide_false,Bool.not_true,Bool.not_false,ge_iff_le,gt_iff_lt,z0,go_sem];by_cases hN:t.Names.length=0
  case neg=>
   simp only[decide_eq_false hN,hk,Int.reduceEq,decide_true,decide_false,Bool.not_true,Bool.not_false,ge_iff_le,gt_iff_lt,z0,go_sem];have hN:¬t.Names=[]:=fun q=>hN (zn.2 q);exact qE rfl (congrArg AV.bool (by rw[Bool.eq_iff_iff];simp[qb,kLo,kHi,qO,hk,hN]))
  simp only[decide_eq_true hN,hk,Int.reduceEq,decide_true,decide_false,Bool.not_true,Bool.not_false,ge_iff_le,gt_iff_lt,z0,go_sem];have hN:t.Names=[]:=zn.1 hN;cases hT:zU t.Typ
  case false=>
   simp only[hk,Int.reduceEq,decide_true,decide_false,Bool.not_true,Bool.not_false,ge_iff_le,gt_iff_lt,z0,go_sem];exact qE rfl (congrArg AV.bool (by rw[Bool.eq_iff_iff];simp[qb,kLo,kHi,qO,hk,hN,hT]))
  simp only[hk,Int.reduceEq,decide_true,decide_false,Bool.not_true,Bool.not_false,ge_iff_le,gt_iff_lt,z0,go_sem];by_cases hM:t.Num=0
  case neg=>
   simp only[decide_eq_false hM,hk,Int.reduceEq,decide_true,decide_false,Bool.not_true,Bool.not_false,ge_iff_le,gt_iff_lt,z0,go_sem];exact qE rfl (congrArg AV.bool (by rw[Bool.eq_iff_iff];simp[qb,kLo,kHi,qO,hk,hN,hT,hM]))
  simp only[decide_eq_true hM,hk,Int.reduceEq,decide_true,decide_false,Bool.not_true,Bool.not_false,ge_iff_le,gt_iff_lt,z0,go_sem];refine qG (jz B1) ?_;simp only[hk,Int.reduceEq,decide_true,decide_false,Bool.not_true,Bool.not_false,ge_iff_le,gt_iff_lt,z0,go_sem];refine qG (jm B1) ?_;simp only[hk,Int.reduceEq,decide_true,decide_false,Bool.not_true,Bool.not_false,ge_iff_le,gt_iff_lt,z0,go_sem];by_cases hL:t.Name=[]
  case neg=>
   simp only[decide_eq_false hL,hk,Int.reduceEq,decide_true,decide_false,Bool.not_true,Bool.not_false,ge_iff_le,gt_iff_lt,z0,go_sem];exact qE rfl (congrArg AV.bool (by rw[Bool.eq_iff_iff];simp[qb,kLo,kHi,qO,hk,hN,hT,hM,hL]))
  simp only[decide_eq_true hL,hk,Int.reduceEq,decide_true,decide_false,Bool.not_true,Bool.not_false,ge_iff_le,gt_iff_lt,z0,go_sem];by_cases hC:(2:Int)<=((t.Kids.length:Nat):Int)
  case neg=>
   simp only[decide_eq_false hC,hk,Int.reduceEq,decide_true,decide_false,Bool.not_true,Bool.not_false,ge_iff_le,gt_iff_lt,z0,go_sem];exact qE rfl (congrArg AV.bool (WO (lo:=2) (hi:=5) (by rw[hk];decide) (by rw[hk];decide) (by omega)))
  simp only[decide_eq_true hC,hk,Int.reduceEq,decide_true,decide_false,Bool.not_true,Bool.not_false,ge_iff_le,gt_iff_lt,z0,go_sem];exact qE rfl (congrArg AV.bool (by rw[Bool.eq_iff_iff];simp[qb,kLo,kHi,qO,hk,hN,hT,hM,hL,hC]))
 ·simp only[hk,Int.reduceEq,decide_true,decide_false,Bool.not_true,Bool.not_false,ge_iff_le,gt_iff_lt,z0,go_sem];cases hT:zU t.Typ
  case false=>
   simp only[hk,Int.reduceEq,decide_true,decide_false,Bool.not_true,Bool.not_false,ge_iff_le,gt_iff_lt,z0,go_sem];exact qE rfl (congrArg AV.bool (by rw[Bool.eq_iff_iff];simp[qb,kLo,kHi,qO,hk,hT]))
  simp only[hk,Int.reduceEq,decide_true,decide_false,Bool.not_true,Bool.not_false,ge_iff_le,gt_iff_lt,z0,go_sem];by_cases hM:t.Num=0
  case neg=>
   simp only[decide_eq_false hM,hk,Int.reduceEq,decide_true,decide_false,Bool.not_true,Bool.not_false,ge_iff_le,gt_iff_lt,z0,go_sem];exact qE rfl (congrArg AV.bool (by rw[Bool.eq_iff_iff];simp[qb,kLo,kHi,qO,hk,hT,hM]))
  simp only[decide_eq_true hM,hk,Int.reduceEq,decide_true,decide_false,Bool.not_true,Bool.not_false,ge_iff_le,gt_iff_lt,z0,go_sem];refine qG (jz B1) ?_;simp only[hk,Int.reduceEq,decide_true,decide_false,Bool.not_true,Bool.not_false,ge_iff_le,gt_iff_lt,z0,go_sem];refine qG (jm B1) ?_;simp only[hk,Int.reduceEq,decide_true,decide_false,Bool.not_true,Bool.not_false,ge_iff_le,gt_iff_lt,z0,go_sem];cases hL:zT t.Name
  case false=>
   simp only[hk,Int.reduceEq,decide_true,decide_false,Bool.not_true,Bool.not_false,ge_iff_le,gt_iff_lt,z0,go_sem];exact qE rfl (congrArg AV.bool (by rw[Bool.eq_iff_iff];simp[qb,kLo,kHi,qO,hk,hT,hM,hL]))
  simp only[hk,Int.reduceEq,decide_true,decide_false,Bool.not_true,Bool.not_false,ge_iff_le,gt_iff_lt,z0,go_sem];by_cases hC:((t.Kids.length:Nat):Int)=1
  case neg=>
   simp only[decide_eq_false hC,hk,Int.reduceEq,decide_true,decide_false,Bool.not_true,Bool.not_false,ge_iff_le,gt_iff_lt,z0,go_sem];exact qE rfl (congrArg AV.bool (WO (lo:=1) (hi:=1) (by rw[hk];decide) (by rw[hk];decide) (by omega)))
  simp only[decide_eq_true hC,hk,Int.reduceEq,decide_true,decide_false,Bool.not_true,Bool.not_false,ge_iff_le,gt_iff_lt,z0,go_sem];refine qG (qUO B.l B.s) ?_;simp only[hk,Int.reduceEq,decide_true,decide_false,Bool.not_true,Bool.not_false,ge_iff_le,gt_iff_lt,z0,go_sem];exact qE rfl (congrArg AV.bool (by rw[Bool.eq_iff_iff];simp[qb,kLo,kHi,qO,hk,hT,hM,hL,hC]))
 ·simp only[hk,Int.reduceEq,decide_true,decide_false,Bool.not_true,Bool.not_false,ge_iff_le,gt_iff_lt,z0,go_sem];by_cases hN:t.Names.length=0
  case neg=>
   simp only[decide_eq_false hN,hk,Int.reduceEq,decide_true,decide_false,Bool.not_true,Bool.not_false,ge_iff_le,gt_iff_lt,z0,go_sem];have hN:¬t.Names=[]:=fun q=>hN (zn.2 q);exact qE rfl (congrArg AV.bool (by rw[Bool.eq_iff_iff];simp[qb,kLo,kHi,qO,hk,hN]))
  simp only[decide_eq_true hN,hk,Int.reduceEq,decide_true,decide_false,Bool.not_true,Bool.not_false,ge_iff_le,gt_iff_lt,z0,go_sem];have hN:t.Names=[]:=zn.1 hN;cases hT:zU t.Typ
  case false=>
   simp only[hk,Int.reduceEq,decide_true,decide_false,Bool.not_true,Bool.not_false,ge_iff_le,gt_iff_lt,z0,go_sem];exact qE rfl (congrArg AV.bool (by rw[Bool.eq_iff_iff];simp[qb,kLo,kHi,qO,hk,hN,hT]))
  simp only[hk,Int.reduceEq,decide_true,decide_false,Bool.not_true,Bool.not_false,ge_iff_le,gt_iff_lt,z0,go_sem];by_cases hM:t.Num=0
  case neg=>
   simp only[decide_eq_false hM,hk,Int.reduceEq,decide_true,decide_false,Bool.not_true,Bool.not_false,ge_iff_le,gt_iff_lt,z0,go_sem];exact qE rfl (congrArg AV.bool (by rw[Bool.eq_iff_iff];simp[qb,kLo,kHi,qO,hk,hN,hT,hM]))
  simp only[decide_eq_true hM,hk,Int.reduceEq,decide_true,decide_false,Bool.not_true,Bool.not_false,ge_iff_le,gt_iff_lt,z0,go_sem];refine qG (jz B1) ?_;simp only[hk,Int.reduceEq,decide_true,decide_false,Bool.not_true,Bool.not_false,ge_iff_le,gt_iff_lt,z0,go_sem];refine qG (jm B1) ?_;simp only[hk,Int.reduceEq,decide_true,decide_false,Bool.not_true,Bool.not_false,ge_iff_le,gt_iff_lt,z0,go_sem];by_cases hL:t.Name=[]
  case neg=>
   simp only[decide_eq_false hL,hk,Int.reduceEq,decide_true,decide_false,Bool.not_true,Bool.not_false,ge_iff_le,gt_iff_lt,z0,go_sem];exact qE rfl (congrArg AV.bool (by rw[Bool.eq_iff_iff];simp[qb,kLo,kHi,qO,hk,hN,hT,hM,hL]))
  simp only[decide_eq_true hL,hk,Int.reduceEq,decide_true,decide_false,Bool.not_true,Bool.not_false,ge_iff_le,gt_iff_lt,z0,go_sem];exact qE rfl (congrArg AV.bool (by rw[Bool.eq_iff_iff];simp[qb,kLo,kHi,qO,hk,hN,hT,hM,hL]<;>omega))
 ·simp only[h1,h2,h3,h4,h5,h6,h7,h8,h9,h10,h11,Int.reduceEq,decide_true,decide_false,Bool.not_true,Bool.not_false,ge_iff_le,gt_iff_lt,z0,go_sem];by_cases hN:t.Names.length=0
  case neg=>
   simp only[decide_eq_false hN,h1,h2,h3,h4,h5,h6,h7,h8,h9,h10,h11,Int.reduceEq,decide_true,decide_false,Bool.not_true,Bool.not_false,ge_iff_le,gt_iff_lt,z0,go_sem];have hN:¬t.Names=[]:=fun q=>hN (zn.2 q);exact qE rfl (congrArg AV.bool (by rw[Bool.eq_iff_iff];simp[qb,kLo,kHi,qO,h1,h2,h3,h4,h5,h6,h7,h8,h9,h10,h11,hN]))
  simp only[decide_eq_true hN,h1,h2,h3,h4,h5,h6,h7,h8,h9,h10,h11,Int.reduceEq,decide_true,decide_false,Bool.not_true,Bool.not_false,ge_iff_le,gt_iff_lt,z0,go_sem];have hN:t.Names=[]:=zn.1 hN;cases hT:zU t.Typ
  case false=>
   simp only[h1,h2,h3,h4,h5,h6,h7,h8,h9,h10,h11,Int.reduceEq,decide_true,decide_false,Bool.not_true,Bool.not_false,ge_iff_le,gt_iff_lt,z0,go_sem];exact qE rfl (congrArg AV.bool (by rw[Bool.eq_iff_iff];simp[qb,kLo,kHi,qO,h1,h2,h3,h4,h5,h6,h7,h8,h9,h10,h11,hN,hT]))
  simp only[h1,h2,h3,h4,h5,h6,h7,h8,h9,h10,h11,Int.reduceEq,decide_true,decide_false,Bool.not_true,Bool.not_false,ge_iff_le,gt_iff_lt,z0,go_sem];by_cases hM:t.Num=0
  case neg=>
   simp only[decide_eq_false hM,h1,h2,h3,h4,h5,h6,h7,h8,h9,h10,h11,Int.reduceEq,decide_true,decide_false,Bool.not_true,Bool.not_false,ge_iff_le,gt_iff_lt,z0,go_sem];exact qE rfl (congrArg AV.bool (by rw[Bool.eq_iff_iff];simp[qb,kLo,kHi,qO,h1,h2,h3,h4,h5,h6,h7,h8,h9,h10,h11,hN,hT,hM]))
  simp only[decide_eq_true hM,h1,h2,h3,h4,h5,h6,h7,h8,h9,h10,h11,Int.reduceEq,decide_true,decide_false,Bool.not_true,Bool.not_false,ge_iff_le,gt_iff_lt,z0,go_sem];refine qG (jz B1) ?_;simp only[h1,h2,h3,h4,h5,h6,h7,h8,h9,h10,h11,Int.reduceEq,decide_true,decide_false,Bool.not_true,Bool.not_false,ge_iff_le,gt_iff_lt,z0,go_sem];refine qG (jm B1) ?_;simp only[h1,h2,h3,h4,h5,h6,h7,h8,h9,h10,h11,Int.reduceEq,decide_true,decide_false,Bool.not_true,Bool.not_false,ge_iff_le,gt_iff_lt,z0,go_sem];exact qE rfl (congrArg AV.bool (by rw[Bool.eq_iff_iff];simp only[qb,kLo,kHi,h1,h2,h3,h4,h5,h6,h7,h8,h9,h10,h11];simp;omega))
end Go.Ab
