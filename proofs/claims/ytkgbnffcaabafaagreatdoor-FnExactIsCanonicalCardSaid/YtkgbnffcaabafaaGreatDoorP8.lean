/- Texts Par16 .. Tm18: the abstract machine, its laws and contracts of functions: lemmas for the statement. No condition. -/
import Derived.Test.YtkgbnffcaabafaaGreatDoorP7
set_option linter.unusedSimpArgs false
set_option linter.unusedVariables false
namespace Go.Ab
open Go
set_option maxRecDepth 10000
set_option maxHeartbeats 2000000
def prS(toks:List qK)(a:Nat)(bad:Bool):qC:=.row 3 [.agg [.lst 3 (toks.map qK.enc) false,.int .i64 (a:Nat),.bool bad]] true
def isS(toks:List qK)(a:Nat)(bad:Bool)(s:Str):Bool:= !bad&&(match toks[a]? with
 | some t=>decide (t.Text=s)
 | none=>false)
def kdS(toks:List qK)(a:Nat)(bad:Bool)(k:Int):Bool:= !bad&&(match toks[a]? with
 | some t=>decide (t.Kind=k)
 | none=>false)
def Jr(x:qK):Prop:=x.Kind≠5->x.Kind≠3->x.Text.all zE=true/\zi x.Text=false
theorem Jy{toks:List qK}{a:Nat}{s:Str}(hw:∀x∈toks,Jr x)(hs:s.all zE=false\/zi s=true):isS toks a false s=isP toks a s:=by
 unfold isS isP;cases h:toks[a]? with
 | none=>rfl
 | some t=>
  simp only[nF,Bool.true_and];by_cases h1:t.Text=s
  ·rw[dTt h1,Bool.true_and];by_cases h5:t.Kind=5
   ·simp[h5]
   ·by_cases h3:t.Kind=3
    ·simp[h3]
    ·exfalso;obtain⟨q1,q2⟩:=hw t (lMo h) h5 h3;rw[h1]at q1 q2;rcases hs with hs | hs
     ·rw[q1]at hs;cases hs
     ·rw[q2]at hs;cases hs
  ·rw[dFf h1,Bool.false_and]
theorem qc3{toks:List qK}{a:Nat}{b:Bool}{s:Str}(q:isS toks a b s=true):a<toks.length/\b=false:=by
 unfold isS at q;rw[bAt]at q;refine⟨?_,by simpa using q.1⟩;rcases Nat.lt_or_ge a toks.length with h1 | h1
 ·exact h1
 ·rw[gEn h1]at q;cases q.2
theorem QR{toks:List qK}{a:Nat}{b:Bool}{k:Int}(q:kdS toks a b k=true):∃h:a<toks.length,b=false/\toks[a].Kind=k:=by
 unfold kdS at q;rw[bAt]at q;rcases Nat.lt_or_ge a toks.length with h1 | h1
 ·rw[gEg h1]at q;exact⟨h1,by simpa using q.1,by simpa using q.2⟩
 ·rw[gEn h1]at q;cases q.2
section
variable {h:List qC} {id a:Nat} {toks:List qK} {bad:Bool}
theorem Wn{s:Str}(ho:h[id]?=some (prS toks a bad)):SCall Gm 1108 [.ptr id 0 0,.str s] h fun v h'=>v=.bool (isS toks a bad s)/\h'=h:=by
 refine sI VQ ?_;unfold prS at ho;simp only[VQ,qH,go_sem,ho,oMs,lMp];cases bad
 ·simp only[nF,go_sem,ho];by_cases hlt:a<toks.length
  ·have e1:decide ((a:Int)<toks.length)=true:=dTt (by omega);simp only[e1,go_sem,ho,gMp,gEg hlt,oMs];exact⟨by simp[isS,gEg hlt],trivial⟩
  ·have e1:decide ((a:Int)<toks.length)=false:=dFf (by omega);simp only[e1,go_sem];exact⟨by simp[isS,gEn (show toks.length<=a by omega)],trivial⟩
 ·simp only[nT,go_sem];exact⟨by simp[isS],trivial⟩
theorem ZC{k:Int}(ho:h[id]?=some (prS toks a bad)):SCall Gm 1185 [.ptr id 0 0,.int .i64 k] h fun v h'=>v=.bool (kdS toks a bad k)/\h'=h:=by
 refine sI VU ?_;unfold prS at ho;simp only[VU,qH,go_sem,ho,oMs,lMp];cases bad
 ·simp only[nF,go_sem,ho];by_cases hlt:a<toks.length
  ·have e1:decide ((a:Int)<toks.length)=true:=dTt (by omega);simp only[e1,go_sem,ho,gMp,gEg hlt,oMs];exact⟨by simp[kdS,gEg hlt],trivial⟩
  ·have e1:decide ((a:Int)<toks.length)=false:=dFf (by omega);simp only[e1,go_sem];exact⟨by simp[kdS,gEn (show toks.length<=a by omega)],trivial⟩
 ·simp only[nT,go_sem];exact⟨by simp[kdS],trivial⟩
theorem QZ{s:Str}(ho:h[id]?=some (prS toks a bad))(hl:toks.length<=1048576):SCall Gm 737 [.ptr id 0 0,.str s] h fun v h'=>v=.bool (isS toks a bad s)/\h'=if isS toks a bad s then h.set id (prS toks (a+1) bad)else h:=by
 refine sI KB ?_;simp only[KB,qH,go_sem];refine qe rfl (Wn ho) ?_;simp only[go_sem];cases hi:isS toks a bad s
 ·simp only[nF,go_sem];exact⟨trivial,by simp⟩
 ·obtain⟨hlt,rfl⟩:=qc3 hi;have ho':=ho;unfold prS at ho';simp only[nT,go_sem,ho',oMs];simp only[qp (show a<4611686018427387904 by omega)];refine jQ rfl ho' rfl rfl ?_;simp only[go_sem];exact⟨trivial,rfl⟩
theorem n872{s:Str}(ho:h[id]?=some (prS toks a bad))(hl:toks.length<=1048576):SCall Gm 872 [.ptr id 0 0,.str s] h fun _ h'=>h'=if isS toks a bad s then h.set id (prS toks (a+1) bad)else h.set id (prS toks a true):=by
 refine sI KG ?_;simp only[KG,qH,go_sem];refine qe rfl (QZ ho hl) ?_;simp only[go_sem];cases hi:isS toks a bad s
 ·simp only[nF,bFt,if_false,go_sem];have ho':=ho;unfold prS at ho';refine jQ rfl ho' rfl rfl ?_;simp only[go_sem];rfl
 ·simp only[nT,if_true,go_sem]
theorem n871{k:Int}(ho:h[id]?=some (prS toks a bad))(hl:toks.length<=1048576):SCall Gm 871 [.ptr id 0 0,.int .i64 k] h fun v h'=>if kdS toks a bad k then v=.str ((toks[a]?).getD ⟨0,[],0⟩).Text/\h'=h.set id (prS toks (a+1) bad)else v=.str []/\h'=h.set id (prS toks a true):=by
 refine sI KF ?_;simp only[KF,qH,go_sem];refine qe rfl (ZC ho) ?_;simp only[go_sem];have ho':=ho;unfold prS at ho';have hid:id<h.length:=(gSi.1 ho).1;cases hi:kdS toks a bad k
 ·simp only[nF,bFt,if_false,go_sem];refine jQ rfl ho' rfl rfl ?_;simp only[go_sem];exact⟨trivial,rfl⟩
 ·obtain⟨hlt,rfl,hk⟩:=QR hi;simp only[nT,if_true,go_sem,ho',oMs];simp only[qp (show a<4611686018427387904 by omega)];refine jQ (e':=.agg [.lst 3 (toks.map qK.enc) false,.int .i64 ((a+1:Nat):Int),.bool false]) rfl ho' rfl rfl ?_;rw[lSz];generalize hg:h.set id _=G;have hG:G[id]?=some (.row 3 [.agg [.lst 3 (toks.map qK.enc) false,.int .i64 ((a+1:Nat):Int),.bool false]] true):=by rw[<-hg];exact gSs hid
  have e1:((a+1:Nat):Int)-1=((a:Nat):Int):=by omega
  simp only[go_sem,hG,zF (n:=((a+1:Nat):Int)-1) (by omega) (by omega)];simp only[e1,gMp,gEg hlt,oMs,go_sem];exact⟨by simp,by rw[<-hg];rfl⟩
end
section
variable {h:List qC} {a0 a1 a2 b0 b1 b2:AV} {s:Str}
theorem n328:SCall Gm 328 [] h fun v h'=>v=.agg [.int .i64 1,.str [],.nils]/\h'=h:=by
 refine sI Ub ?_;simp only[Ub,qH,go_sem];refine lA ?_;simp only[go_sem];exact⟨trivial,trivial⟩
theorem n329:SCall Gm 329 [.str s] h fun v h'=>v=.agg [.int .i64 2,.str s,.nils]/\h'=h:=by
 refine sI Uc ?_;simp only[Uc,qH,go_sem];refine lA ?_;simp only[go_sem];exact⟨trivial,trivial⟩
theorem n326:SCall Gm 326 [.agg [a0,a1,a2]] h fun v h'=>v=.agg [.int .i64 4,.str [],.slice 3 h.length 0 1 false]/\h'=h++[.row 3 [.agg [a0,a1,a2]] true]:=by
 refine sI UZ ?_;simp only[UZ,qH,go_sem];refine zM rfl ?_;simp only[go_sem];refine qy (v:=.agg [a0,a1,a2]) rfl rfl ?_;simp only[go_sem];refine lA ?_;simp only[go_sem];exact⟨trivial,trivial⟩
theorem n327:SCall Gm 327 [.agg [a0,a1,a2],.agg [b0,b1,b2]] h fun v h'=>v=.agg [.int .i64 3,.str [],.slice 3 h.length 0 2 false]/\h'=h++[.row 3 [.agg [a0,a1,a2],.agg [b0,b1,b2]] true]:=by
 refine sI Ua ?_;simp only[Ua,qH,go_sem];refine zM rfl ?_;simp only[go_sem];refine zM rfl ?_;simp only[go_sem];rw[show zH _ 3 _ _=some [.agg [a0,a1,a2],.agg [b0,b1,b2]]from rfl];simp only[go_sem];refine lA ?_;simp only[go_sem];exact⟨trivial,trivial⟩
end
def WM(r:Except Nat (qB×Nat))(t:qB)(b:Nat)(bad:Bool):Prop:=match r with
 |.ok (t',b')=>t=t'/\b=b'/\bad=false
 |.error b'=>b=b'/\bad=true
theorem Wf{toks:List qK}{a:Nat}{s:Str}:isS toks a true s=false:=rfl
theorem qc9{toks:List qK}{a:Nat}{k:Int}:kdS toks a true k=false:=rfl
section
variable {id:Nat} {toks:List qK}
theorem qfS(hl:toks.length<=1048576)(hw:∀x∈toks,Jr x):∀(f:Nat)(flag:Bool)(a:Nat)(h:List qC),zr toks flag a<=f->a<=toks.length->h[id]?=some (prS toks a false)->
  SCall Gm (if flag then 736 else 359) [.ptr id 0 0] h (fun v h'=>∃t b bad S,WM (pT toks f flag a) t b bad/\PS h id (prS toks b bad) h'/\qu S h' v t.enc/\Bh h.length S h'):=by
 intro f
 induction f with
 | zero=>intro flag a h hf;exfalso;unfold zr at hf;cases flag<;>simp at hf
 | succ f ih=>
 intro flag a h hf ha ho;have hid:id<h.length:=(gSi.1 ho).1;cases flag with
 | true=>
  refine sI WK ?_;simp only[WK,qH,go_sem];refine qe rfl (QZ ho hl) ?_;rw[Jy hw (.inl rfl)];simp only[go_sem];cases hb:isP toks a [33]
  case true=>
   have hlt:=qa hb;simp only[if_true,go_sem];refine qO ((ih true (a+1) (h.set id (prS toks (a+1) false)) (by unfold zr at hf|-;simp at hf|-;omega) (by omega) (by rw[gSs hid])).mono ?_);rintro v h1 ⟨t,b,bad,S,q1,q2,q3,q4⟩;obtain⟨x0,x1,x2,rfl⟩:=Qe q3;simp only[go_sem];refine qe rfl n326 ?_;simp only[go_sem];refine lA ?_;simp only[go_sem];rw[lLs]at q4;obtain⟨r1,r2⟩:=qW4 q3 q4 (by have:=q2.len;rw[lLs]at this;exact this);refine⟨Qu t,b,bad,_, ?_,((PS.set ho).trans q2).push,Wv r1,r2⟩;simp only[pT,hb,if_true];generalize pT toks f true (a+1)=r at q1
   match r,q1 with
   |.ok (t',b'),⟨e1,e2,e3⟩=>exact⟨by rw[e1],e2,e3⟩
   |.error b',⟨e1,e2⟩=>exact⟨e1,e2⟩
  simp only[bFt,if_false,go_sem];refine qe rfl (QZ ho hl) ?_;rw[Jy hw (.inl rfl)];simp only[go_sem];cases hc:isP toks a [40]
  case true=>
   have hlt:=qa hc;simp only[if_true,go_sem];refine qO ((ih false (a+1) (h.set id (prS toks (a+1) false)) (by unfold zr at hf|-;simp at hf|-;omega) (by omega) (by rw[gSs hid])).mono ?_);rintro v h1 ⟨t,b,bad,S,q1,q2,q3,q4⟩;obtain⟨x0,x1,x2,rfl⟩:=Qe q3;simp only[go_sem];refine lA ?_;simp only[go_sem];refine qO ((n872 q2.at' hl).mono ?_);rintro v2 h2 rfl;simp only[go_sem];refine lA ?_;simp only[go_sem];rw[lLs]at q4;have hr:pT toks (f+1) true a=(match pT toks f false (a+1)with
    |.ok (t,b)=>if isP toks b [41]then .ok (t,b+1)else .error b
    |.error b=>.error b):=by simp only[pT,hb,hc,bFt,if_false,if_true]<;>(cases pT toks f false (a+1)<;>rfl)
   rw[hr];generalize pT toks f false (a+1)=r at q1
   match r,q1 with
   |.ok (t',b'),⟨e1,e2,e3⟩=>
    subst e1 e2 e3;rw[Jy hw (.inl rfl)];cases e1:isP toks b [41]
    ·simp only[bFt,if_false];obtain⟨r1,r2⟩:=q3.ps q4 hid (PS.set q2.at' (o:=prS toks b true));exact⟨t,b,true,S,by simp[WM,e1],((PS.set ho).trans q2).trans (PS.set q2.at'),r1,r2⟩
    ·simp only[if_true];obtain⟨r1,r2⟩:=q3.ps q4 hid (PS.set q2.at' (o:=prS toks (b+1) false));exact⟨t,b+1,false,S,by simp[WM,e1],((PS.set ho).trans q2).trans (PS.set q2.at'),r1,r2⟩
   |.error b',⟨e1,e2⟩=>
    subst e1 e2;rw[Wf];simp only[bFt,if_false];obtain⟨r1,r2⟩:=q3.ps q4 hid (PS.set q2.at' (o:=prS toks b true));exact⟨t,b,true,S,⟨rfl,rfl⟩,((PS.set ho).trans q2).trans (PS.set q2.at'),r1,r2⟩
  simp only[bFt,if_false,go_sem];refine qO ((n871 ho hl).mono ?_);rintro v h1 hv;cases hk:kdS toks a false 2
  ·rw[hk]at hv;obtain⟨rfl,rfl⟩:=hv;have en:decide (([]:Str)=[73,110,116])=false:=rfl;simp only[go_sem,en];refine qe rfl n329 ?_;simp only[go_sem];refine lA ?_;simp only[go_sem];refine⟨Ju [],a,true,[none], ?_,PS.set ho,Z2,fun j hj=>by simp at hj⟩;simp only[pT,hb,hc,bFt,if_false];unfold kdS at hk;cases ht:toks[a]? with
   | none=>exact⟨rfl,rfl⟩
   | some t=>
    rw[ht]at hk;simp only[nF,Bool.true_and,decide_eq_false_iff_not]at hk;simp only[if_neg hk];exact⟨rfl,rfl⟩
  ·rw[hk]at hv;obtain⟨rfl,rfl⟩:=hv;obtain⟨hlt,_,hk2⟩:=QR hk;simp only[gEg hlt,Option.getD_some,go_sem];by_cases hn:toks[a].Text=[73,110,116]
   ·simp only[dTt hn,go_sem];refine qe rfl n328 ?_;simp only[go_sem];refine lA ?_;simp only[go_sem];exact⟨Q3,a+1,false,[none],by simp[WM,pT,hb,hc,gEg hlt,hk2,hn],PS.set ho,Z2,fun j hj=>by simp at hj⟩
   ·simp only[dFf hn,go_sem];refine qe rfl n329 ?_;simp only[go_sem];refine lA ?_;simp only[go_sem];exact⟨Ju toks[a].Text,a+1,false,[none],by simp[WM,pT,hb,hc,gEg hlt,hk2,hn],PS.set ho,Z2,fun j hj=>by simp at hj⟩
 | false=>
  refine sI WH ?_;simp only[WH,qH,go_sem];refine qO ((ih true a h (by unfold zr at hf|-;simp at hf|-;omega) ha ho).mono ?_);rintro v h1 ⟨t,b,bad,S,q1,q2,q3,q4⟩;obtain⟨x0,x1,x2,rfl⟩:=Qe q3;simp only[go_sem];refine lA ?_;simp only[go_sem];refine qe rfl (QZ q2.at' hl) ?_;have hr:pT toks (f+1) false a=(match pT toks f true a with
   |.ok (t,b)=>if isP toks b [45,62]then(match pT toks f false (b+1)with
     |.ok (u,c)=>.ok (QN t u,c)
     |.error c=>.error c)
    else .ok (t,b)
   |.error b=>.error b):=by
    simp only[pT]<;>(cases pT toks f true a<;>first | rfl | (rename_i p;cases pT toks f false (p.2+1)<;>rfl))
  rw[hr];have hpr:=fun t b=>jY (toks:=toks) f true a (t:=t) (b:=b);generalize pT toks f true a=r at q1 hpr
  match r,q1,hpr with
  |.error b',⟨e1,e2⟩,_=>
   subst e1 e2;rw[Wf];simp only[bFt,if_false,go_sem];refine lA ?_;simp only[go_sem];exact⟨t,b,true,S,⟨rfl,rfl⟩,q2,q3,q4⟩
  |.ok (t',b'),⟨e1,e2,e3⟩,hpr=>
   subst e1 e2 e3;obtain⟨b1,b2⟩:=hpr _ _ rfl;rw[Jy hw (.inl rfl)];simp only[go_sem];cases hb:isP toks b [45,62]
   ·simp only[bFt,if_false,go_sem];refine lA ?_;simp only[go_sem];exact⟨t,b,false,S,⟨rfl,rfl,rfl⟩,q2,q3,q4⟩
   ·have hlt:=qa hb;simp only[if_true,go_sem];have hid1:id<h1.length:=Nat.lt_of_lt_of_le hid q2.len;have q2':=q2.trans (PS.set q2.at' (o:=prS toks (b+1) false));obtain⟨q3',q4'⟩:=q3.ps q4 hid (PS.set q2.at' (o:=prS toks (b+1) false));refine qO ((ih false (b+1) (h1.set id (prS toks (b+1) false)) (by unfold zr at hf|-;simp at hf|-;omega) (by omega) (by rw[gSs hid1])).mono ?_);rintro v2 h2 ⟨u,c,bad2,S2,p1,p2,p3,p4⟩;obtain⟨y0,y1,y2,rfl⟩:=Qe p3;simp only[go_sem];refine qe rfl n327 ?_;simp only[go_sem];refine lA ?_;simp only[go_sem];obtain⟨z3,z4⟩:=q3'.ps q4' hid p2;obtain⟨r1,r2⟩:=qW5 z3 p3 z4 p4 (by have:=q2.len;have:=p2.len;rw[lLs]at this;omega) (by have:=q2.len;rw[lLs];omega) (fun j hj=>(q4' j hj).2);refine⟨QN t u,c,bad2,_, ?_,(q2'.trans p2).push,Wv r1,r2⟩;generalize pT toks f false (b+1)=r at p1
    match r,p1 with
    |.ok (u',c'),⟨e1,e2,e3⟩=>exact⟨by rw[e1],e2,e3⟩
    |.error c',⟨e1,e2⟩=>exact⟨e1,e2⟩
end
mutual
def qB.nod:qB->Nat->Option Nat
 |.mk k n ks,d=>if d=0 then none else if okT k n ks.length then qB.nods ks (d-1) 1 else none
def qB.nods:List qB->Nat->Nat->Option Nat
 |[],_,s=>some s
 | x::xs,d,s=>match x.nod d with
  | none=>none
  | some k=>qB.nods xs d (s+k)
end
theorem qB.nod_eq(x:qB)(d:Nat):x.nod d=if d=0 then none else if okT x.Kind x.Name x.Kids.length then qB.nods x.Kids (d-1) 1 else none:=by cases x;rw[qB.nod];rfl
theorem qB.shps_ge:∀{xs:List qB}{d s d1 s1:Nat},qB.shps xs d s=some (d1,s1)->d<=d1
 |[],d,s,d1,s1,h=>by simp only[qB.shps,oSi,Prod.mk.injEq]at h;omega
 | x::xs,d,s,d1,s1,h=>by
  simp only[qB.shps]at h;split at h
  ·have:=qB.shps_ge h;omega
  ·cases h
theorem qB.nods_shps{e:Nat}:∀{xs:List qB},(∀y∈xs,y.nod e=if y.shp.2.2=true/\y.shp.1<=e then some y.shp.2.1 else none)->∀{d s:Nat},d<=e+1->
  qB.nods xs e s=match qB.shps xs d s with
   | none=>none
   | some (d1,s1)=>if d1<=e+1 then some s1 else none
 |[],_,d,s,hd=>by simp[qB.nods,qB.shps,hd]
 | x::xs,ih,d,s,hd=>by
  have hx:=ih x (by simp);have hxs:=fun(d s:Nat)(q:d<=e+1)=>qB.nods_shps (xs:=xs) (fun y hy=>ih y (by simp[hy])) (d:=d) (s:=s) q;simp only[qB.nods,qB.shps,hx];generalize x.shp=p;obtain⟨d',s',ok⟩:=p;cases ok with
  | false=>simp
  | true=>
   simp only[true_and];by_cases h:d'<=e
   ·rw[if_pos h];exact hxs _ _ (by omega)
   ·rw[if_neg h];cases hq:qB.shps xs (max d (d'+1)) (s+s')with
    | none=>rfl
    | some p=>
     obtain⟨d1,s1⟩:=p;have:=qB.shps_ge hq;simp only;rw[if_neg (by omega)]
theorem qB.nod_shp:∀(x:qB)(d:Nat),x.nod d=if x.shp.2.2=true/\x.shp.1<=d then some x.shp.2.1 else none:=qB.ind fun x ih d=>by
 rw[qB.nod_eq,qB.shp_eq];cases d with
 | zero=>
  rw[if_pos rfl];split
  ·simp
  ·rename_i d1 s1 h;have:=qB.shps_ge h;rw[if_neg (fun q=>by simp only at q;omega)]
 | succ e=>
  rw[if_neg (by omega),Nat.add_sub_cancel];rw[qB.nods_shps (fun y hy=>ih y hy e) (show 1<=e+1 by omega)];cases qB.shps x.Kids 1 1 with
  | none=>simp
  | some p=>
   obtain⟨d1,s1⟩:=p;simp only;cases okT x.Kind x.Name x.Kids.length<;>simp
def jI:Option Nat->Int
 | none=> -1
 | some n=>n
theorem qg8(x:qB):zZ x=(decide (1<=jI (x.nod 6))&&decide (jI (x.nod 6)<=16)):=by
 rw[qB.nod_shp,zZ];have h1:∀y:qB,y.shp.2.2=true->1<=y.shp.2.1:=fun y hy=>by
  rw[qB.shp_eq]at hy|-;split
  ·rename_i q;rw[q]at hy;cases hy
  ·rename_i d s h;have:∀{xs:List qB}{d s d1 s1:Nat},qB.shps xs d s=some (d1,s1)->s<=s1:=by
    intro xs
    induction xs with
    | nil=>intro d s d1 s1 h;simp only[qB.shps,oSi,Prod.mk.injEq]at h;omega
    | cons z zs ihz=>
     intro d s d1 s1 h;simp only[qB.shps]at h;split at h
     ·have:=ihz h;omega
     ·cases h
   exact this h
 by_cases a:x.shp.2.2=true
 ·have:=h1 x a;by_cases b:x.shp.1<=6
  ·rw[if_pos ⟨a,b⟩,a,dTt b];have e1:decide (1<=jI (some x.shp.2.1))=true:=dTt (by simp only[jI];omega);rw[e1,Bool.true_and,Bool.true_and,Bool.true_and,decide_eq_decide];simp only[jI];omega
  ·rw[if_neg (fun q=>b q.2),dFf b];simp[jI]
 ·rw[if_neg (fun q=>a q.1)];simp[jI,a]
theorem qB.nod_le{x:qB}{d n:Nat}(h:x.nod d=some n):n<=x.nd:=by
 rw[qB.nod_shp]at h;split at h
 ·cases h;exact(qB.shp_le x).2
 ·cases h
theorem c541(x:qB):∀(d:Nat)(hd:d<=6)(hb:x.bd)(hn:x.nd<=1048576),Pure Gm 541 [x.enc,.int .i64 (d:Nat)] (.int .i64 (jI (x.nod d))):=by
 induction x using qB.ind with
 | _ x ih=>
 intro d hd hb hn;refine pJ Up ?_;simp only[Up,qH,go_sem];refine zM qB.ln ?_;simp only[go_sem];have er:=qB.nod_eq x d;rw[qB.nd_eq]at hn;rw[qB.bd_eq]at hb;obtain⟨b1,b2,b3⟩:=hb;by_cases h0:d=0
 ·have e0:decide (((d:Nat):Int)<1)=true:=dTt (by omega);simp only[e0,go_sem];exact qE rfl (by rw[er,if_pos h0];rfl)
 have e0:decide (((d:Nat):Int)<1)=false:=dFf (by omega);simp only[e0,go_sem];rw[if_neg h0]at er;have e1:x.Kids.length<=1048576:=by
  have:∀xs:List qB,xs.length<=qM qB.nd xs:=fun xs=>by
   induction xs with
   | nil=>simp
   | cons y ys ihy=>have:=qB.nd_eq y;simp only[lCo,qM];omega
  have:=this x.Kids;omega
 have z1:decide (((x.Kids.length:Nat):Int)=0)=decide (x.Kids.length=0):=by rw[decide_eq_decide];omega
 have z2:decide (((x.Kids.length:Nat):Int)=2)=decide (x.Kids.length=2):=by rw[decide_eq_decide];omega
 have z3:decide (((x.Kids.length:Nat):Int)=1)=decide (x.Kids.length=1):=by rw[decide_eq_decide];omega
 cases hok:okT x.Kind x.Name x.Kids.length
 ·have bad:AV.int .i64 (-1)=.int .i64 (jI (x.nod d)):=by rw[er,hok];rfl
  by_cases k1:x.Kind=1
  ·have k2:¬x.Kind=2:=by omega
   simp only[dTt k1,dFf k2,go_sem,z1];by_cases q:x.Kids.length=0
   ·simp only[dTt q,nT,nF,go_sem];by_cases q2:x.Name=[]
    ·simp[okT,k1,q,q2]at hok
    ·simp only[dFf k2,dFf q2,nF,go_sem];exact qE rfl bad
   ·simp only[dFf q,nF,go_sem];exact qE rfl bad
  simp only[dFf k1,go_sem];by_cases k2:x.Kind=2
  ·simp only[dTt k2,go_sem];refine qF (Jt (by omega)) ?_;simp only[go_sem];cases q:zL x.Name
   ·simp only[nF,go_sem];exact qE rfl bad
   ·simp only[nT,go_sem];by_cases q2:x.Name=[73,110,116]
    ·simp only[dTt q2,go_sem];exact qE rfl bad
    ·simp only[dFf q2,go_sem,z1];by_cases q3:x.Kids.length=0
     ·simp[okT,k2,q,q2,q3]at hok
     ·simp only[dFf q3,nF,go_sem];exact qE rfl bad
  simp only[dFf k2,go_sem];by_cases k3:x.Kind=3
  ·simp only[dTt k3,go_sem,z2];by_cases q:x.Kids.length=2
   ·simp only[dTt q,dFf k2,nT,nF,go_sem];by_cases q2:x.Name=[]
    ·simp[okT,k3,q,q2]at hok
    ·simp only[dFf q2,nF,go_sem];exact qE rfl bad
   ·simp only[dFf q,nF,go_sem];exact qE rfl bad
  simp only[dFf k3,go_sem];by_cases k4:x.Kind=4
  ·simp only[dTt k4,go_sem,z3];by_cases q:x.Kids.length=1
   ·simp only[dTt q,dFf k2,nT,nF,go_sem];by_cases q2:x.Name=[]
    ·simp[okT,k4,q,q2]at hok
    ·simp only[dFf q2,nF,go_sem];exact qE rfl bad
   ·simp only[dFf q,nF,go_sem];exact qE rfl bad
  simp only[dFf k4,go_sem];exact qE rfl bad
 rw[if_pos hok]at er;have four:(x.Kind=1/\x.Name=[]/\x.Kids.length=0)\/(x.Kind=2/\zL x.Name=true/\¬x.Name=[73,110,116]/\x.Kids.length=0)\/(x.Kind=3/\x.Name=[]/\x.Kids.length=2)\/(x.Kind=4/\x.Name=[]/\x.Kids.length=1):=by
  unfold okT at hok;split at hok
  ·rename_i k;simp at hok;exact .inl ⟨k,hok.1,by simp[hok.2]⟩
  ·split at hok
   ·rename_i k;simp at hok;exact .inr (.inl ⟨k,hok.1,hok.2.1,by simp[hok.2.2]⟩)
   ·split at hok
    ·rename_i k;simp at hok;exact .inr (.inr (.inl ⟨k,hok.1,hok.2⟩))
    ·split at hok
     ·rename_i k;simp at hok;exact .inr (.inr (.inr ⟨k,hok.1,hok.2⟩))
     ·cases hok
 rcases four with⟨k,q1,q2⟩ | ⟨k,q1,q2,q3⟩ | ⟨k,q1,q2⟩ | ⟨k,q1,q2⟩
 case' inl=>
  have k2:¬x.Kind=2:=by omega
  simp only[dTt k,dFf k2,go_sem,z1,dTt q1,dTt q2,nT,nF]
 case' inr.inl=>
  have k1:¬x.Kind=1:=by omega
  simp only[dFf k1,dTt k,go_sem];refine qF (Jt (by omega)) ?_;simp only[q1,go_sem,dFf q2,z1,dTt q3,nT,dTt k]
 case' inr.inr.inl=>
  have k1:¬x.Kind=1:=by omega
  have k2:¬x.Kind=2:=by omega
  simp only[dFf k1,dFf k2,dTt k,go_sem,z2,dTt q1,dTt q2,nT,nF]
 case' inr.inr.inr=>
  have k1:¬x.Kind=1:=by omega
  have k2:¬x.Kind=2:=by omega
  have k3:¬x.Kind=3:=by omega
  simp only[dFf k1,dFf k2,dFf k3,dTt k,go_sem,z3,dTt q1,dTt q2,nT,nF]
 all_goals
  refine Sem.loop (fun a:Nat×Nat=>a.1<=x.Kids.length/\a.2+qM qB.nd (x.Kids.drop a.1)<=1048576/\qB.nods x.Kids (d-1) 1=qB.nods (x.Kids.drop a.1) (d-1) a.2)
   (fun a=>(⟨[(1,.int .i64 (d:Nat)),(6,.int .i64 (a.2:Nat)),(7,.int .i64 (a.1:Nat))],[(2,x.enc)],[]⟩:VSt)) (fun a=>x.Kids.length-a.1) (0,1) (by kernel_rfl) ⟨nZl _,by simpa using hn,rfl⟩ cS ?_
  rintro⟨i,s⟩ ⟨hi,h3,hI⟩;simp only at hi h3 hI;simp only[go_sem];by_cases hlt:i<x.Kids.length
  ·have e2:decide ((i:Int)<(x.Kids.length:Nat))=true:=dTt (by omega);have hm:=gMm hlt;have hdr:x.Kids.drop i=x.Kids[i]::x.Kids.drop (i+1):=by simp
   rw[hdr]at h3 hI;simp only[qM]at h3;have e3:((d:Nat):Int)-1=((d-1:Nat):Int):=by omega
   simp only[e2,go_sem,gMp,gEg hlt,oMs,zF (n:=((d:Nat):Int)-1) (by omega) (by omega)];rw[e3];refine qF (ih _ hm (d-1) (by omega) (b3 _ hm) (by omega)) ?_;simp only[go_sem];rw[qB.nods]at hI;cases hk:x.Kids[i].nod (d-1)with
   | none=>
    rw[hk]at hI;simp only at hI;have e4:decide (jI none<0)=true:=rfl;simp only[e4,go_sem];exact qE rfl (by rw[er,hI];rfl)
   | some n=>
    rw[hk]at hI;simp only at hI;have hnl:=qB.nod_le hk;have e4:decide (jI (some n)<0)=false:=dFf (by simp only[jI];omega);have e5:(s:Int)+jI (some n)=((s+n:Nat):Int):=by simp only[jI];omega
    simp only[e4,e5,go_sem,zF (n:=((s+n:Nat):Int)) (by omega) (by omega),qp (show i<4611686018427387904 by omega)];exact qW (i+1,s+n) ⟨by simp only;omega,by simp only;omega,hI⟩ (by simp only;omega) cS
  ·have e2:decide ((i:Int)<(x.Kids.length:Nat))=false:=dFf (by omega);obtain rfl:i=x.Kids.length:=by omega
   simp only[e2,go_sem];refine qE rfl ?_;rw[er,hI];simp[qB.nods,jI]
theorem Xd{x:qB}(hb:x.bd)(hn:x.nd<=1048576):Pure Gm 208 [x.enc] (.bool (zZ x)):=by
 refine pJ UR ?_;simp only[UR,qH,go_sem];refine zM qB.ln ?_;simp only[go_sem];refine qF (c541 x 6 (by decide) hb hn) ?_;simp only[go_sem];refine qF Qy ?_;simp only[go_sem];exact qE rfl (by rw[qg8])
theorem qYE{p:UInt8->Bool}:∀{l:Str},(l.takeWhile p).all p=true
 |[]=>rfl
 | x::l=>by
  by_cases h:p x=true
  ·rw[List.takeWhile_cons_of_pos h,lAc,h,qYE];rfl
  ·rw[List.takeWhile_cons_of_neg h];rfl
theorem qgP{t:Str}{i:Nat}(hk:(zI t i).1≠0):Jr (jR t i):=by
 intro h5 h3;by_cases hp:0<(qi t i).length
 ·have e:=qBH hp;have ets:wQ t i=jR t i:=by unfold wQ;rw[if_neg hk]
  rw[ets]at e;have et:(jR t i).Text=qi t i:=by rw[e]
  rw[et];refine⟨qYE, ?_⟩;have ee:=Yh hp;cases q:zi (qi t i)
  ·rfl
  ·exfalso;apply h3;rw[q]at ee;simp only[jR,ee,if_true]
 ·exfalso;apply h5;have hk':=hk;unfold zI at hk';rw[if_neg hp]at hk';simp only[jR];unfold zI;rw[if_neg hp];split
  ·rfl
  ·rename_i h1;rw[if_neg h1]at hk';split
   ·rfl
   ·rename_i h2;rw[if_neg h2]at hk';exact absurd rfl hk'
theorem qBK{t:Str}:∀(f:Nat){i:Nat}{acc l:List qK},jk t f i acc=.ok l->(∀x∈acc,Jr x)->∀x∈l,Jr x
 | 0,i,acc,l,h,hx=>by simp only[jk,Except.ok.injEq]at h;subst h;exact hx
 | f+1,i,acc,l,h,hx=>by
  simp only[jk]at h;split at h
  ·split at h
   ·exact qBK f h hx
   ·split at h
    ·cases h
    ·rename_i hk;refine qBK f h fun x hm=> ?_;rcases ja.1 hm with hm | hm
     ·exact hx x hm
     ·simp only[lMg]at hm;subst hm;exact qgP hk
  ·simp only[Except.ok.injEq]at h;subst h;exact hx
theorem qgS{t:Str}:∀x∈(qo t).1,Jr x:=by
 unfold qo;split
 ·exact fun x hx=>by simp at hx
 ·split
  ·exact fun x hx=>by simp at hx
  ·rename_i l h;exact qBK _ h (fun x hx=>by simp at hx)
section
variable {h:List qC} {id a:Nat} {toks:List qK} {bad:Bool} {t:Str}
theorem n358:SCall Gm 358 [.str t] h fun v h'=>if (qo t).2.2=0 then v=.tup [.ptr h.length 0 0,.int .i64 0,.int .i64 0]/\h'=h++[prS (qo t).1 0 false]else v=.tup [.nilp,.int .i64 (qo t).2.1,.int .i64 (qo t).2.2]/\h'=h:=by
 refine sI Uj ?_;simp only[Uj,qH,go_sem];refine qF c735 ?_;simp only[go_sem];by_cases hc:(qo t).2.2=0
 ·simp only[dTt hc,nT,go_sem];refine JC rfl ?_;simp only[go_sem];rw[if_pos hc];exact⟨by trivial,by trivial⟩
 ·simp only[dFf hc,nF,go_sem];rw[if_neg hc];exact⟨by trivial,by trivial⟩
theorem n738(ho:h[id]?=some (prS toks a bad))(hl:toks.length<=1048576):SCall Gm 738 [.ptr id 0 0,.str t] h fun v h'=>v=.int .i64 (nxt toks a t.length).At/\h'=h:=by
 refine sI KD ?_;unfold prS at ho;simp only[KD,qH,go_sem,ho,oMs,lMp];by_cases hlt:a<toks.length
 ·have e1:decide ((a:Int)<toks.length)=true:=dTt (by omega);simp only[e1,go_sem,ho,gMp,gEg hlt,oMs];exact⟨by simp[nxt,gEg hlt],trivial⟩
 ·have e1:decide ((a:Int)<toks.length)=false:=dFf (by omega);simp only[e1,go_sem];exact⟨by simp[nxt,gEn (show toks.length<=a by omega)],trivial⟩
def JR(toks:List qK)(a:Nat)(bad:Bool):Bool:=bad || decide (a<toks.length)
theorem n360(ho:h[id]?=some (prS toks a bad))(hl:toks.length<=1048576):SCall Gm 360 [.ptr id 0 0,.str t] h fun v h'=>v=(if JR toks a bad then .tup [.int .i64 (nxt toks a t.length).At,.int .i64 6]else .tup [.int .i64 0,.int .i64 0])/\h'=h:=by
 refine sI Uk ?_;have ho':=ho;unfold prS at ho';simp only[Uk,qH,go_sem,ho',oMs,lMp];cases bad
 ·simp only[go_sem,ho',oMs,lMp];by_cases hlt:a<toks.length
  ·have e1:decide ((a:Int)<toks.length)=true:=dTt (by omega);have e2:JR toks a false=true:=by simp[JR,hlt]
   simp only[e1,go_sem];refine qe rfl (n738 ho hl) ?_;simp only[go_sem];rw[e2,if_pos rfl];exact⟨by trivial,by trivial⟩
  ·have e1:decide ((a:Int)<toks.length)=false:=dFf (by omega);have e2:JR toks a false=false:=by simp[JR,hlt]
   simp only[e1,go_sem];rw[e2,if_neg (by decide)];exact⟨by trivial,by trivial⟩
 ·have e2:JR toks a true=true:=rfl;simp only[go_sem];refine qe rfl (n738 ho hl) ?_;simp only[go_sem];rw[e2,if_pos rfl];exact⟨by trivial,by trivial⟩
end
def B2s(E:Ev)(d:Option Nat)(v:Option AV)(l:List qA)(ks:List Fr1)(st:VSt)(Q:qS->VSt->Prop):Prop:=match v with
 | some v=>(v=.nils\/wOf v=some 1)/\(match zO (toH st.h) v with
   | some el=>∃a:List UInt8,el=(a.map fun b:UInt8=>AV.int .u8 b.toNat)/\R E (.ops l::ks) (st.put d (.str a)) Q
   | none=>False)
 | none=>False
section
variable {E:Ev} {i:Nat} {d:Option Nat} {g:Option (Nat×Bool)} {x:Ao} {ck l:List qA} {ks:List Fr1} {s m:qf} {h:List qC} {Q:qS->VSt->Prop}
@[go_sem] theorem qiW:Go1 E (.mk i d g (.b2s x) ck) l ks ⟨s,m,h⟩ Q=B2s E d (ev (toE s) x) l ks ⟨s,m,h⟩ Q:=by
 unfold Go1 jt ju B2s;cases hq:ev (toE s) x<;>simp[qA.o,qA.d,AOp.isCall,qA.apC,AOp.isApp,hq]<;>exact fun _=>Iff.rfl
theorem qSZ{v:AV}{e:Nat}{a:List UInt8}(hw:wOf v=some 1)(he:zO (toH h) v=some (a.map fun b:UInt8=>AV.int .u8 b.toNat))(hr:R E (.ops l::ks) ⟨(e,.str a)::s,m,h⟩ Q):B2s E (some e) (some v) l ks ⟨s,m,h⟩ Q:=
 ⟨.inr hw,by rw[he];exact⟨a,rfl,hr⟩⟩
end
def enB(b:UInt8):AV:=.int .u8 (b.toNat:Nat)
def BL(B:Nat)(h:List qC)(v:AV)(xs:List UInt8):Prop:=(xs=[]/\v=.lst 1 [] true)\/∃k,v=.slice 1 k 0 xs.length false/\h[k]?=some (.row 1 (xs.map enB) true)/\B<=k
theorem BL.push{B:Nat}{h:List qC}{v:AV}{xs:List UInt8}{o:qC}(x:BL B h v xs):BL B (h++[o]) v xs:=by
 rcases x with x | ⟨k,h1,h2,h3⟩
 ·exact .inl x
 ·exact .inr ⟨k,h1,by rw[gAl ((gSi.1 h2).1)];exact h2,h3⟩
theorem BL.ln{B:Nat}{h:List qC}{v:AV}{xs:List UInt8}(x:BL B h v xs):Zq (some v)=some (.int .i64 (xs.length:Nat)):=by
 rcases x with⟨rfl,rfl⟩ | ⟨k,rfl,_⟩<;>rfl
theorem BL.ix{B:Nat}{h:List qC}{v:AV}{xs:List UInt8}(x:BL B h v xs){k:Nat}(hk:k<xs.length):∃id,idx 1 (some v) (some (.int .i64 (k:Nat)))=some (.ptr id k 0)/\Wh h none (some (.ptr id k 0))=some (enB xs[k]):=by
 rcases x with⟨rfl,rfl⟩ | ⟨id,rfl,h1,_⟩
 ·simp at hk
 ·refine⟨id,by rw[qU0 hk,nZa], ?_⟩;simp only[h1,go_sem,gMp,gEg hk,oMs];rfl
theorem BL.els{B:Nat}{h:List qC}{v:AV}{xs:List UInt8}(x:BL B h v xs):wOf v=some 1/\zO (toH h) v=some (xs.map fun b:UInt8=>AV.int .u8 b.toNat):=by
 rcases x with⟨rfl,rfl⟩ | ⟨id,rfl,h1,_⟩
 ·exact⟨rfl,rfl⟩
 ·have h2:toH h id=some (.row 1 (xs.map enB) true):=h1;refine⟨rfl, ?_⟩;cases xs with
  | nil=>simp[zO]
  | cons x xs=>
   simp only[zO,h2,nZa,lMp,nLr,if_true,List.drop_zero];have e:((x::xs).map enB).take (x::xs).length=(x::xs).map enB:=by rw[<-lMp (f:=enB),lTl]
   simp only[e];rfl
theorem BL.old{B:Nat}{h h2:List qC}{v:AV}{xs:List UInt8}(x:BL B h v xs)(q:∀j,j<h.length->h2[j]?=h[j]?):BL B h2 v xs:=by
 rcases x with x | ⟨k,h1,h3,h4⟩
 ·exact .inl x
 ·exact .inr ⟨k,h1,by rw[q k (gSi.1 h3).1];exact h3,h4⟩
theorem Zd{E:Ev}{l:List qA}{ks:List Fr1}{s m:qf}{h:List qC}{Q:qS->VSt->Prop}{B:Nat}{v:AV}{xs:List UInt8}{b:UInt8}{d id:Nat}{c2:Bool}(x:BL B h v xs)(hB:B<=h.length)(h2:h[id]?=some (.row 1 [enB b] true))(hl:xs.length<4294967296)
  (hr:∀v' h',BL B h' v' (xs++[b])->h.length<=h'.length->(∀j,j<B->h'[j]?=h[j]?)->R E (.ops l::ks) ⟨(d,v')::s,m,h'⟩ Q):wk E 1 (some d) (some v) (some (.slice 1 id 0 1 c2)) l ks ⟨s,m,h⟩ Q:=by
 rcases x with⟨rfl,rfl⟩ | ⟨k,rfl,h1,h3⟩
 ·refine XU (ys:=[enB b]) (Els.row h2 rfl) (by simp) ?_;exact hr _ _ (.inr ⟨h.length,rfl,by simp,hB⟩) (by simp) fun j hj=>gAl (by omega)
 ·refine Qt (el:=xs.map enB) h2 h1 (by simp) hl ?_;refine hr _ _ (.inr ⟨h.length, ?_, ?_,hB⟩) (by simp) fun j hj=> ?_
  ·simp
  ·rw[show h.length=(h.set k .dead).length from by simp,gCl];simp
  ·rw[gAl (by simp;omega),gSn (by omega)]
def wW(m:Nat):List UInt8:=if m=0 then []else Lib.decDigits m
theorem qUI{m:Nat}(h:m≠0):wW m=wW (m/10)++[UInt8.ofNat (48+m%10)]:=by
 rw[wW,if_neg h,Lib.decDigits];split
 ·rename_i h1;rw[wW,if_pos (by omega),Nat.mod_eq_of_lt h1];rfl
 ·rename_i h1;rw[wW,if_neg (by omega)]
theorem c574{n:Nat}(hn:n<=2147483648):Pure Gm 574 [.int .i64 (n:Nat)] (.str (Lib.itoa n)):=by
 refine pJ WI ?_;simp only[WI,qH,go_sem];refine Sem.loop (fun a:Nat×List UInt8×AV×List qC=>a.2.1.length+a.1<=n/\wW n=wW a.1++a.2.1.reverse/\BL 0 a.2.2.2 a.2.2.1 a.2.1)
  (fun a=>(⟨[(0,.int .i64 (n:Nat)),(3,a.2.2.1),(4,.int .i64 (a.1:Nat))],[],a.2.2.2⟩:VSt)) (fun a=>a.1) (n,[],.lst 1 [] true,[]) (by kernel_rfl) ⟨by simp,by simp,.inl ⟨rfl,rfl⟩⟩ cS ?_
 rintro⟨m,ds,v,h⟩ ⟨hl,hI,hB⟩;simp only at hl hI hB;simp only[go_sem];by_cases hm:m=0
 case neg=>
  have e:decide (((m:Nat):Int)=0)=false:=dFf (by omega);have e1:Int.tmod (m:Int) 10=((m%10:Nat):Int):=rfl;have e2:Int.tdiv (m:Int) 10=((m/10:Nat):Int):=rfl;have e3:(48:Int)+((m%10:Nat):Int)=((48+m%10:Nat):Int):=by omega
  have hm10:m%10<10:=Nat.mod_lt _ (by decide);have hd:m/10<m:=Nat.div_lt_self (by omega) (by decide);have e6:decide (((m%10:Nat):Int)<0)=false:=dFf (by omega);have e4:(UInt8.ofNat (48+m%10)).toNat=48+m%10:=by rw[UInt8.toNat_ofNat'];omega
  have e5:IntKind.u8.wrap ((48+m%10:Nat):Int)=(((UInt8.ofNat (48+m%10)).toNat:Nat):Int):=by
   rw[IntWalk.u8_in _ ⟨by omega,by omega⟩];omega
  simp only[e,nF,go_sem,e1,e6,e2,Int.reduceEq,reduceIte,e3,zF (n:=((m%10:Nat):Int)) (by omega) (by omega),zF (n:=((48+m%10:Nat):Int)) (by omega) (by omega)];rw[e5];refine qy (v:=enB (UInt8.ofNat (48+m%10))) rfl rfl ?_;simp only[go_sem];refine Zd (b:=UInt8.ofNat (48+m%10)) hB.push (nZl _) (by rw[gCl]) (by omega) fun v' h' hB' _ _=> ?_;simp only[go_sem,e2,Int.reduceEq,reduceIte,zF (n:=((m/10:Nat):Int)) (by omega) (by omega)];refine qW (m/10,ds++[UInt8.ofNat (48+m%10)],v',h') ⟨by simp;omega, ?_,hB'⟩ (by simp only;omega) cS;rw[hI,qUI hm];simp
 subst hm;have e:decide (((0:Nat):Int)=0)=true:=rfl;simp only[e,nT,go_sem];rw[wW,wW,if_pos rfl,lNa]at hI;by_cases h0:n=0
 case' pos=>
  subst h0;simp only[e,nT,go_sem];refine qy (v:=enB 48) rfl rfl ?_;simp only[go_sem];refine Zd (b:=48) hB.push (nZl _) (by rw[gCl]) (by omega) fun v h hB _ _=> ?_;simp only[go_sem];obtain⟨xs,hxs⟩:∃xs,xs=ds++[(48:UInt8)]:=⟨_,rfl⟩;rw[<-hxs]at hB;have hds:ds=[]:=by simpa[wW]using hI
  have hx:xs.reverse=Lib.decDigits 0:=by rw[hxs,hds,Lib.decDigits_one (by decide)];rfl
  have hlen:xs.length<=2147483650:=by rw[hxs,hds];simp
  have elt:decide (((0:Nat):Int)<0)=false:=rfl
 case' neg=>
  have e0:decide (((n:Nat):Int)=0)=false:=dFf (by omega);simp only[e0,go_sem];obtain⟨xs,hxs⟩:∃xs,xs=ds:=⟨_,rfl⟩;rw[<-hxs]at hB;have hx:xs.reverse=Lib.decDigits n:=by rw[hxs,<-hI,if_neg h0]
  have hlen:xs.length<=2147483650:=by rw[hxs];omega
  have elt:decide (((n:Nat):Int)<0)=false:=dFf (by omega)
 all_goals
  clear hl hI hxs;simp only[elt,hB.ln,go_sem,zF (n:=((xs.length:Nat):Int)-1) (by omega) (by omega)];refine Sem.loop (fun a:Nat×AV×List qC=>a.1<=xs.length/\BL h.length a.2.2 a.2.1 (xs.reverse.take a.1)/\(∀j,j<h.length->a.2.2[j]?=h[j]?)/\h.length<=a.2.2.length)
   (fun a=>(⟨[(3,v),(6,a.2.1),(7,.int .i64 (((xs.length:Nat):Int)-1-(a.1:Nat)))],[],a.2.2⟩:VSt)) (fun a=>xs.length-a.1) (0,.lst 1 [] true,h) (by kernel_rfl) ⟨nZl _,.inl ⟨rfl,rfl⟩,fun _ _=>rfl,nLr _⟩ (by simp only[Int.natCast_zero,Int.ofNat_zero,Int.sub_zero];exact cS) ?_
  rintro⟨k,v6,h2⟩ ⟨hk,hB6,hold,hln⟩;simp only at hk hB6 hold hln;simp only[go_sem];by_cases hlt:k<xs.length
  ·have e1:((xs.length:Nat):Int)-1-(k:Int)=((xs.length-1-k:Nat):Int):=by omega
   have e2:decide ((0:Int)<=((xs.length-1-k:Nat):Int))=true:=dTt (by omega);have hj:xs.length-1-k<xs.length:=by omega
   obtain⟨id,x1,x2⟩:=(hB.old hold).ix hj;simp only[ge_iff_le,e1,e2,x1,x2,go_sem];refine qy (v:=enB xs[xs.length-1-k]) rfl rfl ?_;simp only[go_sem];refine Zd (b:=xs[xs.length-1-k]) hB6.push (by simp;omega) (by rw[gCl]) (by simp;omega) fun v' h' hB' g1 g2=> ?_;simp only[go_sem,zF (n:=((xs.length-1-k:Nat):Int)-1) (by omega) (by omega)];refine qW (k+1,v',h') ⟨by simp only;omega, ?_,fun j hj=> ?_, ?_⟩ (by simp only;omega) ?_
   ·have e3:xs.reverse.take (k+1)=xs.reverse.take k++[xs[xs.length-1-k]]:=by
     rw[lTs (by simp;omega),List.getElem_reverse]
    rw[e3];exact hB'
   ·have hj':j<h2.length:=by omega
    rw[g2 j hj,gAl hj'];exact hold j hj
   ·simp only[lAp]at g1;simp only;omega
   ·rw[show ((xs.length-1-k:Nat):Int)-1=((xs.length:Nat):Int)-1-((k+1:Nat):Int) by omega];exact cS
  ·obtain rfl:k=xs.length:=by omega
   have e2:decide ((0:Int)<=((xs.length:Nat):Int)-1-(xs.length:Nat))=false:=dFf (by omega);simp only[ge_iff_le,e2,go_sem];obtain⟨w1,w2⟩:=hB6.els;refine qSZ (a:=xs.reverse.take xs.length) w1 w2 ?_;simp only[go_sem];refine qE rfl ?_;rw[show xs.reverse.take xs.length=xs.reverse by rw[<-List.length_reverse,lTl],hx,Lib.itoa,if_neg (by omega)];rfl
theorem qaJ{n:Nat}(h0:0<n)(hn:n<=2147483648):Pure Gm 574 [.int .i64 (-(n:Int))] (.str (Lib.itoa (-(n:Int)))):=by
 refine pJ WI ?_;simp only[WI,qH,go_sem];refine Sem.loop (fun a:Nat×List UInt8×AV×List qC=>a.2.1.length+a.1<=n/\wW n=wW a.1++a.2.1.reverse/\BL 0 a.2.2.2 a.2.2.1 a.2.1)
  (fun a=>(⟨[(0,.int .i64 (-(n:Int))),(3,a.2.2.1),(4,.int .i64 (-((a.1:Nat):Int)))],[],a.2.2.2⟩:VSt)) (fun a=>a.1) (n,[],.lst 1 [] true,[]) (by kernel_rfl) ⟨by simp,by simp,.inl ⟨rfl,rfl⟩⟩ cS ?_
 rintro⟨m,ds,v,h⟩ ⟨hl,hI,hB⟩;simp only at hl hI hB;simp only[go_sem];by_cases hm:m=0
 case neg=>
  have e:decide (-((m:Nat):Int)=0)=false:=dFf (by omega);have e1:Int.tmod (-(m:Int)) 10= -((m%10:Nat):Int):=by rw[Int.neg_tmod];rfl
  have e2:Int.tdiv (-(m:Int)) 10= -((m/10:Nat):Int):=by rw[Int.neg_tdiv];rfl
  have e3:(48:Int)+((m%10:Nat):Int)=((48+m%10:Nat):Int):=by omega
  have hm10:m%10<10:=Nat.mod_lt _ (by decide);have hd:m/10<m:=Nat.div_lt_self (by omega) (by decide);have e4:(UInt8.ofNat (48+m%10)).toNat=48+m%10:=by rw[UInt8.toNat_ofNat'];omega
  have e5:IntKind.u8.wrap ((48+m%10:Nat):Int)=(((UInt8.ofNat (48+m%10)).toNat:Nat):Int):=by
   rw[IntWalk.u8_in _ ⟨by omega,by omega⟩];omega
  simp only[e,nF,go_sem,e1,e2,Int.reduceEq,reduceIte,zF (n:= -((m%10:Nat):Int)) (by omega) (by omega)];by_cases hz:m%10=0
  case' pos=>
   have e6:decide (((m%10:Nat):Int)<0)=false:=dFf (by omega);have e7: -((m%10:Nat):Int)=((m%10:Nat):Int):=by omega
   simp only[e6,e7,go_sem]
  case' neg=>
   have e6:decide (-((m%10:Nat):Int)<0)=true:=dTt (by omega);have e8:(0:Int)- -((m%10:Nat):Int)=((m%10:Nat):Int):=by omega
   simp only[e6,e8,go_sem,zF (n:=((m%10:Nat):Int)) (by omega) (by omega)]
  all_goals
   simp only[e3,zF (n:=((48+m%10:Nat):Int)) (by omega) (by omega),go_sem];rw[e5];refine qy (v:=enB (UInt8.ofNat (48+m%10))) rfl rfl ?_;simp only[go_sem];refine Zd (b:=UInt8.ofNat (48+m%10)) hB.push (nZl _) (by rw[gCl]) (by omega) fun v' h' hB' _ _=> ?_;simp only[go_sem,e2,Int.reduceEq,reduceIte,zF (n:= -((m/10:Nat):Int)) (by omega) (by omega)];refine qW (m/10,ds++[UInt8.ofNat (48+m%10)],v',h') ⟨by simp;omega, ?_,hB'⟩ (by simp only;omega) cS;rw[hI,qUI hm];simp
 subst hm;have e:decide (-((0:Nat):Int)=0)=true:=rfl;have e0:decide (-((n:Nat):Int)=0)=false:=dFf (by omega);have elt:decide (-((n:Nat):Int)<0)=true:=dTt (by omega);simp only[e,e0,elt,nT,go_sem];rw[wW,wW,if_pos rfl,lNa,if_neg (by omega)]at hI;refine qy (v:=enB 45) rfl rfl ?_;simp only[go_sem];refine Zd (b:=45) hB.push (nZl _) (by rw[gCl]) (by omega) fun v h hB _ _=> ?_;simp only[go_sem];obtain⟨xs,hxs⟩:∃xs,xs=ds++[(45:UInt8)]:=⟨_,rfl⟩;rw[<-hxs]at hB;have hx:xs.reverse=45::Lib.decDigits n:=by rw[hxs,hI];simp
 have hlen:xs.length<=2147483650:=by rw[hxs];simp;omega
 clear hl hI hxs;simp only[hB.ln,go_sem,zF (n:=((xs.length:Nat):Int)-1) (by omega) (by omega)];refine Sem.loop (fun a:Nat×AV×List qC=>a.1<=xs.length/\BL h.length a.2.2 a.2.1 (xs.reverse.take a.1)/\(∀j,j<h.length->a.2.2[j]?=h[j]?)/\h.length<=a.2.2.length)
  (fun a=>(⟨[(3,v),(6,a.2.1),(7,.int .i64 (((xs.length:Nat):Int)-1-(a.1:Nat)))],[],a.2.2⟩:VSt)) (fun a=>xs.length-a.1) (0,.lst 1 [] true,h) (by kernel_rfl) ⟨nZl _,.inl ⟨rfl,rfl⟩,fun _ _=>rfl,nLr _⟩ (by simp only[Int.natCast_zero,Int.ofNat_zero,Int.sub_zero];exact cS) ?_
 rintro⟨k,v6,h2⟩ ⟨hk,hB6,hold,hln⟩;simp only at hk hB6 hold hln;simp only[go_sem];by_cases hlt:k<xs.length
 ·have e1:((xs.length:Nat):Int)-1-(k:Int)=((xs.length-1-k:Nat):Int):=by omega
  have e2:decide ((0:Int)<=((xs.length-1-k:Nat):Int))=true:=dTt (by omega);have hj:xs.length-1-k<xs.length:=by omega
  obtain⟨id,x1,x2⟩:=(hB.old hold).ix hj;simp only[ge_iff_le,e1,e2,x1,x2,go_sem];refine qy (v:=enB xs[xs.length-1-k]) rfl rfl ?_;simp only[go_sem];refine Zd (b:=xs[xs.length-1-k]) hB6.push (by simp;omega) (by rw[gCl]) (by simp;omega) fun v' h' hB' g1 g2=> ?_;simp only[go_sem,zF (n:=((xs.length-1-k:Nat):Int)-1) (by omega) (by omega)];refine qW (k+1,v',h') ⟨by simp only;omega, ?_,fun j hj=> ?_, ?_⟩ (by simp only;omega) ?_
  ·have e3:xs.reverse.take (k+1)=xs.reverse.take k++[xs[xs.length-1-k]]:=by
    rw[lTs (by simp;omega),List.getElem_reverse]
   rw[e3];exact hB'
  ·have hj':j<h2.length:=by omega
   rw[g2 j hj,gAl hj'];exact hold j hj
  ·simp only[lAp]at g1;simp only;omega
  ·rw[show ((xs.length-1-k:Nat):Int)-1=((xs.length:Nat):Int)-1-((k+1:Nat):Int) by omega];exact cS
 ·obtain rfl:k=xs.length:=by omega
  have e2:decide ((0:Int)<=((xs.length:Nat):Int)-1-(xs.length:Nat))=false:=dFf (by omega);simp only[ge_iff_le,e2,go_sem];obtain⟨w1,w2⟩:=hB6.els;refine qSZ (a:=xs.reverse.take xs.length) w1 w2 ?_;simp only[go_sem];refine qE rfl ?_;rw[show xs.reverse.take xs.length=xs.reverse by rw[<-List.length_reverse,lTl],hx,Lib.itoa,if_pos (by omega)];simp
theorem qB.layE(x:qB)(n:Nat):lay x.enc n=(.agg [.int .i64 x.Kind,.str x.Name,.slice 3 (n) 0 x.Kids.length false],(lay (.lst 3 (x.Kids.map qB.enc) false) (n)).2++[]):=by
 rw[qB.enc_eq];simp[lay,qZ,wZ,AV.rows,Nat.add_assoc,Nat.add_comm,Nat.add_left_comm]
def qB.wz(x:qB):Nat:=x.nd-1
theorem qB.nd_wz(x:qB):x.nd=1+x.wz:=by have:=x.nd_eq;unfold qB.wz;omega
theorem qB.wz_eq(x:qB):x.wz=x.Kids.length+qM qB.wz x.Kids:=by
 have h:∀xs:List qB,qM qB.nd xs=xs.length+qM qB.wz xs:=by
  intro xs
  induction xs with
  | nil=>rfl
  | cons a xs ih=>have:=a.nd_wz;simp only[qM,lCo];omega
 have:=x.nd_eq;unfold qB.wz;rw[this,h];unfold qB.wz;omega
def qB.ct(x:qB):Nat:=2*x.nd
theorem zA{α:Type}{xs:List α}{i:Nat}{x:α}(h:xs[i]?=some x):i<xs.length:=(gSi.1 h).1
section
variable {E:Ev} {ks:List Fr1} {s m:qf} {h:List qC} {Q:qS->VSt->Prop} {l:List qA} {i:Nat} {d:Option Nat} {g:Option (Nat×Bool)} {ck:List qA} {x y:Ao} {op:BinOp}
end
theorem idx1{id n i:Nat}(h:i<n):idx 1 (some (.slice 1 id 0 n false)) (some (.int .i64 (i:Nat)))=some (.ptr id i 0):=by simp[idx];omega
section
variable {bytes:List Int} {sid p:Nat} {seed:Int} {h:List qC} {K:AV->List qC->Prop}
variable {B:Nat} {n:Int}
end
section
variable {bytes:List Int} {sid lid n b B:Nat} {h:List qC} {K:AV->List qC->Prop} {ns:List Str}
end
section
variable {bytes:List Int} {sid lid n b B C:Nat} {h h1 h2:List qC} {K:AV->List qC->Prop} {ns:List Str}
end
section
variable {bytes:List Int} {sid b B:Nat} {h:List qC}
end
inductive Ty where
 | int
 | data (n:Str)
 | fn (a b:Ty)
 | bang (a:Ty)
namespace Ty
def g:Ty->qB
 |.int=>.mk 1 [] []
 |.data n=>.mk 2 n []
 |.fn a b=>.mk 3 [] [a.g,b.g]
 |.bang a=>.mk 4 [] [a.g]
def kind:Ty->Int
 |.int=>1
 |.data _=>2
 |.fn _ _=>3
 |.bang _=>4
def name:Ty->Str
 |.data n=>n
 | _=>[]
def kids:Ty->List Ty
 |.fn a b=>[a,b]
 |.bang a=>[a]
 | _=>[]
theorem g_eq(y:Ty):y.g=.mk y.kind y.name (y.kids.map Ty.g):=by cases y<;>rfl
def n:Ty->Nat
 |.int=>1
 |.data _=>1
 |.fn a b=>1+(a.n+b.n)
 |.bang a=>1+a.n
def ok:Ty->Prop
 |.int=>True
 |.data m=>zL m=true/\¬m=[73,110,116]
 |.fn a b=>a.ok/\b.ok
 |.bang a=>a.ok
def dep:Ty->Nat
 |.int=>1
 |.data _=>1
 |.fn a b=>max (max 1 (a.dep+1)) (b.dep+1)
 |.bang a=>max 1 (a.dep+1)
theorem shp_g:∀y:Ty,y.ok->y.g.shp=(y.dep,y.n,true)
 |.int,_=>by rw[qB.shp_eq];simp[g,qB.Kids,qB.Kind,qB.Name,qB.shps,okT,dep,n]
 |.data m,h=>by rw[qB.shp_eq];simp[g,qB.Kids,qB.Kind,qB.Name,qB.shps,okT,dep,n,h.1,h.2]
 |.fn a b,h=>by rw[qB.shp_eq];simp[g,qB.Kids,qB.Kind,qB.Name,qB.shps,okT,dep,n,shp_g a h.1,shp_g b h.2];omega
 |.bang a,h=>by rw[qB.shp_eq];simp[g,qB.Kids,qB.Kind,qB.Name,qB.shps,okT,dep,n,shp_g a h]
theorem of_shp:∀x:qB,x.shp.2.2=true->∃y:Ty,x=y.g/\y.ok:=qB.ind fun x ih h=>by
 rw[qB.shp_eq]at h;cases hs:qB.shps x.Kids 1 1 with
 | none=>rw[hs]at h;cases h
 | some p=>
  obtain⟨d,s⟩:=p;rw[hs]at h;simp only at h;have kid:∀(xs:List qB)(d s:Nat)(q:Nat×Nat),qB.shps xs d s=some q->∀z∈xs,z.shp.2.2=true:=by
   intro xs
   induction xs with
   | nil=>intro d s q _ z hz;cases hz
   | cons a xs ihx=>
    intro d s q hq z hz;simp only[qB.shps]at hq;split at hq
    ·rename_i d' s' he;rcases List.mem_cons.1 hz with rfl | hz
     ·rw[he]
     ·exact ihx _ _ _ hq z hz
    ·cases hq
  have hk:=kid _ _ _ _ hs;rw[<-x.eta];unfold okT at h;split at h
  ·rename_i k;simp at h;exact⟨.int,by rw[k,h.1,h.2];rfl,trivial⟩
  ·split at h
   ·rename_i k;simp at h;exact⟨.data x.Name,by rw[k,h.2.2];rfl,h.1,h.2.1⟩
   ·split at h
    ·rename_i k;simp at h;obtain⟨a,b,e⟩:∃a b,x.Kids=[a,b]:=by
      match he:x.Kids,h.2 with
      |[a,b],_=>exact⟨a,b,rfl⟩
     obtain⟨y1,e1,o1⟩:=ih a (by rw[e];simp) (hk a (by rw[e];simp));obtain⟨y2,e2,o2⟩:=ih b (by rw[e];simp) (hk b (by rw[e];simp));exact⟨.fn y1 y2,by rw[k,h.1,e,e1,e2];rfl,o1,o2⟩
    ·split at h
     ·rename_i k;simp at h;obtain⟨a,e⟩:∃a,x.Kids=[a]:=by
       match he:x.Kids,h.2 with
       |[a],_=>exact⟨a,rfl⟩
      obtain⟨y1,e1,o1⟩:=ih a (by rw[e];simp) (hk a (by rw[e];simp));exact⟨.bang y1,by rw[k,h.1,e,e1];rfl,o1⟩
     ·cases h
theorem nd_g:∀y:Ty,y.g.nd=y.n
 |.int=>rfl
 |.data _=>rfl
 |.fn a b=>by rw[qB.nd_eq];simp[g,qB.Kids,qM,n,nd_g a,nd_g b]
 |.bang a=>by rw[qB.nd_eq];simp[g,qB.Kids,qM,n,nd_g a]
theorem bd_g:∀y:Ty,y.ok->y.g.bd
 |.int,_=>by rw[qB.bd_eq];simp[g,qB.Kids,qB.Name]
 |.data m,h=>by
  have h1:=h.1;have:m.length<=12:=by
   unfold zL ze at h1;split at h1<;>simp_all
  rw[qB.bd_eq];simp[g,qB.Kids,qB.Name];omega
 |.fn a b,h=>by rw[qB.bd_eq];simp[g,qB.Kids,qB.Name,bd_g a h.1,bd_g b h.2]
 |.bang a,h=>by
  have:=bd_g a h;rw[qB.bd_eq];simp[g,qB.Kids,qB.Name,this]
theorem sind{P:Ty->Prop}(h:∀y,(∀z,z.n<y.n->P z)->P y)(y:Ty):P y:=by
 have:∀m (y:Ty),y.n<m->P y:=by
  intro m
  induction m with
  | zero=>intro y hy;exact absurd hy (by omega)
  | succ m ih=>intro y hy;exact h y fun z hz=>ih z (by omega)
 exact this (y.n+1) y (by omega)
def enc(y:Ty):AV:=y.g.enc
end Ty
section
variable {y:Ty}
@[go_sem] theorem Ty.tr:y.enc.tree=true:=qB.tr
@[go_sem] theorem Ty.ln:y.enc.cells.length=3:=qB.ln
@[go_sem] theorem Ty.all:y.enc.part 0 (some 3)=some y.enc:=qB.all
theorem Ty.enc_eq:y.enc=.agg [.int .i64 y.kind,.str y.name,.lst 3 (y.kids.map Ty.enc) false]:=by
 unfold Ty.enc;rw[Ty.g_eq,qB.enc_eq];simp only[qB.Kind,qB.Name,qB.Kids,List.map_map];rfl
@[go_sem] theorem Ty.p0:y.enc.part 0 none=some (.int .i64 y.kind):=by rw[Ty.enc_eq];rfl
@[go_sem] theorem Ty.p1:y.enc.part 1 none=some (.str y.name):=by rw[Ty.enc_eq];rfl
@[go_sem] theorem Ty.p2:y.enc.part 2 none=some (.lst 3 (y.kids.map Ty.enc) false):=by rw[Ty.enc_eq];rfl
end
end Go.Ab
namespace Go.Ab
open Go
set_option maxRecDepth 10000
set_option maxHeartbeats 2000000
theorem Ty.valid(y:Ty)(hy:y.ok):zZ y.g=(decide (y.dep<=6)&&decide (y.n<=16)):=by
 unfold zZ;rw[Ty.shp_g y hy,Bool.true_and]
structure Ty.V(y:Ty):Prop where
 o:y.ok
 v:zZ y.g=true
theorem Ty.V.n{y:Ty}(h:y.V):y.n<=16:=by
 have:=h.v;rw[Ty.valid y h.o,bAt,dTe,dTe]at this;exact this.2
namespace Ty
def text:Ty->Str
 |.int=>[73,110,116]
 |.data m=>m
 |.fn a b=>((if a.kind=3 then 40::(a.text++[41])else a.text)++[32,45,62,32])++b.text
 |.bang a=>33::(if a.kind=3 then 40::(a.text++[41])else a.text)
def encl(a:Ty):Str:=if a.kind=3 then 40::(a.text++[41])else a.text
theorem text_fn(a b:Ty):(Ty.fn a b).text=(a.encl++[32,45,62,32])++b.text:=rfl
theorem text_bang(a:Ty):(Ty.bang a).text=33::a.encl:=rfl
theorem name_len{m:Str}(h:zL m=true):m.length<=12:=by
 unfold zL ze at h;split at h<;>simp_all
theorem encl_len(a:Ty):a.encl.length<=a.text.length+2:=by
 unfold encl;split
 ·simp
 ·omega
theorem text_len:∀y:Ty,y.ok->y.text.length<=20*y.n
 |.int,_=>by simp[text,n]
 |.data m,h=>by have:=name_len h.1;simp only[text,n];omega
 |.fn a b,h=>by
  have:=text_len a h.1;have:=text_len b h.2;have:=encl_len a;rw[text_fn];simp only[lAp,lCo,lNi,n];omega
 |.bang a,h=>by
  have:=text_len a h;have:=encl_len a;rw[text_bang];simp only[lCo,n];omega
end Ty
theorem c723{y:Ty}(hl:y.text.length<=1000000000)(h:Pure Gm 336 [y.enc] (.str y.text)):Pure Gm 723 [y.enc] (.str y.encl):=by
 refine pI U6 (by simp[AV.trees,Ty.tr]) rfl ?_;simp only[U6,qH,go_sem];refine zM Ty.ln ?_;simp only[go_sem];by_cases h3:y.kind=3
 ·simp only[dTt h3,go_sem];refine qF h ?_;simp only[go_sem];rw[J9 (by simp only[lCo,lNi];omega)];simp only[go_sem];rw[J9 (by simp only[lAp,lCo,lNi];omega)];simp only[go_sem];exact qE rfl (by unfold Ty.encl;rw[if_pos h3];rfl)
 ·simp only[dFf h3,go_sem];refine qF h ?_;simp only[go_sem];exact qE rfl (by unfold Ty.encl;rw[if_neg h3])
theorem c336:∀y:Ty,y.ok->y.n<=1048576->Pure Gm 336 [y.enc] (.str y.text):=Ty.sind fun y ih ho hn=>by
 refine pI Ug (by simp[AV.trees,Ty.tr]) rfl ?_;simp only[Ug,qH,go_sem];refine zM Ty.ln ?_;simp only[go_sem];cases y with
 | int=>
  simp only[show decide (Ty.int.kind=1)=true from rfl,go_sem];exact qE rfl rfl
 | data m=>
  simp only[show decide ((Ty.data m).kind=1)=false from rfl,show decide ((Ty.data m).kind=3)=false from rfl,show decide ((Ty.data m).kind=4)=false from rfl,go_sem];exact qE rfl rfl
 | fn a b=>
  have la:=Ty.text_len a ho.1;have lb:=Ty.text_len b ho.2;have le:=a.encl_len;simp only[Ty.n]at hn ih;simp only[show decide ((Ty.fn a b).kind=1)=false from rfl,show decide ((Ty.fn a b).kind=3)=true from rfl,go_sem];simp only[Ty.kids,lMc,List.map_nil,List.getElem?_cons_zero,List.getElem?_cons_succ,oMs,go_sem];refine qF (c723 (by omega) (ih a (by omega) ho.1 (by omega))) ?_;simp only[go_sem];rw[J9 (by simp only[lCo,lNi];omega)];simp only[go_sem];refine qF (ih b (by omega) ho.2 (by omega)) ?_;simp only[go_sem];rw[J9 (by simp only[lAp,lCo,lNi];omega)];simp only[go_sem];exact qE rfl (by rw[Ty.text_fn])
 | bang a=>
  have la:=Ty.text_len a ho;have le:=a.encl_len;simp only[Ty.n]at hn ih;simp only[show decide ((Ty.bang a).kind=1)=false from rfl,show decide ((Ty.bang a).kind=3)=false from rfl,show decide ((Ty.bang a).kind=4)=true from rfl,go_sem];simp only[Ty.kids,lMc,List.map_nil,List.getElem?_cons_zero,List.getElem?_cons_succ,oMs,go_sem];refine qF (c723 (by omega) (ih a (by omega) ho (by omega))) ?_;simp only[go_sem];rw[J9 (by simp only[lCo,lNi];omega)];simp only[go_sem];exact qE rfl rfl
end Go.Ab
namespace Go.Ab
open Go
set_option maxRecDepth 10000
set_option maxHeartbeats 2000000
theorem qN{E:Ev}{d:Option Nat}{l:List qA}{ks:List Fr1}{st:VSt}{Q:qS->VSt->Prop}{a b:Str}(hr:Put E (some (.str (a++b))) d l ks st Q)(h:a.length+b.length<=9223372036854775807:=by first | omega | (simp only[lAp,lCo,lNi];omega)):Put E (wh .add a b) d l ks st Q:=by rw[J9 h];exact hr
theorem qTL{y:Ty}(hl:y.text.length<=1000000000)(h:Pure Gm 1005 [y.enc] (.str y.text)):Pure Gm 1324 [y.enc] (.str y.encl):=by
 refine pI Vj (by simp[AV.trees,Ty.tr]) rfl ?_;simp only[Vj,qH,go_sem];refine zM Ty.ln ?_;simp only[go_sem];by_cases h3:y.kind=3
 ·simp only[dTt h3,go_sem];refine qF h ?_;simp only[go_sem];refine qN ?_;simp only[go_sem];refine qN ?_;simp only[go_sem];exact qE rfl (by unfold Ty.encl;rw[if_pos h3];rfl)
 ·simp only[dFf h3,go_sem];refine qF h ?_;simp only[go_sem];exact qE rfl (by unfold Ty.encl;rw[if_neg h3])
theorem qZQ:∀y:Ty,y.ok->y.n<=1048576->Pure Gm 1005 [y.enc] (.str y.text):=Ty.sind fun y ih ho hn=>by
 refine pI Y4 (by simp[AV.trees,Ty.tr]) rfl ?_;simp only[Y4,qH,go_sem];refine zM Ty.ln ?_;simp only[go_sem];cases y with
 | int=>
  simp only[show decide (Ty.int.kind=1)=true from rfl,go_sem];exact qE rfl rfl
 | data m=>
  simp only[show decide ((Ty.data m).kind=1)=false from rfl,show decide ((Ty.data m).kind=2)=true from rfl,go_sem];exact qE rfl rfl
 | fn a b=>
  have la:=Ty.text_len a ho.1;have lb:=Ty.text_len b ho.2;have le:=a.encl_len;simp only[Ty.n]at hn ih;simp only[show decide ((Ty.fn a b).kind=1)=false from rfl,show decide ((Ty.fn a b).kind=2)=false from rfl,show decide ((Ty.fn a b).kind=3)=true from rfl,go_sem];simp only[Ty.kids,lMc,List.map_nil,List.getElem?_cons_zero,List.getElem?_cons_succ,oMs,go_sem];refine qF (qTL (by omega) (ih a (by omega) ho.1 (by omega))) ?_;simp only[go_sem];refine qN ?_;simp only[go_sem];refine qF (ih b (by omega) ho.2 (by omega)) ?_;simp only[go_sem];refine qN ?_;simp only[go_sem];exact qE rfl (by rw[Ty.text_fn])
 | bang a=>
  have la:=Ty.text_len a ho;have le:=a.encl_len;simp only[Ty.n]at hn ih;simp only[show decide ((Ty.bang a).kind=1)=false from rfl,show decide ((Ty.bang a).kind=2)=false from rfl,show decide ((Ty.bang a).kind=3)=false from rfl,go_sem];simp only[Ty.kids,lMc,List.map_nil,List.getElem?_cons_zero,List.getElem?_cons_succ,oMs,go_sem];refine qF (qTL (by omega) (ih a (by omega) ho (by omega))) ?_;simp only[go_sem];refine qN ?_;simp only[go_sem];exact qE rfl rfl
def jn(sep:Str):List Str->Str
 |[]=>[]
 | x::r=>x++(r.map (sep++ ·)).flatten
theorem X0{sep:Str}{xs:List Str}{i:Nat}(h:i<xs.length):jn sep (xs.take (i+1))=(if i=0 then []else jn sep (xs.take i)++sep)++xs[i]:=by
 cases xs with
 | nil=>simp at h
 | cons x r=>
  cases i with
  | zero=>simp[jn]
  | succ i=>
   have h':i<r.length:=by simpa using h
   rw[if_neg (by omega),List.take_succ_cons,List.take_succ_cons,jn,jn,lTs h',lMa,List.flatten_append];simp only[lMc,List.map_nil,List.flatten_cons,List.flatten_nil,lAn,lAa,List.getElem_cons_succ]
theorem QQ{sep:Str}{xs:List Str}:∀i,(jn sep (xs.take i)).length<=(jn sep xs).length:=fun i=>by
 cases xs with
 | nil=>simp
 | cons x r=>
  cases i with
  | zero=>simp[jn]
  | succ i=>
   rw[List.take_succ_cons,jn,jn,lAp,lAp];have:((r.take i).map (sep++ ·)).flatten.length<=(r.map (sep++ ·)).flatten.length:=by
    conv=>rhs;rw[<-List.take_append_drop i r,lMa,List.flatten_append,lAp]
    omega
   omega
def brk(xs:List Str):Str:=if jn [44,32] xs=[]then []else [91]++jn [44,32] xs++[93]
theorem Ty.V.s{y:Ty}(h:y.V):Pure Gm 208 [y.enc] (.bool true):=by
 have:=Xd (Ty.bd_g y h.o) (by rw[Ty.nd_g];have:=h.n;omega);rw[h.v]at this;exact this
theorem c626{y:Ty}(h:y.V):Pure Gm 626 [y.enc] (.str y.text):=by
 refine pI Uw (by simp[AV.trees,Ty.tr]) rfl ?_;simp only[Uw,qH,go_sem];refine zM Ty.ln ?_;simp only[go_sem];refine qF h.s ?_;simp only[go_sem,nT];refine qF (qZQ y h.o (by have:=h.n;omega)) ?_;simp only[go_sem];exact qE rfl rfl
theorem Kr{xs:List Str}(hl:(jn [44,32] xs).length<=1000000000)(hx:xs.length<=1048576):Pure Gm 1004 [.lst 1 (xs.map qR) false] (.str (brk xs)):=by
 refine pI Y3 (by simp[AV.trees,AV.tree,zD shS.tree]) rfl ?_;simp only[Y3,qH,go_sem];refine Sem.loop (fun i:Nat=>i<=xs.length) (fun i=>(⟨[(0,.lst 1 (xs.map qR) false),(3,.str (jn [44,32] (xs.take i))),(4,.int .i64 (i:Nat))],[],[]⟩:VSt)) (fun i=>xs.length-i) 0 (by kernel_rfl) (nZl _) (Can.sub (by simp[go_sem,jn]) (by simp[go_sem])) ?_;intro i hi;simp only[lMp,go_sem];by_cases hlt:i<xs.length
 ·have e1:decide ((i:Int)<(xs.length:Nat))=true:=dTt (by omega);have hs:=X0 (sep:=[44,32]) hlt;have h1:=QQ (sep:=[44,32]) (xs:=xs) (i+1);have h2:=QQ (sep:=[44,32]) (xs:=xs) i;simp only[e1,go_sem];by_cases h0:i=0
  ·have e0:decide ((0:Int)<((i:Nat):Int))=false:=dFf (by omega);simp only[gt_iff_lt,e0,go_sem,gMp,gEg hlt,oMs,qR];rw[if_pos h0,lNa]at hs;rw[J9 (by rw[hs]at h1;omega)];simp only[go_sem,qp (show i<4611686018427387904 by omega)];refine qW (i+1) (by omega) (by omega) ?_;have hz:jn [44,32] (xs.take i)=[]:=by rw[h0,List.take_zero];rfl
   rw[hs,hz,lNa];exact cS
  ·have e0:decide ((0:Int)<((i:Nat):Int))=true:=dTt (by omega);rw[if_neg h0]at hs;rw[hs]at h1;simp only[lAp,lCo,lNi]at h1;simp only[gt_iff_lt,e0,go_sem];refine qN ?_;simp only[go_sem,gMp,gEg hlt,oMs,qR];refine qN ?_;simp only[go_sem,qp (show i<4611686018427387904 by omega)];refine qW (i+1) (by omega) (by omega) ?_;rw[hs];exact cS
 ·have e1:decide ((i:Int)<(xs.length:Nat))=false:=dFf (by omega);obtain rfl:i=xs.length:=by omega
  simp only[e1,lTl,go_sem];by_cases hb:jn [44,32] xs=[]
  ·simp only[hb,go_sem];exact qE rfl (by rw[brk,if_pos hb])
  ·simp only[dFf hb,go_sem];refine qN ?_;simp only[go_sem];refine qN ?_;simp only[go_sem];exact qE rfl (by rw[brk,if_neg hb])
inductive qD where
 | mk (Kind Num:Int) (Name:List UInt8) (Typ:qB) (Names:List (List UInt8)) (Kids:List qD)
def qD.Kind:qD->Int |.mk a _ _ _ _ _=>a
def qD.Num:qD->Int |.mk _ a _ _ _ _=>a
def qD.Name:qD->List UInt8 |.mk _ _ a _ _ _=>a
def qD.Typ:qD->qB |.mk _ _ _ a _ _=>a
def qD.Names:qD->List (List UInt8) |.mk _ _ _ _ a _=>a
def qD.Kids:qD->List qD |.mk _ _ _ _ _ a=>a
theorem qD.eta(x:qD):qD.mk x.Kind x.Num x.Name x.Typ x.Names x.Kids=x:=by cases x;rfl
theorem qD.lt_of_mem{x:qD}{y:qD}(h:y∈x.Kids):SizeOf.sizeOf y<SizeOf.sizeOf x:=by
 cases x with
 | mk a b c d e f=>
  have:=List.sizeOf_lt_of_mem (show y∈f from h);simp only[qD.mk.sizeOf_spec];omega
theorem qD.ind{P:qD->Prop}(h:∀x,(∀y,y∈x.Kids->P y)->P x)(x:qD):P x:=
 h x fun y hy=>qD.ind h y
termination_by SizeOf.sizeOf x
decreasing_by exact qD.lt_of_mem hy
mutual
def qD.enc:qD->AV
 |.mk k v n t ns ks=>.agg [.int .i64 k,.int .i64 v,.str n,.int .i64 t.Kind,.str t.Name,.lst 3 (t.Kids.map qB.enc) false,.lst 1 (ns.map qR) false,.lst 8 (qD.encs ks) false]
def qD.encs:List qD->List AV
 |[]=>[]
 | x::xs=>x.enc::qD.encs xs
end
theorem qD.encs_eq:∀xs,qD.encs xs=xs.map qD.enc
 |[]=>by simp[qD.encs]
 | x::xs=>by simp[qD.encs,qD.encs_eq xs]
theorem qD.enc_eq(x:qD):x.enc=.agg [.int .i64 x.Kind,.int .i64 x.Num,.str x.Name,.int .i64 x.Typ.Kind,.str x.Typ.Name,.lst 3 (x.Typ.Kids.map qB.enc) false,.lst 1 (x.Names.map qR) false,.lst 8 (x.Kids.map qD.enc) false]:=by
 cases x;simp[qD.enc,qD.encs_eq,qD.Kind,qD.Num,qD.Name,qD.Typ,qD.Names,qD.Kids]
theorem qD.trx:∀x:qD,x.enc.tree=true:=qD.ind fun x ih=>by
 rw[qD.enc_eq];have h:∀xs:List qD,(∀y∈xs,y.enc.tree=true)->AV.trees (xs.map qD.enc)=true:=by
  intro xs
  induction xs with
  | nil=>intro _;rfl
  | cons a xs ihx=>intro h;simp only[lMc,AV.trees,bAt];exact⟨h a (by simp),ihx fun y hy=>h y (by simp[hy])⟩
 simp[AV.tree,AV.trees,zD shS.tree,zD qB.isSh.tree,h _ ih]
theorem qD.isSh:Sh qD.enc 8 (some 8):=⟨qD.trx,fun x=>by rw[qD.enc_eq];rfl,fun x=>by rw[qD.enc_eq];rfl,by decide,fun x=>by rw[qD.enc_eq];simp⟩
section
variable {x:qD}
@[go_sem] theorem qD.tr:x.enc.tree=true:=qD.trx x
@[go_sem] theorem qD.ln:x.enc.cells.length=8:=by rw[qD.enc_eq];rfl
@[go_sem] theorem qD.all:x.enc.part 0 (some 8)=some x.enc:=by rw[qD.enc_eq];rfl
@[go_sem] theorem qD.p0:x.enc.part 0 none=some (.int .i64 x.Kind):=by rw[qD.enc_eq];rfl
@[go_sem] theorem qD.p1:x.enc.part 1 none=some (.int .i64 x.Num):=by rw[qD.enc_eq];rfl
@[go_sem] theorem qD.p2:x.enc.part 2 none=some (.str x.Name):=by rw[qD.enc_eq];rfl
@[go_sem] theorem qD.p3:x.enc.part 3 (some 3)=some x.Typ.enc:=by rw[qD.enc_eq,qB.enc_eq];rfl
@[go_sem] theorem qD.p3k:x.enc.part 3 none=some (.int .i64 x.Typ.Kind):=by rw[qD.enc_eq];rfl
@[go_sem] theorem qD.p4:x.enc.part 4 none=some (.str x.Typ.Name):=by rw[qD.enc_eq];rfl
@[go_sem] theorem qD.p5:x.enc.part 5 none=some (.lst 3 (x.Typ.Kids.map qB.enc) false):=by rw[qD.enc_eq];rfl
@[go_sem] theorem qD.p6:x.enc.part 6 none=some (.lst 1 (x.Names.map qR) false):=by rw[qD.enc_eq];rfl
@[go_sem] theorem qD.p7:x.enc.part 7 none=some (.lst 8 (x.Kids.map qD.enc) false):=by rw[qD.enc_eq];rfl
end
mutual
def qD.wz:qD->Nat
 |.mk _ _ _ t ns ks=>t.wz+(ns.length+(ks.length+qD.wzs ks))
def qD.wzs:List qD->Nat
 |[]=>0
 | x::xs=>x.wz+qD.wzs xs
end
theorem qD.wzs_eq:∀xs,qD.wzs xs=qM qD.wz xs
 |[]=>by simp[qD.wzs,qM]
 | x::xs=>by simp[qD.wzs,qM,qD.wzs_eq xs]
theorem qD.wz_eq(x:qD):x.wz=x.Typ.wz+(x.Names.length+(x.Kids.length+qM qD.wz x.Kids)):=by
 cases x;simp[qD.wz,qD.wzs_eq,qD.Typ,qD.Names,qD.Kids]
mutual
def qD.nd:qD->Nat
 |.mk _ _ _ _ _ ks=>1+qD.nds ks
def qD.nds:List qD->Nat
 |[]=>0
 | x::xs=>x.nd+qD.nds xs
end
theorem qD.nds_eq:∀xs,qD.nds xs=qM qD.nd xs
 |[]=>by simp[qD.nds,qM]
 | x::xs=>by simp[qD.nds,qM,qD.nds_eq xs]
theorem qD.nd_eq(x:qD):x.nd=1+qM qD.nd x.Kids:=by cases x;simp[qD.nd,qD.nds_eq,qD.Kids]
theorem qD.nd_wz:∀x:qD,x.nd<=x.wz+1:=qD.ind fun x ih=>by
 have h:∀xs:List qD,(∀y∈xs,y.nd<=y.wz+1)->qM qD.nd xs<=xs.length+qM qD.wz xs:=by
  intro xs
  induction xs with
  | nil=>intro _;exact nLr _
  | cons a xs ihx=>intro h;have:=h a (by simp);have:=ihx fun y hy=>h y (by simp[hy]);simp only[qM,lCo];omega
 have:=h x.Kids ih;rw[x.nd_eq,x.wz_eq];omega
mutual
def qD.bd:qD->Prop
 |.mk _ _ n t ns ks=>n.length<=20000/\t.bd/\(∀s∈ns,s.length<=20000)/\qD.bds ks
def qD.bds:List qD->Prop
 |[]=>True
 | x::xs=>x.bd/\qD.bds xs
end
theorem qD.bds_eq:∀xs,qD.bds xs↔∀y∈xs,qD.bd y
 |[]=>by simp[qD.bds]
 | x::xs=>by simp[qD.bds,qD.bds_eq xs]
theorem qD.bd_eq(x:qD):x.bd↔x.Name.length<=20000/\x.Typ.bd/\(∀s∈x.Names,s.length<=20000)/\∀y∈x.Kids,y.bd:=by
 cases x;simp[qD.bd,qD.bds_eq,qD.Name,qD.Typ,qD.Names,qD.Kids]
def noT:qB:=.mk 0 [] []
def tmk(k n:Int)(s:Str)(ks:List qD):qD:=.mk k n s noT [] ks
def qhF:qD:=tmk 0 0 [] []
def exB{α β:Type}(r:Except Nat (α×Nat))(k:α->Nat->Except Nat (β×Nat)):Except Nat (β×Nat):=match r with
 |.ok (t,b)=>k t b
 |.error b=>.error b
theorem qg{α β:Type}{t:α}{b:Nat}{k:α->Nat->Except Nat (β×Nat)}:exB (.ok (t,b)) k=k t b:=rfl
theorem qn{α β:Type}{b:Nat}{k:α->Nat->Except Nat (β×Nat)}:exB (.error b) k=.error b:=rfl
theorem qm{α β:Type}{r:Except Nat (α×Nat)}{k:α->Nat->Except Nat (β×Nat)}{x:β×Nat}(h:exB r k=.ok x):∃t b,r=.ok (t,b)/\k t b=.ok x:=by
 match r,h with
 |.ok (t,b),h=>exact⟨t,b,rfl,h⟩
def qT(toks:List qK)(s:Str)(a:Nat):Except Nat (Unit×Nat):=if isP toks a s then .ok ((),a+1)else .error a
def zR(toks:List qK)(k:Int)(a:Nat):Except Nat (Str×Nat):=match toks[a]? with
 | some t=>if t.Kind=k then .ok (t.Text,a+1)else .error a
 | none=>.error a
def opN(toks:List qK)(lo:Int)(s1 s2:Str)(a:Nat):Int:=if isP toks a s1 then lo else if isP toks a s2 then lo+1 else 0
def jN(toks:List qK)(neg:Bool)(a:Nat):Except Nat (qD×Nat):=match toks[a]? with
 | some t=>if t.Kind=4/\(neg=true\/t.Text≠JF)then .ok (tmk 2 (if neg then-(qd t.Text:Int)else(qd t.Text:Int)) [] [],a+1)else .error a
 | none=>.error a
def bgP(toks:List qK)(a:Nat):Bool:=(match toks[a]? with
 | some t=>decide (t.Kind=1) || (decide (t.Kind=2) || decide (t.Kind=4))
 | none=>false) || (isP toks a [33] || (isP toks a [40] || isP toks a [109,97,116,99,104]))
def wC(toks:List qK):Nat->List Str->Nat->Except Nat (List Str×Nat)
 | 0,_,a=>.error a
 | n+1,acc,a=>exB (zR toks 1 a) fun s b=>if isP toks b [44]then wC toks n (acc++[s]) (b+1)else exB (qT toks [93] b) fun _ b=>.ok (acc++[s],b)
def wg(toks:List qK)(a:Nat):Except Nat (List Str×Nat):=if isP toks a [91]then wC toks (toks.length-a) [] (a+1)else .ok ([],a)
inductive Jb where
 | term
 | cmp
 | sum
 | sumL (t:qD)
 | prod
 | prodL (t:qD)
 | app
 | appL (t:qD)
 | pre
 | encl
 | con (s:Str) (ks:List qD)
 | mat
 | matL (ks:List qD)
 | bran
def pM(toks:List qK):Nat->Jb->Nat->Except Nat (qD×Nat)
 | 0,_,a=>.error a
 | f+1,.term,a=>
  if isP toks a [92]then exB (zR toks 1 (a+1)) fun s b=>exB (qT toks [58] b) fun _ b=>exB (pT toks (zr toks false b) false b) fun ty b=>exB (qT toks [46] b) fun _ b=>exB (pM toks f .term b) fun t b=>.ok (.mk 4 0 s ty [] [t],b)
  else if isP toks a [108,101,116]then exB (zR toks 1 (a+1)) fun s b=>exB (qT toks [61] b) fun _ b=>exB (pM toks f .term b) fun t b=>exB (qT toks [105,110] b) fun _ b=>exB (pM toks f .term b) fun u b=>.ok (tmk 7 0 s [t,u],b)
  else if isP toks a [105,102]then exB (pM toks f .term (a+1)) fun t b=>exB (qT toks [116,104,101,110] b) fun _ b=>exB (pM toks f .term b) fun u b=>exB (qT toks [101,108,115,101] b) fun _ b=>exB (pM toks f .term b) fun v b=>.ok (tmk 11 0 [] [t,u,v],b)
  else pM toks f .cmp a
 | f+1,.cmp,a=>exB (pM toks f .sum a) fun t b=>if opN toks 5 [60] [61] b=0 then .ok (t,b)else exB (pM toks f .sum (b+1)) fun u c=>.ok (tmk 3 (opN toks 5 [60] [61] b) [] [t,u],c)
 | f+1,.sum,a=>exB (pM toks f .prod a) fun t b=>pM toks f (.sumL t) b
 | f+1,.sumL t,a=>if opN toks 1 [43] [45] a=0 then .ok (t,a)else exB (pM toks f .prod (a+1)) fun u b=>pM toks f (.sumL (tmk 3 (opN toks 1 [43] [45] a) [] [t,u])) b
 | f+1,.prod,a=>exB (pM toks f .app a) fun t b=>pM toks f (.prodL t) b
 | f+1,.prodL t,a=>if opN toks 3 [42] [47] a=0 then .ok (t,a)else exB (pM toks f .app (a+1)) fun u b=>pM toks f (.prodL (tmk 3 (opN toks 3 [42] [47] a) [] [t,u])) b
 | f+1,.app,a=>exB (pM toks f .pre a) fun t b=>pM toks f (.appL t) b
 | f+1,.appL t,a=>if bgP toks a then exB (pM toks f .pre a) fun u b=>pM toks f (.appL (tmk 5 0 [] [t,u])) b else .ok (t,a)
 | f+1,.pre,a=>
  if isP toks a [33]then exB (pM toks f .pre (a+1)) fun t b=>.ok (tmk 6 0 [] [t],b)
  else if isP toks a [40]then pM toks f .encl (a+1)
  else if isP toks a [109,97,116,99,104]then pM toks f .mat (a+1)
  else match toks[a]? with
   | none=>.error a
   | some t=>if t.Kind=1 then .ok (tmk 1 0 t.Text [],a+1)else if t.Kind=2 then(if isP toks (a+1) [91]then pM toks f (.con t.Text []) (a+2)else .ok (tmk 8 0 t.Text [],a+1))else jN toks false a
 | f+1,.encl,a=>exB (if isP toks a [45]then jN toks true (a+1)else pM toks f .term a) fun t b=>exB (qT toks [41] b) fun _ b=>.ok (t,b)
 | f+1,.con s ks,a=>exB (pM toks f .term a) fun t b=>if isP toks b [44]then pM toks f (.con s (ks++[t])) (b+1)else exB (qT toks [93] b) fun _ b=>.ok (tmk 8 0 s (ks++[t]),b)
 | f+1,.mat,a=>exB (pM toks f .term a) fun t b=>exB (qT toks [123] b) fun _ b=>pM toks f (.matL [t]) b
 | f+1,.matL ks,a=>exB (pM toks f .bran a) fun t b=>if isP toks b [59]then pM toks f (.matL (ks++[t])) (b+1)else exB (qT toks [125] b) fun _ b=>.ok (tmk 9 0 [] (ks++[t]),b)
 | f+1,.bran,a=>exB (zR toks 2 a) fun s b=>exB (wg toks b) fun ns b=>exB (qT toks [45,62] b) fun _ b=>exB (pM toks f .term b) fun t b=>.ok (.mk 10 0 s noT ns [t],b)
def Jb.rk:Jb->Nat
 |.term=>6
 |.cmp=>5
 |.sum=>4
 |.prod=>3
 |.app=>2
 |.pre=>1
 |.encl=>7
 |.con _ _=>7
 |.mat=>7
 |.matL _=>2
 |.bran=>1
 | _=>2
def mJ(toks:List qK)(j:Jb)(a:Nat):Nat:=20*(toks.length-a)+j.rk
theorem zx{toks:List qK}{j j':Jb}{a b f:Nat}(h:mJ toks j a<=f+1)(hab:a<b)(hb:b<=toks.length):mJ toks j' b<=f:=by
 have h1:j'.rk<=7:=by cases j'<;>simp[Jb.rk]
 unfold mJ at h|-;omega
theorem wB{toks:List qK}{j j':Jb}{a f:Nat}(h:mJ toks j a<=f+1)(hr:j'.rk<j.rk):mJ toks j' a<=f:=by
 unfold mJ at h|-;omega
theorem J1{toks:List qK}{j:Jb}{a:Nat}(h:mJ toks j a<=0):False:=by
 have h1:1<=j.rk:=by cases j<;>simp[Jb.rk]
 unfold mJ at h;omega
theorem je{toks:List qK}{s:Str}{a b:Nat}{u:Unit}(h:qT toks s a=.ok (u,b)):a<b/\b=a+1/\b<=toks.length/\isP toks a s=true:=by
 unfold qT at h;split at h
 ·rename_i h1;have:=qa h1;cases h;exact⟨by omega,rfl,this,h1⟩
 ·cases h
theorem js{toks:List qK}{k:Int}{a b:Nat}{s:Str}(h:zR toks k a=.ok (s,b)):a<b/\b<=toks.length/\b=a+1/\∃t∈toks,toks[a]?=some t/\t.Kind=k/\s=t.Text:=by
 unfold zR at h;split at h
 ·rename_i t h1;split at h
  ·have:=(gSi.1 h1).1;rename_i h2;cases h;exact⟨by omega,by omega,rfl,t,lMo h1,h1,h2,rfl⟩
  ·cases h
 ·cases h
theorem qWL{toks:List qK}{neg:Bool}{a b:Nat}{t:qD}(h:jN toks neg a=.ok (t,b)):a<b/\b<=toks.length/\t.wz=0/\t.bd:=by
 unfold jN at h;split at h
 ·rename_i x h1;split at h
  ·have:=(gSi.1 h1).1;cases h;refine⟨by omega,by omega,rfl, ?_⟩;rw[qD.bd_eq];exact⟨by simp[tmk,qD.Name],by rw[qB.bd_eq];simp[tmk,qD.Typ,noT,qB.Name,qB.Kids],by simp[tmk,qD.Names],by simp[tmk,qD.Kids]⟩
  ·cases h
 ·cases h
theorem ZE{toks:List qK}{lo:Int}{s1 s2:Str}{a:Nat}(h:¬opN toks lo s1 s2 a=0):a<toks.length:=by
 unfold opN at h;split at h
 ·rename_i h1;exact qa h1
 ·split at h
  ·rename_i h1;exact qa h1
  ·exact absurd rfl h
theorem qWA{toks:List qK}(hx:∀x∈toks,x.Text.length<=20000):∀(n:Nat){acc:List Str}{a b:Nat}{ns:List Str},(∀s∈acc,s.length<=20000)->wC toks n acc a=.ok (ns,b)->a<b/\b<=toks.length/\ns.length+a<acc.length+b/\∀s∈ns,s.length<=20000
 | 0,acc,a,b,ns,ha,h=>by simp[wC]at h
 | n+1,acc,a,b,ns,ha,h=>by
  simp only[wC]at h;obtain⟨s,c,h1,h⟩:=qm h;obtain⟨w1,w2,w3,t,w4,_,_,rfl⟩:=js h1;have ha':∀s∈acc++[t.Text],s.length<=20000:=fun s hs=>by
   rcases ja.1 hs with hs | hs
   ·exact ha s hs
   ·simp only[lMg]at hs;subst hs;exact hx t w4
  split at h
  ·obtain⟨i1,i2,i3,i4⟩:=qWA hx n ha' h;simp only[lAp,lCo,lNi]at i3;exact⟨by omega,i2,by omega,i4⟩
  ·obtain⟨_,d,h2,h⟩:=qm h;obtain⟨n1,n2,n3,_⟩:=je h2;cases h;simp only[lAp,lCo,lNi];exact⟨by omega,n3,by omega,ha'⟩
theorem qWC{toks:List qK}(hx:∀x∈toks,x.Text.length<=20000){a b:Nat}{ns:List Str}(ha:a<=toks.length)(h:wg toks a=.ok (ns,b)):a<=b/\b<=toks.length/\ns.length+a<=b/\∀s∈ns,s.length<=20000:=by
 unfold wg at h;split at h
 ·obtain⟨i1,i2,i3,i4⟩:=qWA hx _ (fun s hs=>by cases hs) h;simp only[lNi]at i3;exact⟨by omega,i2,by omega,i4⟩
 ·cases h;exact⟨nLr _,ha,by simp,fun s hs=>by cases hs⟩
def Jb.good:Jb->Prop
 |.sumL t=>t.bd
 |.prodL t=>t.bd
 |.appL t=>t.bd
 |.con s ks=>s.length<=20000/\∀t∈ks,t.bd
 |.matL ks=>∀t∈ks,t.bd
 | _=>True
def Jb.bs:Jb->Nat
 |.sumL t=>t.wz+2
 |.prodL t=>t.wz+2
 |.appL t=>t.wz+2
 |.con _ ks=>ks.length+qM qD.wz ks+2
 |.matL ks=>ks.length+qM qD.wz ks+2
 | _=>0
def Jb.str:Jb->Nat
 |.sumL _=>0
 |.prodL _=>0
 |.appL _=>0
 | _=>1
theorem W7{α:Type}{f:α->Nat}:∀{xs ys:List α},qM f (xs++ys)=qM f xs+qM f ys
 |[],ys=>by simp[qM]
 | x::xs,ys=>by simp only[lCa,qM,W7 (xs:=xs)];omega
theorem Je{k n:Int}{s:Str}{ks:List qD}:(tmk k n s ks).wz=ks.length+qM qD.wz ks:=by
 have:noT.wz=0:=rfl;rw[qD.wz_eq];simp[tmk,qD.Typ,qD.Names,qD.Kids,this]
theorem qWH:noT.bd:=by rw[qB.bd_eq];simp[noT,qB.Name,qB.Kids]
theorem Jd{k n:Int}{s:Str}{ks:List qD}(hs:s.length<=20000)(hk:∀t∈ks,t.bd):(tmk k n s ks).bd:=by
 rw[qD.bd_eq];exact⟨hs,qWH,by simp[tmk,qD.Names],hk⟩
theorem jh{toks:List qK}(hx:∀x∈toks,x.Text.length<=20000):∀(f:Nat)(j:Jb)(a:Nat){t:qD}{b:Nat},j.good->a<=toks.length->pM toks f j a=.ok (t,b)->a+j.str<=b/\b<=toks.length/\t.bd/\t.wz+2<=j.bs+2*(b-a):=by
 have hm:∀{a:Nat}{x:qK},toks[a]?=some x->x.Text.length<=20000/\a<toks.length:=fun h=>⟨hx _ (lMo h),(gSi.1 h).1⟩;intro f
 induction f with
 | zero=>intro j a t b _ _ h;simp[pM]at h
 | succ f ih=>
 intro j a t b hg ha h;cases j with
 | term=>
  simp only[pM]at h;split at h
  ·rename_i q;have ql:=qa q;obtain⟨s,c1,e1,h⟩:=qm h;obtain⟨w1,w2,w3,tk,w4,_,_,rfl⟩:=js e1;obtain⟨_,c2,e2,h⟩:=qm h;obtain⟨n1,n2,n3,_⟩:=je e2;obtain⟨ty,c3,e3,h⟩:=qm h;obtain⟨t1,t2⟩:=qAY hx _ _ _ e3;have t3:=jY _ _ _ e3;obtain⟨_,c4,e4,h⟩:=qm h;obtain⟨m1,m2,m3,_⟩:=je e4;obtain⟨u,c5,e5,h⟩:=qm h;obtain⟨i1,i2,i3,i4⟩:=ih .term _ trivial m3 e5;simp only[Jb.str,Jb.bs]at i1 i4;cases h;have:=ty.nd_wz;refine⟨by simp only[Jb.str];omega,i2, ?_, ?_⟩
   ·rw[qD.bd_eq];exact⟨hx _ w4,t1,by simp[qD.Names],fun y hy=>by simp[qD.Kids]at hy;subst hy;exact i3⟩
   ·rw[qD.wz_eq];simp only[qD.Typ,qD.Names,qD.Kids,qM,lNi,lCo,Jb.bs];omega
  split at h
  ·rename_i q;have ql:=qa q;obtain⟨s,c1,e1,h⟩:=qm h;obtain⟨w1,w2,w3,tk,w4,_,_,rfl⟩:=js e1;obtain⟨_,c2,e2,h⟩:=qm h;obtain⟨n1,n2,n3,_⟩:=je e2;obtain⟨u,c3,e3,h⟩:=qm h;obtain⟨i1,i2,i3,i4⟩:=ih .term _ trivial n3 e3;obtain⟨_,c4,e4,h⟩:=qm h;obtain⟨m1,m2,m3,_⟩:=je e4;obtain⟨v,c5,e5,h⟩:=qm h;obtain⟨k1,k2,k3,k4⟩:=ih .term _ trivial m3 e5;simp only[Jb.str,Jb.bs]at i1 i4 k1 k4;cases h;refine⟨by simp only[Jb.str];omega,k2,Jd (hx _ w4) (by simp[i3,k3]), ?_⟩;rw[Je];simp only[lCo,lNi,qM,Jb.bs];omega
  split at h
  ·rename_i q;have ql:=qa q;obtain⟨u,c3,e3,h⟩:=qm h;obtain⟨i1,i2,i3,i4⟩:=ih .term _ trivial (by omega) e3;obtain⟨_,c4,e4,h⟩:=qm h;obtain⟨m1,m2,m3,_⟩:=je e4;obtain⟨v,c5,e5,h⟩:=qm h;obtain⟨k1,k2,k3,k4⟩:=ih .term _ trivial m3 e5;obtain⟨_,c6,e6,h⟩:=qm h;obtain⟨n1,n2,n3,_⟩:=je e6;obtain⟨w,c7,e7,h⟩:=qm h;obtain⟨l1,l2,l3,l4⟩:=ih .term _ trivial n3 e7;simp only[Jb.str,Jb.bs]at i1 i4 k1 k4 l1 l4;cases h;refine⟨by simp only[Jb.str];omega,l2,Jd (by simp) (by simp[i3,k3,l3]), ?_⟩;rw[Je];simp only[lCo,lNi,qM,Jb.bs];omega
  ·exact ih .cmp _ trivial ha h
 | cmp=>
  simp only[pM]at h;obtain⟨u,c,e1,h⟩:=qm h;obtain⟨i1,i2,i3,i4⟩:=ih .sum _ trivial ha e1;split at h
  ·cases h;exact⟨i1,i2,i3,i4⟩
  ·rename_i q;have ql:=ZE q;obtain⟨v,d,e2,h⟩:=qm h;obtain⟨k1,k2,k3,k4⟩:=ih .sum _ trivial ql e2;simp only[Jb.str,Jb.bs]at i1 i4 k1 k4;cases h;refine⟨by simp only[Jb.str];omega,k2,Jd (by simp) (by simp[i3,k3]), ?_⟩;rw[Je];simp only[lCo,lNi,qM,Jb.bs];omega
 | sum=>
  simp only[pM]at h;obtain⟨u,c,e1,h⟩:=qm h;obtain⟨i1,i2,i3,i4⟩:=ih .prod _ trivial ha e1;obtain⟨k1,k2,k3,k4⟩:=ih (.sumL u) _ i3 i2 h;simp only[Jb.str,Jb.bs]at i1 i4 k1 k4;exact⟨by simp only[Jb.str];omega,k2,k3,by simp only[Jb.bs];omega⟩
 | sumL t0=>
  simp only[pM]at h;split at h
  ·cases h;exact⟨by simp[Jb.str],ha,hg,by simp[Jb.bs]⟩
  ·rename_i q;have ql:=ZE q;obtain⟨u,c,e1,h⟩:=qm h;obtain⟨i1,i2,i3,i4⟩:=ih .prod _ trivial ql e1;have hg2:Jb.good (.sumL (tmk 3 (opN toks 1 [43] [45] a) [] [t0,u])):=Jd (k:=3) (n:=(opN toks 1 [43] [45] a)) (by simp) (fun y hy=>by
    simp only[List.mem_cons,List.not_mem_nil,or_false]at hy;rcases hy with rfl | rfl
    ·exact hg
    ·exact i3)
   obtain⟨k1,k2,k3,k4⟩:=ih _ _ hg2 i2 h;simp only[Jb.str,Jb.bs,Je,lCo,lNi,qM]at i1 i4 k1 k4;exact⟨by simp only[Jb.str];omega,k2,k3,by simp only[Jb.bs];omega⟩
 | prod=>
  simp only[pM]at h;obtain⟨u,c,e1,h⟩:=qm h;obtain⟨i1,i2,i3,i4⟩:=ih .app _ trivial ha e1;obtain⟨k1,k2,k3,k4⟩:=ih (.prodL u) _ i3 i2 h;simp only[Jb.str,Jb.bs]at i1 i4 k1 k4;exact⟨by simp only[Jb.str];omega,k2,k3,by simp only[Jb.bs];omega⟩
 | prodL t0=>
  simp only[pM]at h;split at h
  ·cases h;exact⟨by simp[Jb.str],ha,hg,by simp[Jb.bs]⟩
  ·rename_i q;have ql:=ZE q;obtain⟨u,c,e1,h⟩:=qm h;obtain⟨i1,i2,i3,i4⟩:=ih .app _ trivial ql e1;have hg2:Jb.good (.prodL (tmk 3 (opN toks 3 [42] [47] a) [] [t0,u])):=Jd (k:=3) (n:=(opN toks 3 [42] [47] a)) (by simp) (fun y hy=>by
    simp only[List.mem_cons,List.not_mem_nil,or_false]at hy;rcases hy with rfl | rfl
    ·exact hg
    ·exact i3)
   obtain⟨k1,k2,k3,k4⟩:=ih _ _ hg2 i2 h;simp only[Jb.str,Jb.bs,Je,lCo,lNi,qM]at i1 i4 k1 k4;exact⟨by simp only[Jb.str];omega,k2,k3,by simp only[Jb.bs];omega⟩
 | app=>
  simp only[pM]at h;obtain⟨u,c,e1,h⟩:=qm h;obtain⟨i1,i2,i3,i4⟩:=ih .pre _ trivial ha e1;obtain⟨k1,k2,k3,k4⟩:=ih (.appL u) _ i3 i2 h;simp only[Jb.str,Jb.bs]at i1 i4 k1 k4;exact⟨by simp only[Jb.str];omega,k2,k3,by simp only[Jb.bs];omega⟩
 | appL t0=>
  simp only[pM]at h;split at h
  ·obtain⟨u,c,e1,h⟩:=qm h;obtain⟨i1,i2,i3,i4⟩:=ih .pre _ trivial ha e1;have hg2:Jb.good (.appL (tmk 5 0 [] [t0,u])):=Jd (k:=5) (n:=0) (by simp) (fun y hy=>by
    simp only[List.mem_cons,List.not_mem_nil,or_false]at hy;rcases hy with rfl | rfl
    ·exact hg
    ·exact i3)
   obtain⟨k1,k2,k3,k4⟩:=ih _ _ hg2 i2 h;simp only[Jb.str,Jb.bs,Je,lCo,lNi,qM]at i1 i4 k1 k4;exact⟨by simp only[Jb.str];omega,k2,k3,by simp only[Jb.bs];omega⟩
  ·cases h;exact⟨by simp[Jb.str],ha,hg,by simp[Jb.bs]⟩
 | pre=>
  simp only[pM]at h;split at h
  ·rename_i q;have ql:=qa q;obtain⟨u,c,e1,h⟩:=qm h;obtain⟨i1,i2,i3,i4⟩:=ih .pre _ trivial ql e1;simp only[Jb.str,Jb.bs]at i1 i4;cases h;refine⟨by simp only[Jb.str];omega,i2,Jd (by simp) (by simp[i3]), ?_⟩;rw[Je];simp only[lCo,lNi,qM,Jb.bs];omega
  split at h
  ·rename_i q;have ql:=qa q;obtain⟨i1,i2,i3,i4⟩:=ih .encl _ trivial ql h;simp only[Jb.str,Jb.bs]at i1 i4;exact⟨by simp only[Jb.str];omega,i2,i3,by simp only[Jb.bs];omega⟩
  split at h
  ·rename_i q;have ql:=qa q;obtain⟨i1,i2,i3,i4⟩:=ih .mat _ trivial ql h;simp only[Jb.str,Jb.bs]at i1 i4;exact⟨by simp only[Jb.str];omega,i2,i3,by simp only[Jb.bs];omega⟩
  split at h
  ·cases h
  ·rename_i tk e0;obtain⟨hl,hlt⟩:=hm e0;split at h
   ·cases h;refine⟨by simp only[Jb.str];omega,by omega,Jd hl (by simp), ?_⟩;rw[Je];simp only[lNi,qM,Jb.bs];omega
   ·split at h
    ·split at h
     ·rename_i q;have ql:=qa q;obtain⟨i1,i2,i3,i4⟩:=ih (.con _ _) _ ⟨hl,by simp⟩ (by omega) h;simp only[Jb.str,Jb.bs,lNi,qM]at i1 i4;exact⟨by simp only[Jb.str];omega,i2,i3,by simp only[Jb.bs];omega⟩
     ·cases h;refine⟨by simp only[Jb.str];omega,by omega,Jd hl (by simp), ?_⟩;rw[Je];simp only[lNi,qM,Jb.bs];omega
    ·obtain⟨n1,n2,n3,n4⟩:=qWL h;exact⟨by simp only[Jb.str];omega,n2,n4,by simp only[Jb.bs];omega⟩
 | encl=>
  simp only[pM]at h;obtain⟨u,c,e1,h⟩:=qm h;obtain⟨_,d,e2,h⟩:=qm h;obtain⟨n1,n2,n3,_⟩:=je e2;cases h;split at e1
  ·obtain⟨m1,m2,m3,m4⟩:=qWL e1;exact⟨by simp only[Jb.str];omega,n3,m4,by simp only[Jb.bs];omega⟩
  ·obtain⟨i1,i2,i3,i4⟩:=ih .term _ trivial ha e1;simp only[Jb.str,Jb.bs]at i1 i4;exact⟨by simp only[Jb.str];omega,n3,i3,by simp only[Jb.bs];omega⟩
 | con s ks=>
  simp only[pM]at h;obtain⟨u,c,e1,h⟩:=qm h;obtain⟨i1,i2,i3,i4⟩:=ih .term _ trivial ha e1;have hg2:∀t∈ks++[u],t.bd:=fun t ht=>by
   rcases ja.1 ht with ht | ht
   ·exact hg.2 t ht
   ·simp only[lMg]at ht;subst ht;exact i3
  split at h
  ·rename_i q;have ql:=qa q;obtain⟨k1,k2,k3,k4⟩:=ih (.con s _) _ ⟨hg.1,hg2⟩ ql h;simp only[Jb.str,Jb.bs,W7,lAp,lCo,lNi,qM]at i1 i4 k1 k4;exact⟨by simp only[Jb.str];omega,k2,k3,by simp only[Jb.bs];omega⟩
  ·obtain⟨_,d,e2,h⟩:=qm h;obtain⟨n1,n2,n3,_⟩:=je e2;simp only[Jb.str,Jb.bs]at i1 i4;cases h;refine⟨by simp only[Jb.str];omega,n3,Jd hg.1 hg2, ?_⟩;rw[Je];simp only[W7,lAp,lCo,lNi,qM,Jb.bs];omega
 | mat=>
  simp only[pM]at h;obtain⟨u,c,e1,h⟩:=qm h;obtain⟨i1,i2,i3,i4⟩:=ih .term _ trivial ha e1;obtain⟨_,d,e2,h⟩:=qm h;obtain⟨n1,n2,n3,_⟩:=je e2;obtain⟨k1,k2,k3,k4⟩:=ih (.matL _) _ (fun t ht=>by simp only[lMg]at ht;subst ht;exact i3) n3 h;simp only[Jb.str,Jb.bs,lCo,lNi,qM]at i1 i4 k1 k4;exact⟨by simp only[Jb.str];omega,k2,k3,by simp only[Jb.bs];omega⟩
 | matL ks=>
  simp only[pM]at h;obtain⟨u,c,e1,h⟩:=qm h;obtain⟨i1,i2,i3,i4⟩:=ih .bran _ trivial ha e1;have hg2:∀t∈ks++[u],t.bd:=fun t ht=>by
   rcases ja.1 ht with ht | ht
   ·exact hg t ht
   ·simp only[lMg]at ht;subst ht;exact i3
  split at h
  ·rename_i q;have ql:=qa q;obtain⟨k1,k2,k3,k4⟩:=ih (.matL _) _ hg2 ql h;simp only[Jb.str,Jb.bs,W7,lAp,lCo,lNi,qM]at i1 i4 k1 k4;exact⟨by simp only[Jb.str];omega,k2,k3,by simp only[Jb.bs];omega⟩
  ·obtain⟨_,d,e2,h⟩:=qm h;obtain⟨n1,n2,n3,_⟩:=je e2;simp only[Jb.str,Jb.bs]at i1 i4;cases h;refine⟨by simp only[Jb.str];omega,n3,Jd (by simp) hg2, ?_⟩;rw[Je];simp only[W7,lAp,lCo,lNi,qM,Jb.bs];omega
 | bran=>
  simp only[pM]at h;obtain⟨s,c1,e1,h⟩:=qm h;obtain⟨w1,w2,w3,tk,w4,_,_,rfl⟩:=js e1;obtain⟨ns,c2,e2,h⟩:=qm h;obtain⟨m1,m2,m3,m4⟩:=qWC hx w2 e2;obtain⟨_,c3,e3,h⟩:=qm h;obtain⟨n1,n2,n3,_⟩:=je e3;obtain⟨u,c4,e4,h⟩:=qm h;obtain⟨i1,i2,i3,i4⟩:=ih .term _ trivial n3 e4;simp only[Jb.str,Jb.bs]at i1 i4;cases h;refine⟨by simp only[Jb.str];omega,i2, ?_, ?_⟩
  ·rw[qD.bd_eq];exact⟨hx _ w4,qWH,m4,fun y hy=>by simp[qD.Kids]at hy;subst hy;exact i3⟩
  ·have:noT.wz=0:=rfl;rw[qD.wz_eq];simp only[qD.Typ,qD.Names,qD.Kids,qM,lNi,lCo,Jb.bs,this];omega
theorem qu.strT{S:List (Option Nat)}{h:List qC}{v:AV}{s:Str}(x:qu S h v (.str s)):v=.str s/\S=[]:=by
 have:=x.v;simp only[lay]at this;have l:=x.len;simp only[AV.rows]at l;exact⟨this.scal rfl (by simp) (by simp) (by simp) (by simp),lEz l⟩
def Ow(b u:Nat)(h:List qC)(v t:AV):Prop:=∃S,qu S h v t/\∀j,some j∈S->b<=j/\j<u
def Ows(b u:Nat)(h:List qC)(vs ts:List AV):Prop:=∃S,zT S h vs ts/\∀j,some j∈S->b<=j/\j<u
section
variable {b m u k w:Nat} {h h1 h2:List qC} {v t:AV} {vs ts:List AV} {o:qC} {id:Nat}
theorem Ow.to(x:Ow b u h v t)(hh:∀j,b<=j->j<u->h1[j]?=h[j]?):Ow b u h1 v t:=by
 obtain⟨S,x1,x2⟩:=x;exact⟨S,x1.heap fun j hj=>hh j (x2 j hj).1 (x2 j hj).2,x2⟩
theorem Ows.to(x:Ows b u h vs ts)(hh:∀j,b<=j->j<u->h1[j]?=h[j]?):Ows b u h1 vs ts:=by
 obtain⟨S,x1,x2⟩:=x;exact⟨S,x1.heap fun j hj=>hh j (x2 j hj).1 (x2 j hj).2,x2⟩
theorem Ow.mono{b' u':Nat}(x:Ow b u h v t)(hb:b'<=b)(hu:u<=u'):Ow b' u' h v t:=by
 obtain⟨S,x1,x2⟩:=x;exact⟨S,x1,fun j hj=>by have:=x2 j hj;omega⟩
theorem Ows.mono{b' u':Nat}(x:Ows b u h vs ts)(hb:b'<=b)(hu:u<=u'):Ows b' u' h vs ts:=by
 obtain⟨S,x1,x2⟩:=x;exact⟨S,x1,fun j hj=>by have:=x2 j hj;omega⟩
theorem Ow.ps(x:Ow b u h1 v t)(hu:u<=h1.length)(hid:id<b)(a:PS h1 id o h2):Ow b u h2 v t:=x.to fun j h3 h4=>a.old j (by omega) (by omega)
theorem Ow.push(x:Ow b u h v t)(hu:u<=h.length):Ow b u (h++[o]) v t:=x.to fun j h3 h4=>gAl (by omega)
theorem Ows.push(x:Ows b u h vs ts)(hu:u<=h.length):Ows b u (h++[o]) vs ts:=x.to fun j h3 h4=>gAl (by omega)
theorem Ow.set(x:Ow b u h v t)(hid:id<b\/u<=id):Ow b u (h.set id o) v t:=x.to fun j h3 h4=>gSn (by omega)
theorem Ows.nil:Ows b u h [] []:=⟨[],zT.nil,fun j hj=>by cases hj⟩
theorem Ow.one(x:Ow b u h v t):Ows b u h [v] [t]:=by
 obtain⟨S,x1,x2⟩:=x;exact⟨S,x1.one,x2⟩
theorem Ows.snoc(x:Ows b m h vs ts)(y:Ow m u h v t)(h1:b<=m)(h2:m<=u):Ows b u h (vs++[v]) (ts++[t]):=by
 obtain⟨S,x1,x2⟩:=x;obtain⟨S',y1,y2⟩:=y;refine⟨S++S',x1.snoc y1 fun j hj hj2=>by have:=x2 j hj;have:=y2 j hj2;omega,fun j hj=> ?_⟩;rcases ja.1 hj with hj | hj
 ·have:=x2 j hj;omega
 ·have:=y2 j hj;omega
theorem Ows.row(x:Ows b u h vs ts)(hr:h[k]?=some (.row w vs true))(hu:u<=k)(hb:b<=k):Ow b (k+1) h (.slice w k 0 ts.length false) (.lst w ts false):=by
 obtain⟨S,x1,x2⟩:=x;refine⟨some k::S,x1.row hr (fun hj=>by have:=x2 k hj;omega),fun j hj=> ?_⟩;rcases List.mem_cons.1 hj with e | hj
 ·cases e;omega
 ·have:=x2 j hj;omega
theorem Ow.nils:Ow b u h .nils (.lst w [] false):=⟨[none],qu.nils (c:=false),fun j hj=>by simp at hj⟩
theorem Ows.scal(x:Ows b u h vs ts){a:AV}(ha:∀n,lay a n=(a,[]))(hp:a.pl=true)(ht:a.tree=true):Ows b u h (vs++[a]) (ts++[a]):=by
 obtain⟨S,x1,x2⟩:=x;exact⟨S,x1.scal ha hp ht,x2⟩
theorem Ow.of(S:List (Option Nat))(x:qu S h v t)(hb:Bh b S h):Ow b h.length h v t:=⟨S,x,hb⟩
end
section
variable {b m1 m2 u:Nat} {h:List qC} {v5 v6 v7 v:AV}
theorem Z1{k n:Int}{s:Str}{T:qB}{ns:List Str}{ks:List qD}(x5:Ow b m1 h v5 (.lst 3 (T.Kids.map qB.enc) false))(x6:Ow m1 m2 h v6 (.lst 1 (ns.map qR) false))(x7:Ow m2 u h v7 (.lst 8 (ks.map qD.enc) false))(h1:b<=m1)(h2:m1<=m2)(h3:m2<=u):
  Ow b u h (.agg [.int .i64 k,.int .i64 n,.str s,.int .i64 T.Kind,.str T.Name,v5,v6,v7]) (qD.mk k n s T ns ks).enc:=by
 have a0:Ows b b h [.int .i64 k,.int .i64 n,.str s,.int .i64 T.Kind,.str T.Name] [.int .i64 k,.int .i64 n,.str s,.int .i64 T.Kind,.str T.Name]:=
  ((((Ows.nil.scal (a:=.int .i64 k) (fun _=>rfl) rfl rfl).scal (a:=.int .i64 n) (fun _=>rfl) rfl rfl).scal (a:=.str s) (fun _=>rfl) rfl rfl).scal (a:=.int .i64 T.Kind) (fun _=>rfl) rfl rfl).scal (a:=.str T.Name) (fun _=>rfl) rfl rfl
 have a1:=((a0.snoc x5 (nLr _) h1).snoc x6 h1 h2).snoc x7 (nLt h1 h2) h3;obtain⟨S,a2,a3⟩:=a1;rw[qD.enc_eq];exact⟨S,a2.agg,a3⟩
theorem Qd{k n:Int}{s:Str}{ks:List qD}(x7:Ow b u h v7 (.lst 8 (ks.map qD.enc) false))(h3:b<=u):
  Ow b u h (.agg [.int .i64 k,.int .i64 n,.str s,.int .i64 0,.str [],.nils,.nils,v7]) (tmk k n s ks).enc:=
 Z1 (m1:=b) (m2:=b) (T:=noT) (ns:=[]) Ow.nils Ow.nils x7 (nLr _) (nLr _) h3
theorem Qc{k n:Int}{s:Str}(h3:b<=u):Ow b u h (.agg [.int .i64 k,.int .i64 n,.str s,.int .i64 0,.str [],.nils,.nils,.nils]) (tmk k n s []).enc:=
 Qd (ks:=[]) Ow.nils h3
theorem Ow.shape{t:qD}(x:Ow b u h v t.enc):∃a0 a1 a2 a3 a4 a5 a6 a7,v=.agg [a0,a1,a2,a3,a4,a5,a6,a7]:=by
 obtain⟨S,x,_⟩:=x;rw[qD.enc_eq]at x;obtain⟨vs,rfl,y⟩:=x.aggs;have:=y.cnt
 match vs,this with
 |[a,b,c,d,e,f,g,h],_=>exact⟨a,b,c,d,e,f,g,h,rfl⟩
theorem Ow.shapeT{t:qB}(x:Ow b u h v t.enc):∃v2,v=.agg [.int .i64 t.Kind,.str t.Name,v2]/\Ow b u h v2 (.lst 3 (t.Kids.map qB.enc) false):=by
 obtain⟨S,x,hb⟩:=x;rw[qB.enc_eq]at x;obtain⟨vs,rfl,y⟩:=x.aggs;have:=y.cnt
 match vs,this with
 |[a,b,c],_=>
  obtain⟨S1,S2,rfl,p1,p2⟩:=y.uncons;obtain⟨rfl,rfl⟩:=p1.int;obtain⟨S3,S4,rfl,p3,p4⟩:=p2.uncons;obtain⟨rfl,rfl⟩:=p3.strT;obtain⟨S5,S6,rfl,p5,p6⟩:=p4.uncons;exact⟨c,rfl,S5,p5,fun j hj=>hb j (by simp[hj])⟩
end
def Zb(x:qK):Prop:=x.Kind=4->zu x.Text=true/\x.Text≠[]
theorem YI{s:Str}(h:zu s=true)(hn:s≠[]):s.all zJ=true/\qd s<=2147483648/\Lib.decDigits (qd s)=s:=by
 simp only[zu,bAt,dTe,bNt,Bool.and_eq_false_iff,decide_eq_false_iff_not]at h;obtain⟨h1,h2,h3,h4⟩:=h;exact⟨h3,h4,qUA _ rfl hn h3 (fun q=>by rcases h2 with h2 | h2;exact absurd q h2;exact h2)⟩
theorem qa9:Lib.decDigits 2147483648=JF:=by
 repeat rw[Xl (by decide)]
 rw[WY (by decide)];rfl
theorem qAN{s:Str}(h:zu s=true)(hn:s≠[]):qd s=2147483648↔s=JF:=by
 constructor
 ·intro q;have:=(YI h hn).2.2;rw[q,qa9]at this;exact this.symm
 ·rintro rfl;rfl
theorem qXJ{s:Str}(h:zu s=true)(hn:s≠[])(hm:s≠JF):wD s=some (qd s:Int):=by
 obtain⟨h1,h2,h3⟩:=YI h hn;have h4:qd s≠2147483648:=fun q=>hm ((qAN h hn).1 q);have hp:=qW7 hn h1 (by omega);have hi:Lib.itoa (qd s:Int)=s:=by
  unfold Lib.itoa;rw[if_neg (by omega),Int.toNat_natCast];exact h3
 unfold wD;rw[hp];simp only;rw[if_pos ⟨⟨by omega,by omega⟩,hi⟩]
theorem qe8{s:Str}(h:zu s=true)(hn:s≠[])(h0:s≠[48]):wD (45::s)=some (-(qd s:Int)):=by
 obtain⟨h1,h2,h3⟩:=YI h hn;have h4:qd s≠0:=fun q=>by
  rw[q,WY (by decide)]at h3;exact h0 h3.symm
 have hp:Lib.parseIntB 64 (45::s)=.ok (-(qd s:Int)):=by
  unfold Lib.parseIntB;simp only;rw[if_pos (.inr rfl),Lib.parseUintB,if_neg hn,qA1 rfl h1 (by show qd s<=_;omega)];simp only;have e:jg 0 s=qd s:=rfl;rw[e];rw[if_neg (by intro q;exact q.1 rfl),if_neg (by intro q;have:=q.2;omega),if_pos (by rfl)]
 have hi:Lib.itoa (-(qd s:Int))=45::s:=by
  unfold Lib.itoa;rw[if_pos (by omega),Int.natAbs_neg,Int.natAbs_natCast,h3]
 unfold wD;rw[hp];simp only;rw[if_pos ⟨⟨by omega,by omega⟩,hi⟩]
def opT(j:Nat):Str:=(([43,45,42,47,60,61]:Str).drop (j-1)).take 1
def opI(s:Str):Int:=if s=[43]then 1 else if s=[45]then 2 else if s=[42]then 3 else if s=[47]then 4 else if s=[60]then 5 else if s=[61]then 6 else 0
theorem qAS{s:Str}{j:Nat}(h1:1<=j)(h6:j<=6)(h:opT j=s):opI s=j:=by
 subst h;have:j=1\/j=2\/j=3\/j=4\/j=5\/j=6:=by omega
 rcases this with rfl | rfl | rfl | rfl | rfl | rfl<;>rfl
theorem qWW{s:Str}(h:∀j,1<=j->j<7->opT j≠s):opI s=0:=by
 unfold opI;rw[if_neg (fun q=>h 1 (by omega) (by omega) q.symm),if_neg (fun q=>h 2 (by omega) (by omega) q.symm),if_neg (fun q=>h 3 (by omega) (by omega) q.symm),if_neg (fun q=>h 4 (by omega) (by omega) q.symm),if_neg (fun q=>h 5 (by omega) (by omega) q.symm),if_neg (fun q=>h 6 (by omega) (by omega) q.symm)]
theorem qTC{n:Int}:Pure Gm 1050 [.int .i64 n] (.bool (decide (1<=n)&&decide (n<=6))):=by
 refine pJ VE ?_;simp only[VE,qH,go_sem];by_cases h:1<=n
 ·have e:decide (n≥1)=true:=dTt h;simp only[e,go_sem];exact qE rfl (by simp[h])
 ·have e:decide (n≥1)=false:=dFf h;simp only[e,go_sem];exact qE rfl (by simp[h])
theorem qS8{j:Nat}(h1:1<=j)(h6:j<=6):Pure Gm 1002 [.int .i64 (j:Nat)] (.str (opT j)):=by
 refine pJ Y1 ?_;simp only[Y1,qH,go_sem];refine qF qTC ?_;simp only[go_sem];have e1:decide ((1:Int)<=(j:Nat))=true:=dTt (by omega);have e2:decide (((j:Nat):Int)<=6)=true:=dTt (by omega);simp only[e1,e2,Bool.and_self,nT,go_sem];have e3:IntKind.i64.wrap (((j:Nat):Int)-1)=((j-1:Nat):Int):=by rw[zF (by omega) (by omega)];omega
 simp only[e3];refine ZJ (W5 (n:=j-1) (e:=j) rfl (by simp only[go_sem];rfl) (by simp only[go_sem];rfl) (by simp;omega) (by omega)) ?_;have e4:j-(j-1)=1:=by omega
 simp only[e4,go_sem];exact qE rfl rfl
theorem qTN{s:Str}:Pure Gm 1383 [.str s] (.int .i64 (opI s)):=by
 refine pJ Vr ?_;simp only[Vr,qH,go_sem];refine Sem.loop (fun i:Nat=>1<=i/\i<=7/\∀j,1<=j->j<i->opT j≠s) (fun i=>(⟨[(0,.str s),(3,.int .i64 (i:Nat))],[],[]⟩:VSt)) (fun i=>7-i) 1 (by kernel_rfl) ⟨by omega,by omega,fun j h1 h2=>by omega⟩ cS ?_;rintro i ⟨i1,i2,i3⟩;simp only[go_sem];by_cases hlt:i<=6
 ·have e:decide (((i:Nat):Int)<=6)=true:=dTt (by omega);simp only[e,go_sem];refine qF (qS8 i1 hlt) ?_;simp only[go_sem];by_cases hs:opT i=s
  ·simp only[dTt hs,go_sem];exact qE rfl (by rw[qAS i1 hlt hs])
  ·simp only[dFf hs,go_sem,qp (show i<4611686018427387904 by omega)];refine qW (i+1) ⟨by omega,by omega,fun j h1 h2=> ?_⟩ (by omega) cS;by_cases hj:j=i
   ·rw[hj];exact hs
   ·exact i3 j h1 (by omega)
 ·have e:decide (((i:Nat):Int)<=6)=false:=dFf (by omega);simp only[e,go_sem];obtain rfl:i=7:=by omega
  exact qE rfl (by rw[qWW i3])
section
variable {h:List qC} {id a:Nat} {toks:List qK} {e:Int}
theorem Wo{lid:Nat}{s1 s2:Str}{lo:Int}(ho:h[id]?=some (prI toks a e))(hl:toks.length<=1048576)(hr:h[lid]?=some (.row 1 [.str s1,.str s2] true))(hne:lid≠id)(q1:s1≠[])(q2:s2≠[])(o1:opI s1=lo)(o2:opI s2=lo+1)(hlo:¬lo=0):
  SCall Gm 1189 [.ptr id 0 0,.slice 1 lid 0 2 false] h fun v h'=>v=.int .i64 (opN toks lo s1 s2 a)/\h'=if opN toks lo s1 s2 a=0 then h else h.set id (prI toks (a+1) e):=by
 refine sI VY ?_;simp only[VY,qH,go_sem];have step:∀(i:Nat)(s:Str),[s1,s2][i]?=some s->i<2->idx 1 (some (.slice 1 lid 0 2 false)) (some (.int .i64 (i:Nat)))=some (.ptr lid i 0):=fun i s _ hi=>idx1 hi;refine Sem.loop (fun i:Nat=>i<=2/\(∀j s,j<i->[s1,s2][j]?=some s->isP toks a s=false)) (fun i=>(⟨[(0,.ptr id 0 0),(7,.slice 1 lid 0 2 false),(8,.int .i64 (2:Nat)),(9,.int .i64 (i:Nat))],[],h⟩:VSt)) (fun i=>2-i) 0 (by kernel_rfl) ⟨by omega,fun j s hj=>by omega⟩ cS ?_;rintro i ⟨i1,i2⟩;simp only[go_sem];by_cases hlt:i<2
 ·have e0:decide (((i:Nat):Int)<(2:Nat))=true:=dTt (by omega);simp only[e0,idx1 hlt,hr,go_sem];have:i=0\/i=1:=by omega
  rcases this with rfl | rfl
  ·simp only[List.getElem?_cons_zero,go_sem];refine qe rfl (jH ho hl q1) ?_;rw[qk q1];simp only[go_sem];cases hb:isP toks a s1
   ·simp only[bFt,if_false,go_sem];refine qW 1 ⟨by omega,fun j s hj hs=> ?_⟩ (by omega) (Can.sub (by simp[go_sem];decide) (by simp[go_sem]));obtain rfl:j=0:=by omega
    cases hs;exact hb
   ·simp only[if_true,go_sem];refine qF qTN ?_;simp only[go_sem];rw[o1];have eo:opN toks lo s1 s2 a=lo:=by unfold opN;rw[if_pos hb]
    refine⟨by rw[eo], ?_⟩;rw[eo,if_neg hlo]
  ·simp only[List.getElem?_cons_succ,List.getElem?_cons_zero,go_sem];refine qe rfl (jH ho hl q2) ?_;rw[qk q2];simp only[go_sem];have hb1:=i2 0 s1 (by omega) rfl;cases hb:isP toks a s2
   ·simp only[bFt,if_false,go_sem];refine qW 2 ⟨by omega,fun j s hj hs=> ?_⟩ (by omega) (Can.sub (by simp[go_sem];decide) (by simp[go_sem]));have:j=0\/j=1:=by omega
    rcases this with rfl | rfl
    ·cases hs;exact hb1
    ·cases hs;exact hb
   ·simp only[if_true,go_sem];refine qF qTN ?_;simp only[go_sem];rw[o2];have eo:opN toks lo s1 s2 a=lo+1:=by unfold opN;rw[if_neg (by rw[hb1];decide),if_pos hb]
    refine⟨by rw[eo], ?_⟩;by_cases h0:lo+1=0
    ·exfalso;unfold opI at o1 o2
     repeat' split at o2
     all_goals omega
    ·rw[eo,if_neg h0]
 ·have e0:decide (((i:Nat):Int)<(2:Nat))=false:=dFf (by omega);simp only[e0,go_sem];obtain rfl:i=2:=by omega
  have eo:opN toks lo s1 s2 a=0:=by unfold opN;rw[if_neg (by rw[i2 0 s1 (by omega) rfl];decide),if_neg (by rw[i2 1 s2 (by omega) rfl];decide)]
  exact⟨by rw[eo],by rw[eo,if_pos rfl]⟩
theorem qAL{n:Int}{a0 a1 a2 a3 a4 a5 a6 a7 b0 b1 b2 b3 b4 b5 b6 b7:AV}:SCall Gm 1190 [.int .i64 n,.agg [a0,a1,a2,a3,a4,a5,a6,a7],.agg [b0,b1,b2,b3,b4,b5,b6,b7]] h fun v h'=>
  v=.agg [.int .i64 3,.int .i64 n,.str [],.int .i64 0,.str [],.nils,.nils,.slice 8 h.length 0 2 false]/\h'=h++[.row 8 [.agg [a0,a1,a2,a3,a4,a5,a6,a7],.agg [b0,b1,b2,b3,b4,b5,b6,b7]] true]:=by
 refine sI VZ ?_;simp only[VZ,qH,go_sem];refine zM rfl ?_;simp only[go_sem];refine zM rfl ?_;simp only[go_sem];rw[show zH _ 8 _ _=some [.agg [a0,a1,a2,a3,a4,a5,a6,a7],.agg [b0,b1,b2,b3,b4,b5,b6,b7]]from rfl];simp only[go_sem];refine lA ?_;simp only[go_sem];exact⟨trivial,trivial⟩
theorem qZL:bgP toks a=((decide ((nxt toks a e).Kind=1) || (decide ((nxt toks a e).Kind=2) || decide ((nxt toks a e).Kind=4))) || (isP toks a [33] || (isP toks a [40] || isP toks a [109,97,116,99,104]))):=by
 unfold bgP nxt;cases h:toks[a]? with
 | none=>simp
 | some t=>simp
theorem qeD(ho:h[id]?=some (prI toks a e)):SCall Gm 1540 [.ptr id 0 0] h fun v h'=>v=.bool (bgP toks a)/\h'=h:=by
 refine sI UG ?_;simp only[UG,qH,go_sem];refine qe rfl (ZB ho) ?_;simp only[go_sem];refine lA ?_;simp only[go_sem];rw[qZL (e:=e)];by_cases h1:(nxt toks a e).Kind=1
 ·simp only[dTt h1,go_sem];exact⟨by simp,trivial⟩
 simp only[dFf h1,go_sem];by_cases h2:(nxt toks a e).Kind=2
 ·simp only[dTt h2,go_sem];exact⟨by simp,trivial⟩
 simp only[dFf h2,go_sem];by_cases h3:(nxt toks a e).Kind=4
 ·simp only[dTt h3,go_sem];exact⟨by simp,trivial⟩
 simp only[dFf h3,go_sem];refine qe rfl (YC ho) ?_;rw[qk (by decide)];simp only[go_sem];cases h4:isP toks a [33]
 case true=>
  simp only[go_sem];exact⟨by simp,trivial⟩
 simp only[go_sem];refine qe rfl (YC ho) ?_;rw[qk (by decide)];simp only[go_sem];cases h5:isP toks a [40]
 case true=>
  simp only[go_sem];exact⟨by simp,trivial⟩
 simp only[go_sem];refine qe rfl (YC ho) ?_;rw[qk (by decide)];simp only[go_sem];exact⟨by simp,trivial⟩
theorem qV4{neg:Bool}(ho:h[id]?=some (prI toks a e))(hl:toks.length<=1048576)(hN:∀x∈toks,Zb x)(hx:∀x∈toks,x.Text.length<=20000):
  SCallX Gm 1556 [.ptr id 0 0,.bool neg] h (fun v h'=>∃n,jN toks neg a=.ok (tmk 2 n [] [],a+1)/\v=.agg [.int .i64 2,.int .i64 n,.str [],.int .i64 0,.str [],.nils,.nils,.nils]/\h'=h.set id (prI toks (a+1) e)) (fun v h'=>jN toks neg a=.error a/\v=wO (nxt toks a e).At):=by
 refine xI UN ?_;simp only[UN,qH,go_sem];refine qe rfl (ZB ho) ?_;simp only[go_sem];refine qe rfl (ZB ho) ?_;simp only[go_sem];have bad:(¬(nxt toks a e).Kind=4\/(neg=false/\(nxt toks a e).Text=JF))->jN toks neg a=.error a:=by
  intro q;unfold jN;unfold nxt at q;cases ht:toks[a]? with
  | none=>rfl
  | some t=>
   rw[ht]at q;simp only[Option.getD_some]at q;simp only;rw[if_neg];rintro⟨q1,q2⟩;rcases q with q | ⟨q3,q4⟩
   ·exact q q1
   ·rcases q2 with q2 | q2
    ·rw[q3]at q2;cases q2
    ·exact q2 q4
 by_cases h4:(nxt toks a e).Kind=4
 case neg=>
  simp only[dFf h4,nF,go_sem];refine qY ((Wp ho).mono (fun _ _ q=>q.elim) ?_);rintro v h' ⟨rfl,rfl⟩;exact⟨rfl,bad (.inl h4),rfl⟩
 have hlt:=Qb (by decide) h4;have en:nxt toks a e=toks[a]:=by simp[nxt,gEg hlt]
 rw[en]at h4 bad;have hmem:=gMm hlt;obtain⟨k1,k2⟩:=hN _ hmem h4;have k3:=hx _ hmem;have ht:toks[a]?=some toks[a]:=gEg hlt;simp only[en];simp only[dTt h4,nT,go_sem];have ho':=ho;unfold prI at ho';cases neg with
 | false=>
  simp only[nF,go_sem];by_cases hm:toks[a].Text=JF
  ·have hm':toks[a].Text=[50,49,52,55,52,56,51,54,52,56]:=hm;simp only[dTt hm',go_sem];refine qY ((Wp ho).mono (fun _ _ q=>q.elim) ?_);rintro v h' ⟨rfl,rfl⟩;exact⟨rfl,bad (.inr ⟨rfl,hm⟩),by rw[en]⟩
  ·have hm':¬toks[a].Text=[50,49,52,55,52,56,51,54,52,56]:=hm;simp only[dFf hm',go_sem,ho',oMs];simp only[qp (show a<4611686018427387904 by omega)];refine jQ rfl ho' rfl rfl ?_;simp only[go_sem];refine qF (Xa (by omega)) ?_;rw[qXJ k1 k2 hm];simp only[Option.getD_some,go_sem];refine lA ?_;simp only[go_sem];refine⟨_, ?_,rfl,rfl⟩;unfold jN;rw[ht];simp only;rw[if_pos ⟨h4,.inr hm⟩];rfl
 | true=>
  simp only[nT,go_sem,ho',oMs];simp only[qp (show a<4611686018427387904 by omega)];refine jQ rfl ho' rfl rfl ?_;simp only[go_sem];by_cases h0:toks[a].Text=[48]
  ·simp only[dTt h0,nT,go_sem];refine qF (Xa (by omega)) ?_;rw[qXJ k1 k2 (by rw[h0];decide)];simp only[Option.getD_some,go_sem];refine lA ?_;simp only[go_sem];refine⟨_, ?_,rfl,rfl⟩;unfold jN;rw[ht];simp only;rw[if_pos ⟨h4,.inl trivial⟩];have:qd toks[a].Text=0:=by rw[h0];rfl
   simp[this]
  ·simp only[dFf h0,nF,go_sem];rw[J9 (by simp only[lCo,lNi];omega)];simp only[go_sem,lCa,lNa];refine qF (Xa (by simp only[lCo];omega)) ?_;rw[qe8 k1 k2 h0];simp only[Option.getD_some,go_sem];refine lA ?_;simp only[go_sem];refine⟨_, ?_,rfl,rfl⟩;unfold jN;rw[ht];simp only;rw[if_pos ⟨h4,.inl trivial⟩];rfl
end
def CI(toks:List qK)(e:Int)(id g f:Nat)(j:Jb):Prop:=∀(a:Nat)(h:List qC),mJ toks j a<=f->a<=toks.length->h[id]?=some (prI toks a e)->
 SCallX Gm g [.ptr id 0 0] h (fun v h'=>∃t b,pM toks f j a=.ok (t,b)/\PS h id (prI toks b e) h'/\Ow h.length h'.length h' v t.enc) (fun v _=>∃b,pM toks f j a=.error b/\v=wO (nxt toks b e).At)
structure wj(toks:List qK)(e:Int)(id f:Nat):Prop where
 term:CI toks e id 511 f .term
 cmp:CI toks e id 877 f .cmp
 sum:CI toks e id 1188 f .sum
 prod:CI toks e id 1425 f .prod
 app:CI toks e id 1511 f .app
 pre:CI toks e id 1539 f .pre
 encl:CI toks e id 1553 f .encl
 mat:CI toks e id 1554 f .mat
 bran:CI toks e id 1560 f .bran
structure qx(toks:List qK):Prop where
 l:toks.length<=1048576
 x:∀x∈toks,x.Text.length<=20000
 n:∀x∈toks,Zb x
 w:∀x∈toks,Jr x
theorem JG{b u:Nat}{h:List qC}{k n:Int}{s:Str}{vs:List AV}{ts:List qD}{c:Nat}(x:Ows b u h vs (ts.map qD.enc))(hu:u<=h.length)(hb:b<=h.length)(hc:ts.length=c):
  Ow b (h.length+1) (h++[.row 8 vs true]) (.agg [.int .i64 k,.int .i64 n,.str s,.int .i64 0,.str [],.nils,.nils,.slice 8 h.length 0 c false]) (tmk k n s ts).enc:=by
 subst hc;have y:=(x.push (o:=.row 8 vs true) hu).row (k:=h.length) (w:=8) (by simp) hu hb;rw[lMp]at y;exact Qd y (by omega)
theorem zN{h:List qC}{o:qC}:(h++[o]).length=h.length+1:=by simp
section
variable {toks:List qK} {e:Int} {id f:Nat}
theorem qcO(K:qx toks)(H:∀f',f'<=f->wj toks e id f'):CI toks e id 877 (f+1) .cmp:=by
 intro a h hf ha ho;have hid:=zA ho;refine xI KM ?_;simp only[KM,qH,go_sem];refine qY (((H f (nLr _)).sum a h (wB hf (by decide)) ha ho).mono ?_ ?_)
 case refine_2=>
  rintro v h1 ⟨b,q1,rfl⟩;exact⟨rfl,b,by simp only[pM,q1,qn],rfl⟩
 rintro v h1 ⟨t,b,q1,q2,q3⟩;obtain⟨p1,p2,_,_⟩:=jh K.x f .sum _ trivial ha q1;simp only[Jb.str]at p1;have hl1:=q2.len;obtain⟨a0,a1,a2,a3,a4,a5,a6,a7,rfl⟩:=q3.shape;simp only[go_sem];refine lA ?_;simp only[go_sem];rw[show zH _ 1 _ _=some [.str [60],.str [61]]from rfl];simp only[go_sem];have q2':=q2.push (x:=.row 1 [.str [60],.str [61]] true);have q3':=q3.push (o:=.row 1 [.str [60],.str [61]] true) (nLr _);refine qO ((Wo (lo:=5) (s1:=[60]) (s2:=[61]) q2'.at' K.l (by simp) (by omega) (by decide) (by decide) rfl rfl (by decide)).mono ?_);rintro v h2 ⟨rfl,rfl⟩;simp only[go_sem];by_cases h0:opN toks 5 [60] [61] b=0
 ·simp only[h0,decide_true,nT,if_true,go_sem];refine lA ?_;simp only[go_sem];exact⟨t,b,by simp only[pM,q1,qg,if_pos h0],q2',q3'.mono (nLr _) (by simp)⟩
 ·simp only[if_neg h0,dFf h0,nF,go_sem];have ol:=ZE h0;have q2'':=q2'.trans (PS.set q2'.at' (o:=prI toks (b+1) e));have q3'':=q3'.set (id:=id) (o:=prI toks (b+1) e) (.inl hid);refine qY (((H f (nLr _)).sum (b+1) _ (zx hf (by omega) ol) ol q2''.at').mono ?_ ?_)
  case refine_2=>
   rintro v h1 ⟨c,r1,rfl⟩;exact⟨rfl,c,by simp only[pM,q1,qg,if_neg h0,r1,qn],rfl⟩
  rintro v h3 ⟨u,c,r1,r2,r3⟩;have hl3:=r2.len;simp only[lLs,zN]at hl3 r3;have q4:=q3''.ps (by simp) hid r2;obtain⟨b0,b1,b2,b3,b4,b5,b6,b7,rfl⟩:=r3.shape;simp only[go_sem];refine qO (qAL.mono ?_);rintro v h4 ⟨rfl,rfl⟩;simp only[go_sem];refine lA ?_;simp only[go_sem];refine⟨tmk 3 (opN toks 5 [60] [61] b) [] [t,u],c,by simp only[pM,q1,qg,if_neg h0,r1],(q2''.trans r2).push, ?_⟩;rw[zN];exact JG (ts:=[t,u]) ((q4.mono (nLr _) (Nat.le_succ _)).one.snoc r3 (by omega) (by omega)) (nLr _) (by omega) rfl
theorem qcT(K:qx toks)(H:∀f',f'<=f->wj toks e id f'):CI toks e id 1188 (f+1) .sum:=by
 intro a h hf ha ho;have hid:=zA ho;refine xI VX ?_;simp only[VX,qH,go_sem];refine qY (((H f (nLr _)).prod a h (wB hf (by decide)) ha ho).mono ?_ ?_)
 case refine_2=>
  rintro v h1 ⟨b,q1,rfl⟩;exact⟨rfl,b,by simp only[pM,q1,qn],rfl⟩
 rintro v h1 ⟨t,b,q1,q2,q3⟩;obtain⟨p1,p2,_,_⟩:=jh K.x f .prod _ trivial ha q1;simp only[Jb.str]at p1;obtain⟨a0,a1,a2,a3,a4,a5,a6,a7,rfl⟩:=q3.shape;have hl1:=q2.len;simp only[go_sem];refine lA ?_;simp only[go_sem];rw[show zH _ 1 _ _=some [.str [43],.str [45]]from rfl];simp only[go_sem];have q2':=q2.push (x:=.row 1 [.str [43],.str [45]] true);have q3':=q3.push (o:=.row 1 [.str [43],.str [45]] true) (nLr _);refine qO ((Wo (lo:=1) (s1:=[43]) (s2:=[45]) q2'.at' K.l (by simp) (by omega) (by decide) (by decide) rfl rfl (by decide)).mono ?_);rintro v h2 ⟨rfl,rfl⟩;simp only[go_sem];have e0:pM toks (f+1) .sum a=pM toks f (.sumL t) b:=by simp only[pM,q1,qg]
 have st0:∀{h2:List qC}{x:Nat},PS h id (prI toks x e) h2->PS h id (prI toks (if opN toks 1 [43] [45] x=0 then x else x+1) e) (if opN toks 1 [43] [45] x=0 then h2 else h2.set id (prI toks (x+1) e)):=fun{h2 x} q=>by
  split
  ·exact q
  ·exact q.trans (PS.set q.at')
 have st1:∀{h2:List qC}{x:Nat}{v t:AV}{n:Nat},h2.length=n->Ow h.length n h2 v t->Ow h.length (if opN toks 1 [43] [45] x=0 then h2 else h2.set id (prI toks (x+1) e)).length (if opN toks 1 [43] [45] x=0 then h2 else h2.set id (prI toks (x+1) e)) v t:=fun{h2 x v t n} hn q=>by
  subst hn;split
  ·exact q
  ·rw[lLs];exact q.set (.inl hid)
 refine Sem.loop (fun s:Nat×qD×AV×Nat×List qC=>s.1<=f/\mJ toks (.sumL s.2.1) s.2.2.2.1<=s.1/\pM toks (f+1) .sum a=pM toks s.1 (.sumL s.2.1) s.2.2.2.1/\s.2.2.2.1<=toks.length/\(∃cs,s.2.2.1=.agg cs/\cs.length=8)/\PS h id (prI toks (if opN toks 1 [43] [45] s.2.2.2.1=0 then s.2.2.2.1 else s.2.2.2.1+1) e) s.2.2.2.2/\Ow h.length s.2.2.2.2.length s.2.2.2.2 s.2.2.1 s.2.1.enc)
  (fun s=>(⟨[(0,.ptr id 0 0),(4,.int .i64 (opN toks 1 [43] [45] s.2.2.2.1))],[(2,.agg [.int .i64 0,.int .i64 0,.str [],.int .i64 0,.str [],.nils,.nils,.nils]),(3,s.2.2.1)],s.2.2.2.2⟩:VSt)) (fun s=>toks.length-s.2.2.2.1) (f,t,.agg [a0,a1,a2,a3,a4,a5,a6,a7],b,if opN toks 1 [43] [45] b=0 then h1++[qC.row 1 [.str [43],.str [45]] true]else(h1++[qC.row 1 [.str [43],.str [45]] true]).set id (prI toks (b+1) e)) (by kernel_rfl) ?_ cS ?_
 ·exact⟨nLr _,by unfold mJ at hf|-;simp only[Jb.rk]at hf|-;omega,e0,p2,⟨_,rfl,rfl⟩,st0 q2',st1 rfl (q3'.mono (nLr _) (by simp))⟩
 rintro⟨f',t,v,b,g⟩ ⟨i1,i2,i3,i4,⟨cs,rfl,hcs⟩,i5,i6⟩;simp only at i1 i2 i3 i4 hcs i5 i6;obtain⟨a0,a1,a2,a3,a4,a5,a6,a7,hv⟩:=i6.shape;rw[hv]at i6|-;simp only[go_sem];obtain⟨f2,rfl⟩:∃f2,f'=f2+1:=⟨f'-1,by unfold mJ at i2;simp only[Jb.rk]at i2;omega⟩;by_cases h0:opN toks 1 [43] [45] b=0
 ·simp only[h0,decide_true,nT,go_sem];rw[if_pos h0]at i5;refine lA ?_;simp only[go_sem];exact⟨t,b,by rw[i3];simp only[pM,if_pos h0],i5,i6⟩
 ·simp only[dFf h0,nF,go_sem];rw[if_neg h0]at i5;have ol:=ZE h0;have hl5:=i5.len;refine qY (((H f2 (by omega)).prod (b+1) _ (zx i2 (by omega) ol) ol i5.at').mono ?_ ?_)
  case refine_2=>
   rintro v h1 ⟨c,r1,rfl⟩;exact⟨rfl,c,by rw[i3];simp only[pM,if_neg h0,r1,qn],rfl⟩
  rintro v h3 ⟨u,c,r1,r2,r3⟩;obtain⟨p3,p4,_,_⟩:=jh K.x f2 .prod _ trivial ol r1;simp only[Jb.str]at p3;have hl3:=r2.len;have q4:=i6.ps (nLr _) hid r2;obtain⟨b0,b1,b2,b3,b4,b5,b6,b7,rfl⟩:=r3.shape;simp only[go_sem];refine qO (qAL.mono ?_);rintro v h4 ⟨rfl,rfl⟩;simp only[go_sem];refine lA ?_;simp only[go_sem];rw[show zH _ 1 _ _=some [.str [43],.str [45]]from rfl];simp only[go_sem];have i5':=((i5.trans r2).push (x:=.row 8 [.agg [a0,a1,a2,a3,a4,a5,a6,a7],.agg [b0,b1,b2,b3,b4,b5,b6,b7]] true)).push (x:=.row 1 [.str [43],.str [45]] true);refine qO ((Wo (lo:=1) (s1:=[43]) (s2:=[45]) i5'.at' K.l (by simp) (by simp;omega) (by decide) (by decide) rfl rfl (by decide)).mono ?_);rintro v h5 ⟨rfl,rfl⟩;simp only[go_sem];have i6':=JG (ts:=[t,u]) (k:=3) (n:=opN toks 1 [43] [45] b) (s:=[]) (q4.one.snoc r3 (by omega) (by omega)) (nLr _) (by omega) rfl;refine qW (f2,_,_,c,_) ⟨by simp only;omega,by simp only;unfold mJ at i2|-;simp only[Jb.rk]at i2|-;omega, ?_,p4,⟨_,rfl,rfl⟩,st0 i5',st1 rfl ((i6'.push (o:=.row 1 [.str [43],.str [45]] true) (by simp)).mono (nLr _) (by simp))⟩ (by simp only;omega) cS;rw[i3];simp only[pM,if_neg h0,r1,qg];rfl
theorem qcS(K:qx toks)(H:∀f',f'<=f->wj toks e id f'):CI toks e id 1425 (f+1) .prod:=by
 intro a h hf ha ho;have hid:=zA ho;refine xI Vy ?_;simp only[Vy,qH,go_sem];refine qY (((H f (nLr _)).app a h (wB hf (by decide)) ha ho).mono ?_ ?_)
 case refine_2=>
  rintro v h1 ⟨b,q1,rfl⟩;exact⟨rfl,b,by simp only[pM,q1,qn],rfl⟩
 rintro v h1 ⟨t,b,q1,q2,q3⟩;obtain⟨p1,p2,_,_⟩:=jh K.x f .app _ trivial ha q1;simp only[Jb.str]at p1;obtain⟨a0,a1,a2,a3,a4,a5,a6,a7,rfl⟩:=q3.shape;have hl1:=q2.len;simp only[go_sem];refine lA ?_;simp only[go_sem];rw[show zH _ 1 _ _=some [.str [42],.str [47]]from rfl];simp only[go_sem];have q2':=q2.push (x:=.row 1 [.str [42],.str [47]] true);have q3':=q3.push (o:=.row 1 [.str [42],.str [47]] true) (nLr _);refine qO ((Wo (lo:=3) (s1:=[42]) (s2:=[47]) q2'.at' K.l (by simp) (by omega) (by decide) (by decide) rfl rfl (by decide)).mono ?_);rintro v h2 ⟨rfl,rfl⟩;simp only[go_sem];have e0:pM toks (f+1) .prod a=pM toks f (.prodL t) b:=by simp only[pM,q1,qg]
 have st0:∀{h2:List qC}{x:Nat},PS h id (prI toks x e) h2->PS h id (prI toks (if opN toks 3 [42] [47] x=0 then x else x+1) e) (if opN toks 3 [42] [47] x=0 then h2 else h2.set id (prI toks (x+1) e)):=fun{h2 x} q=>by
  split
  ·exact q
  ·exact q.trans (PS.set q.at')
 have st1:∀{h2:List qC}{x:Nat}{v t:AV}{n:Nat},h2.length=n->Ow h.length n h2 v t->Ow h.length (if opN toks 3 [42] [47] x=0 then h2 else h2.set id (prI toks (x+1) e)).length (if opN toks 3 [42] [47] x=0 then h2 else h2.set id (prI toks (x+1) e)) v t:=fun{h2 x v t n} hn q=>by
  subst hn;split
  ·exact q
  ·rw[lLs];exact q.set (.inl hid)
 refine Sem.loop (fun s:Nat×qD×AV×Nat×List qC=>s.1<=f/\mJ toks (.prodL s.2.1) s.2.2.2.1<=s.1/\pM toks (f+1) .prod a=pM toks s.1 (.prodL s.2.1) s.2.2.2.1/\s.2.2.2.1<=toks.length/\(∃cs,s.2.2.1=.agg cs/\cs.length=8)/\PS h id (prI toks (if opN toks 3 [42] [47] s.2.2.2.1=0 then s.2.2.2.1 else s.2.2.2.1+1) e) s.2.2.2.2/\Ow h.length s.2.2.2.2.length s.2.2.2.2 s.2.2.1 s.2.1.enc)
  (fun s=>(⟨[(0,.ptr id 0 0),(4,.int .i64 (opN toks 3 [42] [47] s.2.2.2.1))],[(2,.agg [.int .i64 0,.int .i64 0,.str [],.int .i64 0,.str [],.nils,.nils,.nils]),(3,s.2.2.1)],s.2.2.2.2⟩:VSt)) (fun s=>toks.length-s.2.2.2.1) (f,t,.agg [a0,a1,a2,a3,a4,a5,a6,a7],b,if opN toks 3 [42] [47] b=0 then h1++[qC.row 1 [.str [42],.str [47]] true]else(h1++[qC.row 1 [.str [42],.str [47]] true]).set id (prI toks (b+1) e)) (by kernel_rfl) ?_ cS ?_
 ·exact⟨nLr _,by unfold mJ at hf|-;simp only[Jb.rk]at hf|-;omega,e0,p2,⟨_,rfl,rfl⟩,st0 q2',st1 rfl (q3'.mono (nLr _) (by simp))⟩
 rintro⟨f',t,v,b,g⟩ ⟨i1,i2,i3,i4,⟨cs,rfl,hcs⟩,i5,i6⟩;simp only at i1 i2 i3 i4 hcs i5 i6;obtain⟨a0,a1,a2,a3,a4,a5,a6,a7,hv⟩:=i6.shape;rw[hv]at i6|-;simp only[go_sem];obtain⟨f2,rfl⟩:∃f2,f'=f2+1:=⟨f'-1,by unfold mJ at i2;simp only[Jb.rk]at i2;omega⟩;by_cases h0:opN toks 3 [42] [47] b=0
 ·simp only[h0,decide_true,nT,go_sem];rw[if_pos h0]at i5;refine lA ?_;simp only[go_sem];exact⟨t,b,by rw[i3];simp only[pM,if_pos h0],i5,i6⟩
 ·simp only[dFf h0,nF,go_sem];rw[if_neg h0]at i5;have ol:=ZE h0;have hl5:=i5.len;refine qY (((H f2 (by omega)).app (b+1) _ (zx i2 (by omega) ol) ol i5.at').mono ?_ ?_)
  case refine_2=>
   rintro v h1 ⟨c,r1,rfl⟩;exact⟨rfl,c,by rw[i3];simp only[pM,if_neg h0,r1,qn],rfl⟩
  rintro v h3 ⟨u,c,r1,r2,r3⟩;obtain⟨p3,p4,_,_⟩:=jh K.x f2 .app _ trivial ol r1;simp only[Jb.str]at p3;have hl3:=r2.len;have q4:=i6.ps (nLr _) hid r2;obtain⟨b0,b1,b2,b3,b4,b5,b6,b7,rfl⟩:=r3.shape;simp only[go_sem];refine qO (qAL.mono ?_);rintro v h4 ⟨rfl,rfl⟩;simp only[go_sem];refine lA ?_;simp only[go_sem];rw[show zH _ 1 _ _=some [.str [42],.str [47]]from rfl];simp only[go_sem];have i5':=((i5.trans r2).push (x:=.row 8 [.agg [a0,a1,a2,a3,a4,a5,a6,a7],.agg [b0,b1,b2,b3,b4,b5,b6,b7]] true)).push (x:=.row 1 [.str [42],.str [47]] true);refine qO ((Wo (lo:=3) (s1:=[42]) (s2:=[47]) i5'.at' K.l (by simp) (by simp;omega) (by decide) (by decide) rfl rfl (by decide)).mono ?_);rintro v h5 ⟨rfl,rfl⟩;simp only[go_sem];have i6':=JG (ts:=[t,u]) (k:=3) (n:=opN toks 3 [42] [47] b) (s:=[]) (q4.one.snoc r3 (by omega) (by omega)) (nLr _) (by omega) rfl;refine qW (f2,_,_,c,_) ⟨by simp only;omega,by simp only;unfold mJ at i2|-;simp only[Jb.rk]at i2|-;omega, ?_,p4,⟨_,rfl,rfl⟩,st0 i5',st1 rfl ((i6'.push (o:=.row 1 [.str [42],.str [47]] true) (by simp)).mono (nLr _) (by simp))⟩ (by simp only;omega) cS;rw[i3];simp only[pM,if_neg h0,r1,qg];rfl
end
def KL(B u:Nat)(h:List qC)(v:AV)(w:Nat)(xs:List AV):Prop:=(xs=[]/\v=.nils)\/∃k vs,v=.slice w k 0 xs.length false/\h[k]?=some (.row w vs true)/\Ows B k h vs xs/\B<=k/\k<u/\xs≠[]
section
variable {B u u2 k w id:Nat} {h h1 h2:List qC} {v X t:AV} {xs vs:List AV} {o:qC}
theorem KL.nil:KL B u h .nils w []:=.inl ⟨rfl,rfl⟩
theorem KL.to(x:KL B u h v w xs)(hh:∀j,B<=j->j<u->h1[j]?=h[j]?):KL B u h1 v w xs:=by
 rcases x with x | ⟨k,vs,x1,x2,x3,x4,x5,x6⟩
 ·exact .inl x
 ·exact .inr ⟨k,vs,x1,(hh k x4 x5).trans x2,x3.to fun j h1 h2=>hh j h1 (by omega),x4,x5,x6⟩
theorem KL.mono(x:KL B u h v w xs)(hu:u<=u2):KL B u2 h v w xs:=by
 rcases x with x | ⟨k,vs,x1,x2,x3,x4,x5,x6⟩
 ·exact .inl x
 ·exact .inr ⟨k,vs,x1,x2,x3,x4,by omega,x6⟩
theorem KL.ps(x:KL B u h1 v w xs)(hu:u<=h1.length)(hid:id<B)(a:PS h1 id o h2):KL B u h2 v w xs:=x.to fun j h3 h4=>a.old j (by omega) (by omega)
theorem KL.push(x:KL B u h v w xs)(hu:u<=h.length):KL B u (h++[o]) v w xs:=x.to fun j h3 h4=>gAl (by omega)
theorem KL.set(x:KL B u h v w xs)(hid:id<B):KL B u (h.set id o) v w xs:=x.to fun j h3 h4=>gSn (by omega)
theorem KL.ow(x:KL B u h v w xs):Ow B u h v (.lst w xs false):=by
 rcases x with⟨rfl,rfl⟩ | ⟨k,vs,rfl,x2,x3,x4,x5,x6⟩
 ·exact Ow.nils
 ·exact(x3.row x2 (nLr _) x4).mono (nLr _) x5
theorem JW(hX:Ow B u h X t)(hk:h[k]?=some (.row w [X] true))(hu:u<=k)(hb:B<=k):KL B (k+1) h (.slice w k 0 1 false) w [t]:=
 .inr ⟨k,[X],rfl,hk,hX.one.mono (nLr _) hu,hb,by omega,by simp⟩
theorem kp{n:Nat}(hV:Ows B u h vs xs)(hX:Ow u u2 h X t)(hk:h[k]?=some (.row w (vs++[X]) true))(h1:B<=u)(h2:u<=u2)(hu:u2<=k)(hn:n=xs.length+1):KL B (k+1) h (.slice w k 0 n false) w (xs++[t]):=by
 subst hn;exact .inr ⟨k,vs++[X],by simp,hk,(hV.snoc hX h1 h2).mono (nLr _) hu,by omega,by omega,by simp⟩
theorem Ows.cnt(x:Ows B u h vs xs):vs.length=xs.length:=by obtain⟨S,x,_⟩:=x;exact x.cnt
variable {E:Ev} {l:List qA} {ks:List Fr1} {s m:qf} {Q:qS->VSt->Prop}
theorem jF{id2 d:Nat}{c2:Bool}(hK:KL B u h v w xs)(hX:Ow u u2 h X t)(h2:h[id2]?=some (.row w [X] true))(b1:B<=u)(b2:u<=u2)(b3:u2<=h.length)(hl:xs.length<4294967296)
  (hr:∀k' n' h',KL B h'.length h' (.slice w k' 0 n' false) w (xs++[t])->(∀j,j<B->h'[j]?=h[j]?)->h.length<=h'.length->R E (.ops l::ks) ⟨(d,.slice w k' 0 n' false)::s,m,h'⟩ Q):
  wk E w (some d) (some v) (some (.slice w id2 0 1 c2)) l ks ⟨s,m,h⟩ Q:=by
 rcases hK with⟨rfl,rfl⟩ | ⟨k,vs,rfl,x2,x3,x4,x5,x6⟩
 ·refine WP (ys:=[X]) (Els.row h2 rfl) (by simp) ?_;refine hr _ _ _ ?_ (fun j hj=>gAl (by omega)) (by simp);have:=JW (k:=h.length) (w:=w) ((hX.push (o:=.row w [X] true) b3).mono b1 (nLr _)) (by simp) b3 (by omega);simpa using this
 ·have hc:=x3.cnt;refine Qt h2 x2 hc hl ?_;refine hr _ _ _ ?_ (fun j hj=> ?_) (by simp)
  ·have g:∀j,j<h.length->j≠k->(h.set k qC.dead++[qC.row w (vs++[X]) true])[j]?=h[j]?:=fun j hj hne=>by
    rw[gAl (by simp;omega),gSn (Ne.symm hne)]
   have:=kp (k:=h.length) (w:=w) (n:=xs.length+1) (x3.to (h1:=h.set k qC.dead++[qC.row w (vs++[X]) true]) fun j h3 h4=>g j (by omega) (by omega)) ((hX.to (h1:=h.set k qC.dead++[qC.row w (vs++[X]) true]) fun j h3 h4=>g j (by omega) (by omega)).mono (Nat.le_of_lt x5) (nLr _)) (by simp) x4 (by omega) b3 rfl;simpa using this
  ·rw[gAl (by simp;omega),gSn (by omega)]
end
section
variable {toks:List qK} {e:Int} {id f:Nat}
theorem qcM(K:qx toks)(H:∀f',f'<=f->wj toks e id f'):CI toks e id 1511 (f+1) .app:=by
 intro a h hf ha ho;have hid:=zA ho;refine xI UB ?_;simp only[UB,qH,go_sem];refine qY (((H f (nLr _)).pre a h (wB hf (by decide)) ha ho).mono ?_ ?_)
 case refine_2=>
  rintro v h1 ⟨b,q1,rfl⟩;exact⟨rfl,b,by simp only[pM,q1,qn],rfl⟩
 rintro v h1 ⟨t,b,q1,q2,q3⟩;obtain⟨p1,p2,_,_⟩:=jh K.x f .pre _ trivial ha q1;simp only[Jb.str]at p1;obtain⟨a0,a1,a2,a3,a4,a5,a6,a7,rfl⟩:=q3.shape;have hl1:=q2.len;simp only[go_sem];refine lA ?_;simp only[go_sem];have e0:pM toks (f+1) .app a=pM toks f (.appL t) b:=by simp only[pM,q1,qg]
 refine Sem.loop (fun s:Nat×qD×AV×Nat×List qC=>s.1<=f/\mJ toks (.appL s.2.1) s.2.2.2.1<=s.1/\pM toks (f+1) .app a=pM toks s.1 (.appL s.2.1) s.2.2.2.1/\s.2.2.2.1<=toks.length/\(∃cs,s.2.2.1=.agg cs/\cs.length=8)/\PS h id (prI toks s.2.2.2.1 e) s.2.2.2.2/\Ow h.length s.2.2.2.2.length s.2.2.2.2 s.2.2.1 s.2.1.enc)
  (fun s=>(⟨[(0,.ptr id 0 0)],[(2,.agg [.int .i64 0,.int .i64 0,.str [],.int .i64 0,.str [],.nils,.nils,.nils]),(3,s.2.2.1)],s.2.2.2.2⟩:VSt)) (fun s=>toks.length-s.2.2.2.1) (f,t,.agg [a0,a1,a2,a3,a4,a5,a6,a7],b,h1) (by kernel_rfl) ?_ cS ?_
 ·exact⟨nLr _,by unfold mJ at hf|-;simp only[Jb.rk]at hf|-;omega,e0,p2,⟨_,rfl,rfl⟩,q2,q3⟩
 rintro⟨f',t,v,b,g⟩ ⟨i1,i2,i3,i4,⟨cs,rfl,hcs⟩,i5,i6⟩;simp only at i1 i2 i3 i4 hcs i5 i6;obtain⟨a0,a1,a2,a3,a4,a5,a6,a7,hv⟩:=i6.shape;rw[hv]at i6|-;simp only[go_sem];obtain⟨f2,rfl⟩:∃f2,f'=f2+1:=⟨f'-1,by unfold mJ at i2;simp only[Jb.rk]at i2;omega⟩;refine qe rfl (qeD i5.at') ?_;simp only[go_sem];cases h0:bgP toks b
 ·simp only[go_sem];refine lA ?_;simp only[go_sem];exact⟨t,b,by rw[i3];simp only[pM,h0,bFt,if_false],i5,i6⟩
 ·simp only[go_sem];have hl5:=i5.len;refine qY (((H f2 (by omega)).pre b _ (wB (j:=.appL t) i2 (show 1<2 by decide)) i4 i5.at').mono ?_ ?_)
  case refine_2=>
   rintro v h1 ⟨c,r1,rfl⟩;exact⟨rfl,c,by rw[i3];simp only[pM,h0,if_true,r1,qn],rfl⟩
  rintro v h3 ⟨u,c,r1,r2,r3⟩;obtain⟨p3,p4,_,_⟩:=jh K.x f2 .pre _ trivial i4 r1;simp only[Jb.str]at p3;have hl3:=r2.len;have q4:=i6.ps (nLr _) hid r2;obtain⟨b0,b1,b2,b3,b4,b5,b6,b7,rfl⟩:=r3.shape;simp only[go_sem];rw[show zH _ 8 _ _=some [.agg [a0,a1,a2,a3,a4,a5,a6,a7],.agg [b0,b1,b2,b3,b4,b5,b6,b7]]from rfl];simp only[go_sem];refine lA ?_;simp only[go_sem];have i6':=JG (ts:=[t,u]) (k:=5) (n:=0) (s:=[]) (q4.one.snoc r3 (by omega) (by omega)) (nLr _) (by omega) rfl;refine qW (f2,_,_,c,_) ⟨by simp only;omega,by simp only;unfold mJ at i2|-;simp only[Jb.rk]at i2|-;omega, ?_,p4,⟨_,rfl,rfl⟩,(i5.trans r2).push,i6'.mono (nLr _) (by simp)⟩ (by simp only;omega) cS;rw[i3];simp only[pM,h0,if_true,r1,qg];rfl
theorem qcP(K:qx toks)(H:∀f',f'<=f->wj toks e id f'):CI toks e id 1553 (f+1) .encl:=by
 intro a h hf ha ho;have hid:=zA ho;refine xI UK ?_;simp only[UK,qH,go_sem];refine qe rfl (jH ho K.l (by decide)) ?_;rw[qk (by decide)];simp only[go_sem];cases hb:isP toks a [45]
 ·simp only[bFt,if_false,go_sem];refine qY (((H f (nLr _)).term a h (wB hf (by decide)) ha ho).mono ?_ ?_)
  case refine_2=>
   rintro v h1 ⟨b,q1,rfl⟩;exact⟨rfl,b,by simp only[pM,hb,bFt,if_false,q1,qn],rfl⟩
  rintro v h1 ⟨t,b,q1,q2,q3⟩;obtain⟨a0,a1,a2,a3,a4,a5,a6,a7,rfl⟩:=q3.shape;simp only[go_sem];refine lA ?_;simp only[go_sem];have e0:pM toks (f+1) .encl a=exB (qT toks [41] b) fun _ b=>.ok (t,b):=by simp only[pM,hb,bFt,if_false,q1,qg]
  refine qY ((jc q2.at' K.l (by decide)).mono ?_ ?_)
  case refine_2=>
   rintro v2 h2 ⟨e1,rfl,rfl⟩;rw[qk (by decide)]at e1;exact⟨rfl,b,by rw[e0];simp only[qg,qT,e1,bFt,if_false,qn],rfl⟩
  rintro v2 h2 ⟨e1,rfl⟩;rw[qk (by decide)]at e1;simp only[go_sem];refine lA ?_;simp only[go_sem];exact⟨t,b+1,by rw[e0];simp only[qT,e1,if_true,qg],q2.trans (PS.set q2.at'),by rw[lLs];exact q3.set (.inl hid)⟩
 ·have hlt:=qa hb;simp only[if_true,go_sem];have q0:PS h id (prI toks (a+1) e) (h.set id (prI toks (a+1) e)):=PS.set ho;refine qY ((qV4 (neg:=true) q0.at' K.l K.n K.x).mono ?_ ?_)
  case refine_2=>
   rintro v h1 ⟨q1,rfl⟩;exact⟨rfl,a+1,by simp only[pM,hb,if_true,q1,qn],rfl⟩
  rintro v h1 ⟨n,q1,rfl,rfl⟩;have q2:PS h id (prI toks (a+1+1) e) ((h.set id (prI toks (a+1) e)).set id (prI toks (a+1+1) e)):=q0.trans (PS.set q0.at');have q3:Ow h.length ((h.set id (prI toks (a+1) e)).set id (prI toks (a+1+1) e)).length ((h.set id (prI toks (a+1) e)).set id (prI toks (a+1+1) e)) _ _:=Qc (k:=2) (n:=n) (s:=[]) (by simp);simp only[go_sem];refine lA ?_;simp only[go_sem];have e0:pM toks (f+1) .encl a=exB (qT toks [41] (a+1+1)) fun _ b=>.ok (tmk 2 n [] [],b):=by simp only[pM,hb,if_true,q1,qg]
  refine qY ((jc q2.at' K.l (by decide)).mono ?_ ?_)
  case refine_2=>
   rintro v2 h2 ⟨e1,rfl,rfl⟩;rw[qk (by decide)]at e1;exact⟨rfl,a+1+1,by rw[e0];simp only[qg,qT,e1,bFt,if_false,qn],rfl⟩
  rintro v2 h2 ⟨e1,rfl⟩;rw[qk (by decide)]at e1;simp only[go_sem];refine lA ?_;simp only[go_sem];exact⟨tmk 2 n [] [],a+1+1+1,by rw[e0];simp only[qT,e1,if_true,qg],q2.trans (PS.set q2.at'),by rw[lLs];exact q3.set (.inl hid)⟩
theorem qcQ(K:qx toks)(H:∀f',f'<=f->wj toks e id f'):CI toks e id 1554 (f+1) .mat:=by
 intro a h hf ha ho;have hid:=zA ho;refine xI UL ?_;simp only[UL,qH,go_sem];refine qY (((H f (nLr _)).term a h (wB hf (by decide)) ha ho).mono ?_ ?_)
 case refine_2=>
  rintro v h1 ⟨b,q1,rfl⟩;exact⟨rfl,b,by simp only[pM,q1,qn],rfl⟩
 rintro v h1 ⟨t,b,q1,q2,q3⟩;obtain⟨p1,p2,_,_⟩:=jh K.x f .term _ trivial ha q1;simp only[Jb.str]at p1;have hl1:=q2.len;obtain⟨a0,a1,a2,a3,a4,a5,a6,a7,rfl⟩:=q3.shape;simp only[go_sem];refine qy (v:=.agg [a0,a1,a2,a3,a4,a5,a6,a7]) rfl rfl ?_;simp only[go_sem];refine lA ?_;simp only[go_sem];have q2':=q2.push (x:=.row 8 [.agg [a0,a1,a2,a3,a4,a5,a6,a7]] true);have k0:=JW (w:=8) (q3.push (o:=.row 8 [.agg [a0,a1,a2,a3,a4,a5,a6,a7]] true) (nLr _)) (k:=h1.length) (by simp) (nLr _) hl1;have e0:pM toks (f+1) .mat a=exB (qT toks [123] b) fun _ b=>pM toks f (.matL [t]) b:=by simp only[pM,q1,qg]
 refine qY ((jc q2'.at' K.l (by decide)).mono ?_ ?_)
 case refine_2=>
  rintro v2 h2 ⟨e1,rfl,rfl⟩;rw[qk (by decide)]at e1;exact⟨rfl,b,by rw[e0];simp only[qg,qT,e1,bFt,if_false,qn],rfl⟩
 rintro v2 h2 ⟨e1,rfl⟩;rw[qk (by decide)]at e1;simp only[go_sem];have hlt:=qa e1;rw[show exB (qT toks [123] b) (fun _ b=>pM toks f (.matL [t]) b)=pM toks f (.matL [t]) (b+1) by simp only[qT,e1,if_true,qg]]at e0;have q4:=q2'.trans (PS.set q2'.at' (o:=prI toks (b+1) e));have k1:=k0.set (id:=id) (o:=prI toks (b+1) e) hid;obtain⟨f2,rfl⟩:∃f2,f=f2+1:=⟨f-1,by unfold mJ at hf;simp only[Jb.rk]at hf;omega⟩;have hf2:mJ toks (.matL [t]) (b+1)<=f2+1:=zx hf (by omega) hlt;refine qY (((H f2 (by omega)).bran (b+1) _ (wB hf2 (show 1<2 by decide)) hlt q4.at').mono ?_ ?_)
 case refine_2=>
  rintro v h1 ⟨c,r1,rfl⟩;exact⟨rfl,c,by rw[e0];simp only[pM,r1,qn],rfl⟩
 rintro v h3 ⟨u,c,r1,r2,r3⟩;obtain⟨p3,p4,_,_⟩:=jh K.x f2 .bran _ trivial hlt r1;simp only[Jb.str]at p3;have hl3:=r2.len;simp only[lLs,zN]at hl3 r3;have k2:=k1.ps (by simp) hid r2;obtain⟨b0,b1,b2,b3,b4,b5,b6,b7,rfl⟩:=r3.shape;simp only[go_sem];refine qy (v:=.agg [b0,b1,b2,b3,b4,b5,b6,b7]) rfl rfl ?_;simp only[go_sem];refine jF (k2.push (nLt (by omega) hl3)) (r3.push (o:=.row 8 [.agg [b0,b1,b2,b3,b4,b5,b6,b7]] true) (nLr _)) (by simp) (by omega) (by omega) (by simp) (by simp) ?_;intro kk nn h4 k3 g1 g2;rw[zN]at g2;simp only[go_sem];have e2:pM toks (f2+1+1) .mat a=(if isP toks c [59]then pM toks f2 (.matL [t,u]) (c+1)else exB (qT toks [125] c) fun _ b=>.ok (tmk 9 0 [] [t,u],b)):=by rw[e0];simp only[pM,r1,qg,lCa,lNa]
 have q5:PS h id (prI toks c e) h4:=⟨(g1 id hid).trans (by rw[gAl (zA r2.at')];exact r2.at'),by omega,fun j hj hl=>by
  rw[g1 j hl,gAl (by omega)];exact(q4.trans r2).old j hj hl⟩
 refine Sem.loop (fun s:Nat×List qD×AV×Nat×List qC=>s.1<=f2/\20*(toks.length-(s.2.2.2.1+1))+2<=s.1/\pM toks (f2+1+1) .mat a=(if isP toks s.2.2.2.1 [59]then pM toks s.1 (.matL s.2.1) (s.2.2.2.1+1)else exB (qT toks [125] s.2.2.2.1) fun _ b=>.ok (tmk 9 0 [] s.2.1,b))/\s.2.2.2.1<=toks.length/\PS h id (prI toks s.2.2.2.1 e) s.2.2.2.2/\KL h.length s.2.2.2.2.length s.2.2.2.2 s.2.2.1 8 (s.2.1.map qD.enc)/\s.2.1.length<=s.2.2.2.1/\∃kk nn,s.2.2.1=.slice 8 kk 0 nn false)
  (fun s=>(⟨[(0,.ptr id 0 0)],[(2,.agg [.int .i64 0,.int .i64 0,.str [],.int .i64 0,.str [],.nils,.nils,.nils]),(3,.agg [.int .i64 9,.int .i64 0,.str [],.int .i64 0,.str [],.nils,.nils,s.2.2.1])],s.2.2.2.2⟩:VSt)) (fun s=>toks.length-s.2.2.2.1) (f2,[t,u],.slice 8 kk 0 nn false,c,h4) (by kernel_rfl) ?_ cS ?_
 ·refine⟨nLr _, ?_,e2,p4,q5,by simpa using k3,by simp only[lCo,lNi];omega,_,_,rfl⟩;simp only;unfold mJ at hf2;simp only[Jb.rk]at hf2;omega
 clear e2 q5 k3 g1 g2 k2 r3 k1 k0 q4 q2';rintro⟨f',ks',w7,d,g⟩ ⟨i1,i2,i3,i4,i5,i6,i7,kk,nn,rfl⟩;simp only at i1 i2 i3 i4 i5 i6 i7;simp only[go_sem];refine qe rfl (jH i5.at' K.l (by decide)) ?_;rw[qk (by decide)];simp only[go_sem];cases h0:isP toks d [59]
 ·simp only[bFt,if_false,go_sem];rw[h0,if_neg (by decide)]at i3;refine qY ((jc i5.at' K.l (by decide)).mono ?_ ?_)
  case refine_2=>
   rintro v2 h2 ⟨e1,rfl,rfl⟩;rw[qk (by decide)]at e1;exact⟨rfl,d,by rw[i3];simp only[qg,qT,e1,bFt,if_false,qn],rfl⟩
  rintro v2 h2 ⟨e1,rfl⟩;rw[qk (by decide)]at e1;simp only[go_sem];refine lA ?_;simp only[go_sem];refine⟨tmk 9 0 [] ks',d+1,by rw[i3];simp only[qT,e1,if_true,qg],i5.trans (PS.set i5.at'), ?_⟩;rw[lLs];exact Qd (i6.set hid).ow i5.len
 ·have hlt:=qa h0;simp only[if_true,go_sem];rw[h0,if_pos rfl]at i3;have hl5:=i5.len;have i5':=i5.trans (PS.set i5.at' (o:=prI toks (d+1) e));have i6':=i6.set (id:=id) (o:=prI toks (d+1) e) hid;obtain⟨f3,rfl⟩:∃f3,f'=f3+1:=⟨f'-1,by omega⟩;refine qY (((H f3 (by omega)).bran (d+1) _ (by unfold mJ;simp only[Jb.rk];omega) hlt i5'.at').mono ?_ ?_)
  case refine_2=>
   rintro v h1 ⟨c,r1,rfl⟩;exact⟨rfl,c,by rw[i3];simp only[pM,r1,qn],rfl⟩
  rintro v h3 ⟨u,c,r1,r2,r3⟩;obtain⟨p3,p4,_,_⟩:=jh K.x f3 .bran _ trivial hlt r1;simp only[Jb.str]at p3;have hl3:=r2.len;simp only[lLs]at hl3 r3;have k2:=i6'.ps (by simp) hid r2;obtain⟨b0,b1,b2,b3,b4,b5,b6,b7,rfl⟩:=r3.shape;simp only[go_sem];refine qy (v:=.agg [b0,b1,b2,b3,b4,b5,b6,b7]) rfl rfl ?_;simp only[go_sem];have hlk:(ks'.map qD.enc).length<4294967296:=by rw[lMp];have:=K.l;omega
  refine jF (k2.push hl3) (r3.push (o:=.row 8 [.agg [b0,b1,b2,b3,b4,b5,b6,b7]] true) (nLr _)) (by simp) (by omega) (by omega) (by simp) hlk ?_;intro kk nn h4 k3 g1 g2;rw[zN]at g2;simp only[go_sem];refine qW (f3,ks'++[u],.slice 8 kk 0 nn false,c,h4) ⟨by simp only;omega,by simp only;omega, ?_,p4, ?_,by simpa using k3,by simp only[lAp,lCo,lNi];omega,_,_,rfl⟩ (by simp only;omega) cS
  ·simp only;rw[i3];simp only[pM,r1,qg]
  ·exact⟨(g1 id hid).trans (by rw[gAl (zA r2.at')];exact r2.at'),by simp only;omega,fun j hj hl=>by
    simp only;rw[g1 j hl,gAl (by omega)];exact(i5'.trans r2).old j hj hl⟩
end
structure Cg(id pb sb B:Nat)(h0:List qC):Prop where
 i:id<h0.length
 p:h0.length<=pb
 s:h0.length<=sb
 ps:pb≠sb
 pB:pb<B
 sB:sb<B
structure Cx(toks:List qK)(e:Int)(id pb sb B:Nat)(h0:List qC)(a:Nat)(k:Int)(s:Str)(v6 v7:AV)(h:List qC):Prop where
 p:h[id]?=some (prI toks a e)
 f:∀j,j≠id->j<h0.length->h[j]?=h0[j]?
 b1:h[pb]?=some (.row 1 [.ptr id 0 0] true)
 b2:h[sb]?=some (.row 8 [.agg [.int .i64 k,.int .i64 0,.str s,.int .i64 0,.str [],.nils,v6,v7]] true)
 l:B<=h.length
section
variable {toks:List qK} {e:Int} {id pb sb B f a b:Nat} {h0 h h':List qC} {k:Int} {s:Str} {v6 v7 w6 w7:AV}
theorem Cx.ps(C:Cx toks e id pb sb B h0 a k s v6 v7 h)(G:Cg id pb sb B h0)(q:PS h id (prI toks b e) h'):Cx toks e id pb sb B h0 b k s v6 v7 h':=by
 have:=C.l;have:=G.i;have:=G.p;have:=G.s;have:=G.pB;have:=G.sB;have:=q.len;exact⟨q.at',fun j hj hl=>(q.old j hj (by omega)).trans (C.f j hj hl),(q.old pb (by omega) (by omega)).trans C.b1,(q.old sb (by omega) (by omega)).trans C.b2,by omega⟩
theorem Cx.low(C:Cx toks e id pb sb B h0 a k s v6 v7 h)(G:Cg id pb sb B h0)(q:∀j,j<B->h'[j]?=h[j]?)(ql:h.length<=h'.length):Cx toks e id pb sb B h0 a k s v6 v7 h':=by
 have:=C.l;have:=G.i;have:=G.p;have:=G.s;have:=G.pB;have:=G.sB;exact⟨(q id (by omega)).trans C.p,fun j hj hl=>(q j (by omega)).trans (C.f j hj hl),(q pb (by omega)).trans C.b1,(q sb (by omega)).trans C.b2,by omega⟩
theorem Cx.box(C:Cx toks e id pb sb B h0 a k s v6 v7 h)(G:Cg id pb sb B h0):Cx toks e id pb sb B h0 a k s w6 w7 (h.set sb (.row 8 [.agg [.int .i64 k,.int .i64 0,.str s,.int .i64 0,.str [],.nils,w6,w7]] true)):=by
 have:=C.l;have:=G.i;have:=G.p;have:=G.s;have:=G.ps;have:=G.pB;have:=G.sB;exact⟨by rw[gSn (by omega)];exact C.p,fun j hj hl=>by rw[gSn (by omega)];exact C.f j hj hl,by rw[gSn (by omega)];exact C.b1,gSs (by omega),by simp;omega⟩
theorem Cx.fin(C:Cx toks e id pb sb B h0 a k s v6 v7 h)(G:Cg id pb sb B h0):PS h0 id (prI toks a e) h:=by
 have:=C.l;have:=G.p;have:=G.pB;exact⟨C.p,by omega,C.f⟩
theorem W4{h:List qC}{o o':qC}:(h++[o]).set h.length o'=h++[o']:=by simp
theorem qAX{b u:Nat}{h:List qC}{s:Str}:Ow b u h (.str s) (qR s):=by
 refine⟨[],⟨rfl,rfl,trivial, ?_⟩,fun j hj=>by cases hj⟩;simp only[qR,lay];exact .tree rfl
theorem XD{p id i j w:Nat}{sh:Option Nat}{st m:qf}{h:List qC}{el:List AV}{rw':Bool}{v:AV}(hp:get st p=some (.ptr id i j))(ho:h[id]?=some (.row w el rw'))(he:(el[i]?).bind (·.part j sh)=some v):wi (.load sh (.t p)) ⟨st,m,h⟩=some v:=by
 have hp':ev (toE st) (.t p)=some (.ptr id i j):=hp;simp only[wi,val,hp',qgN,ho];exact he
theorem qV5{ns:List Str}(K:qx toks)(G:Cg id pb sb B h0)(C:Cx toks e id pb sb B h0 a k s v6 v7 h)(hK:KL B h.length h v6 1 (ns.map qR))(hns:ns.length<=1048576):
  SCallX Gm 1561 [.ptr sb 0 0,.ptr pb 0 0] h (fun _ h'=>∃x w6,zR toks 1 a=.ok (x,a+1)/\Cx toks e id pb sb B h0 (a+1) k s w6 v7 h'/\KL B h'.length h' w6 1 ((ns++[x]).map qR)) (fun v _=>zR toks 1 a=.error a/\v=wO (nxt toks a e).At):=by
 refine xI UQ ?_;simp only[UQ,qH,go_sem,C.b1,C.b2];refine WT ((Jn C.p K.l (by decide)).mono ?_ ?_)
 case refine_2=>
  rintro v h1 ⟨hk,rfl,rfl⟩;refine⟨rfl, ?_,rfl⟩;unfold zR;unfold nxt at hk;cases ht:toks[a]? with
  | none=>rfl
  | some t=>rw[ht]at hk;simp only[Option.getD_some]at hk;simp only[if_neg hk]
 rintro v h1 ⟨hk,rfl,rfl⟩;have hlt:=Qb (by decide) hk;have en:nxt toks a e=toks[a]:=by simp[nxt,gEg hlt]
 rw[en]at hk|-;have hw:zR toks 1 a=.ok (toks[a].Text,a+1):=by unfold zR;rw[gEg hlt];simp only[if_pos hk]
 have C1:=C.ps G (PS.set C.p (o:=prI toks (a+1) e));have hK1:=hK.set (id:=id) (o:=prI toks (a+1) e) (by have:=G.i;have:=G.p;have:=G.pB;omega);have hb:=C.l;have hrig:v6.rigid:=by
  rcases hK with⟨_,rfl⟩ | ⟨k,vs,rfl,x2,x3,x4,x5,x6⟩
  ·exact trivial
  ·intro q;exact x6 (lEz q.2)
 refine⟨⟨⟨rfl,v6,by simp only[go_sem], ?_,hrig⟩,trivial⟩, ?_⟩
 ·exact XD (by simp only[go_sem];rfl) C1.b2 rfl
 simp only[go_sem];refine qy (v:=.str toks[a].Text) rfl rfl ?_;simp only[go_sem];refine jF (t:=qR toks[a].Text) (hK1.push (by simp)) qAX (by simp) hb (nLr _) (by simp) (by rw[lMp];omega) ?_;intro kk nn h4 k3 g1 g2;have C2:=C1.low G (h':=h4) (fun j hj=>by rw[g1 j hj,gAl (by simp;omega)]) (by simp at g2|-;omega);simp only[go_sem];refine jQ rfl C2.b2 rfl rfl ?_;simp only[go_sem];refine⟨toks[a].Text,.slice 1 kk 0 nn false,hw,C2.box G, ?_⟩;rw[lLs];have:=k3.set (id:=sb) (o:=.row 8 [.agg [.int .i64 k,.int .i64 0,.str s,.int .i64 0,.str [],.nils,.slice 1 kk 0 nn false,v7]] true) G.sB;simpa using this
theorem qV3{ks:List qD}(K:qx toks)(H:wj toks e id f)(hf:mJ toks .term a<=f)(ha:a<=toks.length)(G:Cg id pb sb B h0)(C:Cx toks e id pb sb B h0 a k s v6 v7 h)(hK:KL B h.length h v7 8 (ks.map qD.enc))(hks:ks.length<=1048576):
  SCallX Gm 1555 [.ptr sb 0 0,.ptr pb 0 0] h (fun _ h'=>∃t b w7,pM toks f .term a=.ok (t,b)/\Cx toks e id pb sb B h0 b k s v6 w7 h'/\KL B h'.length h' w7 8 ((ks++[t]).map qD.enc)) (fun v _=>∃b,pM toks f .term a=.error b/\v=wO (nxt toks b e).At):=by
 have hB:=C.l;have hsB:=G.sB;have hiB:id<B:=by have:=G.i;have:=G.p;have:=G.pB;omega
 refine xI UM ?_;simp only[UM,qH,go_sem,C.b1,C.b2];rcases hK with⟨hk0,rfl⟩ | ⟨kk,vs,rfl,x2,x3,x4,x5,x6⟩
 ·simp only[go_sem];refine WT ((H.term a h hf ha C.p).mono ?_ ?_)
  case refine_2=>
   rintro v h1 ⟨b,q1,rfl⟩;exact⟨rfl,b,q1,rfl⟩
  rintro v h1 ⟨t,b,q1,q2,q3⟩;have C1:=C.ps G q2;have hl:=q2.len;obtain⟨a0,a1,a2,a3,a4,a5,a6,a7,rfl⟩:=q3.shape;refine⟨⟨⟨rfl,.nils,by simp only[go_sem],XD (by simp only[go_sem];rfl) C1.b2 rfl,trivial⟩,trivial⟩, ?_⟩;simp only[go_sem];refine WP (Els.lst) (by simp) ?_;have C2:=C1.low G (h':=h1++[.row 8 [.agg [.int .i64 0,.int .i64 0,.str [],.int .i64 0,.str [],.nils,.nils,.nils]] true]) (fun j hj=>gAl (by omega)) (by simp);simp only[lCo,lNi,go_sem];have ix:idx 8 (some (.slice 8 h1.length 0 1 false)) (some (.int .i64 0))=some (.ptr h1.length 0 0):=by simp[idx]
  simp only[ix,go_sem];refine jQ (el:=[.agg [.int .i64 0,.int .i64 0,.str [],.int .i64 0,.str [],.nils,.nils,.nils]]) (e:=.agg [.int .i64 0,.int .i64 0,.str [],.int .i64 0,.str [],.nils,.nils,.nils]) (e':=.agg [a0,a1,a2,a3,a4,a5,a6,a7]) rfl gCl rfl (Qg (k:=8) rfl rfl ⟨fun _=>⟨_,rfl⟩,fun _=>⟨_,rfl⟩⟩ (by decide)) ?_;rw[W4,lSz];have C3:=C1.low G (h':=h1++[.row 8 [.agg [a0,a1,a2,a3,a4,a5,a6,a7]] true]) (fun j hj=>gAl (by omega)) (by simp);simp only[go_sem];refine Yd (by omega) (by simp[We]) rfl C3.b2 rfl rfl ?_;simp only[go_sem];refine⟨t,b,.slice 8 h1.length 0 1 false,q1,C3.box G, ?_⟩;rw[lLs];have k3:=JW (w:=8) (B:=B) (k:=h1.length) ((q3.push (o:=.row 8 [.agg [a0,a1,a2,a3,a4,a5,a6,a7]] true) (nLr _)).mono hB (nLr _)) (by simp) (nLr _) (by omega);have k4:=k3.set (id:=sb) (o:=.row 8 [.agg [.int .i64 k,.int .i64 0,.str s,.int .i64 0,.str [],.nils,v6,.slice 8 h1.length 0 1 false]] true) hsB;rw[lMa,hk0];simpa using k4
 ·simp only[go_sem];refine WT ((H.term a h hf ha C.p).mono ?_ ?_)
  case refine_2=>
   rintro v h1 ⟨b,q1,rfl⟩;exact⟨rfl,b,q1,rfl⟩
  rintro v h1 ⟨t,b,q1,q2,q3⟩;have C1:=C.ps G q2;have hl:=q2.len;obtain⟨a0,a1,a2,a3,a4,a5,a6,a7,rfl⟩:=q3.shape;rw[lMp]at C1;refine⟨⟨⟨rfl,.slice 8 kk 0 ks.length false,by simp only[go_sem],XD (by simp only[go_sem];rfl) C1.b2 rfl,fun q=>x6 (by rw[lEz q.2];rfl)⟩,trivial⟩, ?_⟩;simp only[go_sem];have hc:vs.length=ks.length:=by simpa using x3.cnt
  have x2':h1[kk]?=some (.row 8 vs true):=(q2.old kk (by omega) x5).trans x2;refine Kj Els.lst x2' hc (by simp only[lCo,lNi];omega) ?_;have g:∀(o:qC)(j:Nat),j<h1.length->j≠kk->(h1.set kk qC.dead++[o])[j]?=h1[j]?:=fun o j hj hne=>by
   rw[gAl (by simp;omega),gSn (Ne.symm hne)]
  have el:(h1.set kk qC.dead).length=h1.length:=by simp
  simp only[lCo,lNi,go_sem];have ix:idx 8 (some (.slice 8 h1.length 0 (ks.length+(0+1)) false)) (some (.int .i64 (ks.length:Nat)))=some (.ptr h1.length ks.length 0):=by simp[idx];omega
  simp only[ix,go_sem];refine jQ (el:=vs++[.agg [.int .i64 0,.int .i64 0,.str [],.int .i64 0,.str [],.nils,.nils,.nils]]) (e:=.agg [.int .i64 0,.int .i64 0,.str [],.int .i64 0,.str [],.nils,.nils,.nils]) (e':=.agg [a0,a1,a2,a3,a4,a5,a6,a7]) rfl (by rw[gAr (by omega),el,nSs];rfl) (by rw[gAr (by omega),hc,nSs];rfl) (Qg (k:=8) rfl rfl ⟨fun _=>⟨_,rfl⟩,fun _=>⟨_,rfl⟩⟩ (by decide)) ?_;have es:(h1.set kk qC.dead++[qC.row 8 (vs++[AV.agg [.int .i64 0,.int .i64 0,.str [],.int .i64 0,.str [],.nils,.nils,.nils]]) true]).set h1.length (qC.row 8 ((vs++[AV.agg [.int .i64 0,.int .i64 0,.str [],.int .i64 0,.str [],.nils,.nils,.nils]]).set ks.length (.agg [a0,a1,a2,a3,a4,a5,a6,a7])) true)=h1.set kk qC.dead++[qC.row 8 (vs++[.agg [a0,a1,a2,a3,a4,a5,a6,a7]]) true]:=by
   have e1:(vs++[AV.agg [.int .i64 0,.int .i64 0,.str [],.int .i64 0,.str [],.nils,.nils,.nils]]).set ks.length (.agg [a0,a1,a2,a3,a4,a5,a6,a7])=vs++[.agg [a0,a1,a2,a3,a4,a5,a6,a7]]:=by
    rw[<-hc,lSr _ _ (nLr _),nSs];rfl
   rw[e1,lSr _ _ (by omega),el,nSs];rfl
  rw[es];have C3:=C1.low G (h':=h1.set kk qC.dead++[qC.row 8 (vs++[.agg [a0,a1,a2,a3,a4,a5,a6,a7]]) true]) (fun j hj=>g _ j (by omega) (by omega)) (by simp);simp only[go_sem];refine Yd (by omega) (by rw[gAr (by omega),el,nSs];rfl) rfl C3.b2 rfl rfl ?_;simp only[go_sem];refine⟨t,b,_,q1,C3.box G, ?_⟩;rw[lLs];have k3:=kp (w:=8) (k:=h1.length) (n:=ks.length+(0+1)) (x3.to (h1:=h1.set kk qC.dead++[qC.row 8 (vs++[.agg [a0,a1,a2,a3,a4,a5,a6,a7]]) true]) fun j h3 h4=>(g _ j (by omega) (by omega)).trans (q2.old j (by omega) (by omega))) ((q3.to (h1:=h1.set kk qC.dead++[qC.row 8 (vs++[.agg [a0,a1,a2,a3,a4,a5,a6,a7]]) true]) fun j h3 h4=>g _ j (by omega) (by omega)).mono (b':=kk) (by omega) (nLr _)) (by rw[gAr (by omega),el,nSs];rfl) x4 (by omega) (by omega) (by simp);have k4:=k3.set (id:=sb) (o:=.row 8 [.agg [.int .i64 k,.int .i64 0,.str s,.int .i64 0,.str [],.nils,v6,.slice 8 h1.length 0 (ks.length+(0+1)) false]] true) hsB;rw[lMa];have e3:(h1.set kk qC.dead++[qC.row 8 (vs++[.agg [a0,a1,a2,a3,a4,a5,a6,a7]]) true]).length=h1.length+1:=by simp
  rw[e3];exact k4
end
section
variable {toks:List qK} {e:Int} {id pb sb B f a b:Nat} {h0 h h':List qC} {k:Int} {s:Str} {v6 v7 w6 w7:AV}
theorem qWB{n:Nat}{acc:List Str}{x:Str}(hw:zR toks 1 a=.ok (x,a+1)):wC toks (n+1) acc a=if isP toks (a+1) [44]then wC toks n (acc++[x]) (a+1+1)else exB (qT toks [93] (a+1)) fun _ b=>.ok (acc++[x],b):=by
 simp only[wC,hw,qg]
theorem qeA(K:qx toks)(G:Cg id pb sb B h0)(C:Cx toks e id pb sb B h0 a k s .nils v7 h)(ha:a<=toks.length):
  SCallX Gm 1327 [.ptr id 0 0,.fn 1561 [.ptr sb 0 0,.ptr pb 0 0]] h (fun _ h'=>∃ns b w6,wg toks a=.ok (ns,b)/\Cx toks e id pb sb B h0 b k s w6 v7 h'/\KL B h'.length h' w6 1 (ns.map qR)) (fun v _=>∃b,wg toks a=.error b/\v=wO (nxt toks b e).At):=by
 have hB:=C.l;have hiB:id<B:=by have:=G.i;have:=G.p;have:=G.pB;omega
 refine xI Qp ?_;simp only[Qp,qH,go_sem];refine qe rfl (jH C.p K.l (by decide)) ?_;rw[qk (by decide)];simp only[go_sem];cases hb:isP toks a [91]
 ·simp only[nF,bFt,if_false,go_sem];exact⟨[],a,.nils,by simp only[wg,hb,bFt,if_false],C,.inl ⟨rfl,rfl⟩⟩
 have hlt:=qa hb;simp only[nT,if_true,go_sem];have C1:=C.ps G (PS.set C.p (o:=prI toks (a+1) e));obtain⟨n,hn⟩:∃n,toks.length-a=n+1:=⟨toks.length-a-1,by omega⟩;have e0:wg toks a=wC toks (n+1) [] (a+1):=by simp only[wg,hb,if_true,hn]
 refine qY ((qV5 (ns:=[]) K G C1 (.inl ⟨rfl,rfl⟩) (by simp)).mono ?_ ?_)
 case refine_2=>
  rintro v h1 ⟨q1,rfl⟩;exact⟨rfl,a+1,by rw[e0];simp only[wC,q1,qn],rfl⟩
 rintro v h1 ⟨x,w6,q1,C2,k2⟩;rw[qWB q1]at e0;obtain⟨_,p2,_⟩:=js q1;simp only[lNa]at e0 k2;simp only[go_sem];refine Sem.loop (fun z:Nat×List Str×AV×Nat×List qC=>wg toks a=(if isP toks z.2.2.2.1 [44]then wC toks z.1 z.2.1 (z.2.2.2.1+1)else exB (qT toks [93] z.2.2.2.1) fun _ b=>.ok (z.2.1,b))/\toks.length<=z.1+z.2.2.2.1/\Cx toks e id pb sb B h0 z.2.2.2.1 k s z.2.2.1 v7 z.2.2.2.2/\KL B z.2.2.2.2.length z.2.2.2.2 z.2.2.1 1 (z.2.1.map qR)/\z.2.1.length<=z.2.2.2.1/\z.2.2.2.1<=toks.length)
  (fun z=>(⟨[(0,.ptr id 0 0),(1,.fn 1561 [.ptr sb 0 0,.ptr pb 0 0])],[],z.2.2.2.2⟩:VSt)) (fun z=>toks.length-z.2.2.2.1) (n,[x],w6,a+1+1,h1) (by kernel_rfl) ⟨e0,by simp only;omega,C2,k2,by simp,p2⟩ cS ?_
 clear e0 k2 C2 C1 C hB hn q1;rintro⟨n,ns,w6,c,g⟩ ⟨i1,i2,i3,i4,i5,i6⟩;simp only at i1 i2 i3 i4 i5 i6;simp only[go_sem];refine qe rfl (jH i3.p K.l (by decide)) ?_;rw[qk (by decide)];simp only[go_sem];cases hc:isP toks c [44]
 ·simp only[bFt,if_false,go_sem];rw[hc,if_neg (by decide)]at i1;refine qY ((jc i3.p K.l (by decide)).mono ?_ ?_)
  case refine_2=>
   rintro v2 h2 ⟨e1,rfl,rfl⟩;rw[qk (by decide)]at e1;exact⟨rfl,c,by rw[i1];simp only[qT,e1,bFt,if_false,qn],rfl⟩
  rintro v2 h2 ⟨e1,rfl⟩;rw[qk (by decide)]at e1;simp only[go_sem];refine⟨ns,c+1,w6,by rw[i1];simp only[qT,e1,if_true,qg],i3.ps G (PS.set i3.p), ?_⟩;rw[lLs];exact i4.set hiB
 ·have hlt:=qa hc;simp only[if_true,go_sem];rw[hc,if_pos rfl]at i1;obtain⟨n,rfl⟩:∃m,n=m+1:=⟨n-1,by omega⟩;have C1:=i3.ps G (PS.set i3.p (o:=prI toks (c+1) e));have i4':=i4.set (id:=id) (o:=prI toks (c+1) e) hiB;refine qY ((qV5 K G C1 (by rw[lLs];exact i4') (by have:=K.l;omega)).mono ?_ ?_)
  case refine_2=>
   rintro v h1 ⟨q1,rfl⟩;exact⟨rfl,c+1,by rw[i1];simp only[wC,q1,qn],rfl⟩
  rintro v h1 ⟨x,w6',q1,C2,k2⟩;obtain⟨_,p2,_⟩:=js q1;simp only[go_sem];refine qW (n,ns++[x],w6',c+1+1,h1) ⟨by simp only;rw[i1,qWB q1],by simp only;omega,C2,k2,by simp;omega,p2⟩ (by simp only;omega) cS
theorem qT0{n:Nat}{acc:List qD}{t:qD}(hw:pM toks n .term a=.ok (t,b)):pM toks (n+1) (.con s acc) a=if isP toks b [44]then pM toks n (.con s (acc++[t])) (b+1)else exB (qT toks [93] b) fun _ b=>.ok (tmk 8 0 s (acc++[t]),b):=by
 simp only[pM,hw,qg]
theorem qd9(K:qx toks)(H:∀f',f'<=f->wj toks e id f')(G:Cg id pb sb B h0)(C:Cx toks e id pb sb B h0 a 8 s v6 .nils h)(ha:a<=toks.length)(hf:20*(toks.length-(a+1))+7<=f):
  SCallX Gm 1327 [.ptr id 0 0,.fn 1555 [.ptr sb 0 0,.ptr pb 0 0]] h (fun _ h'=>∃ks b w7,(if isP toks a [91]then pM toks f (.con s []) (a+1)else .ok (tmk 8 0 s [],a))=.ok (tmk 8 0 s ks,b)/\Cx toks e id pb sb B h0 b 8 s v6 w7 h'/\KL B h'.length h' w7 8 (ks.map qD.enc)) (fun v _=>∃b,(if isP toks a [91]then pM toks f (.con s []) (a+1)else .ok (tmk 8 0 s [],a))=.error b/\v=wO (nxt toks b e).At):=by
 have hB:=C.l;have hiB:id<B:=by have:=G.i;have:=G.p;have:=G.pB;omega
 refine xI Qp ?_;simp only[Qp,qH,go_sem];refine qe rfl (jH C.p K.l (by decide)) ?_;rw[qk (by decide)];simp only[go_sem];cases hb:isP toks a [91]
 ·simp only[nF,bFt,if_false,go_sem];exact⟨[],a,.nils,rfl,C,.inl ⟨rfl,rfl⟩⟩
 have hlt:=qa hb;simp only[nT,if_true,go_sem];have C1:=C.ps G (PS.set C.p (o:=prI toks (a+1) e));obtain⟨n,rfl⟩:∃n,f=n+1:=⟨f-1,by omega⟩;refine qY ((qV3 (ks:=[]) K (H n (by omega)) (by unfold mJ;simp only[Jb.rk];omega) hlt G C1 (.inl ⟨rfl,rfl⟩) (by simp)).mono ?_ ?_)
 case refine_2=>
  rintro v h1 ⟨b,q1,rfl⟩;exact⟨rfl,b,by simp only[pM,q1,qn],rfl⟩
 rintro v h1 ⟨t,b,w7,q1,C2,k2⟩;have e0:=qT0 (s:=s) (acc:=[]) q1;obtain⟨p1,p2,_,_⟩:=jh K.x n .term _ trivial hlt q1;simp only[Jb.str]at p1;simp only[lNa]at e0 k2;simp only[go_sem];refine Sem.loop (fun z:Nat×List qD×AV×Nat×List qC=>z.1<=n/\pM toks (n+1) (.con s []) (a+1)=(if isP toks z.2.2.2.1 [44]then pM toks z.1 (.con s z.2.1) (z.2.2.2.1+1)else exB (qT toks [93] z.2.2.2.1) fun _ b=>.ok (tmk 8 0 s z.2.1,b))/\20*(toks.length-(z.2.2.2.1+1))+7<=z.1/\Cx toks e id pb sb B h0 z.2.2.2.1 8 s v6 z.2.2.1 z.2.2.2.2/\KL B z.2.2.2.2.length z.2.2.2.2 z.2.2.1 8 (z.2.1.map qD.enc)/\z.2.1.length<=z.2.2.2.1/\z.2.2.2.1<=toks.length)
  (fun z=>(⟨[(0,.ptr id 0 0),(1,.fn 1555 [.ptr sb 0 0,.ptr pb 0 0])],[],z.2.2.2.2⟩:VSt)) (fun z=>toks.length-z.2.2.2.1) (n,[t],w7,b,h1) (by kernel_rfl) ⟨nLr _,e0,by simp only;omega,C2,k2,by simp;omega,p2⟩ cS ?_
 clear e0 k2 C2 C1 C hB q1;rintro⟨m,ks,w7,c,g⟩ ⟨i0,i1,i2,i3,i4,i5,i6⟩;simp only at i0 i1 i2 i3 i4 i5 i6;simp only[go_sem];refine qe rfl (jH i3.p K.l (by decide)) ?_;rw[qk (by decide)];simp only[go_sem];cases hc:isP toks c [44]
 ·simp only[bFt,if_false,go_sem];rw[hc,if_neg (by decide)]at i1;refine qY ((jc i3.p K.l (by decide)).mono ?_ ?_)
  case refine_2=>
   rintro v2 h2 ⟨e1,rfl,rfl⟩;rw[qk (by decide)]at e1;exact⟨rfl,c,by rw[i1];simp only[qT,e1,bFt,if_false,qn],rfl⟩
  rintro v2 h2 ⟨e1,rfl⟩;rw[qk (by decide)]at e1;simp only[go_sem];refine⟨ks,c+1,w7,by rw[i1];simp only[qT,e1,if_true,qg],i3.ps G (PS.set i3.p), ?_⟩;rw[lLs];exact i4.set hiB
 ·have hlt:=qa hc;simp only[if_true,go_sem];rw[hc,if_pos rfl]at i1;obtain⟨m,rfl⟩:∃x,m=x+1:=⟨m-1,by omega⟩;have C1:=i3.ps G (PS.set i3.p (o:=prI toks (c+1) e));have i4':=i4.set (id:=id) (o:=prI toks (c+1) e) hiB;refine qY ((qV3 K (H m (by omega)) (by unfold mJ;simp only[Jb.rk];omega) hlt G C1 (by rw[lLs];exact i4') (by have:=K.l;omega)).mono ?_ ?_)
  case refine_2=>
   rintro v h1 ⟨b,q1,rfl⟩;exact⟨rfl,b,by rw[i1];simp only[pM,q1,qn],rfl⟩
  rintro v h1 ⟨t,d,w7',q1,C2,k2⟩;obtain⟨p1,p2,_,_⟩:=jh K.x m .term _ trivial hlt q1;simp only[Jb.str]at p1;simp only[go_sem];refine qW (m,ks++[t],w7',d,h1) ⟨by simp only;omega,by simp only;rw[i1,qT0 q1],by simp only;omega,C2,k2,by simp;omega,p2⟩ (by simp only;omega) cS
theorem qcN(K:qx toks)(H:∀f',f'<=f->wj toks e id f'):CI toks e id 1560 (f+1) .bran:=by
 intro a h hf ha ho;have hid:=zA ho;refine xI UP ?_;simp only[UP,qH,go_sem];refine JC rfl ?_;simp only[gCl,go_sem];have q0:=(PS.refl ho).push (x:=.row 1 [.ptr id 0 0] true);refine qY ((Jn (k:=2) q0.at' K.l (by decide)).mono ?_ ?_)
 case refine_2=>
  rintro v h1 ⟨hk,rfl,rfl⟩;refine⟨rfl,a, ?_,rfl⟩;have:zR toks 2 a=.error a:=by
   unfold zR;unfold nxt at hk;cases ht:toks[a]? with
   | none=>rfl
   | some t=>rw[ht]at hk;simp only[Option.getD_some]at hk;simp only[if_neg hk]
  simp only[pM,this,qn]
 rintro v h1 ⟨hk,rfl,rfl⟩;have hlt:=Qb (by decide) hk;have en:nxt toks a e=toks[a]:=by simp[nxt,gEg hlt]
 rw[en]at hk|-;generalize hs:toks[a].Text=s;have hw:zR toks 2 a=.ok (s,a+1):=by unfold zR;rw[gEg hlt];simp only[if_pos hk,hs]
 simp only[go_sem];refine jQ (el:=[.agg [.int .i64 0,.int .i64 0,.str [],.int .i64 0,.str [],.nils,.nils,.nils]]) (e:=.agg [.int .i64 0,.int .i64 0,.str [],.int .i64 0,.str [],.nils,.nils,.nils]) (e':=.agg [.int .i64 10,.int .i64 0,.str s,.int .i64 0,.str [],.nils,.nils,.nils]) rfl gCl rfl (Qg (k:=8) rfl rfl ⟨fun _=>⟨_,rfl⟩,fun _=>⟨_,rfl⟩⟩ (by decide)) ?_;rw[W4];simp only[lSz,go_sem];have G:Cg id h.length (h.length+1) (h.length+2) h:=⟨hid,nLr _,by omega,by omega,by omega,by omega⟩;have e1:((h++[qC.row 1 [.ptr id 0 0] true]).set id (prI toks (a+1) e)).length=h.length+1:=by simp
 have C:Cx toks e id h.length (h.length+1) (h.length+2) h (a+1) 10 s .nils .nils ((h++[qC.row 1 [.ptr id 0 0] true]).set id (prI toks (a+1) e)++[.row 8 [.agg [.int .i64 10,.int .i64 0,.str s,.int .i64 0,.str [],.nils,.nils,.nils]] true]):=by
  refine⟨?_,fun j hj hl=> ?_, ?_, ?_, ?_⟩
  ·rw[gAl (by omega),gSs (by simp;omega)]
  ·rw[gAl (by omega),gSn (by omega),gAl hl]
  ·rw[gAl (by omega),gSn (by omega),gCl]
  ·rw[<-e1];exact gCl
  ·simp
 rw[e1];generalize ((h++[qC.row 1 [.ptr id 0 0] true]).set id (prI toks (a+1) e)++[.row 8 [.agg [.int .i64 10,.int .i64 0,.str s,.int .i64 0,.str [],.nils,.nils,.nils]] true])=g0 at C|-;simp only[C.b1,go_sem];refine qY ((qeA K G C (by omega)).mono ?_ ?_)
 case refine_2=>
  rintro v h1 ⟨b,q1,rfl⟩;exact⟨rfl,b,by simp only[pM,hw,qg,q1,qn],rfl⟩
 rintro v g1 ⟨ns,b,w6,q1,C1,k1⟩;obtain⟨p1,p2,_,_⟩:=qWC K.x hlt q1;simp only[C1.b1,go_sem];refine qY ((jc C1.p K.l (by decide)).mono ?_ ?_)
 case refine_2=>
  rintro v2 h2 ⟨e2,rfl,rfl⟩;rw[qk (by decide)]at e2;exact⟨rfl,b,by simp only[pM,hw,qg,q1,qT,e2,bFt,if_false,qn],rfl⟩
 rintro v2 h2 ⟨e2,rfl⟩;rw[qk (by decide)]at e2;have hlt2:=qa e2;have C2:=C1.ps G (PS.set C1.p (o:=prI toks (b+1) e));have k2:=k1.set (id:=id) (o:=prI toks (b+1) e) (by omega);simp only[C2.b1,go_sem];refine qY (((H f (nLr _)).term (b+1) _ (zx hf (by omega) hlt2) hlt2 C2.p).mono ?_ ?_)
 case refine_2=>
  rintro v h1 ⟨c,r1,rfl⟩;exact⟨rfl,c,by simp only[pM,hw,qg,q1,qT,e2,if_true,r1,qn],rfl⟩
 rintro v g3 ⟨t,c,r1,r2,r3⟩;have C3:=C2.ps G r2;have hl3:=r2.len;have hB:=C1.l;have k3:=k2.ps (by simp) (by omega) r2;simp only[lLs]at hl3 r3;obtain⟨a0,a1,a2,a3,a4,a5,a6,a7,rfl⟩:=r3.shape;simp only[go_sem];refine qy (v:=.agg [a0,a1,a2,a3,a4,a5,a6,a7]) rfl rfl ?_;have C4:=C3.low G (h':=g3++[.row 8 [.agg [a0,a1,a2,a3,a4,a5,a6,a7]] true]) (fun j hj=>gAl (by have:=C3.l;omega)) (by simp);simp only[go_sem];refine jQ (e':=.agg [.int .i64 10,.int .i64 0,.str s,.int .i64 0,.str [],.nils,w6,.slice 8 g3.length 0 1 false]) rfl C4.b2 rfl rfl ?_;have C5:=C4.box G (w6:=w6) (w7:=.slice 8 g3.length 0 1 false);simp only[lSz,C5.b2,go_sem];refine lA ?_;simp only[go_sem];refine⟨.mk 10 0 s noT ns [t],c,by simp only[pM,hw,qg,q1,qT,e2,if_true,r1],C5.fin G, ?_⟩;have x6:=((k3.push (o:=.row 8 [.agg [a0,a1,a2,a3,a4,a5,a6,a7]] true) hl3).set (id:=h.length+1) (o:=.row 8 [.agg [.int .i64 10,.int .i64 0,.str s,.int .i64 0,.str [],.nils,w6,.slice 8 g3.length 0 1 false]] true) (by omega)).ow;have x7:=((JW (w:=8) (B:=g1.length) (k:=g3.length) (r3.push (o:=.row 8 [.agg [a0,a1,a2,a3,a4,a5,a6,a7]] true) (nLr _)) (by simp) (nLr _) hl3).set (id:=h.length+1) (o:=.row 8 [.agg [.int .i64 10,.int .i64 0,.str s,.int .i64 0,.str [],.nils,w6,.slice 8 g3.length 0 1 false]] true) (by omega)).ow;rw[lLs,zN];exact(Z1 (T:=noT) (ks:=[t]) (m1:=h.length+2) (b:=h.length+2) Ow.nils x6 x7 (nLr _) (by omega) (by omega)).mono (by omega) (nLr _)
end
section
variable {toks:List qK} {e:Int} {id f:Nat}
theorem XF{k:Int}{a:Nat}(hk:¬(nxt toks a e).Kind=k):zR toks k a=.error a:=by
 unfold zR;unfold nxt at hk;cases ht:toks[a]? with
 | none=>rfl
 | some t=>rw[ht]at hk;simp only[Option.getD_some]at hk;simp only[if_neg hk]
theorem XG{k:Int}{a:Nat}(h0:k≠0)(hk:(nxt toks a e).Kind=k):zR toks k a=.ok ((nxt toks a e).Text,a+1):=by
 have hlt:=Qb h0 hk;have en:nxt toks a e=toks[a]:=by simp[nxt,gEg hlt]
 rw[en]at hk|-;unfold zR;rw[gEg hlt];simp only[if_pos hk]
theorem qcR(K:qx toks)(H:∀f',f'<=f->wj toks e id f'):CI toks e id 1539 (f+1) .pre:=by
 intro a h hf ha ho;have hid:=zA ho;refine xI UF ?_;simp only[UF,qH,go_sem];refine JC rfl ?_;simp only[gCl,go_sem];have q0:=(PS.refl ho).push (x:=.row 1 [.ptr id 0 0] true);refine qe rfl (jH q0.at' K.l (by decide)) ?_;rw[qk (by decide)];have lb:∀{x:Nat},((h++[qC.row 1 [.ptr id 0 0] true]).set id (prI toks x e))[h.length]?=some (.row 1 [.ptr id 0 0] true):=fun{x}=>by
  rw[gSn (by omega)];exact gCl
 simp only[go_sem];cases hb:isP toks a [33]
 case true=>
  have hlt:=qa hb;have q1:=q0.trans (PS.set q0.at' (o:=prI toks (a+1) e));simp only[if_true,lb,go_sem];refine qY (((H f (nLr _)).pre (a+1) _ (zx hf (by omega) hlt) hlt q1.at').mono ?_ ?_)
  case refine_2=>
   rintro v h1 ⟨c,r1,rfl⟩;exact⟨rfl,c,by simp only[pM,hb,if_true,r1,qn],rfl⟩
  rintro v h1 ⟨t,c,r1,r2,r3⟩;have hl:=r2.len;simp only[lLs,zN]at hl r3;obtain⟨a0,a1,a2,a3,a4,a5,a6,a7,rfl⟩:=r3.shape;simp only[go_sem];refine qy (v:=.agg [a0,a1,a2,a3,a4,a5,a6,a7]) rfl rfl ?_;simp only[go_sem];refine lA ?_;simp only[go_sem];refine⟨tmk 6 0 [] [t],c,by simp only[pM,hb,if_true,r1,qg],(q1.trans r2).push, ?_⟩;rw[zN];exact JG (ts:=[t]) (r3.mono (by omega) (nLr _)).one (nLr _) (by omega) rfl
 simp only[bFt,if_false,gCl,go_sem];refine qe rfl (jH q0.at' K.l (by decide)) ?_;rw[qk (by decide)];simp only[go_sem];cases hc:isP toks a [40]
 case true=>
  have hlt:=qa hc;have q1:=q0.trans (PS.set q0.at' (o:=prI toks (a+1) e));simp only[if_true,lb,go_sem];refine qY (((H f (nLr _)).encl (a+1) _ (zx hf (by omega) hlt) hlt q1.at').mono ?_ ?_)
  case refine_2=>
   rintro v h1 ⟨c,r1,rfl⟩;exact⟨rfl,c,by simp only[pM,hb,hc,bFt,if_false,if_true,r1],rfl⟩
  rintro v h1 ⟨t,c,r1,r2,r3⟩;have hl:=r2.len;simp only[lLs,zN]at hl r3;obtain⟨a0,a1,a2,a3,a4,a5,a6,a7,rfl⟩:=r3.shape;simp only[go_sem];refine lA ?_;simp only[go_sem];exact⟨t,c,by simp only[pM,hb,hc,bFt,if_false,if_true,r1],q1.trans r2,r3.mono (by omega) (nLr _)⟩
 simp only[bFt,if_false,gCl,go_sem];refine qe rfl (jH q0.at' K.l (by decide)) ?_;rw[qk (by decide)];simp only[go_sem];cases hd:isP toks a [109,97,116,99,104]
 case true=>
  have hlt:=qa hd;have q1:=q0.trans (PS.set q0.at' (o:=prI toks (a+1) e));simp only[if_true,lb,go_sem];refine qY (((H f (nLr _)).mat (a+1) _ (zx hf (by omega) hlt) hlt q1.at').mono ?_ ?_)
  case refine_2=>
   rintro v h1 ⟨c,r1,rfl⟩;exact⟨rfl,c,by simp only[pM,hb,hc,hd,bFt,if_false,if_true,r1],rfl⟩
  rintro v h1 ⟨t,c,r1,r2,r3⟩;have hl:=r2.len;simp only[lLs,zN]at hl r3;obtain⟨a0,a1,a2,a3,a4,a5,a6,a7,rfl⟩:=r3.shape;simp only[go_sem];refine lA ?_;simp only[go_sem];exact⟨t,c,by simp only[pM,hb,hc,hd,bFt,if_false,if_true,r1],q1.trans r2,r3.mono (by omega) (nLr _)⟩
 simp only[bFt,if_false,gCl,go_sem];refine qe rfl (ZB q0.at') ?_;simp only[go_sem];have e0:pM toks (f+1) .pre a=match toks[a]? with
   | none=>.error a
   | some t=>if t.Kind=1 then .ok (tmk 1 0 t.Text [],a+1)else if t.Kind=2 then(if isP toks (a+1) [91]then pM toks f (.con t.Text []) (a+2)else .ok (tmk 8 0 t.Text [],a+1))else jN toks false a:=by
  simp only[pM,hb,hc,hd,bFt,if_false]<;>(cases toks[a]?<;>rfl)
 have q1:=q0.trans (PS.set q0.at' (o:=prI toks (a+1) e));by_cases h1:(nxt toks a e).Kind=1
 ·have hlt:=Qb (by decide) h1;have en:nxt toks a e=toks[a]:=by simp[nxt,gEg hlt]
  simp only[dTt h1,gCl,go_sem];refine qY ((Jn (k:=1) q0.at' K.l (by decide)).mono ?_ ?_)
  case refine_2=>rintro v h2 ⟨hk,_⟩;exact absurd h1 hk
  rintro v h2 ⟨hk,rfl,rfl⟩;simp only[go_sem];refine lA ?_;simp only[go_sem];rw[en]at h1|-;rw[gEg hlt]at e0;simp only[if_pos h1]at e0;exact⟨_,a+1,e0,q1,Qc (by simp)⟩
 simp only[dFf h1,go_sem];by_cases h2:(nxt toks a e).Kind=2
 ·have hlt:=Qb (by decide) h2;have en:nxt toks a e=toks[a]:=by simp[nxt,gEg hlt]
  simp only[dTt h2,gCl,go_sem];refine qY ((Jn (k:=2) q0.at' K.l (by decide)).mono ?_ ?_)
  case refine_2=>rintro v h3 ⟨hk,_⟩;exact absurd h2 hk
  rintro v h3 ⟨hk,rfl,rfl⟩;rw[en]at h1 h2|-;rw[gEg hlt]at e0;simp only[if_neg h1,if_pos h2]at e0;generalize toks[a].Text=s at e0|-;simp only[go_sem];refine jQ (el:=[.agg [.int .i64 0,.int .i64 0,.str [],.int .i64 0,.str [],.nils,.nils,.nils]]) (e:=.agg [.int .i64 0,.int .i64 0,.str [],.int .i64 0,.str [],.nils,.nils,.nils]) (e':=.agg [.int .i64 8,.int .i64 0,.str s,.int .i64 0,.str [],.nils,.nils,.nils]) rfl gCl rfl (Qg (k:=8) rfl rfl ⟨fun _=>⟨_,rfl⟩,fun _=>⟨_,rfl⟩⟩ (by decide)) ?_;rw[W4];simp only[lSz,go_sem];have G:Cg id h.length (h.length+1) (h.length+2) h:=⟨hid,nLr _,by omega,by omega,by omega,by omega⟩;have e1:((h++[qC.row 1 [.ptr id 0 0] true]).set id (prI toks (a+1) e)).length=h.length+1:=by simp
  have C:Cx toks e id h.length (h.length+1) (h.length+2) h (a+1) 8 s .nils .nils ((h++[qC.row 1 [.ptr id 0 0] true]).set id (prI toks (a+1) e)++[.row 8 [.agg [.int .i64 8,.int .i64 0,.str s,.int .i64 0,.str [],.nils,.nils,.nils]] true]):=by
   refine⟨?_,fun j hj hl=> ?_, ?_, ?_, ?_⟩
   ·rw[gAl (by omega),gSs (by simp;omega)]
   ·rw[gAl (by omega),gSn (by omega),gAl hl]
   ·rw[gAl (by omega),gSn (by omega),gCl]
   ·rw[<-e1];exact gCl
   ·simp
  rw[e1];generalize ((h++[qC.row 1 [.ptr id 0 0] true]).set id (prI toks (a+1) e)++[.row 8 [.agg [.int .i64 8,.int .i64 0,.str s,.int .i64 0,.str [],.nils,.nils,.nils]] true])=g0 at C|-;simp only[C.b1,go_sem];refine qY ((qd9 K H G C hlt (by unfold mJ at hf;simp only[Jb.rk]at hf;omega)).mono ?_ ?_)
  case refine_2=>
   rintro v h1 ⟨b,q1,rfl⟩;exact⟨rfl,b,by rw[e0];exact q1,rfl⟩
  rintro v g1 ⟨ks,b,w7,r1,C1,k1⟩;simp only[C1.b2,go_sem];refine lA ?_;simp only[go_sem];refine⟨_,b,by rw[e0];exact r1,C1.fin G, ?_⟩;exact(Qd k1.ow C1.l).mono (by omega) (nLr _)
 simp only[dFf h2,gCl,go_sem];refine qY ((qV4 (neg:=false) q0.at' K.l K.n K.x).mono ?_ ?_)
 case refine_2=>
  rintro v h3 ⟨r1,rfl⟩;refine⟨rfl,a, ?_,rfl⟩;rw[e0];cases ht:toks[a]? with
  | none=>rfl
  | some t=>
   have en:nxt toks a e=t:=by simp[nxt,ht]
   rw[en]at h1 h2;simp only[if_neg h1,if_neg h2];exact r1
 rintro v h3 ⟨n,r1,rfl,rfl⟩;simp only[go_sem];refine lA ?_;simp only[go_sem];refine⟨tmk 2 n [] [],a+1, ?_,q1,Qc (by simp)⟩;rw[e0];cases ht:toks[a]? with
 | none=>unfold jN at r1;rw[ht]at r1;cases r1
 | some t=>
  have en:nxt toks a e=t:=by simp[nxt,ht]
  rw[en]at h1 h2;simp only[if_neg h1,if_neg h2];exact r1
theorem qcU(K:qx toks)(H:∀f',f'<=f->wj toks e id f'):CI toks e id 511 (f+1) .term:=by
 intro a h hf ha ho;have hid:=zA ho;refine xI Un ?_;simp only[Un,qH,go_sem];refine qe rfl (jH ho K.l (by decide)) ?_;rw[qk (by decide)];simp only[go_sem];have HT:=(H f (nLr _)).term;cases hb:isP toks a [92]
 case true=>
  have hlt:=qa hb;have q1:=PS.set ho (o:=prI toks (a+1) e);simp only[if_true,go_sem];refine qY ((Jn (k:=1) q1.at' K.l (by decide)).mono ?_ ?_)
  case refine_2=>
   rintro v h1 ⟨hk,rfl,rfl⟩;exact⟨rfl,a+1,by simp only[pM,hb,if_true,XF hk,qn],rfl⟩
  rintro v h1 ⟨hk,rfl,rfl⟩;have hw:=XG (by decide) hk;have hlw:=(js hw).2.1;generalize (nxt toks (a+1) e).Text=s at hw|-;have q2:=q1.trans (PS.set q1.at' (o:=prI toks (a+1+1) e));simp only[go_sem];refine lA ?_;simp only[go_sem];refine qY ((jc q2.at' K.l (by decide)).mono ?_ ?_)
  case refine_2=>
   rintro v2 h2 ⟨e2,rfl,rfl⟩;rw[qk (by decide)]at e2;exact⟨rfl,a+1+1,by simp only[pM,hb,if_true,hw,qg,qT,e2,bFt,if_false,qn],rfl⟩
  rintro v2 h2 ⟨e2,rfl⟩;rw[qk (by decide)]at e2;have hlt2:=qa e2;have q3:=q2.trans (PS.set q2.at' (o:=prI toks (a+1+1+1) e));simp only[go_sem];refine qY ((qV6 K.l (zr toks false (a+1+1+1)) false (a+1+1+1) _ (nLr _) hlt2 q3.at').mono ?_ ?_)
  case refine_2=>
   rintro v h1 ⟨c,r1,rfl⟩;exact⟨rfl,c,by simp only[pM,hb,if_true,hw,qg,qT,e2,r1,qn],rfl⟩
  rintro v h3 ⟨ty,c,S,r1,r2,r3,r4⟩;have r3:=Ow.of S r3 r4;clear r4;have hpt:=jY _ _ _ r1;have hl:=r2.len;simp only[lLs]at hl r3;obtain⟨v5,rfl,x5⟩:=r3.shapeT;simp only[go_sem];refine Q9 (c':=.agg [.int .i64 4,.int .i64 0,.str s,.int .i64 ty.Kind,.str ty.Name,v5,.nils,.nils]) rfl rfl ?_;simp only[go_sem];have q4:=q3.trans r2;refine qY ((jc q4.at' K.l (by decide)).mono ?_ ?_)
  case refine_2=>
   rintro v2 h2 ⟨e3,rfl,rfl⟩;rw[qk (by decide)]at e3;exact⟨rfl,c,by simp only[pM,hb,if_true,hw,qg,qT,e2,r1,e3,bFt,if_false,qn],rfl⟩
  rintro v2 h4 ⟨e3,rfl⟩;rw[qk (by decide)]at e3;have hlt3:=qa e3;have q5:=q4.trans (PS.set q4.at' (o:=prI toks (c+1) e));have x5':=x5.set (id:=id) (o:=prI toks (c+1) e) (.inl hid);simp only[go_sem];refine qY ((HT (c+1) _ (zx hf (by omega) hlt3) hlt3 q5.at').mono ?_ ?_)
  case refine_2=>
   rintro v h1 ⟨d,t1,rfl⟩;exact⟨rfl,d,by simp only[pM,hb,if_true,hw,qg,qT,e2,r1,e3,t1,qn],rfl⟩
  rintro v h5 ⟨t,d,t1,t2,t3⟩;have hl5:=t2.len;simp only[lLs]at hl5 t3;have x5'':=x5'.ps (by simp) hid t2;obtain⟨a0,a1,a2,a3,a4,a5,a6,a7,rfl⟩:=t3.shape;simp only[go_sem];refine qy (v:=.agg [a0,a1,a2,a3,a4,a5,a6,a7]) rfl rfl ?_;simp only[go_sem];refine lA ?_;simp only[go_sem];refine⟨.mk 4 0 s ty [] [t],d,by simp only[pM,hb,if_true,hw,qg,qT,e2,r1,e3,t1],(q5.trans t2).push, ?_⟩;have x7:=(JW (w:=8) (B:=h3.length) (k:=h5.length) (t3.push (o:=.row 8 [.agg [a0,a1,a2,a3,a4,a5,a6,a7]] true) (nLr _)) (by simp) (nLr _) hl5).ow;rw[zN];exact Z1 (ns:=[]) (ks:=[t]) (m1:=h3.length) (m2:=h3.length) (x5''.push hl5) Ow.nils x7 hl (nLr _) (by omega)
 simp only[bFt,if_false,go_sem];refine qe rfl (jH ho K.l (by decide)) ?_;rw[qk (by decide)];simp only[go_sem];cases hc:isP toks a [108,101,116]
 case true=>
  have hlt:=qa hc;have q1:=PS.set ho (o:=prI toks (a+1) e);simp only[if_true,go_sem];refine qY ((Jn (k:=1) q1.at' K.l (by decide)).mono ?_ ?_)
  case refine_2=>
   rintro v h1 ⟨hk,rfl,rfl⟩;exact⟨rfl,a+1,by simp only[pM,hb,hc,bFt,if_false,if_true,XF hk,qn],rfl⟩
  rintro v h1 ⟨hk,rfl,rfl⟩;have hw:=XG (by decide) hk;generalize (nxt toks (a+1) e).Text=s at hw|-;have q2:=q1.trans (PS.set q1.at' (o:=prI toks (a+1+1) e));simp only[go_sem];refine lA ?_;simp only[go_sem];refine qY ((jc q2.at' K.l (by decide)).mono ?_ ?_)
  case refine_2=>
   rintro v2 h2 ⟨e2,rfl,rfl⟩;rw[qk (by decide)]at e2;exact⟨rfl,a+1+1,by simp only[pM,hb,hc,bFt,if_false,if_true,hw,qg,qT,e2,qn],rfl⟩
  rintro v2 h2 ⟨e2,rfl⟩;rw[qk (by decide)]at e2;have hlt2:=qa e2;have q3:=q2.trans (PS.set q2.at' (o:=prI toks (a+1+1+1) e));simp only[go_sem];refine qY ((HT (a+1+1+1) _ (zx hf (by omega) hlt2) hlt2 q3.at').mono ?_ ?_)
  case refine_2=>
   rintro v h1 ⟨c,r1,rfl⟩;exact⟨rfl,c,by simp only[pM,hb,hc,bFt,if_false,if_true,hw,qg,qT,e2,r1,qn],rfl⟩
  rintro v h3 ⟨t,c,r1,r2,r3⟩;obtain⟨p1,p2,_,_⟩:=jh K.x f .term _ trivial hlt2 r1;simp only[Jb.str]at p1;have hl:=r2.len;simp only[lLs]at hl r3;obtain⟨a0,a1,a2,a3,a4,a5,a6,a7,rfl⟩:=r3.shape;simp only[go_sem];refine lA ?_;simp only[go_sem];have q4:=q3.trans r2;refine qY ((jc q4.at' K.l (by decide)).mono ?_ ?_)
  case refine_2=>
   rintro v2 h2 ⟨e3,rfl,rfl⟩;rw[qk (by decide)]at e3;exact⟨rfl,c,by simp only[pM,hb,hc,bFt,if_false,if_true,hw,qg,qT,e2,r1,e3,qn],rfl⟩
  rintro v2 h4 ⟨e3,rfl⟩;rw[qk (by decide)]at e3;have hlt3:=qa e3;have q5:=q4.trans (PS.set q4.at' (o:=prI toks (c+1) e));have r3':=r3.set (id:=id) (o:=prI toks (c+1) e) (.inl hid);simp only[go_sem];refine qY ((HT (c+1) _ (zx hf (by omega) hlt3) hlt3 q5.at').mono ?_ ?_)
  case refine_2=>
   rintro v h1 ⟨d,t1,rfl⟩;exact⟨rfl,d,by simp only[pM,hb,hc,bFt,if_false,if_true,hw,qg,qT,e2,r1,e3,t1,qn],rfl⟩
  rintro v h5 ⟨u,d,t1,t2,t3⟩;have hl5:=t2.len;simp only[lLs]at hl5 t3;have r3'':=r3'.ps (by simp) hid t2;obtain⟨b0,b1,b2,b3,b4,b5,b6,b7,rfl⟩:=t3.shape;simp only[go_sem];rw[show zH _ 8 _ _=some [.agg [a0,a1,a2,a3,a4,a5,a6,a7],.agg [b0,b1,b2,b3,b4,b5,b6,b7]]from rfl];simp only[go_sem];refine lA ?_;simp only[go_sem];refine⟨tmk 7 0 s [t,u],d,by simp only[pM,hb,hc,bFt,if_false,if_true,hw,qg,qT,e2,r1,e3,t1],(q5.trans t2).push, ?_⟩;rw[zN];exact JG (ts:=[t,u]) (r3''.one.snoc t3 hl hl5) (nLr _) (by omega) rfl
 simp only[bFt,if_false,go_sem];refine qe rfl (jH ho K.l (by decide)) ?_;rw[qk (by decide)];simp only[go_sem];cases hd:isP toks a [105,102]
 case true=>
  have hlt:=qa hd;have q1:=PS.set ho (o:=prI toks (a+1) e);simp only[if_true,go_sem];refine qY ((HT (a+1) _ (zx hf (by omega) hlt) hlt q1.at').mono ?_ ?_)
  case refine_2=>
   rintro v h1 ⟨c,r1,rfl⟩;exact⟨rfl,c,by simp only[pM,hb,hc,hd,bFt,if_false,if_true,r1,qn],rfl⟩
  rintro v h3 ⟨t,c,r1,r2,r3⟩;obtain⟨p1,p2,_,_⟩:=jh K.x f .term _ trivial hlt r1;simp only[Jb.str]at p1;have hl:=r2.len;simp only[lLs]at hl r3;obtain⟨a0,a1,a2,a3,a4,a5,a6,a7,rfl⟩:=r3.shape;simp only[go_sem];refine lA ?_;simp only[go_sem];have q4:=q1.trans r2;refine qY ((jc q4.at' K.l (by decide)).mono ?_ ?_)
  case refine_2=>
   rintro v2 h2 ⟨e3,rfl,rfl⟩;rw[qk (by decide)]at e3;exact⟨rfl,c,by simp only[pM,hb,hc,hd,bFt,if_false,if_true,r1,qg,qT,e3,qn],rfl⟩
  rintro v2 h4 ⟨e3,rfl⟩;rw[qk (by decide)]at e3;have hlt3:=qa e3;have q5:=q4.trans (PS.set q4.at' (o:=prI toks (c+1) e));have r3':=r3.set (id:=id) (o:=prI toks (c+1) e) (.inl hid);simp only[go_sem];refine qY ((HT (c+1) _ (zx hf (by omega) hlt3) hlt3 q5.at').mono ?_ ?_)
  case refine_2=>
   rintro v h1 ⟨d,t1,rfl⟩;exact⟨rfl,d,by simp only[pM,hb,hc,hd,bFt,if_false,if_true,r1,qg,qT,e3,t1,qn],rfl⟩
  rintro v h5 ⟨u,d,t1,t2,t3⟩;obtain⟨p3,p4,_,_⟩:=jh K.x f .term _ trivial hlt3 t1;simp only[Jb.str]at p3;have hl5:=t2.len;simp only[lLs]at hl5 t3;have r3'':=r3'.ps (by simp) hid t2;obtain⟨b0,b1,b2,b3,b4,b5,b6,b7,rfl⟩:=t3.shape;simp only[go_sem];refine lA ?_;simp only[go_sem];have q6:=q5.trans t2;refine qY ((jc q6.at' K.l (by decide)).mono ?_ ?_)
  case refine_2=>
   rintro v2 h2 ⟨e4,rfl,rfl⟩;rw[qk (by decide)]at e4;exact⟨rfl,d,by simp only[pM,hb,hc,hd,bFt,if_false,if_true,r1,qg,qT,e3,t1,e4,qn],rfl⟩
  rintro v2 h6 ⟨e4,rfl⟩;rw[qk (by decide)]at e4;have hlt4:=qa e4;have q7:=q6.trans (PS.set q6.at' (o:=prI toks (d+1) e));have r4:=r3''.set (id:=id) (o:=prI toks (d+1) e) (.inl hid);have t4:=t3.set (id:=id) (o:=prI toks (d+1) e) (.inl (by omega));simp only[go_sem];refine qY ((HT (d+1) _ (zx hf (by omega) hlt4) hlt4 q7.at').mono ?_ ?_)
  case refine_2=>
   rintro v h1 ⟨d2,u1,rfl⟩;exact⟨rfl,d2,by simp only[pM,hb,hc,hd,bFt,if_false,if_true,r1,qg,qT,e3,t1,e4,u1,qn],rfl⟩
  rintro v h7 ⟨w,d2,u1,u2,u3⟩;have hl7:=u2.len;simp only[lLs]at hl7 u3;have r5:=r4.ps (by simp;omega) hid u2;have t5:=t4.ps (by simp) (by omega) u2;obtain⟨c0,c1,c2,c3,c4,c5,c6,c7,rfl⟩:=u3.shape;simp only[go_sem];rw[show zH _ 8 _ _=some [.agg [a0,a1,a2,a3,a4,a5,a6,a7],.agg [b0,b1,b2,b3,b4,b5,b6,b7],.agg [c0,c1,c2,c3,c4,c5,c6,c7]]from rfl];simp only[go_sem];refine lA ?_;simp only[go_sem];refine⟨tmk 11 0 [] [t,u,w],d2,by simp only[pM,hb,hc,hd,bFt,if_false,if_true,r1,qg,qT,e3,t1,e4,u1],(q7.trans u2).push, ?_⟩;rw[zN];exact JG (ts:=[t,u,w]) ((r5.one.snoc t5 hl hl5).snoc u3 (by omega) hl7) (nLr _) (by omega) rfl
 simp only[bFt,if_false,go_sem];refine qY (((H f (nLr _)).cmp a h (wB hf (by decide)) ha ho).mono ?_ ?_)
 case refine_2=>
  rintro v h1 ⟨c,r1,rfl⟩;exact⟨rfl,c,by simp only[pM,hb,hc,hd,bFt,if_false,r1],rfl⟩
 rintro v h1 ⟨t,c,r1,r2,r3⟩;obtain⟨a0,a1,a2,a3,a4,a5,a6,a7,rfl⟩:=r3.shape;simp only[go_sem];refine lA ?_;simp only[go_sem];exact⟨t,c,by simp only[pM,hb,hc,hd,bFt,if_false,r1],r2,r3⟩
theorem allI(K:qx toks):∀f,wj toks e id f:=by
 intro f
 induction f using Nat.strongRecOn with
 | _ f ih=>
 cases f with
 | zero=>
  constructor<;>(intro a h hf;exact(J1 hf).elim)
 | succ f=>
  have H:∀f',f'<=f->wj toks e id f':=fun f' hf=>ih f' (by omega);exact⟨qcU K H,qcO K H,qcT K H,qcS K H,qcM K H,qcR K H,qcP K H,qcQ K H,qcN K H⟩
end
def Wt:List Str:=[[43],[45],[42],[47],[60],[61]]
def gd{α:Type}(bad:Bool)(a:Nat)(r:Except Nat (α×Nat)):Except Nat (α×Nat):=if bad then .error a else r
def SPr{α:Type}(r:Except Nat (α×Nat))(x:α)(b:Nat)(bad:Bool):Prop:=match r with
 |.ok (x',b')=>x=x'/\b=b'/\bad=false
 |.error b'=>b=b'/\bad=true
section
variable {α β:Type} {r:Except Nat (α×Nat)} {x:α} {y:β} {a b c:Nat} {bad bad0 bad':Bool} {k:α->Nat->Except Nat (β×Nat)}
theorem SPr.bind(h:SPr (gd bad0 a r) x b bad)(q:SPr (gd bad b (k x b)) y c bad'):SPr (gd bad0 a (exB r k)) y c bad':=by
 cases bad0 with
 | true=>obtain⟨rfl,rfl⟩:=h;exact q
 | false=>
  match r,h with
  |.ok (x',b'),h=>obtain⟨rfl,rfl,rfl⟩:=h;exact q
  |.error b',h=>obtain⟨rfl,rfl⟩:=h;exact q
theorem SPr.ret:SPr (gd bad a (.ok (x,a))) x a bad:=by cases bad<;>simp[SPr,gd]
theorem qq:gd false a r=r:=rfl
theorem SPr.bd:SPr (gd true a r) x a true:=⟨rfl,rfl⟩
end
section
variable {h:List qC} {id a:Nat} {toks:List qK} {bad:Bool}
theorem kX{s:Str}(hw:∀x∈toks,Jr x)(hs:s.all zE=false\/zi s=true):isS toks a bad s=(!bad&&isP toks a s):=by
 cases bad
 ·rw[Jy hw hs];rfl
 ·rfl
theorem t737{s:Str}(K:qx toks)(hs:s.all zE=false\/zi s=true)(ho:h[id]?=some (prS toks a bad)):SCall Gm 737 [.ptr id 0 0,.str s] h fun v h'=>(bad=false/\isP toks a s=true/\v=.bool true/\h'=h.set id (prS toks (a+1) false))\/((!bad&&isP toks a s)=false/\v=.bool false/\h'=h):=by
 refine(QZ ho K.l).mono ?_;rintro v h' ⟨rfl,rfl⟩;rw[kX K.w hs];cases bad
 ·cases e:isP toks a s
  ·right;exact⟨rfl,rfl,by simp⟩
  ·left;exact⟨rfl,rfl,rfl,by simp⟩
 ·right;exact⟨rfl,rfl,by simp⟩
theorem t872{s:Str}(K:qx toks)(hs:s.all zE=false\/zi s=true)(ha:a<=toks.length)(ho:h[id]?=some (prS toks a bad)):SCall Gm 872 [.ptr id 0 0,.str s] h fun _ h'=>∃b bad',SPr (gd bad a (qT toks s a)) () b bad'/\a<=b/\b<=toks.length/\h'=h.set id (prS toks b bad'):=by
 refine(n872 ho K.l).mono ?_;rintro v h' rfl;rw[kX K.w hs];cases bad
 ·cases e:isP toks a s
  ·exact⟨a,true,by simp[gd,qT,e,SPr],nLr _,ha,by simp⟩
  ·exact⟨a+1,false,by simp[gd,qT,e,SPr],by omega,qa e,by simp⟩
 ·exact⟨a,true,SPr.bd,nLr _,ha,by simp⟩
theorem t871{k:Int}(K:qx toks)(ha:a<=toks.length)(ho:h[id]?=some (prS toks a bad)):SCall Gm 871 [.ptr id 0 0,.int .i64 k] h fun v h'=>∃x b bad',SPr (gd bad a (zR toks k a)) x b bad'/\a<=b/\b<=toks.length/\v=.str x/\h'=h.set id (prS toks b bad')/\(bad'=true->x=[]/\b=a):=by
 refine(n871 ho K.l).mono ?_;rintro v h' q;cases hk:kdS toks a bad k
 ·rw[hk]at q;simp only[bFt,if_false]at q;obtain⟨rfl,rfl⟩:=q;refine⟨[],a,true, ?_,nLr _,ha,rfl,rfl,fun _=>⟨rfl,rfl⟩⟩;cases bad
  ·rw[qq];unfold zR;unfold kdS at hk;cases ht:toks[a]? with
   | none=>exact⟨rfl,rfl⟩
   | some t=>rw[ht]at hk;simp at hk;simp[hk,SPr]
  ·exact SPr.bd
 ·rw[hk]at q;simp only[if_true]at q;obtain⟨rfl,rfl⟩:=q;obtain⟨hlt,rfl,hk'⟩:=QR hk;refine⟨_,a+1,false, ?_,by omega,hlt,rfl,rfl,fun q=>by cases q⟩;rw[qq];unfold zR;rw[gEg hlt];simp[hk',SPr]
theorem qWV{s:Str}{j:Nat}(h1:1<=j)(h6:j<=6):opI s=j↔s=opT j:=by
 constructor
 ·intro h;have:j=1\/j=2\/j=3\/j=4\/j=5\/j=6:=by omega
  unfold opI at h
  repeat' split at h
  all_goals first | omega | (subst_vars;rcases this with rfl | rfl | rfl | rfl | rfl | rfl<;>first | rfl | (exfalso;omega))
 ·rintro rfl;exact qAS h1 h6 rfl
end
theorem Kt:Pure Gm 1470 [] (.lst 1 (Wt.map qR) false):=by
 refine pJ V6 ?_;simp only[V6,qH,go_sem];rw[show zH _ _ _ _=some (Wt.map qR)from rfl];simp only[go_sem];exact kI (Cv.row rfl rfl rfl (by decide))
theorem qaB{s:Str}:Pure Gm 1424 [.str s] (.int .i64 (opI s)):=by
 refine pJ Vx ?_;simp only[Vx,qH,go_sem];refine Sem.loop (fun i:Nat=>i<=6/\∀j,1<=j->j<i+1->opT j≠s) (fun i=>(⟨[(0,.str s),(3,.int .i64 (i:Nat))],[],[]⟩:VSt)) (fun i=>6-i) 0 (by kernel_rfl) ⟨by omega,fun j h1 h2=>by omega⟩ cS ?_;rintro i ⟨i2,i3⟩;simp only[go_sem];refine qF Kt ?_;have l6:Wt.length=6:=rfl;simp only[lMp,l6,go_sem];by_cases hlt:i<6
 ·have e:decide (((i:Nat):Int)<((6:Nat):Int))=true:=dTt (by omega);simp only[e,go_sem];refine qF Kt ?_;have ei:Wt[i]?=some (opT (i+1)):=by
   have:i=0\/i=1\/i=2\/i=3\/i=4\/i=5:=by omega
   rcases this with rfl | rfl | rfl | rfl | rfl | rfl<;>rfl
  simp only[gMp,ei,oMs,qR,go_sem];by_cases hs:opT (i+1)=s
  ·simp only[dTt hs,qp (show i<4611686018427387904 by omega),go_sem];exact qE rfl (by rw[qAS (by omega) (by omega) hs])
  ·simp only[dFf hs,go_sem,qp (show i<4611686018427387904 by omega)];refine qW (i+1) ⟨by omega,fun j h1 h2=> ?_⟩ (by omega) cS;by_cases hj:j=i+1
   ·rw[hj];exact hs
   ·exact i3 j h1 (by omega)
 ·have e:decide (((i:Nat):Int)<((6:Nat):Int))=false:=dFf (by omega);simp only[e,go_sem];obtain rfl:i=6:=by omega
  exact qE rfl (by rw[qWW i3])
def qD.lev(x:qD):Nat:=if x.Kind=4 then 0 else if x.Kind=7 then 0 else if x.Kind=11 then 0 else if x.Kind=5 then 4 else if x.Kind=3 then(if x.Num=5 then 1 else if x.Num=6 then 1 else if x.Num=1 then 2 else if x.Num=2 then 2 else 3)else 5
theorem XZ{x:qD}:Pure Gm 1000 [x.enc] (.int .i64 (x.lev:Nat)):=by
 refine pJ Yz ?_;simp only[Yz,qH,go_sem];refine zM qD.ln ?_;simp only[go_sem];by_cases h4:x.Kind=4
 ·simp only[dTt h4,go_sem];exact qE rfl (by rw[qD.lev,if_pos h4];rfl)
 simp only[dFf h4,go_sem];by_cases h7:x.Kind=7
 ·simp only[dTt h7,go_sem];exact qE rfl (by rw[qD.lev,if_neg h4,if_pos h7];rfl)
 simp only[dFf h7,go_sem];by_cases h11:x.Kind=11
 ·simp only[dTt h11,go_sem];exact qE rfl (by rw[qD.lev,if_neg h4,if_neg h7,if_pos h11];rfl)
 simp only[dFf h11,go_sem];by_cases h5:x.Kind=5
 ·simp only[dTt h5,go_sem];exact qE rfl (by rw[qD.lev,if_neg h4,if_neg h7,if_neg h11,if_pos h5];rfl)
 simp only[dFf h5,go_sem];by_cases h3:x.Kind=3
 case neg=>
  simp only[dFf h3,go_sem];exact qE rfl (by rw[qD.lev,if_neg h4,if_neg h7,if_neg h11,if_neg h5,if_neg h3];rfl)
 simp only[dTt h3,go_sem];have e:x.lev=if x.Num=5 then 1 else if x.Num=6 then 1 else if x.Num=1 then 2 else if x.Num=2 then 2 else 3:=by rw[qD.lev,if_neg h4,if_neg h7,if_neg h11,if_neg h5,if_pos h3]
 by_cases n5:x.Num=5
 ·simp only[dTt n5,go_sem];exact qE rfl (by rw[e,if_pos n5];rfl)
 simp only[dFf n5,go_sem];by_cases n6:x.Num=6
 ·simp only[dTt n6,go_sem];exact qE rfl (by rw[e,if_neg n5,if_pos n6];rfl)
 simp only[dFf n6,go_sem];by_cases n1:x.Num=1
 ·simp only[dTt n1,go_sem];exact qE rfl (by rw[e,if_neg n5,if_neg n6,if_pos n1];rfl)
 simp only[dFf n1,go_sem];by_cases n2:x.Num=2
 ·simp only[dTt n2,go_sem];exact qE rfl (by rw[e,if_neg n5,if_neg n6,if_neg n1,if_pos n2];rfl)
 simp only[dFf n2,go_sem];exact qE rfl (by rw[e,if_neg n5,if_neg n6,if_neg n1,if_neg n2];rfl)
theorem qTA{x:qD}:Pure Gm 1006 [.ept x.enc 0] (.int .i64 (x.lev:Nat)):=by
 refine pJ Y5 ?_;simp only[Y5,qH,go_sem];by_cases h4:x.Kind=4
 ·simp only[dTt h4,go_sem];exact qE rfl (by rw[qD.lev,if_pos h4];rfl)
 simp only[dFf h4,go_sem];by_cases h7:x.Kind=7
 ·simp only[dTt h7,go_sem];exact qE rfl (by rw[qD.lev,if_neg h4,if_pos h7];rfl)
 simp only[dFf h7,go_sem];by_cases h11:x.Kind=11
 ·simp only[dTt h11,go_sem];exact qE rfl (by rw[qD.lev,if_neg h4,if_neg h7,if_pos h11];rfl)
 simp only[dFf h11,go_sem];by_cases h3:x.Kind=3
 case neg=>
  simp only[dFf h3,go_sem];by_cases h5:x.Kind=5
  ·simp only[dTt h5,go_sem];exact qE rfl (by rw[qD.lev,if_neg h4,if_neg h7,if_neg h11,if_pos h5];rfl)
  simp only[dFf h5,go_sem];exact qE rfl (by rw[qD.lev,if_neg h4,if_neg h7,if_neg h11,if_neg h5,if_neg h3];rfl)
 simp only[dTt h3,go_sem];have e:x.lev=if x.Num=5 then 1 else if x.Num=6 then 1 else if x.Num=1 then 2 else if x.Num=2 then 2 else 3:=by rw[qD.lev,if_neg h4,if_neg h7,if_neg h11,if_neg (by omega),if_pos h3]
 by_cases n5:x.Num=5
 ·simp only[dTt n5,go_sem];exact qE rfl (by rw[e,if_pos n5];rfl)
 simp only[dFf n5,go_sem];by_cases n6:x.Num=6
 ·simp only[dTt n6,go_sem];exact qE rfl (by rw[e,if_neg n5,if_pos n6];rfl)
 simp only[dFf n6,go_sem];by_cases n1:x.Num=1
 ·simp only[dTt n1,go_sem];exact qE rfl (by rw[e,if_neg n5,if_neg n6,if_pos n1];rfl)
 simp only[dFf n1,go_sem];by_cases n2:x.Num=2
 ·simp only[dTt n2,go_sem];exact qE rfl (by rw[e,if_neg n5,if_neg n6,if_neg n1,if_pos n2];rfl)
 simp only[dFf n2,go_sem];exact qE rfl (by rw[e,if_neg n5,if_neg n6,if_neg n1,if_neg n2];rfl)
theorem c622{s:Str}(hl:s.length<=4611686018427387904):Pure Gm 622 [.str s] (.str (if 20000<s.length then []else s)):=by
 refine pJ Ut ?_;simp only[Ut,qH,go_sem];by_cases h:20000<s.length
 ·simp only[gt_iff_lt,show decide ((20000:Int)<(s.length:Nat))=true from dTt (by omega),go_sem];exact qE rfl (by rw[if_pos h])
 ·simp only[gt_iff_lt,show decide ((20000:Int)<(s.length:Nat))=false from dFf (by omega),go_sem];exact qE rfl (by rw[if_neg h])
theorem qeT:∀{j:Nat},1<=j->j<=6->(Wt.map qR)[j-1]?=some (.str (opT j))
 | 0,h,_=>by omega
 | 1,_,_=>rfl
 | 2,_,_=>rfl
 | 3,_,_=>rfl
 | 4,_,_=>rfl
 | 5,_,_=>rfl
 | 6,_,_=>rfl
 | n+7,_,h=>by omega
theorem qZ5{j:Nat}(h1:1<=j)(h6:j<=6):Pure Gm 1325 [.int .i64 (j:Nat)] (.str (opT j)):=by
 refine pJ Vk ?_;simp only[Vk,qH,go_sem];refine qF Qy ?_;simp only[go_sem];simp only[show decide ((1:Int)<=((j:Nat):Int))=true from dTt (by omega),show decide (((j:Nat):Int)<=6)=true from dTt (by omega),Bool.and_self,nT,go_sem];refine qF Kt ?_;simp only[go_sem];have e1:((j:Nat):Int)-1=((j-1:Nat):Int):=by omega
 simp only[e1,zF (n:=((j-1:Nat):Int)) (by omega) (by omega),go_sem,qeT h1 h6,oMs];exact qE rfl rfl
def zW(bs:List (Nat×Str))(i lv:Nat):Str:=if (bs.getD i (0,[])).1<lv then [40]++(bs.getD i (0,[])).2++[41]else(bs.getD i (0,[])).2
def zt(tt:qB->Str)(k n:Int)(s:Str)(t:qB)(ns:List Str)(lv:Nat)(bs:List (Nat×Str)):Str:=
 if k=2 then(if n<0 then [40]++Lib.itoa n++[41]else Lib.itoa n)
 else if k=3 then zW bs 0 (if lv=1 then 2 else lv)++[32]++opT n.toNat++[32]++zW bs 1 (lv+1)
 else if k=4 then [92]++s++[58]++tt t++[46,32]++zW bs 0 0
 else if k=5 then zW bs 0 4++[32]++zW bs 1 5
 else if k=6 then [33]++zW bs 0 5
 else if k=7 then [108,101,116,32]++s++[32,61,32]++zW bs 0 0++[32,105,110,32]++zW bs 1 0
 else if k=8 then s++brk (bs.map Prod.snd)
 else if k=9 then [109,97,116,99,104,32]++zW bs 0 0++[32,123,32]++jn [59,32] ((bs.drop 1).map Prod.snd)++[32,125]
 else if k=10 then s++brk ns++[32,45,62,32]++zW bs 0 0
 else if k=11 then [105,102,32]++zW bs 0 0++[32,116,104,101,110,32]++zW bs 1 0++[32,101,108,115,101,32]++zW bs 2 0
 else s
mutual
def qD.tx(tt:qB->Str):qD->Str
 |.mk k n s t ns ks=>zt tt k n s t ns (qD.mk k n s t ns ks).lev (qD.txs tt ks)
def qD.txs(tt:qB->Str):List qD->List (Nat×Str)
 |[]=>[]
 | x::xs=>(x.lev,x.tx tt)::qD.txs tt xs
end
theorem qD.txs_eq(tt:qB->Str):∀xs:List qD,qD.txs tt xs=xs.map fun x=>(x.lev,x.tx tt)
 |[]=>rfl
 | x::xs=>by rw[qD.txs,qD.txs_eq tt xs];rfl
theorem qD.tx_eq(tt:qB->Str)(x:qD):x.tx tt=zt tt x.Kind x.Num x.Name x.Typ x.Names x.lev (x.Kids.map fun y=>(y.lev,y.tx tt)):=by
 cases x;rw[qD.tx,qD.txs_eq];rfl
theorem Ky{x:qD}{lv:Nat}{b:Str}(hl:b.length<=1000000000)(H:Pure Gm 1007 [.ept x.enc 0] (.str b)):Pure Gm 627 [.ept x.enc 0,.int .i64 (lv:Nat)] (.str (if x.lev<lv then [40]++b++[41]else b)):=by
 refine pI Ux (by simp[AV.trees,AV.tree,qD.tr]) rfl ?_;simp only[Ux,qH,go_sem];refine qF qTA ?_;simp only[go_sem];by_cases h:x.lev<lv
 ·have e:decide (((x.lev:Nat):Int)<((lv:Nat):Int))=true:=dTt (by omega);simp only[e,go_sem];refine qF H ?_;simp only[go_sem];refine qN ?_;simp only[go_sem];refine qN ?_;simp only[go_sem];exact qE rfl (by rw[if_pos h])
 ·have e:decide (((x.lev:Nat):Int)<((lv:Nat):Int))=false:=dFf (by omega);simp only[e,go_sem];refine qF H ?_;simp only[go_sem];exact qE rfl (by rw[if_neg h])
theorem qZ6{ks:List qD}{f:qD->Str}(hl:(jn [44,32] (ks.map f)).length<=1000000000)(hx:ks.length<=1048576)(H:∀y∈ks,Pure Gm 627 [.ept y.enc 0,.int .i64 0] (.str (f y))):Pure Gm 1326 [.lst 8 (ks.map qD.enc) false] (.str (brk (ks.map f))):=by
 refine pI Vl (by simp[AV.trees,AV.tree,zD qD.isSh.tree]) rfl ?_;simp only[Vl,qH,go_sem];obtain⟨xs,hxs⟩:∃xs,xs=ks.map f:=⟨_,rfl⟩;have hlen:xs.length=ks.length:=by rw[hxs,lMp]
 rw[<-hxs]at hl|-;refine Sem.loop (fun i:Nat=>i<=ks.length) (fun i=>(⟨[(0,.lst 8 (ks.map qD.enc) false),(3,.str (jn [44,32] (xs.take i))),(4,.int .i64 (i:Nat))],[],[]⟩:VSt)) (fun i=>ks.length-i) 0 (by kernel_rfl) (nZl _) (Can.sub (by simp[go_sem,jn]) (by simp[go_sem])) ?_;intro i hi;simp only[lMp,go_sem];by_cases hlt:i<ks.length
 ·have e1:decide ((i:Int)<(ks.length:Nat))=true:=dTt (by omega);have hlx:i<xs.length:=by omega
  have hs:=X0 (sep:=[44,32]) hlx;have h1:=QQ (sep:=[44,32]) (xs:=xs) (i+1);have h2:=QQ (sep:=[44,32]) (xs:=xs) i;have hfi:xs[i]=f ks[i]:=by subst hxs;rw[List.getElem_map]
  rw[hfi]at hs;have hc:=H _ (gMm hlt);simp only[e1,go_sem];by_cases h0:i=0
  ·have e0:decide ((0:Int)<((i:Nat):Int))=false:=dFf (by omega);simp only[gt_iff_lt,e0,go_sem,gMp,gEg hlt,oMs];rw[if_pos h0,lNa]at hs;refine qF hc ?_;simp only[go_sem];rw[J9 (by rw[hs]at h1;omega)];simp only[go_sem,qp (show i<4611686018427387904 by omega)];refine qW (i+1) (by omega) (by omega) ?_;have hz:jn [44,32] (xs.take i)=[]:=by rw[h0,List.take_zero];rfl
   rw[hs,hz,lNa];exact cS
  ·have e0:decide ((0:Int)<((i:Nat):Int))=true:=dTt (by omega);rw[if_neg h0]at hs;rw[hs]at h1;simp only[lAp,lCo,lNi]at h1;simp only[gt_iff_lt,e0,go_sem];refine qN ?_;simp only[go_sem,gMp,gEg hlt,oMs];refine qF hc ?_;simp only[go_sem];refine qN ?_;simp only[go_sem,qp (show i<4611686018427387904 by omega)];refine qW (i+1) (by omega) (by omega) ?_;rw[hs];exact cS
 ·have e1:decide ((i:Int)<(ks.length:Nat))=false:=dFf (by omega);obtain rfl:i=ks.length:=by omega
  have et:xs.take ks.length=xs:=by rw[<-hlen,lTl]
  simp only[e1,et,go_sem];by_cases hb:jn [44,32] xs=[]
  ·simp only[hb,go_sem];exact qE rfl (by rw[brk,if_pos hb])
  ·simp only[dFf hb,go_sem];refine qN ?_;simp only[go_sem];refine qN ?_;simp only[go_sem];exact qE rfl (by rw[brk,if_neg hb])
def opS(toks:List qK)(bad:Bool)(lo:Int)(s1 s2:Str)(a:Nat):Int:=if bad then 0 else opN toks lo s1 s2 a
section
variable {h:List qC} {id a:Nat} {toks:List qK} {bad:Bool}
theorem qU8{s:Str}{x:qK}(hw:∀x∈toks,Jr x)(hs:s.all zE=false\/zi s=true)(hx:toks[a]?=some x):isP toks a s=decide (x.Text=s):=by
 rw[<-Jy hw hs];simp[isS,hx]
theorem qgG{j:Nat}{s1 s2:Str}(K:qx toks)(h1:1<=j)(h5:j<=5)(e1:opT j=s1)(e2:opT (j+1)=s2)(q1:s1.all zE=false\/zi s1=true)(q2:s2.all zE=false\/zi s2=true)(ho:h[id]?=some (prS toks a bad)):
  SCall Gm 1187 [.ptr id 0 0,.int .i64 (j:Nat),.int .i64 ((j+1:Nat):Int)] h fun v h'=>v=.int .i64 (opS toks bad j s1 s2 a)/\h'=if opS toks bad j s1 s2 a=0 then h else h.set id (prS toks (a+1) false):=by
 refine sI VW ?_;have ho':=ho;unfold prS at ho';simp only[VW,qH,go_sem,ho',oMs,lMp];cases bad
 case true=>
  simp only[go_sem];exact⟨rfl,by simp[opS]⟩
 simp only[go_sem,ho'];by_cases hlt:a<toks.length
 ·have e3:decide ((toks.length:Int)<=a)=false:=dFf (by omega);simp only[ge_iff_le,e3,go_sem,ho',gMp,gEg hlt,oMs];refine qF qaB ?_;simp only[go_sem];refine qF Qy ?_;simp only[go_sem];have eo:opS toks false j s1 s2 a=if opI toks[a].Text=j\/opI toks[a].Text=((j+1:Nat):Int)then opI toks[a].Text else 0:=by
   have hx:toks[a]?=some toks[a]:=gEg hlt;simp only[opS,bFt,if_false,opN,qU8 K.w q1 hx,qU8 K.w q2 hx,dTe];have i1:=qWV (s:=toks[a].Text) h1 (by omega);have i2:=qWV (s:=toks[a].Text) (j:=j+1) (by omega) (by omega);rw[e1]at i1;rw[e2]at i2;by_cases g1:toks[a].Text=s1
   ·rw[if_pos g1,if_pos (.inl (i1.2 g1)),i1.2 g1]
   ·rw[if_neg g1];by_cases g2:toks[a].Text=s2
    ·rw[if_pos g2,if_pos (.inr (i2.2 g2)),i2.2 g2];omega
    ·rw[if_neg g2,if_neg];rintro(q | q)
     ·exact g1 (i1.1 q)
     ·exact g2 (i2.1 q)
  by_cases hin:opI toks[a].Text=j\/opI toks[a].Text=((j+1:Nat):Int)
  ·have e4:(decide (((j:Nat):Int)<=opI toks[a].Text)&&decide (opI toks[a].Text<=((j+1:Nat):Int)))=true:=by
    rw[bAt];exact⟨dTt (by omega),dTt (by omega)⟩
   rw[if_pos hin]at eo;simp only[e4,nT,go_sem,ho',oMs,qp (show a<4611686018427387904 by have:=K.l;omega)];refine jQ (e':=.agg [.lst 3 (toks.map qK.enc) false,.int .i64 ((a+1:Nat):Int),.bool false]) rfl ho' rfl rfl ?_;simp only[go_sem];rw[eo];exact⟨rfl,by rw[if_neg (by omega)];rfl⟩
  ·have e4:(decide (((j:Nat):Int)<=opI toks[a].Text)&&decide (opI toks[a].Text<=((j+1:Nat):Int)))=false:=by
    rw[<-Bool.not_eq_true,bAt];rintro⟨g1,g2⟩;have g1:=odT g1;have g2:=odT g2;omega
   rw[if_neg hin]at eo;simp only[e4,nF,go_sem];rw[eo];exact⟨rfl,by simp⟩
 ·have e3:decide ((toks.length:Int)<=a)=true:=dTt (by omega);simp only[ge_iff_le,e3,go_sem];have eo:opS toks false j s1 s2 a=0:=by
   simp[opS,opN,isP,gEn (show toks.length<=a by omega)]
  rw[eo];exact⟨rfl,by simp⟩
theorem qBG{j:Nat}{lo hi:Int}{s1 s2:Str}(K:qx toks)(e0:lo=j)(e3:hi=lo+1)(h1:1<=j)(h5:j<=5)(e1:opT j=s1)(e2:opT (j+1)=s2)(q1:s1.all zE=false\/zi s1=true)(q2:s2.all zE=false\/zi s2=true)(ho:h[id]?=some (prS toks a bad)):
  SCall Gm 1187 [.ptr id 0 0,.int .i64 lo,.int .i64 hi] h fun v h'=>v=.int .i64 (opS toks bad lo s1 s2 a)/\h'=if opS toks bad lo s1 s2 a=0 then h else h.set id (prS toks (a+1) false):=by
 subst e0 e3;exact qgG K h1 h5 e1 e2 q1 q2 ho
theorem qAT{lo:Int}{s1 s2:Str}(h:¬opS toks bad lo s1 s2 a=0):bad=false/\a<toks.length/\opS toks bad lo s1 s2 a=opN toks lo s1 s2 a:=by
 unfold opS at h|-;cases bad
 ·exact⟨rfl,ZE h,rfl⟩
 ·simp at h
theorem qgH(K:qx toks)(ho:h[id]?=some (prS toks a bad)):SCall Gm 1538 [.ptr id 0 0] h fun v h'=>v=.bool (!bad&&bgP toks a)/\h'=h:=by
 refine sI UE ?_;simp only[UE,qH,go_sem];have eb:(!bad&&bgP toks a)=((kdS toks a bad 1 || (kdS toks a bad 2 || kdS toks a bad 4)) || (isS toks a bad [33] || (isS toks a bad [40] || isS toks a bad [109,97,116,99,104]))):=by
  cases bad
  ·rw[Jy K.w (.inl rfl),Jy K.w (.inl rfl),Jy K.w (.inr rfl)];unfold bgP kdS;cases toks[a]?<;>rfl
  ·rfl
 rw[eb];refine qe rfl (ZC ho) ?_;simp only[go_sem];cases k1:kdS toks a bad 1
 case true=>simp only[go_sem];refine⟨by simp,trivial⟩
 simp only[go_sem];refine qe rfl (ZC ho) ?_;simp only[go_sem];cases k2:kdS toks a bad 2
 case true=>simp only[go_sem];refine⟨by simp,trivial⟩
 simp only[go_sem];refine qe rfl (ZC ho) ?_;simp only[go_sem];cases k3:kdS toks a bad 4
 case true=>simp only[go_sem];refine⟨by simp,trivial⟩
 simp only[go_sem];refine qe rfl (Wn ho) ?_;simp only[go_sem];cases k4:isS toks a bad [40]
 case true=>simp only[go_sem];refine⟨by simp,trivial⟩
 simp only[go_sem];refine qe rfl (Wn ho) ?_;simp only[go_sem];cases k5:isS toks a bad [33]
 case true=>simp only[go_sem];refine⟨by simp,trivial⟩
 simp only[go_sem];refine qe rfl (Wn ho) ?_;simp only[go_sem];cases isS toks a bad [109,97,116,99,104]<;>exact⟨by rfl,trivial⟩
theorem qgI{neg:Bool}(K:qx toks)(ha:a<=toks.length)(ho:h[id]?=some (prS toks a bad)):SCall Gm 1551 [.ptr id 0 0,.int .i64 (if neg then 2147483648 else 2147483647)] h fun v h'=>∃n b bad',(0<=n/\n<=2147483648)/\SPr (gd bad a (jN toks neg a)) (tmk 2 (if neg then-n else n) [] []) b bad'/\a<=b/\b<=toks.length/\v=.int .i64 n/\h'=h.set id (prS toks b bad'):=by
 refine sI UI ?_;simp only[UI,qH,go_sem];have hid:=zA ho;refine qO ((t871 K ha ho).mono ?_);rintro v h1 ⟨s,b,bad1,q1,q2,q3,rfl,rfl,q4⟩;simp only[go_sem];have hs:(s.all zJ=true/\qd s<=2147483648/\s.length<=10)/\(bad1=false->bad=false/\b=a+1/\zu s=true/\s≠[]/\∃t,toks[a]?=some t/\t.Kind=4/\t.Text=s)/\(bad1=true->gd bad a (jN toks neg a)=.error a/\b=a/\s=[]):=by
  cases bad1 with
  | true=>
   obtain⟨rfl,rfl⟩:=q4 rfl;refine⟨⟨rfl,by simp[qd,JA],by simp⟩,fun q=>(by cases q),fun _=>⟨?_,rfl,rfl⟩⟩;cases bad
   ·rw[qq]at q1|-;unfold zR at q1;unfold jN;cases ht:toks[b]? with
    | none=>rfl
    | some t=>
     rw[ht]at q1;simp only at q1|-;by_cases hk:t.Kind=4
     ·rw[if_pos hk]at q1;exact absurd q1.2.2 (by decide)
     ·rw[if_neg fun q=>hk q.1]
   ·rfl
  | false=>
   cases bad
   ·rw[qq]at q1;unfold zR at q1;cases ht:toks[a]? with
    | none=>rw[ht]at q1;exact absurd q1.2 (by decide)
    | some t=>
     rw[ht]at q1;simp only at q1;by_cases hk:t.Kind=4
     ·rw[if_pos hk]at q1;obtain⟨rfl,rfl,_⟩:=q1;obtain⟨n1,n2⟩:=K.n t (lMo ht) hk;obtain⟨p1,p2,_⟩:=YI n1 n2;have hl10:t.Text.length<=10:=by
       have:=n1;simp only[zu,bAt,dTe]at this;exact this.1
      exact⟨⟨p1,p2,hl10⟩,fun _=>⟨rfl,rfl,n1,n2,t,rfl,hk,rfl⟩,fun q=>by cases q⟩
     ·rw[if_neg hk]at q1;exact absurd q1.2 (by decide)
   ·exact absurd q1.2 (by decide)
 obtain⟨⟨p1,p2,p3⟩,hf,ht⟩:=hs;clear q1 q4;refine Sem.loop (fun i:Nat=>i<=s.length) (fun i=>(⟨[(0,.ptr id 0 0),(1,.int .i64 (if neg then 2147483648 else 2147483647)),(5,.str s),(6,.int .i64 (qd (s.take i):Nat)),(7,.int .i64 (i:Nat))],[],h.set id (prS toks b bad1)⟩:VSt)) (fun i=>s.length-i) 0 (by kernel_rfl) (nZl _) (Can.sub (by simp[go_sem,qd,JA]) (by simp[go_sem])) ?_;intro i hi;simp only[go_sem];by_cases hlt:i<s.length
 ·have e1:decide ((i:Int)<(s.length:Nat))=true:=dTt (by omega);have et:s.take (i+1)=s.take i++[s[i]]:=by rw[List.take_add_one,gEg hlt];rfl
  simp only[e1,gEg hlt,oMs,go_sem];have hI:(s.take i).all zJ=true:=by
   rw[lAt]at p1|-;exact fun x hx=>p1 x (List.mem_of_mem_take hx)
  have hd:zJ s[i]=true:=by rw[lAt]at p1;exact p1 _ (gMm hlt)
  have hb:=Jj.1 hd;have hv:=qWM hI;have hp:10^(s.take i).length<=10^10:=Nat.pow_le_pow_right (by decide) (by simp;omega);have h10':(10:Nat)^10=10000000000:=by decide
  have w1:IntKind.u8.wrap (((s[i].toNat:Nat):Int)-48)=((s[i].toNat-48:Nat):Int):=by rw[IntWalk.u8_in _ ⟨by omega,by omega⟩];omega
  simp only[w1,zF (n:=((s[i].toNat-48:Nat):Int)) (by omega) (by omega),zF (n:=10*((qd (s.take i):Nat):Int)) (by omega) (by omega),zF (n:=10*((qd (s.take i):Nat):Int)+((s[i].toNat-48:Nat):Int)) (by omega) (by omega),qp (show i<4611686018427387904 by omega)];have en:qd (s.take (i+1))=10*qd (s.take i)+(s[i].toNat-48):=by rw[et];unfold qd;rw[YH,JY,JA]
  have ee:10*((qd (s.take i):Nat):Int)+((s[i].toNat-48:Nat):Int)=((qd (s.take (i+1)):Nat):Int):=by rw[en];omega
  rw[ee];exact qW (i+1) (show i+1<=s.length by omega) (by omega) cS
 ·have e1:decide ((i:Int)<(s.length:Nat))=false:=dFf (by omega);obtain rfl:i=s.length:=by omega
  simp only[e1,lTl,go_sem];have fin:∀(x:bad1=false->neg=true\/s≠JF),SPr (gd bad a (jN toks neg a)) (tmk 2 (if neg then-((qd s:Nat):Int)else((qd s:Nat):Int)) [] []) b bad1:=by
   intro x;cases bad1 with
   | true=>rw[(ht rfl).1];exact⟨(ht rfl).2.1,rfl⟩
   | false=>
    obtain⟨rfl,rfl,_,_,t,r1,r2,rfl⟩:=hf rfl;rw[qq];unfold jN;rw[r1];simp only;rw[if_pos ⟨r2,x rfl⟩];cases neg<;>exact⟨rfl,rfl,rfl⟩
  cases neg with
  | true=>
   simp only[if_true,dFf (show ¬((2147483648:Int)<((qd s:Nat):Int)) by omega),gt_iff_lt,go_sem];exact⟨((qd s:Nat):Int),b,bad1,⟨by omega,by omega⟩,fin fun _=>.inl rfl,q2,q3,rfl,rfl⟩
  | false=>
   by_cases hm:qd s=2147483648
   ·have hb1:bad1=false:=by
     cases bad1 with
     | false=>rfl
     | true=>obtain⟨_,_,rfl⟩:=ht rfl;simp[qd,JA]at hm
    subst hb1;obtain⟨rfl,rfl,n1,n2,t,r1,r2,rfl⟩:=hf rfl;simp only[bFt,if_false,gt_iff_lt,dTt (show ((2147483647:Int)<((qd t.Text:Nat):Int)) by omega),go_sem];have o1:(h.set id (prS toks (a+1) false))[id]?=some (.row 3 [.agg [.lst 3 (toks.map qK.enc) false,.int .i64 ((a+1:Nat):Int),.bool false]] true):=by rw[gSs hid];rfl
    have e5:((a+1:Nat):Int)-1=((a:Nat):Int):=by omega
    simp only[o1,oMs,go_sem,e5,zF (n:=((a:Nat):Int)) (by omega) (by have:=K.l;omega)];refine jQ (e':=.agg [.lst 3 (toks.map qK.enc) false,.int .i64 (a:Nat),.bool false]) rfl o1 rfl rfl ?_;simp only[List.set_set,lSz,go_sem];have o2:(h.set id (.row 3 [.agg [.lst 3 (toks.map qK.enc) false,.int .i64 (a:Nat),.bool false]] true))[id]?=some (.row 3 [.agg [.lst 3 (toks.map qK.enc) false,.int .i64 (a:Nat),.bool false]] true):=by rw[gSs hid]
    refine jQ (e':=.agg [.lst 3 (toks.map qK.enc) false,.int .i64 (a:Nat),.bool true]) rfl o2 rfl rfl ?_;simp only[List.set_set,lSz,go_sem];refine⟨_,a,true,⟨by omega,by omega⟩, ?_,nLr _,ha,rfl,rfl⟩;rw[qq];unfold jN;rw[r1];simp only;rw[if_neg (fun g=>g.2.elim (fun x=>by cases x) fun x=>x ((qAN n1 n2).1 hm))];exact⟨rfl,rfl⟩
   ·simp only[bFt,if_false,dFf (show ¬((2147483647:Int)<((qd s:Nat):Int)) by omega),gt_iff_lt,go_sem];exact⟨((qd s:Nat):Int),b,bad1,⟨by omega,by omega⟩,fin fun q=>.inr (by obtain⟨_,_,n1,n2,_⟩:=hf q;exact fun q=>hm ((qAN n1 n2).2 q)),q2,q3,rfl,rfl⟩
end
def RS(toks:List qK)(id:Nat)(h:List qC)(r:Except Nat (qD×Nat))(a:Nat)(v:AV)(h':List qC):Prop:=
 ∃t b bad',SPr r t b bad'/\a<=b/\b<=toks.length/\PS h id (prS toks b bad') h'/\Ow h.length h'.length h' v t.enc
def CS(toks:List qK)(id g f:Nat)(j:Jb):Prop:=∀(a:Nat)(bad:Bool)(h:List qC),mJ toks j a<=f->a<=toks.length->h[id]?=some (prS toks a bad)->
 SCall Gm g [.ptr id 0 0] h (fun v h'=>RS toks id h (gd bad a (pM toks f j a)) a v h')
structure JJ(toks:List qK)(id f:Nat):Prop where
 term:CS toks id 509 f .term
 cmp:CS toks id 873 f .cmp
 sum:CS toks id 1186 f .sum
 prod:CS toks id 1423 f .prod
 app:CS toks id 1510 f .app
 pre:CS toks id 1537 f .pre
 bran:CS toks id 1559 f .bran
 mat:∀(a:Nat)(h:List qC),mJ toks .mat (a+1)<=f->isP toks a [109,97,116,99,104]=true->h[id]?=some (prS toks a false)->SCall Gm 1552 [.ptr id 0 0] h (fun v h'=>RS toks id h (pM toks f .mat (a+1)) a v h')
 con:∀(a:Nat)(h:List qC)(s:Str),20*(toks.length-(a+1))+7<=f->zR toks 2 a=.ok (s,a+1)->h[id]?=some (prS toks a false)->SCall Gm 1550 [.ptr id 0 0] h (fun v h'=>RS toks id h (if isP toks (a+1) [91]then pM toks f (.con s []) (a+2)else .ok (tmk 8 0 s [],a+1)) a v h')
section
variable {h:List qC} {id a b f:Nat} {toks:List qK} {bad:Bool}
theorem qeW:∀(f:Nat)(flag:Bool){a b:Nat},a<=toks.length->pT toks f flag a=.error b->a<=b/\b<=toks.length:=by
 intro f
 induction f with
 | zero=>intro flag a b ha hq;simp only[pT]at hq;cases hq;exact⟨nLr _,ha⟩
 | succ f ih=>
  intro flag a b ha hq;cases flag with
  | true=>
   simp only[pT]at hq;split at hq
   ·rename_i h1;have:=qa h1;split at hq
    ·cases hq
    ·rename_i h2;cases hq;have:=ih true this h2;omega
   ·split at hq
    ·rename_i h1;have:=qa h1;split at hq
     ·rename_i h2;have:=jY _ _ _ h2;split at hq
      ·cases hq
      ·cases hq;omega
     ·rename_i h2;cases hq;have:=ih false this h2;omega
    ·split at hq
     ·split at hq
      ·cases hq
      ·cases hq;omega
     ·cases hq;omega
  | false=>
   simp only[pT]at hq;split at hq
   ·rename_i h2;have:=jY _ _ _ h2;split at hq
    ·rename_i h3;have:=qa h3;split at hq
     ·cases hq
     ·rename_i h4;cases hq;have:=ih false this h4;omega
    ·cases hq
   ·rename_i h2;cases hq;exact ih true ha h2
theorem if0{lo:Int}{s1 s2:Str}{t:qD}{X:Except Nat (qD×Nat)}(h0:opS toks bad lo s1 s2 b=0):SPr (gd bad b (if opN toks lo s1 s2 b=0 then .ok (t,b)else X)) t b bad:=by
 cases bad
 ·rw[show opN toks lo s1 s2 b=0 from h0,if_pos rfl];exact SPr.ret
 ·exact SPr.bd
theorem qfL(K:qx toks)(H:∀f',f'<=f->JJ toks id f'):CS toks id 873 (f+1) .cmp:=by
 intro a bad h hf ha ho;have hid:=zA ho;refine sI KH ?_;simp only[KH,qH,go_sem];refine qO (((H f (nLr _)).sum a bad h (wB hf (by decide)) ha ho).mono ?_);rintro v h1 ⟨t,b,bad1,q1,l1,l2,q2,q3⟩;have hl1:=q2.len;obtain⟨a0,a1,a2,a3,a4,a5,a6,a7,rfl⟩:=q3.shape;simp only[go_sem];refine lA ?_;simp only[go_sem];refine qO ((qBG (j:=5) (lo:=5) (hi:=6) (s1:=[60]) (s2:=[61]) K rfl rfl (by decide) (by decide) rfl rfl (.inl rfl) (.inl rfl) q2.at').mono ?_);rintro v h2 ⟨rfl,rfl⟩;simp only[go_sem];by_cases h0:opS toks bad1 5 [60] [61] b=0
 ·simp only[h0,decide_true,if_true,go_sem];refine lA ?_;simp only[go_sem];exact⟨t,b,bad1,q1.bind (if0 h0),l1,l2,q2,q3⟩
 ·simp only[if_neg h0,dFf h0,go_sem];obtain⟨rfl,ol,eo⟩:=qAT h0;have q2'':=q2.trans (PS.set q2.at' (o:=prS toks (b+1) false));have q3'':=q3.set (id:=id) (o:=prS toks (b+1) false) (.inl hid);refine qO (((H f (nLr _)).sum (b+1) false _ (zx hf (by omega) ol) ol q2''.at').mono ?_);rintro v h3 ⟨u,c,bad3,r1,m1,m2,r2,r3⟩;have hl3:=r2.len;simp only[lLs]at hl3 r3;have q4:=q3''.ps (by simp) hid r2;obtain⟨b0,b1,b2,b3,b4,b5,b6,b7,rfl⟩:=r3.shape;simp only[go_sem];rw[show zH _ 8 _ _=some [.agg [a0,a1,a2,a3,a4,a5,a6,a7],.agg [b0,b1,b2,b3,b4,b5,b6,b7]]from rfl];simp only[go_sem];refine lA ?_;simp only[go_sem];refine⟨tmk 3 (opS toks false 5 [60] [61] b) [] [t,u],c,bad3,q1.bind ?_,by omega,m2,(q2''.trans r2).push, ?_⟩
  ·rw[qq,if_neg (by rw[<-eo];exact h0),<-qq (a:=b+1) (r:=exB _ _)];exact r1.bind (eo▸SPr.ret)
  rw[zN];exact JG (ts:=[t,u]) ((q4.mono (nLr _) (nLr _)).one.snoc r3 (by omega) (by omega)) (nLr _) (by omega) rfl
end
section
variable {h:List qC} {id a b f:Nat} {toks:List qK} {bad:Bool}
theorem qXC(K:qx toks){t:qD}{bad':Bool}(ha:a<=toks.length)(r1:SPr (gd bad a (pM toks f .pre a)) t b bad')(hb:bad'=false):a+1<=b:=by
 subst hb;cases bad
 ·rw[qq]at r1;cases hr:pM toks f .pre a with
  | error d=>rw[hr]at r1;exact absurd r1.2 (by decide)
  | ok x=>rw[hr]at r1;obtain⟨rfl,rfl,_⟩:=r1;exact(jh K.x f .pre _ trivial ha hr).1
 ·exact absurd r1.2 (by decide)
theorem qfQ(K:qx toks)(H:∀f',f'<=f->JJ toks id f'):CS toks id 1186 (f+1) .sum:=by
 intro a bad h hf ha ho;have hid:=zA ho;refine sI VV ?_;simp only[VV,qH,go_sem];refine qO (((H f (nLr _)).prod a bad h (wB hf (by decide)) ha ho).mono ?_);rintro v h1 ⟨t,b,bad1,q1,l1,l2,q2,q3⟩;have hl1:=q2.len;obtain⟨a0,a1,a2,a3,a4,a5,a6,a7,rfl⟩:=q3.shape;simp only[go_sem];refine lA ?_;simp only[go_sem];refine Sem.loop (fun s:Nat×qD×AV×Nat×Bool×List qC=>s.1<=f/\mJ toks (.sumL s.2.1) s.2.2.2.1<=s.1/\(∀y c bad',SPr (gd s.2.2.2.2.1 s.2.2.2.1 (pM toks s.1 (.sumL s.2.1) s.2.2.2.1)) y c bad'->SPr (gd bad a (pM toks (f+1) .sum a)) y c bad')/\(a<=s.2.2.2.1/\s.2.2.2.1<=toks.length)/\(∃cs,s.2.2.1=.agg cs/\cs.length=8)/\PS h id (prS toks s.2.2.2.1 s.2.2.2.2.1) s.2.2.2.2.2/\Ow h.length s.2.2.2.2.2.length s.2.2.2.2.2 s.2.2.1 s.2.1.enc)
  (fun s=>(⟨[(0,.ptr id 0 0)],[(2,.agg [.int .i64 0,.int .i64 0,.str [],.int .i64 0,.str [],.nils,.nils,.nils]),(3,s.2.2.1)],s.2.2.2.2.2⟩:VSt)) (fun s=>toks.length-s.2.2.2.1) (f,t,.agg [a0,a1,a2,a3,a4,a5,a6,a7],b,bad1,h1) (by kernel_rfl) ?_ cS ?_
 ·exact⟨nLr _,by unfold mJ at hf|-;simp only[Jb.rk]at hf|-;omega,fun y c bad' q=>q1.bind q,⟨l1,l2⟩,⟨_,rfl,rfl⟩,q2,q3⟩
 clear q1 l1 l2 q2 q3 hl1;rintro⟨f',t,v,b,bad2,g⟩ ⟨i1,i2,i3,⟨l1,l2⟩,⟨cs,rfl,hcs⟩,i5,i6⟩;simp only at i1 i2 i3 l1 l2 hcs i5 i6;obtain⟨a0,a1,a2,a3,a4,a5,a6,a7,hv⟩:=i6.shape;rw[hv]at i6|-;simp only[go_sem];obtain⟨f2,rfl⟩:∃f2,f'=f2+1:=⟨f'-1,by unfold mJ at i2;simp only[Jb.rk]at i2;omega⟩;refine qO ((qBG (j:=1) (lo:=1) (hi:=2) (s1:=[43]) (s2:=[45]) K rfl rfl (by decide) (by decide) rfl rfl (.inl rfl) (.inl rfl) i5.at').mono ?_);rintro v h2 ⟨rfl,rfl⟩;simp only[go_sem];by_cases h0:opS toks bad2 1 [43] [45] b=0
 ·simp only[h0,decide_true,if_true,go_sem];refine lA ?_;simp only[go_sem];exact⟨t,b,bad2,i3 _ _ _ (by simp only[pM];exact if0 h0),l1,l2,i5,i6⟩
 ·simp only[if_neg h0,dFf h0,go_sem];obtain⟨rfl,ol,eo⟩:=qAT h0;have i5':=i5.trans (PS.set i5.at' (o:=prS toks (b+1) false));have i6':=i6.set (id:=id) (o:=prS toks (b+1) false) (.inl hid);have hl5:=i5.len;refine qO (((H f2 (by omega)).prod (b+1) false _ (zx i2 (by omega) ol) ol i5'.at').mono ?_);rintro v h3 ⟨u,c,bad3,r1,m1,m2,r2,r3⟩;have hl3:=r2.len;simp only[lLs]at hl3 r3;have q4:=i6'.ps (by simp) hid r2;obtain⟨b0,b1,b2,b3,b4,b5,b6,b7,rfl⟩:=r3.shape;simp only[go_sem];rw[show zH _ 8 _ _=some [.agg [a0,a1,a2,a3,a4,a5,a6,a7],.agg [b0,b1,b2,b3,b4,b5,b6,b7]]from rfl];simp only[go_sem];refine lA ?_;simp only[go_sem];have i6':=JG (ts:=[t,u]) (k:=3) (n:=opS toks false 1 [43] [45] b) (s:=[]) (q4.one.snoc r3 (by omega) (by omega)) (nLr _) (by omega) rfl;refine qW (f2,_,_,c,bad3,_) ⟨by simp only;omega,by simp only;unfold mJ at i2|-;simp only[Jb.rk]at i2|-;omega,fun y d bad' q=>i3 _ _ _ ?_,⟨by simp only;omega,m2⟩,⟨_,rfl,rfl⟩,(i5'.trans r2).push,i6'.mono (nLr _) (by simp)⟩ (by simp only;omega) cS;simp only[pM];rw[qq,if_neg (by rw[<-eo];exact h0),<-qq (a:=b+1) (r:=exB _ _)];exact r1.bind (eo▸q)
theorem qfP(K:qx toks)(H:∀f',f'<=f->JJ toks id f'):CS toks id 1423 (f+1) .prod:=by
 intro a bad h hf ha ho;have hid:=zA ho;refine sI Vw ?_;simp only[Vw,qH,go_sem];refine qO (((H f (nLr _)).app a bad h (wB hf (by decide)) ha ho).mono ?_);rintro v h1 ⟨t,b,bad1,q1,l1,l2,q2,q3⟩;have hl1:=q2.len;obtain⟨a0,a1,a2,a3,a4,a5,a6,a7,rfl⟩:=q3.shape;simp only[go_sem];refine lA ?_;simp only[go_sem];refine Sem.loop (fun s:Nat×qD×AV×Nat×Bool×List qC=>s.1<=f/\mJ toks (.prodL s.2.1) s.2.2.2.1<=s.1/\(∀y c bad',SPr (gd s.2.2.2.2.1 s.2.2.2.1 (pM toks s.1 (.prodL s.2.1) s.2.2.2.1)) y c bad'->SPr (gd bad a (pM toks (f+1) .prod a)) y c bad')/\(a<=s.2.2.2.1/\s.2.2.2.1<=toks.length)/\(∃cs,s.2.2.1=.agg cs/\cs.length=8)/\PS h id (prS toks s.2.2.2.1 s.2.2.2.2.1) s.2.2.2.2.2/\Ow h.length s.2.2.2.2.2.length s.2.2.2.2.2 s.2.2.1 s.2.1.enc)
  (fun s=>(⟨[(0,.ptr id 0 0)],[(2,.agg [.int .i64 0,.int .i64 0,.str [],.int .i64 0,.str [],.nils,.nils,.nils]),(3,s.2.2.1)],s.2.2.2.2.2⟩:VSt)) (fun s=>toks.length-s.2.2.2.1) (f,t,.agg [a0,a1,a2,a3,a4,a5,a6,a7],b,bad1,h1) (by kernel_rfl) ?_ cS ?_
 ·exact⟨nLr _,by unfold mJ at hf|-;simp only[Jb.rk]at hf|-;omega,fun y c bad' q=>q1.bind q,⟨l1,l2⟩,⟨_,rfl,rfl⟩,q2,q3⟩
 clear q1 l1 l2 q2 q3 hl1;rintro⟨f',t,v,b,bad2,g⟩ ⟨i1,i2,i3,⟨l1,l2⟩,⟨cs,rfl,hcs⟩,i5,i6⟩;simp only at i1 i2 i3 l1 l2 hcs i5 i6;obtain⟨a0,a1,a2,a3,a4,a5,a6,a7,hv⟩:=i6.shape;rw[hv]at i6|-;simp only[go_sem];obtain⟨f2,rfl⟩:∃f2,f'=f2+1:=⟨f'-1,by unfold mJ at i2;simp only[Jb.rk]at i2;omega⟩;refine qO ((qBG (j:=3) (lo:=3) (hi:=4) (s1:=[42]) (s2:=[47]) K rfl rfl (by decide) (by decide) rfl rfl (.inl rfl) (.inl rfl) i5.at').mono ?_);rintro v h2 ⟨rfl,rfl⟩;simp only[go_sem];by_cases h0:opS toks bad2 3 [42] [47] b=0
 ·simp only[h0,decide_true,if_true,go_sem];refine lA ?_;simp only[go_sem];exact⟨t,b,bad2,i3 _ _ _ (by simp only[pM];exact if0 h0),l1,l2,i5,i6⟩
 ·simp only[if_neg h0,dFf h0,go_sem];obtain⟨rfl,ol,eo⟩:=qAT h0;have i5':=i5.trans (PS.set i5.at' (o:=prS toks (b+1) false));have i6':=i6.set (id:=id) (o:=prS toks (b+1) false) (.inl hid);have hl5:=i5.len;refine qO (((H f2 (by omega)).app (b+1) false _ (zx i2 (by omega) ol) ol i5'.at').mono ?_);rintro v h3 ⟨u,c,bad3,r1,m1,m2,r2,r3⟩;have hl3:=r2.len;simp only[lLs]at hl3 r3;have q4:=i6'.ps (by simp) hid r2;obtain⟨b0,b1,b2,b3,b4,b5,b6,b7,rfl⟩:=r3.shape;simp only[go_sem];rw[show zH _ 8 _ _=some [.agg [a0,a1,a2,a3,a4,a5,a6,a7],.agg [b0,b1,b2,b3,b4,b5,b6,b7]]from rfl];simp only[go_sem];refine lA ?_;simp only[go_sem];have i6':=JG (ts:=[t,u]) (k:=3) (n:=opS toks false 3 [42] [47] b) (s:=[]) (q4.one.snoc r3 (by omega) (by omega)) (nLr _) (by omega) rfl;refine qW (f2,_,_,c,bad3,_) ⟨by simp only;omega,by simp only;unfold mJ at i2|-;simp only[Jb.rk]at i2|-;omega,fun y d bad' q=>i3 _ _ _ ?_,⟨by simp only;omega,m2⟩,⟨_,rfl,rfl⟩,(i5'.trans r2).push,i6'.mono (nLr _) (by simp)⟩ (by simp only;omega) cS;simp only[pM];rw[qq,if_neg (by rw[<-eo];exact h0),<-qq (a:=b+1) (r:=exB _ _)];exact r1.bind (eo▸q)
theorem qfJ(K:qx toks)(H:∀f',f'<=f->JJ toks id f'):CS toks id 1510 (f+1) .app:=by
 intro a bad h hf ha ho;have hid:=zA ho;refine sI UA ?_;simp only[UA,qH,go_sem];refine qO (((H f (nLr _)).pre a bad h (wB hf (by decide)) ha ho).mono ?_);rintro v h1 ⟨t,b,bad1,q1,l1,l2,q2,q3⟩;have hl1:=q2.len;obtain⟨a0,a1,a2,a3,a4,a5,a6,a7,rfl⟩:=q3.shape;simp only[go_sem];refine lA ?_;simp only[go_sem];refine Sem.loop (fun s:Nat×qD×AV×Nat×Bool×List qC=>s.1<=f/\(s.2.2.2.2.1=false->mJ toks (.appL s.2.1) s.2.2.2.1<=s.1)/\(∀y c bad',SPr (gd s.2.2.2.2.1 s.2.2.2.1 (pM toks s.1 (.appL s.2.1) s.2.2.2.1)) y c bad'->SPr (gd bad a (pM toks (f+1) .app a)) y c bad')/\(a<=s.2.2.2.1/\s.2.2.2.1<=toks.length)/\(∃cs,s.2.2.1=.agg cs/\cs.length=8)/\PS h id (prS toks s.2.2.2.1 s.2.2.2.2.1) s.2.2.2.2.2/\Ow h.length s.2.2.2.2.2.length s.2.2.2.2.2 s.2.2.1 s.2.1.enc)
  (fun s=>(⟨[(0,.ptr id 0 0)],[(2,.agg [.int .i64 0,.int .i64 0,.str [],.int .i64 0,.str [],.nils,.nils,.nils]),(3,s.2.2.1)],s.2.2.2.2.2⟩:VSt)) (fun s=>2*(toks.length-s.2.2.2.1)+(if s.2.2.2.2.1 then 0 else 1)) (f,t,.agg [a0,a1,a2,a3,a4,a5,a6,a7],b,bad1,h1) (by kernel_rfl) ?_ cS ?_
 ·exact⟨nLr _,fun hb=>by have:=qXC K ha q1 hb;unfold mJ at hf|-;simp only[Jb.rk]at hf|-;omega,fun y c bad' q=>q1.bind q,⟨l1,l2⟩,⟨_,rfl,rfl⟩,q2,q3⟩
 clear q1 l1 l2 q2 q3 hl1;rintro⟨f',t,v,b,bad2,g⟩ ⟨i1,i2,i3,⟨l1,l2⟩,⟨cs,rfl,hcs⟩,i5,i6⟩;simp only at i1 i2 i3 l1 l2 hcs i5 i6;obtain⟨a0,a1,a2,a3,a4,a5,a6,a7,hv⟩:=i6.shape;rw[hv]at i6|-;simp only[go_sem];refine qe rfl (qgH K i5.at') ?_;simp only[go_sem];cases h0:(!bad2&&bgP toks b)
 ·simp only[go_sem];refine lA ?_;simp only[go_sem];refine⟨t,b,bad2,i3 _ _ _ ?_,l1,l2,i5,i6⟩;cases bad2
  ·obtain⟨f2,rfl⟩:∃f2,f'=f2+1:=⟨f'-1,by have i2:=i2 rfl;unfold mJ at i2;simp only[Jb.rk]at i2;omega⟩;have h0:bgP toks b=false:=h0;simp only[pM,h0,bFt,if_false];exact SPr.ret
  ·exact SPr.bd
 ·rw[bAt]at h0;obtain⟨hb2,h0⟩:=h0;have hb2:bad2=false:=by simpa using hb2
  subst hb2;have i2:=i2 rfl;obtain⟨f2,rfl⟩:∃f2,f'=f2+1:=⟨f'-1,by unfold mJ at i2;simp only[Jb.rk]at i2;omega⟩;simp only[go_sem];have hl5:=i5.len;refine qO (((H f2 (by omega)).pre b false _ (wB (j:=.appL t) i2 (show 1<2 by decide)) l2 i5.at').mono ?_);rintro v h3 ⟨u,c,bad3,r1,m1,m2,r2,r3⟩;have hl3:=r2.len;have q4:=i6.ps (nLr _) hid r2;obtain⟨b0,b1,b2,b3,b4,b5,b6,b7,rfl⟩:=r3.shape;simp only[go_sem];rw[show zH _ 8 _ _=some [.agg [a0,a1,a2,a3,a4,a5,a6,a7],.agg [b0,b1,b2,b3,b4,b5,b6,b7]]from rfl];simp only[go_sem];refine lA ?_;simp only[go_sem];have i6':=JG (ts:=[t,u]) (k:=5) (n:=0) (s:=[]) (q4.one.snoc r3 (by omega) (by omega)) (nLr _) (by omega) rfl;have hst:bad3=false->b+1<=c:=fun hb=>qXC K l2 r1 hb;refine qW (f2,_,_,c,bad3,_) ⟨by simp only;omega,fun hb=>by have:=hst hb;simp only;unfold mJ at i2|-;simp only[Jb.rk]at i2|-;omega,fun y d bad' q=>i3 _ _ _ ?_,⟨by simp only;omega,m2⟩,⟨_,rfl,rfl⟩,(i5.trans r2).push,i6'.mono (nLr _) (by simp)⟩ (by cases bad3<;>simp<;>first | omega | (have:=hst rfl;omega)) cS;simp only[pM,h0,if_true];exact r1.bind q
end
section
variable {h:List qC} {id a b c f:Nat} {toks:List qK} {bad bad' bad0:Bool}
theorem SPr.nb{α:Type}{r:Except Nat (α×Nat)}{x:α}(s:SPr (gd bad0 a r) x b false):bad0=false:=by
 cases bad0
 ·rfl
 ·exact absurd s.2 (by decide)
theorem qYY{k:Int}{x:Str}(s:SPr (gd bad0 a (zR toks k a)) x b false):b=a+1/\bad0=false/\zR toks k a=.ok (x,a+1):=by
 have:=s.nb;subst this;rw[qq]at s;cases hr:zR toks k a with
 | error d=>rw[hr]at s;exact absurd s.2 (by decide)
 | ok y=>rw[hr]at s;obtain⟨rfl,rfl,_⟩:=s;have:=(js hr).2.2.1;exact⟨this,rfl,by rw[<-this]⟩
theorem Wq{s:Str}{u:Unit}(q:SPr (gd bad0 a (qT toks s a)) u b false):b=a+1/\bad0=false/\isP toks a s=true:=by
 have:=q.nb;subst this;rw[qq]at q;cases hr:qT toks s a with
 | error d=>rw[hr]at q;exact absurd q.2 (by decide)
 | ok y=>rw[hr]at q;obtain⟨_,rfl,_⟩:=q;have:=je hr;exact⟨this.2.1,rfl,this.2.2.2⟩
theorem jV{s:Str}(K:qx toks)(hs:s.all zE=false\/zi s=true)(ha:a<=toks.length)(ho:h[id]?=some (prS toks a bad)):SCall Gm 872 [.ptr id 0 0,.str s] h fun _ h'=>∃b bad',SPr (gd bad a (qT toks s a)) () b bad'/\a<=b/\b<=toks.length/\PS h id (prS toks b bad') h':=
 (t872 K hs ha ho).mono fun _ _ ⟨b,bad',q1,q2,q3,q4⟩=>⟨b,bad',q1,q2,q3,q4▸PS.set ho⟩
theorem Jc{k:Int}(K:qx toks)(ha:a<=toks.length)(ho:h[id]?=some (prS toks a bad)):SCall Gm 871 [.ptr id 0 0,.int .i64 k] h fun v h'=>∃x b bad',SPr (gd bad a (zR toks k a)) x b bad'/\a<=b/\b<=toks.length/\v=.str x/\PS h id (prS toks b bad') h':=
 (t871 K ha ho).mono fun _ _ ⟨x,b,bad',q1,q2,q3,q4,q5,_⟩=>⟨x,b,bad',q1,q2,q3,q4,q5▸PS.set ho⟩
theorem wP{s:Str}(K:qx toks)(hs:s.all zE=false\/zi s=true)(ho:h[id]?=some (prS toks a bad)):SCall Gm 737 [.ptr id 0 0,.str s] h fun v h'=>(bad=false/\isP toks a s=true/\v=.bool true/\PS h id (prS toks (a+1) false) h')\/((!bad&&isP toks a s)=false/\v=.bool false/\h=h'):=
 (t737 K hs ho).mono fun _ _ q=>q.elim (fun⟨q1,q2,q3,q4⟩=>.inl ⟨q1,q2,q3,q4▸PS.set ho⟩) fun⟨q1,q2,q3⟩=>.inr ⟨q1,q2,q3.symm⟩
theorem qYC{neg:Bool}{m:Int}(K:qx toks)(hm:m=if neg then 2147483648 else 2147483647)(ha:a<=toks.length)(ho:h[id]?=some (prS toks a bad)):SCall Gm 1551 [.ptr id 0 0,.int .i64 m] h fun v h'=>∃n b bad',(0<=n/\n<=2147483648)/\SPr (gd bad a (jN toks neg a)) (tmk 2 (if neg then-n else n) [] []) b bad'/\a<=b/\b<=toks.length/\v=.int .i64 n/\PS h id (prS toks b bad') h':=
 hm▸(qgI K ha ho).mono fun _ _ ⟨n,b,bad',q0,q1,q2,q3,q4,q5⟩=>⟨n,b,bad',q0,q1,q2,q3,q4,q5▸PS.set ho⟩
theorem qZK(K:qx toks)(ho:h[id]?=some (prS toks a true)):SCall Gm 736 [.ptr id 0 0] h fun v h'=>v=.agg [.int .i64 2,.str [],.nils]/\PS h id (prS toks a true) h'/\h'.length=h.length:=by
 refine sI WK ?_;simp only[WK,qH,go_sem];refine qe rfl (QZ ho K.l) ?_;rw[Wf];simp only[bFt,if_false,go_sem];refine qe rfl (QZ ho K.l) ?_;rw[Wf];simp only[bFt,if_false,go_sem];refine qO ((n871 ho K.l).mono ?_);rintro v h1 hv;rw[qc9]at hv;simp only[bFt,if_false]at hv;obtain⟨rfl,rfl⟩:=hv;simp only[show decide (([]:Str)=[73,110,116])=false from rfl,go_sem];refine qe rfl n329 ?_;simp only[go_sem];refine lA ?_;simp only[go_sem];exact⟨trivial,PS.set ho,by simp⟩
theorem Yf(K:qx toks)(ha:a<=toks.length)(ho:h[id]?=some (prS toks a bad)):SCall Gm 359 [.ptr id 0 0] h fun v h'=>∃t b bad',SPr (gd bad a (pT toks (zr toks false a) false a)) t b bad'/\a<=b/\b<=toks.length/\PS h id (prS toks b bad') h'/\Ow h.length h'.length h' v t.enc:=by
 cases bad with
 | false=>
  refine(qfS K.l K.w (zr toks false a) false a h (nLr _) ha ho).mono ?_;rintro v h' ⟨t,b,bad',S,q1,q2,q3,q4⟩;have hb:a<=b/\b<=toks.length:=by
   cases hr:pT toks (zr toks false a) false a with
   | ok x=>rw[hr]at q1;obtain⟨_,rfl,_⟩:=q1;have:=jY _ _ _ hr;omega
   | error d=>rw[hr]at q1;obtain⟨rfl,_⟩:=q1;exact qeW _ _ ha hr
  refine⟨t,b,bad', ?_,hb.1,hb.2,q2,Ow.of S q3 q4⟩;rw[qq];generalize pT toks (zr toks false a) false a=r at q1
  match r,q1 with
  |.ok (t',b'),q1=>exact q1
  |.error b',q1=>exact q1
 | true=>
  refine sI WH ?_;simp only[WH,qH,go_sem];refine qO ((qZK K ho).mono ?_);rintro v h1 ⟨rfl,q1,q2⟩;simp only[go_sem];refine lA ?_;simp only[go_sem];refine qe rfl (QZ q1.at' K.l) ?_;rw[Wf];simp only[bFt,if_false,go_sem];refine lA ?_;simp only[go_sem];refine⟨Ju [],a,true,SPr.bd,nLr _,ha,q1,Ow.of [none] Z2 fun j hj=>by simp at hj⟩
theorem Ye(K:qx toks)(H:CS toks id 509 f .term)(hf:bad=false->mJ toks .term a<=f)(ha:a<=toks.length)(ho:h[id]?=some (prS toks a bad)):SCall Gm 1333 [.ptr id 0 0] h (fun v h'=>RS toks id h (gd bad a (pM toks f .term a)) a v h'):=by
 refine sI Vq ?_;have ho':=ho;unfold prS at ho';simp only[Vq,qH,go_sem,ho',oMs];cases bad with
 | true=>
  simp only[go_sem];refine lA ?_;simp only[go_sem];exact⟨qhF,a,true,SPr.bd,nLr _,ha,PS.refl ho,Qc (nLr _)⟩
 | false=>
  simp only[go_sem];refine qO ((H a false h (hf rfl) ha ho).mono ?_);rintro v h1 ⟨t,b,bad1,q1,l1,l2,q2,q3⟩;obtain⟨a0,a1,a2,a3,a4,a5,a6,a7,rfl⟩:=q3.shape;simp only[go_sem];refine lA ?_;simp only[go_sem];exact⟨t,b,bad1,q1,l1,l2,q2,q3⟩
end
section
variable {h:List qC} {id a b f:Nat} {toks:List qK} {bad:Bool}
theorem qfR(K:qx toks)(H:∀f',f'<=f->JJ toks id f'):CS toks id 509 (f+1) .term:=by
 intro a bad h hf ha ho;have hid:=zA ho;have HT:=(H f (nLr _)).term;have q0:=PS.refl ho;refine sI Um ?_;simp only[Um,qH,go_sem];refine qO ((wP (s:=[92]) K (.inl rfl) ho).mono ?_);rintro v0 h0 (⟨rfl,hb,rfl,r0⟩ | ⟨hb,rfl,rfl⟩)
 case inl=>
  have hlt:=qa hb;have hl0:=r0.len;simp only[go_sem];refine qO ((Jc (k:=1) K hlt r0.at').mono ?_);rintro w1 g1 ⟨x1,b1,bad1,s1,m1,l1,rfl,r1⟩;simp only[go_sem];have hl1:=r1.len;have q1:=r0.trans r1;refine lA ?_;simp only[go_sem];refine qO ((jV (s:=[58]) K (.inl rfl) l1 q1.at').mono ?_);rintro w2 g2 ⟨b2,bad2,s2,m2,l2,r2⟩;simp only[go_sem];have hl2:=r2.len;have q2:=q1.trans r2;refine qO ((Yf K l2 q2.at').mono ?_);rintro w3 g3 ⟨t3,b3,bad3,s3,m3,l3,r3,o3⟩;obtain⟨v3,rfl,p3⟩:=o3.shapeT;simp only[go_sem];have hl3:=r3.len;have q3:=q2.trans r3;refine Q9 (c':=.agg [.int .i64 4,.int .i64 0,.str x1,.int .i64 t3.Kind,.str t3.Name,v3,.nils,.nils]) rfl rfl ?_;simp only[go_sem];refine qO ((jV (s:=[46]) K (.inl rfl) l3 q3.at').mono ?_);rintro w4 g4 ⟨b4,bad4,s4,m4,l4,r4⟩;simp only[go_sem];have hl4:=r4.len;replace p3:=p3.ps (by omega) (by omega) r4;have q4:=q3.trans r4;refine qO ((HT b4 bad4 _ (zx hf (by omega) l4) l4 q4.at').mono ?_);rintro w5 g5 ⟨t5,b5,bad5,s5,m5,l5,r5,o5⟩;obtain⟨a0,a1,a2,a3,a4,a5,a6,a7,rfl⟩:=o5.shape;simp only[go_sem];have hl5:=r5.len;replace p3:=p3.ps (by omega) (by omega) r5;have q5:=q4.trans r5;refine qy (v:=.agg [a0,a1,a2,a3,a4,a5,a6,a7]) rfl rfl ?_;simp only[go_sem];refine lA ?_;simp only[go_sem];refine⟨.mk 4 0 x1 t3 [] [t5],b5,bad5, ?_,by omega,l5,q5.push, ?_⟩
  ·rw[qq];simp only[pM,hb,if_true];rw[<-qq (a:=a+1) (r:=exB _ _)];exact s1.bind (s2.bind (s3.bind (s4.bind (s5.bind (SPr.ret)))))
  have x7:=(JW (w:=8) (B:=g4.length) (k:=g5.length) (o5.push (o:=.row 8 [.agg [a0,a1,a2,a3,a4,a5,a6,a7]] true) (nLr _)) (by simp) (nLr _) (by omega)).ow;rw[zN];exact(Z1 (ns:=[]) (ks:=[t5]) (m1:=g3.length) (m2:=g4.length) (p3.push (by omega)) Ow.nils x7 (by omega) (by omega) (by omega)).mono (by omega) (nLr _)
 simp only[go_sem];refine qO ((wP (s:=[108,101,116]) K (.inr rfl) ho).mono ?_);rintro v0 h0 (⟨rfl,hc,rfl,r0⟩ | ⟨hc,rfl,rfl⟩)
 case inl=>
  have hb:isP toks a [92]=false:=hb;have hlt:=qa hc;have hl0:=r0.len;simp only[go_sem];refine qO ((Jc (k:=1) K hlt r0.at').mono ?_);rintro w1 g1 ⟨x1,b1,bad1,s1,m1,l1,rfl,r1⟩;simp only[go_sem];have hl1:=r1.len;have q1:=r0.trans r1;refine lA ?_;simp only[go_sem];refine qO ((jV (s:=[61]) K (.inl rfl) l1 q1.at').mono ?_);rintro w2 g2 ⟨b2,bad2,s2,m2,l2,r2⟩;simp only[go_sem];have hl2:=r2.len;have q2:=q1.trans r2;refine qO ((HT b2 bad2 _ (zx hf (by omega) l2) l2 q2.at').mono ?_);rintro w3 g3 ⟨t3,b3,bad3,s3,m3,l3,r3,o3⟩;obtain⟨a0,a1,a2,a3,a4,a5,a6,a7,rfl⟩:=o3.shape;simp only[go_sem];have hl3:=r3.len;have q3:=q2.trans r3;have k0:KL h.length g2.length g3 .nils 8 ([]:List AV):=KL.nil;refine qy (v:=.agg [a0,a1,a2,a3,a4,a5,a6,a7]) rfl rfl ?_;simp only[go_sem];refine jF ((k0.mono (u2:=g2.length) (by omega)).push (by omega)) (o3.push (o:=.row 8 [.agg [a0,a1,a2,a3,a4,a5,a6,a7]] true) (nLr _)) (by simp) (by omega) (by omega) (by simp) (by simp) ?_;intro kk4 nn4 g4 k4 y4 z4;rw[zN]at z4;simp only[go_sem];have q4:PS h id (prS toks b3 bad3) g4:=⟨(y4 id hid).trans (by rw[gAl (zA q3.at')];exact q3.at'),by omega,fun j hj hl=>by
   rw[y4 j hl,gAl (by omega)];exact q3.old j hj hl⟩
  refine qO ((jV (s:=[105,110]) K (.inr rfl) l3 q4.at').mono ?_);rintro w5 g5 ⟨b5,bad5,s5,m5,l5,r5⟩;simp only[go_sem];have hl5:=r5.len;replace k4:=k4.ps (by omega) (by omega) r5;have q5:=q4.trans r5;refine qO ((HT b5 bad5 _ (zx hf (by omega) l5) l5 q5.at').mono ?_);rintro w6 g6 ⟨t6,b6,bad6,s6,m6,l6,r6,o6⟩;obtain⟨a0,a1,a2,a3,a4,a5,a6,a7,rfl⟩:=o6.shape;simp only[go_sem];have hl6:=r6.len;replace k4:=k4.ps (by omega) (by omega) r6;have q6:=q5.trans r6;refine qy (v:=.agg [a0,a1,a2,a3,a4,a5,a6,a7]) rfl rfl ?_;simp only[go_sem];refine jF ((k4.mono (u2:=g5.length) (by omega)).push (by omega)) (o6.push (o:=.row 8 [.agg [a0,a1,a2,a3,a4,a5,a6,a7]] true) (nLr _)) (by simp) (by omega) (by omega) (by simp) (by simp) ?_;intro kk7 nn7 g7 k7 y7 z7;rw[zN]at z7;simp only[go_sem];have q7:PS h id (prS toks b6 bad6) g7:=⟨(y7 id hid).trans (by rw[gAl (zA q6.at')];exact q6.at'),by omega,fun j hj hl=>by
   rw[y7 j hl,gAl (by omega)];exact q6.old j hj hl⟩
  refine lA ?_;simp only[go_sem];refine⟨tmk 7 0 x1 [t3,t6],b6,bad6, ?_,by omega,l6,q7, ?_⟩
  ·rw[qq];simp only[pM,hb,hc,bFt,if_false,if_true];rw[<-qq (a:=a+1) (r:=exB _ _)];exact s1.bind (s2.bind (s3.bind (s5.bind (s6.bind (SPr.ret)))))
  exact Qd k7.ow (by omega)
 simp only[go_sem];refine qO ((wP (s:=[105,102]) K (.inr rfl) ho).mono ?_);rintro v0 h0 (⟨rfl,hd,rfl,r0⟩ | ⟨hd,rfl,rfl⟩)
 case inl=>
  have hb:isP toks a [92]=false:=hb;have hc:isP toks a [108,101,116]=false:=hc;have hlt:=qa hd;have hl0:=r0.len;simp only[go_sem];refine lA ?_;simp only[go_sem];refine qO ((HT (a+1) false _ (zx hf (by omega) hlt) hlt r0.at').mono ?_);rintro w1 g1 ⟨t1,b1,bad1,s1,m1,l1,r1,o1⟩;obtain⟨a0,a1,a2,a3,a4,a5,a6,a7,rfl⟩:=o1.shape;simp only[go_sem];have hl1:=r1.len;have q1:=r0.trans r1;have k0:KL h.length h0.length g1 .nils 8 ([]:List AV):=KL.nil;refine qy (v:=.agg [a0,a1,a2,a3,a4,a5,a6,a7]) rfl rfl ?_;simp only[go_sem];refine jF ((k0.mono (u2:=h0.length) (by omega)).push (by omega)) (o1.push (o:=.row 8 [.agg [a0,a1,a2,a3,a4,a5,a6,a7]] true) (nLr _)) (by simp) (by omega) (by omega) (by simp) (by simp) ?_;intro kk2 nn2 g2 k2 y2 z2;rw[zN]at z2;simp only[go_sem];have q2:PS h id (prS toks b1 bad1) g2:=⟨(y2 id hid).trans (by rw[gAl (zA q1.at')];exact q1.at'),by omega,fun j hj hl=>by
   rw[y2 j hl,gAl (by omega)];exact q1.old j hj hl⟩
  refine qO ((jV (s:=[116,104,101,110]) K (.inr rfl) l1 q2.at').mono ?_);rintro w3 g3 ⟨b3,bad3,s3,m3,l3,r3⟩;simp only[go_sem];have hl3:=r3.len;replace k2:=k2.ps (by omega) (by omega) r3;have q3:=q2.trans r3;refine qO ((HT b3 bad3 _ (zx hf (by omega) l3) l3 q3.at').mono ?_);rintro w4 g4 ⟨t4,b4,bad4,s4,m4,l4,r4,o4⟩;obtain⟨a0,a1,a2,a3,a4,a5,a6,a7,rfl⟩:=o4.shape;simp only[go_sem];have hl4:=r4.len;replace k2:=k2.ps (by omega) (by omega) r4;have q4:=q3.trans r4;refine qy (v:=.agg [a0,a1,a2,a3,a4,a5,a6,a7]) rfl rfl ?_;simp only[go_sem];refine jF ((k2.mono (u2:=g3.length) (by omega)).push (by omega)) (o4.push (o:=.row 8 [.agg [a0,a1,a2,a3,a4,a5,a6,a7]] true) (nLr _)) (by simp) (by omega) (by omega) (by simp) (by simp) ?_;intro kk5 nn5 g5 k5 y5 z5;rw[zN]at z5;simp only[go_sem];have q5:PS h id (prS toks b4 bad4) g5:=⟨(y5 id hid).trans (by rw[gAl (zA q4.at')];exact q4.at'),by omega,fun j hj hl=>by
   rw[y5 j hl,gAl (by omega)];exact q4.old j hj hl⟩
  refine qO ((jV (s:=[101,108,115,101]) K (.inr rfl) l4 q5.at').mono ?_);rintro w6 g6 ⟨b6,bad6,s6,m6,l6,r6⟩;simp only[go_sem];have hl6:=r6.len;replace k5:=k5.ps (by omega) (by omega) r6;have q6:=q5.trans r6;refine qO ((HT b6 bad6 _ (zx hf (by omega) l6) l6 q6.at').mono ?_);rintro w7 g7 ⟨t7,b7,bad7,s7,m7,l7,r7,o7⟩;obtain⟨a0,a1,a2,a3,a4,a5,a6,a7,rfl⟩:=o7.shape;simp only[go_sem];have hl7:=r7.len;replace k5:=k5.ps (by omega) (by omega) r7;have q7:=q6.trans r7;refine qy (v:=.agg [a0,a1,a2,a3,a4,a5,a6,a7]) rfl rfl ?_;simp only[go_sem];refine jF ((k5.mono (u2:=g6.length) (by omega)).push (by omega)) (o7.push (o:=.row 8 [.agg [a0,a1,a2,a3,a4,a5,a6,a7]] true) (nLr _)) (by simp) (by omega) (by omega) (by simp) (by simp) ?_;intro kk8 nn8 g8 k8 y8 z8;rw[zN]at z8;simp only[go_sem];have q8:PS h id (prS toks b7 bad7) g8:=⟨(y8 id hid).trans (by rw[gAl (zA q7.at')];exact q7.at'),by omega,fun j hj hl=>by
   rw[y8 j hl,gAl (by omega)];exact q7.old j hj hl⟩
  refine lA ?_;simp only[go_sem];refine⟨tmk 11 0 [] [t1,t4,t7],b7,bad7, ?_,by omega,l7,q8, ?_⟩
  ·rw[qq];simp only[pM,hb,hc,hd,bFt,if_false,if_true];rw[<-qq (a:=a+1) (r:=exB _ _)];exact s1.bind (s3.bind (s4.bind (s6.bind (s7.bind (SPr.ret)))))
  exact Qd k8.ow (by omega)
 simp only[go_sem];refine qO (((H f (nLr _)).cmp a bad _ (wB hf (by decide)) ha ho).mono ?_);rintro v h1 ⟨t,b,bad1,q1,l1,l2,q2,q3⟩;obtain⟨a0,a1,a2,a3,a4,a5,a6,a7,rfl⟩:=q3.shape;simp only[go_sem];refine lA ?_;simp only[go_sem];refine⟨t,b,bad1, ?_,l1,l2,q2,q3⟩;cases bad
 ·have hb:isP toks a [92]=false:=hb;have hc:isP toks a [108,101,116]=false:=hc;have hd:isP toks a [105,102]=false:=hd;simp only[pM,hb,hc,hd,bFt,if_false];exact q1
 ·exact q1
end
section
variable {h:List qC} {id a b f:Nat} {toks:List qK} {bad:Bool}
theorem kf{k:Int}{s:Str}(h:kdS toks a false k=true)(h5:k≠5)(h3:k≠3):isP toks a s=false:=by
 obtain⟨hlt,_,hk⟩:=QR h;unfold isP;rw[gEg hlt];simp[hk,h5,h3]
theorem ki{k:Int}(h:kdS toks a false k=true):∃s,zR toks k a=.ok (s,a+1)/\∃t,toks[a]?=some t/\t.Kind=k/\t.Text=s:=by
 obtain⟨hlt,_,hk⟩:=QR h;refine⟨toks[a].Text, ?_,toks[a],gEg hlt,hk,rfl⟩;unfold zR;rw[gEg hlt];simp[hk]
theorem qfK(K:qx toks)(H:∀f',f'<=f->JJ toks id f'):CS toks id 1559 (f+1) .bran:=by
 intro a bad h hf ha ho;have hid:=zA ho;refine sI UO ?_;simp only[UO,qH,go_sem];refine qO ((Jc (k:=2) K ha (PS.refl ho).at').mono ?_);rintro w1 g1 ⟨x1,b1,bad1,s1,m1,l1,rfl,r1⟩;simp only[go_sem];have hl1:=r1.len;have q1:=(PS.refl ho).trans r1;refine lA ?_;simp only[go_sem];have tail:∀(g:List qC)(d:Nat)(bd2:Bool)(ns:List Str)(v6:AV),a<=d->d<=toks.length->(bd2=false->a+1<=d)->PS h id (prS toks d bd2) g->KL h.length g.length g v6 1 (ns.map qR)->(∀y c bad',SPr (gd bd2 d (exB (qT toks [45,62] d) fun _ b=>exB (pM toks f .term b) fun t b=>.ok (.mk 10 0 x1 noT ns [t],b))) y c bad'->SPr (gd bad a (pM toks (f+1) .bran a)) y c bad')->True:=fun _ _ _ _ _ _ _ _ _ _ _=>trivial;clear tail;refine qO ((wP (s:=[91]) K (.inl rfl) q1.at').mono ?_);rintro v0 h0 (⟨rfl,hb,rfl,r0⟩ | ⟨hb,rfl,rfl⟩)
 case inr=>
  have e1:∀y c bad',SPr (gd bad1 b1 (exB (qT toks [45,62] b1) fun _ b=>exB (pM toks f .term b) fun t b=>.ok (.mk 10 0 x1 noT [] [t],b))) y c bad'->SPr (gd bad a (pM toks (f+1) .bran a)) y c bad':=fun y c bad' q=>by
   simp only[pM];refine s1.bind ?_;cases bad1
   ·have hb:isP toks b1 [91]=false:=hb;simp only[wg,hb,bFt,if_false,qg];exact q
   ·exact q
  have hs1:bad1=false->a+1<=b1:=by rintro rfl;have:=qYY s1;omega
  have k1:KL h.length g1.length g1 .nils 1 (([]:List Str).map qR):=KL.nil;simp only[go_sem];refine qO ((jV (s:=[45,62]) K (.inl rfl) l1 q1.at').mono ?_);rintro w21 g21 ⟨b21,bad21,s21,m21,l21,r21⟩;simp only[go_sem];have hl21:=r21.len;replace k1:=k1.ps (by omega) (by omega) r21;have q21:=q1.trans r21;refine qO ((Ye K (H f (nLr _)).term (by rintro rfl;have:=Wq s21;have:=hs1 (by first | rfl | exact(Wq s21).2.1);unfold mJ at hf|-;simp only[Jb.rk]at hf|-;omega) l21 q21.at').mono ?_);rintro w22 g22 ⟨t22,b22,bad22,s22,m22,l22,r22,o22⟩;obtain⟨a0,a1,a2,a3,a4,a5,a6,a7,rfl⟩:=o22.shape;simp only[go_sem];have hl22:=r22.len;replace k1:=k1.ps (by omega) (by omega) r22;have q22:=q21.trans r22;refine qy (v:=.agg [a0,a1,a2,a3,a4,a5,a6,a7]) rfl rfl ?_;simp only[go_sem];refine lA ?_;simp only[go_sem];refine⟨.mk 10 0 x1 noT [] [t22],b22,bad22,e1 _ _ _ (s21.bind (s22.bind (SPr.ret))),by omega,l22,q22.push, ?_⟩;have x7:=(JW (w:=8) (B:=g21.length) (k:=g22.length) (o22.push (o:=.row 8 [.agg [a0,a1,a2,a3,a4,a5,a6,a7]] true) (nLr _)) (by simp) (nLr _) (by omega)).ow;rw[zN];exact Z1 (T:=noT) (ks:=[t22]) (m1:=h.length) (m2:=g21.length) (b:=h.length) Ow.nils ((k1.mono (u2:=g21.length) (by omega)).push (by omega)).ow x7 (nLr _) (by omega) (by omega)
 have hlt:=qa hb;have hl0:=r0.len;obtain⟨rfl,rfl,hw⟩:=qYY s1;have q0:=q1.trans r0;simp only[go_sem];refine qO ((Jc (k:=1) K hlt q0.at').mono ?_);rintro w2 g2 ⟨x2,b2,bad2,s2,m2,l2,rfl,r2⟩;simp only[go_sem];have hl2:=r2.len;have q2:=q0.trans r2;have k0:KL h.length g2.length g2 .nils 1 (([]:List Str).map qR):=KL.nil;have e0:∀y c bad',SPr (gd bad2 b2 (if isP toks b2 [44]then wC toks (toks.length-(a+1)-1) [x2] (b2+1)else exB (qT toks [93] b2) fun _ b=>.ok ([x2],b))) y c bad'->SPr (gd false (a+1) (wg toks (a+1))) y c bad':=fun y c bad' q=>by
  obtain⟨n,hn⟩:∃n,toks.length-(a+1)=n+1:=⟨toks.length-(a+1)-1,by omega⟩;simp only[wg,hb,if_true,hn,wC,lNa];rw[hn]at q;rw[qq,<-qq (a:=a+1+1) (r:=exB _ _)];exact s2.bind q
 refine qy (v:=.str x2) rfl rfl ?_;simp only[go_sem];refine jF (t:=qR x2) (k0.push (by simp)) qAX (by simp) (by omega) (nLr _) (by simp) (by simp) ?_;intro kk3 nn3 g3 k3 y3 z3;rw[zN]at z3;simp only[go_sem];have q3:PS h id (prS toks b2 bad2) g3:=⟨(y3 id hid).trans (by rw[gAl (zA q2.at')];exact q2.at'),by omega,fun j hj hl=>by
  rw[y3 j hl,gAl (by omega)];exact q2.old j hj hl⟩
 refine Sem.loop (fun z:Nat×List Str×AV×Nat×Bool×List qC=>(∀y c bad',SPr (gd z.2.2.2.2.1 z.2.2.2.1 (if isP toks z.2.2.2.1 [44]then wC toks z.1 z.2.1 (z.2.2.2.1+1)else exB (qT toks [93] z.2.2.2.1) fun _ b=>.ok (z.2.1,b))) y c bad'->SPr (gd false (a+1) (wg toks (a+1))) y c bad')/\toks.length<=z.1+z.2.2.2.1/\PS h id (prS toks z.2.2.2.1 z.2.2.2.2.1) z.2.2.2.2.2/\KL h.length z.2.2.2.2.2.length z.2.2.2.2.2 z.2.2.1 1 (z.2.1.map qR)/\z.2.1.length<=z.2.2.2.1/\z.2.2.2.1<=toks.length/\a+1<=z.2.2.2.1/\∃kk nn,z.2.2.1=.slice 1 kk 0 nn false)
  (fun z=>(⟨[(0,.ptr id 0 0)],[(2,.agg [.int .i64 0,.int .i64 0,.str [],.int .i64 0,.str [],.nils,.nils,.nils]),(3,.agg [.int .i64 10,.int .i64 0,.str x1,.int .i64 0,.str [],.nils,z.2.2.1,.nils])],z.2.2.2.2.2⟩:VSt)) (fun z=>toks.length-z.2.2.2.1) (toks.length-(a+1)-1,[x2],.slice 1 kk3 0 nn3 false,b2,bad2,g3) (by kernel_rfl) ⟨e0,by simp only;omega,q3,by simpa using k3,by simp;omega,l2,by simp only;omega,_,_,rfl⟩ cS ?_
 clear e0 k3 y3 z3 q3 k0 q2 r2 s2 m2 l2 q0 r0 hl2 hl0;rintro⟨n,ns,w6,d,bd,g⟩ ⟨i1,i2,i3,i4,i5,i6,i7,kk,nn,rfl⟩;simp only at i1 i2 i3 i4 i5 i6 i7;simp only[go_sem];have hl3:=i3.len;refine qO ((wP (s:=[44]) K (.inl rfl) i3.at').mono ?_);rintro v0 h4 (⟨rfl,hc,rfl,r0⟩ | ⟨hc,rfl,rfl⟩)
 case inl=>
  have hlt:=qa hc;have hl0:=r0.len;simp only[go_sem];rw[hc,if_pos rfl,qq]at i1;obtain⟨n,rfl⟩:∃m,n=m+1:=⟨n-1,by omega⟩;have q0:=i3.trans r0;have i4:=i4.ps (nLr _) (by omega) r0;refine qO ((Jc (k:=1) K hlt q0.at').mono ?_);rintro w2 g2 ⟨x2,b2,bad2,s2,m2,l2,rfl,r2⟩;have hl2:=r2.len;simp only[go_sem];have i4:=i4.ps hl0 (by omega) r2;have q2:=q0.trans r2;refine qy (v:=.str x2) rfl rfl ?_;simp only[go_sem];refine jF (t:=qR x2) ((i4.mono (u2:=g2.length) (by omega)).push (nLr _)) qAX (by simp) (by omega) (nLr _) (by simp) (by rw[lMp];have:=K.l;omega) ?_;intro kk3 nn3 g3 k3 y3 z3;rw[zN]at z3;simp only[go_sem];have q3:PS h id (prS toks b2 bad2) g3:=⟨(y3 id hid).trans (by rw[gAl (zA q2.at')];exact q2.at'),by omega,fun j hj hl=>by
   rw[y3 j hl,gAl (by omega)];exact q2.old j hj hl⟩
  refine qW (n,ns++[x2],.slice 1 kk3 0 nn3 false,b2,bad2,g3) ⟨fun y c bad' q=>i1 y c bad' ?_,by simp only;omega,q3,by simpa using k3,by simp;omega,l2,by simp only;omega,_,_,rfl⟩ (by simp only;omega) cS;simp only[wC];rw[<-qq (a:=d+1) (r:=exB _ _)];exact s2.bind q
 simp only[go_sem];refine qO ((jV (s:=[93]) K (.inl rfl) i6 i3.at').mono ?_);rintro w5 g5 ⟨b5,bad5,s5,m5,l5,r5⟩;simp only[go_sem];have hl5:=r5.len;have q5:=i3.trans r5;have k5:=i4.ps (nLr _) (by omega) r5;have e1:∀y c bad',SPr (gd bad5 b5 (exB (qT toks [45,62] b5) fun _ b=>exB (pM toks f .term b) fun t b=>.ok (.mk 10 0 x1 noT ns [t],b))) y c bad'->SPr (gd false a (pM toks (f+1) .bran a)) y c bad':=fun y c bad' q=>by
  simp only[pM];refine s1.bind ?_;have s6:SPr (gd false (a+1) (wg toks (a+1))) ns b5 bad5:=i1 _ _ _ (by
   cases bd
   ·have hc:isP toks d [44]=false:=hc;rw[hc,if_neg (by decide)];exact s5.bind SPr.ret
   ·have:=s5;obtain⟨rfl,rfl⟩:=this;exact SPr.bd)
  exact s6.bind q
 have hs1:bad5=false->a+1<=b5:=fun _=>by omega
 refine qO ((jV (s:=[45,62]) K (.inl rfl) l5 q5.at').mono ?_);rintro w21 g21 ⟨b21,bad21,s21,m21,l21,r21⟩;simp only[go_sem];have hl21:=r21.len;replace k5:=k5.ps (by omega) (by omega) r21;have q21:=q5.trans r21;refine qO ((Ye K (H f (nLr _)).term (by rintro rfl;have:=Wq s21;have:=hs1 (by first | rfl | exact(Wq s21).2.1);unfold mJ at hf|-;simp only[Jb.rk]at hf|-;omega) l21 q21.at').mono ?_);rintro w22 g22 ⟨t22,b22,bad22,s22,m22,l22,r22,o22⟩;obtain⟨a0,a1,a2,a3,a4,a5,a6,a7,rfl⟩:=o22.shape;simp only[go_sem];have hl22:=r22.len;replace k5:=k5.ps (by omega) (by omega) r22;have q22:=q21.trans r22;refine qy (v:=.agg [a0,a1,a2,a3,a4,a5,a6,a7]) rfl rfl ?_;simp only[go_sem];refine lA ?_;simp only[go_sem];refine⟨.mk 10 0 x1 noT ns [t22],b22,bad22,e1 _ _ _ (s21.bind (s22.bind (SPr.ret))),by omega,l22,q22.push, ?_⟩;have x7:=(JW (w:=8) (B:=g21.length) (k:=g22.length) (o22.push (o:=.row 8 [.agg [a0,a1,a2,a3,a4,a5,a6,a7]] true) (nLr _)) (by simp) (nLr _) (by omega)).ow;rw[zN];exact Z1 (T:=noT) (ks:=[t22]) (m1:=h.length) (m2:=g21.length) (b:=h.length) Ow.nils ((k5.mono (u2:=g21.length) (by omega)).push (by omega)).ow x7 (nLr _) (by omega) (by omega)
end
section
variable {h:List qC} {id a b f:Nat} {toks:List qK} {bad:Bool}
theorem qfM(K:qx toks)(H:∀f',f'<=f->JJ toks id f'):∀(a:Nat)(h:List qC)(s:Str),20*(toks.length-(a+1))+7<=f+1->zR toks 2 a=.ok (s,a+1)->h[id]?=some (prS toks a false)->SCall Gm 1550 [.ptr id 0 0] h (fun v h'=>RS toks id h (if isP toks (a+1) [91]then pM toks (f+1) (.con s []) (a+2)else .ok (tmk 8 0 s [],a+1)) a v h'):=by
 intro a h s hf hw ho;have hid:=zA ho;have ha:=(js hw).2.1;refine sI UH ?_;simp only[UH,qH,go_sem];refine qO ((Jc (k:=2) K (by omega) ho).mono ?_);rintro w1 g1 ⟨x1,b1,bad1,s1,m1,l1,rfl,q1⟩;rw[qq,hw]at s1;obtain⟨rfl,rfl,rfl⟩:=s1;have hl1:=q1.len;simp only[go_sem];refine lA ?_;simp only[go_sem];refine qO ((wP (s:=[91]) K (.inl rfl) q1.at').mono ?_);rintro v0 h0 (⟨_,hb,rfl,r0⟩ | ⟨hb,rfl,rfl⟩)
 case inr=>
  have hb:isP toks (a+1) [91]=false:=hb;simp only[go_sem];refine lA ?_;simp only[go_sem];refine⟨tmk 8 0 x1 [],a+1,false, ?_,by omega,l1,q1,Qc hl1⟩;rw[hb];exact⟨rfl,rfl,rfl⟩
 have hlt:=qa hb;have hl0:=r0.len;have q0:=q1.trans r0;simp only[go_sem];rw[hb,if_pos rfl];refine qO (((H f (nLr _)).term (a+1+1) false _ (by unfold mJ;simp only[Jb.rk];omega) hlt q0.at').mono ?_);rintro w2 g2 ⟨t2,b2,bad2,s2,m2,l2,r2,o2⟩;obtain⟨a0,a1,a2,a3,a4,a5,a6,a7,rfl⟩:=o2.shape;simp only[go_sem];have hl2:=r2.len;have q2:=q0.trans r2;have k0:KL h.length h0.length g2 .nils 8 ([]:List AV):=KL.nil;refine qy (v:=.agg [a0,a1,a2,a3,a4,a5,a6,a7]) rfl rfl ?_;simp only[go_sem];refine jF ((k0.mono (u2:=h0.length) (by omega)).push (by omega)) (o2.push (o:=.row 8 [.agg [a0,a1,a2,a3,a4,a5,a6,a7]] true) (nLr _)) (by simp) (by omega) (by omega) (by simp) (by simp) ?_;intro kk3 nn3 g3 k3 y3 z3;rw[zN]at z3;simp only[go_sem];have q3:PS h id (prS toks b2 bad2) g3:=⟨(y3 id hid).trans (by rw[gAl (zA q2.at')];exact q2.at'),by omega,fun j hj hl=>by
  rw[y3 j hl,gAl (by omega)];exact q2.old j hj hl⟩
 refine Sem.loop (fun s:Nat×List qD×AV×Nat×Bool×List qC=>s.1<=f/\(s.2.2.2.1<toks.length->s.2.2.2.2.1=false->20*(toks.length-(s.2.2.2.1+1))+7<=s.1)/\(∀y c bad',SPr (gd s.2.2.2.2.1 s.2.2.2.1 (if isP toks s.2.2.2.1 [44]then pM toks s.1 (.con x1 s.2.1) (s.2.2.2.1+1)else exB (qT toks [93] s.2.2.2.1) fun _ b=>.ok (tmk 8 0 x1 s.2.1,b))) y c bad'->SPr (pM toks (f+1) (.con x1 []) (a+1+1)) y c bad')/\a<=s.2.2.2.1/\s.2.2.2.1<=toks.length/\PS h id (prS toks s.2.2.2.1 s.2.2.2.2.1) s.2.2.2.2.2/\KL h.length s.2.2.2.2.2.length s.2.2.2.2.2 s.2.2.1 8 (s.2.1.map qD.enc)/\s.2.1.length<=s.2.2.2.1+1/\∃kk nn,s.2.2.1=.slice 8 kk 0 nn false)
  (fun s=>(⟨[(0,.ptr id 0 0)],[(2,.agg [.int .i64 0,.int .i64 0,.str [],.int .i64 0,.str [],.nils,.nils,.nils]),(3,.agg [.int .i64 8,.int .i64 0,.str x1,.int .i64 0,.str [],.nils,.nils,s.2.2.1])],s.2.2.2.2.2⟩:VSt)) (fun s=>toks.length-s.2.2.2.1) (f,[t2],.slice 8 kk3 0 nn3 false,b2,bad2,g3) (by kernel_rfl) ?_ cS ?_
 ·refine⟨nLr _,fun h1 h2=>by simp only at h1|-;omega,fun y c bad' q=> ?_,by simp only;omega,l2,q3,by simpa using k3,by simp,_,_,rfl⟩;simp only[pM,lNa];rw[<-qq (a:=a+1+1) (r:=exB _ _)];exact s2.bind q
 clear s2 k0 k3 y3 z3 q3 q2 r2 o2 l2 q0 r0 hl2 hl0;rintro⟨f',ks',w7,d,bd,g⟩ ⟨i1,i2,i3,i4,i5,i6,i7,i8,kk,nn,rfl⟩;simp only at i1 i2 i3 i4 i5 i6 i7 i8;simp only[go_sem];have hl6:=i6.len;refine qO ((wP (s:=[44]) K (.inl rfl) i6.at').mono ?_);rintro v0 h4 (⟨rfl,hc,rfl,r0⟩ | ⟨hc,rfl,rfl⟩)
 case inl=>
  have hlt:=qa hc;have hl0:=r0.len;have i2:=i2 hlt rfl;simp only[go_sem];rw[hc,if_pos rfl,qq]at i3;obtain⟨f3,rfl⟩:∃f3,f'=f3+1:=⟨f'-1,by omega⟩;have q0:=i6.trans r0;have i7:=i7.ps (nLr _) (by omega) r0;refine qO (((H f3 (by omega)).term (d+1) false _ (by unfold mJ;simp only[Jb.rk];omega) hlt q0.at').mono ?_);rintro v h3 ⟨u,c,bad3,s3,m3,l3,r3,o3⟩;have hl3:=r3.len;have i7:=i7.ps hl0 (by omega) r3;have q3:=q0.trans r3;obtain⟨a0,a1,a2,a3,a4,a5,a6,a7,rfl⟩:=o3.shape;simp only[go_sem];refine qy (v:=.agg [a0,a1,a2,a3,a4,a5,a6,a7]) rfl rfl ?_;simp only[go_sem];have hlk:(ks'.map qD.enc).length<4294967296:=by rw[lMp];have:=K.l;omega
  refine jF ((i7.mono (u2:=h4.length) hl0).push hl3) (o3.push (o:=.row 8 [.agg [a0,a1,a2,a3,a4,a5,a6,a7]] true) (nLr _)) (by simp) (by omega) (by omega) (by simp) hlk ?_;intro kk nn g5 k5 y5 z5;rw[zN]at z5;simp only[go_sem];have q5:PS h id (prS toks c bad3) g5:=⟨(y5 id hid).trans (by rw[gAl (zA q3.at')];exact q3.at'),by omega,fun j hj hl=>by
   rw[y5 j hl,gAl (by omega)];exact q3.old j hj hl⟩
  refine qW (f3,ks'++[u],.slice 8 kk 0 nn false,c,bad3,g5) ⟨by simp only;omega,fun h1 h2=>by simp only at h1|-;omega,fun y e bad' q=>i3 y e bad' ?_,by simp only;omega,l3,q5,by simpa using k5,by simp only[lAp,lCo,lNi];omega,_,_,rfl⟩ (by simp only;omega) cS;simp only[pM];rw[<-qq (a:=d+1) (r:=exB _ _)];exact s3.bind q
 simp only[go_sem];refine qO ((jV (s:=[93]) K (.inl rfl) i5 i6.at').mono ?_);rintro w5 g5 ⟨b5,bad5,s5,m5,l5,r5⟩;simp only[go_sem];have hl5:=r5.len;have q5:=i6.trans r5;have k5:=i7.ps (nLr _) (by omega) r5;refine lA ?_;simp only[go_sem];refine⟨tmk 8 0 x1 ks',b5,bad5,i3 _ _ _ (by
  cases bd
  ·have hc:isP toks d [44]=false:=hc;rw[hc,if_neg (by decide)];exact s5.bind SPr.ret
  ·have:=s5;obtain⟨rfl,rfl⟩:=this;exact SPr.bd),by omega,l5,q5,Qd (k5.mono hl5).ow q5.len⟩
theorem qfN(K:qx toks)(H:∀f',f'<=f->JJ toks id f'):∀(a:Nat)(h:List qC),mJ toks .mat (a+1)<=f+1->isP toks a [109,97,116,99,104]=true->h[id]?=some (prS toks a false)->SCall Gm 1552 [.ptr id 0 0] h (fun v h'=>RS toks id h (pM toks (f+1) .mat (a+1)) a v h'):=by
 intro a h hf hm ho;have hid:=zA ho;have hla:=qa hm;refine sI UJ ?_;simp only[UJ,qH,go_sem];refine qO ((jV (s:=[109,97,116,99,104]) K (.inr rfl) (by omega) ho).mono ?_);rintro w1 g1 ⟨b1,bad1,s1,m1,l1,q1⟩;rw[qq,qT,if_pos hm]at s1;obtain⟨_,rfl,rfl⟩:=s1;have hl1:=q1.len;simp only[go_sem];refine qO (((H f (nLr _)).term (a+1) false _ (wB hf (by decide)) l1 q1.at').mono ?_);rintro w2 g2 ⟨t2,b2,bad2,s2,m2,l2,r2,o2⟩;obtain⟨a0,a1,a2,a3,a4,a5,a6,a7,rfl⟩:=o2.shape;simp only[go_sem];have hl2:=r2.len;have q2:=q1.trans r2;refine qy (v:=.agg [a0,a1,a2,a3,a4,a5,a6,a7]) rfl rfl ?_;simp only[go_sem];refine lA ?_;simp only[go_sem];have q3:=q2.push (x:=.row 8 [.agg [a0,a1,a2,a3,a4,a5,a6,a7]] true);have k3:=JW (w:=8) (B:=h.length) ((o2.push (o:=.row 8 [.agg [a0,a1,a2,a3,a4,a5,a6,a7]] true) (nLr _)).mono (b':=h.length) (by omega) (nLr _)) (k:=g2.length) (by simp) (nLr _) (by omega);have hl3:g2.length+1=(g2++[qC.row 8 [.agg [a0,a1,a2,a3,a4,a5,a6,a7]] true]).length:=by simp
 rw[hl3]at k3;generalize g2++[qC.row 8 [.agg [a0,a1,a2,a3,a4,a5,a6,a7]] true]=g3 at q3 k3 hl3|-;refine qO ((jV (s:=[123]) K (.inl rfl) l2 q3.at').mono ?_);rintro w4 g4 ⟨b4,bad4,s4,m4,l4,r4⟩;simp only[go_sem];have hl4:=r4.len;replace k3:=k3.ps (by omega) (by omega) r4;have q4:=q3.trans r4;obtain⟨f2,rfl⟩:∃f2,f=f2+1:=⟨f-1,by unfold mJ at hf;simp only[Jb.rk]at hf;omega⟩;refine qO (((H f2 (by omega)).bran b4 bad4 _ (by unfold mJ at hf|-;simp only[Jb.rk]at hf|-;omega) l4 q4.at').mono ?_);rintro w5 g5 ⟨t5,b5,bad5,s5,m5,l5,r5,o5⟩;obtain⟨a0,a1,a2,a3,a4,a5,a6,a7,rfl⟩:=o5.shape;simp only[go_sem];have hl5:=r5.len;replace k3:=k3.ps (by omega) (by omega) r5;have q5:=q4.trans r5;refine qy (v:=.agg [a0,a1,a2,a3,a4,a5,a6,a7]) rfl rfl ?_;simp only[go_sem];refine jF ((k3.mono (u2:=g4.length) (by omega)).push (by omega)) (o5.push (o:=.row 8 [.agg [a0,a1,a2,a3,a4,a5,a6,a7]] true) (nLr _)) (by simp) (by omega) (by omega) (by simp) (by simp) ?_;intro kk6 nn6 g6 k6 y6 z6;rw[zN]at z6;simp only[go_sem];have q6:PS h id (prS toks b5 bad5) g6:=⟨(y6 id hid).trans (by rw[gAl (zA q5.at')];exact q5.at'),by omega,fun j hj hl=>by
  rw[y6 j hl,gAl (by omega)];exact q5.old j hj hl⟩
 refine Sem.loop (fun s:Nat×List qD×AV×Nat×Bool×List qC=>s.1<=f2+1/\(s.2.2.2.1<toks.length->s.2.2.2.2.1=false->20*(toks.length-(s.2.2.2.1+1))+2<=s.1)/\(∀y c bad',SPr (gd s.2.2.2.2.1 s.2.2.2.1 (if isP toks s.2.2.2.1 [59]then pM toks s.1 (.matL s.2.1) (s.2.2.2.1+1)else exB (qT toks [125] s.2.2.2.1) fun _ b=>.ok (tmk 9 0 [] s.2.1,b))) y c bad'->SPr (pM toks (f2+1+1) .mat (a+1)) y c bad')/\a<=s.2.2.2.1/\s.2.2.2.1<=toks.length/\PS h id (prS toks s.2.2.2.1 s.2.2.2.2.1) s.2.2.2.2.2/\KL h.length s.2.2.2.2.2.length s.2.2.2.2.2 s.2.2.1 8 (s.2.1.map qD.enc)/\s.2.1.length<=s.2.2.2.1+1/\∃kk nn,s.2.2.1=.slice 8 kk 0 nn false)
  (fun s=>(⟨[(0,.ptr id 0 0)],[(2,.agg [.int .i64 0,.int .i64 0,.str [],.int .i64 0,.str [],.nils,.nils,.nils]),(3,.agg [.int .i64 9,.int .i64 0,.str [],.int .i64 0,.str [],.nils,.nils,s.2.2.1])],s.2.2.2.2.2⟩:VSt)) (fun s=>toks.length-s.2.2.2.1) (f2,[t2,t5],.slice 8 kk6 0 nn6 false,b5,bad5,g6) (by kernel_rfl) ?_ cS ?_
 ·refine⟨by simp only;omega,fun h1 h2=>by unfold mJ at hf;simp only[Jb.rk]at hf;simp only at h1|-;omega,fun y c bad' q=> ?_,by simp only;omega,l5,q6,by simpa using k6,by simp only[lCo,lNi];omega,_,_,rfl⟩;simp only[pM,lCa,lNa];rw[<-qq (a:=a+1) (r:=exB _ _)];exact s2.bind (s4.bind (s5.bind q))
 clear s2 s4 s5 k3 k6 y6 z6 q3 q6 q4 q5 r2 r4 r5 o2 o5 q2 q1;rintro⟨f',ks',w7,d,bd,g⟩ ⟨i1,i2,i3,i4,i5,i6,i7,i8,kk,nn,rfl⟩;simp only at i1 i2 i3 i4 i5 i6 i7 i8;simp only[go_sem];have hl6:=i6.len;refine qO ((wP (s:=[59]) K (.inl rfl) i6.at').mono ?_);rintro v0 h4 (⟨rfl,hc,rfl,r0⟩ | ⟨hc,rfl,rfl⟩)
 case inl=>
  have hlt:=qa hc;have hl0:=r0.len;have i2:=i2 hlt rfl;simp only[go_sem];rw[hc,if_pos rfl,qq]at i3;obtain⟨f3,rfl⟩:∃f3,f'=f3+1:=⟨f'-1,by omega⟩;have q0:=i6.trans r0;have i7:=i7.ps (nLr _) (by omega) r0;refine qO (((H f3 (by omega)).bran (d+1) false _ (by unfold mJ;simp only[Jb.rk];omega) hlt q0.at').mono ?_);rintro v h3 ⟨u,c,bad3,s3,m3,l3,r3,o3⟩;have hl3:=r3.len;have i7:=i7.ps hl0 (by omega) r3;have q3:=q0.trans r3;obtain⟨a0,a1,a2,a3,a4,a5,a6,a7,rfl⟩:=o3.shape;simp only[go_sem];refine qy (v:=.agg [a0,a1,a2,a3,a4,a5,a6,a7]) rfl rfl ?_;simp only[go_sem];have hlk:(ks'.map qD.enc).length<4294967296:=by rw[lMp];have:=K.l;omega
  refine jF ((i7.mono (u2:=h4.length) hl0).push hl3) (o3.push (o:=.row 8 [.agg [a0,a1,a2,a3,a4,a5,a6,a7]] true) (nLr _)) (by simp) (by omega) (by omega) (by simp) hlk ?_;intro kk nn g5 k5 y5 z5;rw[zN]at z5;simp only[go_sem];have q5:PS h id (prS toks c bad3) g5:=⟨(y5 id hid).trans (by rw[gAl (zA q3.at')];exact q3.at'),by omega,fun j hj hl=>by
   rw[y5 j hl,gAl (by omega)];exact q3.old j hj hl⟩
  refine qW (f3,ks'++[u],.slice 8 kk 0 nn false,c,bad3,g5) ⟨by simp only;omega,fun h1 h2=>by simp only at h1|-;omega,fun y e bad' q=>i3 y e bad' ?_,by simp only;omega,l3,q5,by simpa using k5,by simp only[lAp,lCo,lNi];omega,_,_,rfl⟩ (by simp only;omega) cS;simp only[pM];rw[<-qq (a:=d+1) (r:=exB _ _)];exact s3.bind q
 simp only[go_sem];refine qO ((jV (s:=[125]) K (.inl rfl) i5 i6.at').mono ?_);rintro w5 g5 ⟨b5,bad5,s5,m5,l5,r5⟩;simp only[go_sem];have hl5:=r5.len;have q5:=i6.trans r5;have k5:=i7.ps (nLr _) (by omega) r5;refine lA ?_;simp only[go_sem];refine⟨tmk 9 0 [] ks',b5,bad5,i3 _ _ _ (by
  cases bd
  ·have hc:isP toks d [59]=false:=hc;rw[hc,if_neg (by decide)];exact s5.bind SPr.ret
  ·have:=s5;obtain⟨rfl,rfl⟩:=this;exact SPr.bd),by omega,l5,q5,Qd (k5.mono hl5).ow q5.len⟩
end
section
variable {h:List qC} {id a b f:Nat} {toks:List qK} {bad:Bool}
theorem ke{k:Int}(h:kdS toks a false k=false){t:qK}(ht:toks[a]?=some t):t.Kind≠k:=by
 unfold kdS at h;rw[ht]at h;simpa using h
theorem qfO(K:qx toks)(H:∀f',f'<=f->JJ toks id f'):CS toks id 1537 (f+1) .pre:=by
 intro a bad h hf ha ho;have hid:=zA ho;refine sI UD ?_;simp only[UD,qH,go_sem];refine qO ((wP (s:=[33]) K (.inl rfl) ho).mono ?_);rintro v0 h0 (⟨rfl,hb,rfl,r0⟩ | ⟨hb,rfl,rfl⟩)
 case inl=>
  have hlt:=qa hb;have hl0:=r0.len;simp only[go_sem];refine qO (((H f (nLr _)).pre (a+1) false _ (zx hf (by omega) hlt) hlt r0.at').mono ?_);rintro v h1 ⟨t,b,bad1,s1,m1,l1,r1,o1⟩;have hl1:=r1.len;obtain⟨a0,a1,a2,a3,a4,a5,a6,a7,rfl⟩:=o1.shape;simp only[go_sem];refine qy (v:=.agg [a0,a1,a2,a3,a4,a5,a6,a7]) rfl rfl ?_;simp only[go_sem];refine lA ?_;simp only[go_sem];refine⟨tmk 6 0 [] [t],b,bad1, ?_,by omega,l1,(r0.trans r1).push, ?_⟩
  ·rw[qq];simp only[pM,hb,if_true];rw[<-qq (a:=a+1) (r:=exB _ _)];exact s1.bind SPr.ret
  rw[zN];exact JG (ts:=[t]) (o1.mono (by omega) (nLr _)).one (nLr _) (by omega) rfl
 simp only[go_sem];refine qe rfl (ZC ho) ?_;simp only[go_sem];cases k1:kdS toks a bad 1
 case true=>
  obtain⟨_,rfl,_⟩:=QR k1;obtain⟨s,hw,t,e1,e2,e3⟩:=ki k1;simp only[go_sem];refine qO ((Jc (k:=1) K ha ho).mono ?_);rintro w g ⟨x,b,bad1,s1,m1,l1,rfl,r1⟩;rw[qq,hw]at s1;obtain⟨rfl,rfl,rfl⟩:=s1;simp only[go_sem];refine lA ?_;simp only[go_sem];refine⟨tmk 1 0 x [],a+1,false, ?_,m1,l1,r1,Qc r1.len⟩;rw[qq];simp only[pM,kf k1 (by decide) (by decide),bFt,if_false,e1,if_pos e2];exact⟨by rw[e3],rfl,rfl⟩
 simp only[go_sem];refine qe rfl (ZC ho) ?_;simp only[go_sem];cases k2:kdS toks a bad 2
 case true=>
  obtain⟨_,rfl,_⟩:=QR k2;obtain⟨s,hw,t,e1,e2,e3⟩:=ki k2;simp only[go_sem];refine qO (((H f (nLr _)).con a h s (by unfold mJ at hf;simp only[Jb.rk]at hf;have:=(js hw).2.1;omega) hw ho).mono ?_);rintro v h1 ⟨t',b,bad1,s1,m1,l1,r1,o1⟩;obtain⟨a0,a1,a2,a3,a4,a5,a6,a7,rfl⟩:=o1.shape;simp only[go_sem];refine lA ?_;simp only[go_sem];refine⟨t',b,bad1, ?_,m1,l1,r1,o1⟩;rw[qq];simp only[pM,kf k2 (by decide) (by decide),bFt,if_false,e1,if_neg (show ¬t.Kind=1 by rw[e2];decide),if_pos e2,e3];exact s1
 simp only[go_sem];refine qe rfl (ZC ho) ?_;simp only[go_sem];cases k4:kdS toks a bad 4
 case true=>
  obtain⟨_,rfl,_⟩:=QR k4;obtain⟨s,hw,t,e1,e2,e3⟩:=ki k4;simp only[go_sem];refine qO ((qYC (neg:=false) (m:=2147483647) K rfl ha ho).mono ?_);rintro w g ⟨n,b,bad1,hn,s1,m1,l1,rfl,r1⟩;simp only[go_sem];refine lA ?_;simp only[go_sem];refine⟨tmk 2 n [] [],b,bad1, ?_,m1,l1,r1,Qc r1.len⟩;rw[qq]at s1|-;simp only[pM,kf k4 (by decide) (by decide),bFt,if_false,e1,if_neg (show ¬t.Kind=1 by rw[e2];decide),if_neg (show ¬t.Kind=2 by rw[e2];decide)];exact s1
 simp only[go_sem];refine qe rfl (Wn ho) ?_;simp only[go_sem];rw[kX K.w (.inr rfl)];cases hm:(!bad&&isP toks a [109,97,116,99,104])
 case true=>
  rw[bAt]at hm;obtain⟨hb2,hm⟩:=hm;have hb2:bad=false:=by simpa using hb2
  subst hb2;have hb:isP toks a [33]=false:=hb;have hlt:=qa hm;have h40:isP toks a [40]=false:=by
   unfold isP at hm|-;rw[gEg hlt]at hm|-;simp only[bAt,dTe]at hm;simp[hm.1]
  simp only[go_sem];refine qO (((H f (nLr _)).mat a h (zx hf (by omega) hlt) hm ho).mono ?_);rintro v h1 ⟨t',b,bad1,s1,m1,l1,r1,o1⟩;obtain⟨a0,a1,a2,a3,a4,a5,a6,a7,rfl⟩:=o1.shape;simp only[go_sem];refine lA ?_;simp only[go_sem];refine⟨t',b,bad1, ?_,m1,l1,r1,o1⟩;rw[qq];simp only[pM,hb,h40,hm,bFt,if_false,if_true];exact s1
 simp only[go_sem];have ep:∀y c bad',SPr (gd bad a (exB (qT toks [40] a) fun _ b=>pM toks f .encl b)) y c bad'->SPr (gd bad a (pM toks (f+1) .pre a)) y c bad':=fun y c bad' q=>by
  cases bad
  ·have hb:isP toks a [33]=false:=hb;have hm:isP toks a [109,97,116,99,104]=false:=hm;rw[qq]at q|-;cases h4:isP toks a [40]
   ·simp only[pM,hb,h4,hm,bFt,if_false];simp only[qT,h4,bFt,if_false,qn]at q;cases ht:toks[a]? with
    | none=>exact q
    | some t=>
     simp only[if_neg (ke k1 ht),if_neg (ke k2 ht),jN,ht];rw[if_neg fun z=>ke k4 ht z.1];exact q
   ·simp only[pM,hb,h4,bFt,if_false,if_true];simp only[qT,h4,if_true,qg]at q;exact q
  ·exact q
 refine qO ((jV (s:=[40]) K (.inl rfl) ha ho).mono ?_);rintro w1 g1 ⟨b1,bad1,s1,m1,l1,r1⟩;have hl1:=r1.len;have hb1:bad1=false->b1=a+1:=by rintro rfl;exact(Wq s1).1
 simp only[go_sem];have ee:∀y c bad',SPr (gd bad1 b1 (exB (if isP toks b1 [45]then jN toks true (b1+1)else pM toks (f-1) .term b1) fun t b=>exB (qT toks [41] b) fun _ b=>.ok (t,b))) y c bad'->SPr (gd bad a (pM toks (f+1) .pre a)) y c bad':=fun y c bad' q=>ep _ _ _ (s1.bind (by
  cases bad1
  ·obtain⟨f2,rfl⟩:∃f2,f=f2+1:=⟨f-1,by have:=hb1 rfl;unfold mJ at hf;simp only[Jb.rk]at hf;omega⟩;simp only[pM];exact q
  ·exact q))
 refine qO ((wP (s:=[45]) K (.inl rfl) r1.at').mono ?_);rintro v0 g2 (⟨rfl,hd,rfl,r2⟩ | ⟨hd,rfl,rfl⟩)
 case inl=>
  have hlt:=qa hd;have q2:=r1.trans r2;simp only[go_sem];refine qO ((qYC (neg:=true) (m:=2147483648) K rfl hlt q2.at').mono ?_);rintro w g3 ⟨n,b3,bad3,hn,s3,m3,l3,rfl,r3⟩;have q3:=q2.trans r3;simp only[go_sem];refine qO ((jV (s:=[41]) K (.inl rfl) l3 q3.at').mono ?_);rintro w1 g4 ⟨b4,bad4,s4,m4,l4,r4⟩;have q4:=q3.trans r4;simp only[go_sem];refine lA ?_;simp only[go_sem];refine⟨tmk 2 (-n) [] [],b4,bad4,ee _ _ _ ?_,by omega,l4,q4,(by rw[zF (n:=0-n) (by omega) (by omega),Int.zero_sub];exact Qc q4.len)⟩;rw[qq,if_pos hd,<-qq (a:=b1+1) (r:=exB _ _)];exact s3.bind (s4.bind SPr.ret)
 simp only[go_sem];refine qO ((Ye (f:=f-1) K (H (f-1) (by omega)).term (by rintro rfl;have:=hb1 rfl;unfold mJ at hf|-;simp only[Jb.rk]at hf|-;omega) l1 r1.at').mono ?_);rintro v g3 ⟨t,b3,bad3,s3,m3,l3,r3,o3⟩;have q3:=r1.trans r3;obtain⟨a0,a1,a2,a3,a4,a5,a6,a7,rfl⟩:=o3.shape;simp only[go_sem];refine lA ?_;simp only[go_sem];have hl3:=r3.len;refine qO ((jV (s:=[41]) K (.inl rfl) l3 q3.at').mono ?_);rintro w1 g4 ⟨b4,bad4,s4,m4,l4,r4⟩;have q4:=q3.trans r4;simp only[go_sem];refine lA ?_;simp only[go_sem];refine⟨t,b4,bad4,ee _ _ _ ?_,by omega,l4,q4,(o3.ps (nLr _) (by omega) r4).mono hl1 r4.len⟩;cases bad1
 ·have hd:isP toks b1 [45]=false:=hd;rw[hd,if_neg (by decide)];exact s3.bind (s4.bind SPr.ret)
 ·obtain⟨rfl,rfl⟩:=s3;obtain⟨rfl,rfl⟩:=s4;exact SPr.bd
theorem allS(K:qx toks):∀f,JJ toks id f:=by
 intro f
 induction f using Nat.strongRecOn with
 | _ f ih=>
 cases f with
 | zero=>
  exact⟨fun a bad h hf=>(J1 hf).elim,fun a bad h hf=>(J1 hf).elim,fun a bad h hf=>(J1 hf).elim,fun a bad h hf=>(J1 hf).elim,fun a bad h hf=>(J1 hf).elim,fun a bad h hf=>(J1 hf).elim,fun a bad h hf=>(J1 hf).elim,fun a h hf=>(J1 hf).elim,fun a h s hf=>by omega⟩
 | succ f=>
  have H:∀f',f'<=f->JJ toks id f':=fun f' hf=>ih f' (by omega);exact⟨qfR K H,qfL K H,qfQ K H,qfP K H,qfJ K H,qfO K H,qfK K H,qfN K H,qfM K H⟩
end
end Go.Ab
