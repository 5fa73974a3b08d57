/- Texts Ml4 .. Ml8: the abstract machine, its laws and contracts of functions: lemmas for the statement. No condition. -/
import Derived.Test.YtifmaamaodjfjaaGreatP8
set_option linter.unusedSimpArgs false
set_option linter.unusedVariables false
namespace Go.Ab
open Go
set_option maxRecDepth 10000
set_option maxHeartbeats 4000000
section
variable {w mid cid k s b size:Nat} {post cs:List AV} {ow:Nat->Nat} {h h' h0:List qA} {m:qG} {rv dv:AV} {c:qF} {x:qE} {lev:Int} {n:qD} {N:List qB}
def emC(v:Int):AV:=cE (zS v) .nils .nils
theorem qGE{t id:Nat}(q:h[id]?=some (.row 5 (((List.range (t+1)).map λi=>emC ((i+1:Nat):Int)).set t (emC (-1))) true)):MC (λj=>if j=id then 1 else 0) h (zg (t+1) [] w0) id (((List.range (t+1)).map λi=>emC ((i+1:Nat):Int)).set t (emC (-1))) .nils:=by
 have hid:=qZ q;have hcl:(zg (t+1) [] w0).C.length=t+1:=by show ([]++frT (t+1) 0).length=_;simp[Yv]
 refine⟨q,by rw[hcl];simp,λk c hc=>?_,.inl ⟨rfl,rfl⟩,iP rfl,λj hj=>?_⟩
 ·have hk:=qZ hc;rw[hcl]at hk;have e2:(zg (t+1) [] w0).C[k]?=(frT (t+1) 0)[k]?:=rfl;rw[e2,qGV (by omega)]at hc;cases hc;by_cases ek:k=t
  ·subst ek;exact⟨emC (-1),gSs (by simp),by rw[iP (by omega)];exact CV.free⟩
  ·refine⟨emC ((k+1:Nat):Int), ?_,by rw[iN (by omega),show 0+k+1=k+1 by omega];exact CV.free⟩;rw[gSn (λe=>ek e.symm),gMp,List.getElem?_range (by omega)];rfl
 ·by_cases e:j=id
  ·subst e;exact hid
  ·rw[iN e]at hj;exact absurd rfl hj
theorem qGD{t id:Nat}:mE (zg (t+1) [] w0) id .nils []=.agg [sQ 5 id (t+1),iI 0,iI 0,iI 0,.nils]:=by
 have hcl:(zg (t+1) [] w0).C.length=t+1:=by show ([]++frT (t+1) 0).length=_;simp[Yv]
 unfold mE;rw[hcl];rfl
theorem qp2(h1:1<=size)(h2:size<=1500):SCall Gm 1175 [iI (size:Nat)] h0 (λv h'=>∃cid cs ow,v=mE (zg size [] w0) cid .nils []/\MC ow h' (zg size [] w0) cid cs .nils):=by
 refine sI Uc ?_;simp only[Uc,qM,go_sem];refine lsA ?_;simp only[go_sem];refine Sem.loop (λa:Nat×AV×List qA=>a.1<=size/\h0.length<=a.2.2.length/\LsW (λj=>h0.length<=j) 5 a.2.2 a.2.1 ((List.range a.1).map λi=>emC ((i+1:Nat):Int)))
  (λa=>(⟨[(0,iI (size:Nat)),(4,iI (a.1:Nat))],[(3,.agg [a.2.1,iI 0,iI 0,iI 0,.nils]),(2,.agg [.nils,iI 0,iI 0,iI 0,.nils])],a.2.2⟩:VSt)) (λa=>size-a.1)
  (0,.nils,h0) (by kernel_rfl) ⟨nZl _,nLr _,.inl ⟨rfl,rfl⟩⟩ csA ?_
 rintro⟨i,v,h⟩ ⟨hi,hb,L⟩;simp only at hi hb L;simp only[go_sem];by_cases hlt:i<size
 case pos=>
  have e:decide ((i:Int)<(size:Nat))=true:=dEt (by omega);simp only[e,go_sem];refine wc (L.app _) ends (by simp;omega) λh3 u3 w3 l3=>?_;simp only[go_sem,wuA (n:=i)];simp only[lAp,List.length_singleton,lMp,List.length_range,wuA (n:=i)]at w3 l3|-;refine qd (i+1,sQ 5 (h.length+1) (i+1),h3) ⟨by simp only;omega,by simp only;omega,.inr ⟨h.length+1,by omega,by simp, ?_⟩⟩ (by simp only;omega) csA;simp only[List.range_succ,lMa];exact w3
 have e:decide ((i:Int)<(size:Nat))=false:=dEf (by omega);obtain rfl:i=size:=by omega
 simp only[e,go_sem];obtain⟨id,q1,rfl,q3⟩:=L.full (by simp;omega);obtain⟨t,rfl⟩:∃t,i=t+1:=⟨i-1,by omega⟩;have ew:IntKind.i64.wrap (((t+1:Nat):Int)-1)=(t:Nat):=by rw[wsA];omega
 rw[show ((List.range (t+1)).map λi=>emC ((i+1:Nat):Int)).length=t+1 by simp];simp only[ew,qW (show t<t+1 by omega),nZa,go_sem];refine zx (e:=emC ((t+1:Nat):Int)) (e':=emC (-1)) rfl q3 (by rw[gMp,List.getElem?_range (by omega)];rfl) (by exact Qk rfl rfl) ?_;simp only[go_sem];refine lsA ?_;simp only[go_sem];rw[<-List.range_succ];exact⟨id,_,_,qGD.symm,qGE (gSs (qZ q3))⟩
theorem qH6(ok:qk n=true)(hq:n.G.length-1+ldQ n.G<=size):PlcI n.G true 0 (zg size [] w0) (λq=>zg size (ldC n.G q) w0) (List.range (n.G.length-1)) (List.range' (n.G.length-1) (ldQ n.G)) (ldT n.G) w0 (ldR n.G):=by
 have hn:=jf ok;have hv:=YH ok;refine⟨by simp,List.nodup_range,λi hi=>?_,λi hi=>?_, ?_,λq i k x hq hk hx=>?_,λq f hq=>?_,rfl,λp a k hp h0 h1 h2=>?_,λi w v h1 h2=>?_,λc t h=>⟨λq=>(by cases q),λ_=>rfl⟩,λc k h1 h2=>?_⟩
 ·rw[V0 i (by omega) (by omega),List.take_range,Nat.min_eq_left hi]
 ·rw[V0 i (by omega) (by omega)];have hl:=QN (N:=n.G) (i:=i) (by omega);exact⟨i,_,by rw[Xl (by omega),hl],by have:=VH (r:=w0) (show (agL n.G i).length<size by omega);rw[hl]at this;exact this⟩
 ·rw[V0 _ (by omega) (by omega)];simp[ldC]
 ·have:=qZ hk;rw[List.length_range]at this;rw[JN this]at hk;cases hk;exact qBV hx
 ·rw[hv]at hq;obtain⟨a,b,c⟩:=qH3 (N:=n.G) (size:=size) (q:=q) (r:=w0) (f:=f) hn (by omega);exact⟨n.G.length-1+q,by rw[List.getElem?_range' hq];simp,a,b,c⟩
 ·have:=qZ h2;rw[List.length_range]at this;rw[JN this]at h2;cases h2;exact qH2 ok hp h0 h1 this
 ·have hi:=qZ h2;rw[List.length_range']at hi;rw[List.getElem?_range' hi]at h2;obtain rfl:n.G.length-1+i=v:=by simpa using h2
  rw[qLW ok]at h1;have inn:∀j,(qf n.G)[j]?=some w->rN n.G+j=i->(0<w.A.S->ldT n.G w.A=vW (n.G.length-1+i))/\ldT n.G w.B=vW (n.G.length-1+i)/\(w.A=pt 0 0->ldR n.G=vW (n.G.length-1+i)):=λj hj e=>by
   obtain⟨t1,t2⟩:=qm1 ok hj;rw[Nat.add_assoc,e]at t1 t2;exact⟨λ_=>t1,t2,λq=>by have:=(Jr.1 (lMo hj)).2.2.2.1;rw[q]at this;exact absurd this (by decide)⟩
  by_cases hs:0<(qK n.G (pt 0 0)).S
  ·have er:rN n.G=1:=iP hs;rw[iP hs]at h1;rcases i with _ | i
   ·simp only[lCa,List.getElem?_cons_zero,oSi]at h1;subst h1;refine⟨λq=>absurd (show (0:Int)<0 from q) (by decide),qm2 ok,λ_=>?_⟩;unfold ldR;rw[iN (by omega)];rfl
   ·exact inn i (by simpa using h1) (by omega)
  ·have er:rN n.G=0:=iN hs;rw[iN hs,lNa]at h1;exact inn i h1 (by omega)
 ·have:=qZ h2;rw[List.length_range]at this;rw[JN this]at h2;cases h2;unfold ldR;rw[h1,iP (show (pt (c+1) 0).S=0 from rfl)];rfl
theorem qnK{cid:Nat}{x:qE}:(mE m cid rv post).put 2 x.enc=some (mE {m with O:=x} cid rv post):=by
 have e:∀a b c d e:AV,(AV.agg (a::b::c::d::e::post)).put 2 x.enc=some (.agg (a::b::iI x.T::iI x.I::e::post)):=λa b c d e=>by
  show (if 2+2<=(a::b::c::d::e::post).length then some (AV.agg (List.take 2 (a::b::c::d::e::post)++(x.enc.cells++List.drop (2+2) (a::b::c::d::e::post))))else none)=_;rw[iP (by simp)];rfl
 exact e _ _ _ _ _
theorem qIF{cid:Nat}:(mE m cid rv []).part 0 (some 5)=some (mE m cid rv []):=rfl
theorem MO.stoRt{E:Ev}{l:List qC}{ks:List Fr1}{s l':qp}{Q:qi->VSt->Prop}{x:qE}(M:MO w mid post ow h m cid cs rv)(hr:R E (.ops l::ks) ⟨s,l',h.set mid (.row w [mE {m with O:=x} cid rv post] true)⟩ Q):Sto E 2 (some (.ptr mid 0 2)) (some x.enc) l ks ⟨s,l',h⟩ Q:=zx rfl M.o rfl qnK hr
theorem MO.rt{x:qE}(M:MO w mid post ow h m cid cs rv):MO w mid post ow (h.set mid (.row w [mE {m with O:=x} cid rv post] true)) {m with O:=x} cid cs rv:=
 M.top rfl (gSs (qZ M.o)) (by simp) (λj _ _ q _=>gSn (λe=>q e.symm)) (λ_ _ _=>rfl) (λ_ q _=>q) (λj q=>by have:=M.b j (by omega);simpa using this) (λ_ q=>.inl q) (M.r.mono λj _ q=>⟨q,gSn (λe=>by subst e;rw[M.m1]at q;omega)⟩)
theorem MO.mc(M:MO w mid post ow h m cid cs rv):MC (λj=>if j=mid then 0 else ow j) h m cid cs rv where
 c:=M.c
 l:=M.l
 e:=λk d hd=>by
  obtain⟨u,u1,u2⟩:=M.e k d hd;exact⟨u,u1,u2.mono λj _ q=>⟨by rw[iN (λe=>by subst e;rw[M.m1]at q;omega)];exact q,rfl⟩⟩
 r:=M.r.mono λj _ q=>⟨by rw[iN (λe=>by subst e;rw[M.m1]at q;omega)];exact q,rfl⟩
 c1:=by rw[iN (Ne.symm M.ne)];exact M.c1
 b:=λj hj=>by
  by_cases e:j=mid
  ·rw[iP e]at hj;exact absurd rfl hj
  ·rw[iN e]at hj;exact M.b j hj
def ldK(N:List qB)(size:Nat):Int:=if size<N.length-1+ldQ N then 4 else 0
theorem s853(hz:n.sz<=1048576)(ok:qk n=true)(h1:1<=size)(h2:size<=1500):SCall Gm 853 [n.enc,iI (size:Nat)] h0 (λv h'=>∃p,v=.tup [p,iI (ldK n.G size)]/\(∃a b c d e:AV,p=.agg [a,b,c,d,e])/\(ldK n.G size=0->∃cid cs rv ow,p=mE (ldM n.G size) cid rv []/\MC ow h' (ldM n.G size) cid cs rv)):=by
 have hn:=jf ok;refine SCall.run [2] [] (gk _ kX) (by kernel_rfl) rfl ?_;simp only[kX,qM,go_sem];refine JL rfl ?_;have eh:(h0++[qA.row 1 [n.enc] true])[h0.length]?=some (.row 1 [n.enc] true):=ends;simp only[go_sem,eh];generalize (h0++[qA.row 1 [n.enc] true]).set h0.length qA.dead=g0;refine qI (c318 hz) ?_;simp only[ok,go_sem];refine qI JV ?_;have e1:inI (size:Nat) 1 1500=true:=by unfold inI;simp;omega
 simp only[e1,go_sem];refine qI (qEX hz ok) ?_;have hwl:=W1 hz;have hv:=YH ok;have hvl:jO n.G true<=(qq n.G).length:=List.countP_le_length;have hnz:n.G.length<=1048576:=by unfold qD.sz at hz;omega
 have ew:IntKind.i64.wrap (IntKind.i64.wrap ((n.G.length:Int)-1)+(jO n.G true:Nat))=((n.G.length-1+ldQ n.G:Nat):Int):=by
  rw[wsA (n:=(n.G.length:Int)-1),wsA,hv];omega
 simp only[go_sem,ew];by_cases hc:size<n.G.length-1+ldQ n.G
 case pos=>
  have e2:decide ((size:Int)<((n.G.length-1+ldQ n.G:Nat):Int))=true:=dEt (by omega);have ek:ldK n.G size=4:=iP hc;simp only[e2,go_sem];refine lsA ?_;simp only[go_sem];rw[ek];exact⟨_,rfl,⟨_,_,_,_,_,rfl⟩,λq=>absurd q (by decide)⟩
 have e2:decide ((size:Int)<((n.G.length-1+ldQ n.G:Nat):Int))=false:=dEf (by omega);have ek:ldK n.G size=0:=iN hc;simp only[e2,go_sem];refine qj (SCall.mono (qp2 h1 h2) ?_);rintro _ h3 ⟨cid,cs,ow,rfl,M⟩;simp only[go_sem];refine zx (e':=mE (zg size [] w0) cid .nils []) rfl ends rfl rfl ?_;simp only[go_sem,lSz];have hcl:=qZ M.c;have M2:=(M.heap (h':=(h3++[qA.row 5 [AV.agg [AV.nils,AV.int IntKind.i64 0,AV.int IntKind.i64 0,AV.int IntKind.i64 0,AV.nils]] true]).set h3.length (.row 5 [mE (zg size [] w0) cid .nils []] true)) (by simp) λj hj q=>by rw[gSn (by omega),gAl hj]).mo (w:=5) (post:=[]) (mid:=h3.length) (gSs (by simp)) (by
  refine Classical.byContradiction λq=>?_;have:=M.b h3.length q;omega)
 have hq:n.G.length-1+ldQ n.G<=size:=by omega
 refine qj (SCall.mono (qKG (b:=n.G.length-1) (MH.intro M2) hz ok (by decide) (qH6 ok hq) (by show 0+_<=_;omega)) ?_);rintro _ h4 ⟨rfl,ow4,M4,F4⟩;rw[hv]at M4;obtain⟨cid4,cs4,rv4,M4⟩:=M4;simp only[go_sem];refine M4.stoRt ?_;have M5:=M4.rt (x:=ldR n.G);rw[qHZ]at M5|-;simp only[go_sem,M5.o,qIF];refine lsA ?_;simp only[go_sem];rw[ek];exact⟨_,rfl,⟨_,_,_,_,_,rfl⟩,λ_=>⟨_,_,_,_,rfl,M5.mc⟩⟩
noncomputable def ldB(bk:List qD)(n:qD)(size bu:Int):Int:=if (z5 bk&&qk n)=true then(if (inI size 1 1500&&inI bu 0 4000)=true then ldK n.G size.toNat else 2)else 1
theorem s502{bk:List qD}{sz bu:Int}(hl:bk.length+zD qD.sz bk<=1048576)(hz:n.sz<=1048576):SCall Gm 502 [.lst 1 (bk.map qD.enc) false,.ept n.enc 0,iI sz,iI bu] h0 (λv h'=>∃p,v=.tup [p,iI (ldB bk n sz bu)]/\(∃a b c d e:AV,p=.agg [a,b,c,d,e])/\(ldB bk n sz bu=0->∃cid cs rv ow,p=mE (ldM n.G sz.toNat) cid rv []/\MC ow h' (ldM n.G sz.toNat) cid cs rv)):=by
 refine sI K8 ?_;simp only[K8,qM,go_sem];have bad:∀{c:Int}{h1:List qA},ldB bk n sz bu=c->c≠0->∃p,AV.tup [.agg [.nils,iI 0,iI 0,iI 0,.nils],iI c]=.tup [p,iI (ldB bk n sz bu)]/\(∃a b c d e:AV,p=.agg [a,b,c,d,e])/\(ldB bk n sz bu=0->∃cid cs rv ow,p=mE (ldM n.G sz.toNat) cid rv []/\MC ow h1 (ldM n.G sz.toNat) cid cs rv):=λe q=>⟨_,by rw[e],⟨_,_,_,_,_,rfl⟩,λz=>absurd (e▸z) q⟩;refine qI (c598 hl) ?_;simp only[go_sem];cases e1:z5 bk
 case false=>
  simp only[go_sem];refine lsA ?_;simp only[go_sem];exact bad (by simp[ldB,e1]) (by decide)
 simp only[go_sem];refine qI (c318 hz) ?_;simp only[go_sem];cases e2:qk n
 case false=>
  simp only[go_sem];refine lsA ?_;simp only[go_sem];exact bad (by simp[ldB,e2]) (by decide)
 simp only[go_sem];refine qI JV ?_;simp only[go_sem];cases e3:inI sz 1 1500
 case false=>
  simp only[go_sem];refine lsA ?_;simp only[go_sem];exact bad (by simp[ldB,e1,e2,e3]) (by decide)
 simp only[go_sem];refine qI JV ?_;simp only[go_sem];cases e4:inI bu 0 4000
 case false=>
  simp only[go_sem];refine lsA ?_;simp only[go_sem];exact bad (by simp[ldB,e1,e2,e3,e4]) (by decide)
 simp only[go_sem];have e5:ldB bk n sz bu=ldK n.G sz.toNat:=by simp[ldB,e1,e2,e3,e4]
 unfold inI at e3;simp only[bAt,dTe]at e3;obtain⟨s,rfl⟩:=eOz (show 0<=sz by omega);rw[iTn]at e5|-;refine qj (SCall.mono (s853 hz e2 (by omega) (by omega)) ?_);rintro _ h1 ⟨p,rfl,⟨c0,c1,c2,c3,c4,rfl⟩,H⟩;simp only[go_sem];refine lsA ?_;simp only[go_sem];rw[e5];exact⟨_,rfl,⟨_,_,_,_,_,rfl⟩,H⟩
noncomputable def lsC(bk:List qD)(n:qD)(bu:Int):Int:=if ldB bk n 1500 bu=0 then(Ji bk (ldM n.G 1500) bu).2 else ldB bk n 1500 bu
theorem ld0{bk:List qD}{sz bu:Int}(h:ldB bk n sz bu=0):z5 bk=true/\qk n=true/\1<=sz/\sz<=1500/\0<=bu/\bu<=4000/\n.G.length-1+ldQ n.G<=sz.toNat:=by
 unfold ldB at h;split at h
 ·rename_i e;rw[bAt]at e;split at h
  ·rename_i q;unfold inI at q;simp only[bAt,dTe]at q;unfold ldK at h;split at h
   ·exact absurd h (by decide)
   ·exact⟨e.1,e.2,by omega,by omega,by omega,by omega,by omega⟩
  ·exact absurd h (by decide)
 ·exact absurd h (by decide)
theorem qHY{bk:List qD}{sz bu:Int}(h:ldB bk n sz bu=0):VM (ldM n.G sz.toNat):=by
 obtain⟨_,ok,_,_,_,_,hq⟩:=ld0 h;exact qm3 ok (by omega) (by omega) hq
theorem c183{bk:List qD}{bu:Int}(hl:bk.length+zD qD.sz bk<=1048576)(hz:n.sz<=1048576):Pure Gm 183 [.lst 1 (bk.map qD.enc) false,n.enc,iI bu] (.tup [iI (if lsC bk n bu=0 then(Ji bk (ldM n.G 1500) bu).1.ls else 0),iI (lsC bk n bu)]):=by
 refine Pure.intro [4] [] (gk _ Kx) (by kernel_rfl) rfl (by simp[AV.trees,AV.tree,go_sem,qb qD.isSh.tree]) rfl ?_;simp only[Kx,qM,go_sem];refine JL rfl ?_;simp only[go_sem,lNa,lSz];refine qj (SCall.mono (s502 (sz:=1500) hl hz) ?_);rintro _ h1 ⟨p,rfl,⟨c0,c1,c2,c3,c4,rfl⟩,H⟩;simp only[go_sem];refine zx (e':=.agg [c0,c1,c2,c3,c4]) rfl ends rfl rfl ?_;simp only[go_sem,lSz];by_cases hc:ldB bk n 1500 bu=0
 case neg=>
  simp only[hc,decide_false,go_sem];exact zT (by rfl) (by simp[lsC,hc])
 have eC:lsC bk n bu=(Ji bk (ldM n.G 1500) bu).2:=by rw[lsC,iP hc]
 simp only[hc,go_sem];obtain⟨hb,ok,_,_,b0,b1,hq⟩:=ld0 hc;have vm:VM (ldM n.G 1500):=qHY hc;obtain⟨cid,cs1,rv,ow,e5,M⟩:∃cid cs rv ow,AV.agg [c0,c1,c2,c3,c4]=mE (ldM n.G 1500) cid rv []/\MC ow h1 (ldM n.G 1500) cid cs rv:=H hc;rw[e5];have hcl:=qZ M.c;have M2:=(M.heap (h':=(h1++[qA.row 5 [AV.agg [AV.nils,AV.int IntKind.i64 0,AV.int IntKind.i64 0,AV.int IntKind.i64 0,AV.nils]] true]).set h1.length (.row 5 [mE (ldM n.G 1500) cid rv []] true)) (by simp) λj hj q=>by rw[gSn (by omega),gAl hj]).mo (w:=5) (post:=[]) (mid:=h1.length) (gSs (by simp)) (by
  refine Classical.byContradiction λq=>?_;have:=M.b h1.length q;omega)
 obtain⟨b,rfl⟩:=eOz b0;refine qj (SCall.mono (s503 (n:=0) (MH.intro M2) (by decide) vm.mi hb vm.len.2 (by omega)) ?_);rintro _ h2 ⟨ow2,rid,rfl,R,F⟩;have eG:Ji bk (ldM n.G 1500) ((b:Nat):Int)=goM bk b ⟨ldM n.G 1500,[],zI (ldM n.G 1500),zI (ldM n.G 1500)⟩:=rfl;rw[<-eG]at R;rw[<-eG,<-eC];simp only[go_sem];by_cases h0:lsC bk n (b:Nat)=0
 case neg=>
  simp only[h0,decide_false,go_sem];exact zT (by rfl) (by simp[h0])
 obtain⟨tv,e,_⟩:=R.e;simp only[h0,go_sem,e];exact zT (by rfl) (by simp[h0])
end
section
variable {w mid cid k s b size:Nat} {post cs:List AV} {ow:Nat->Nat} {h h' h0:List qA} {m:qG} {rv dv:AV} {c:qF} {x:qE} {lev:Int} {n:qD} {N:List qB}
def hld(p:qH):Bool:=decide (0<p.S) || decide (p.N=0)
theorem qmL(ok:qk n=true){a:Nat}(ha:a<n.G.length):decide (n.G[a].K=1)=decide ((a:Int)=0):=by
 rw[decide_eq_decide,Xn ok a ha];omega
theorem qLN{p:qH}(ok:qk n=true)(hp:p∈qO n.G)(hb:bef p (qK n.G p)=true):qv true ⟨p,qK n.G p⟩=(hld p&&hld (qK n.G p)):=by
 have P:=zu (wR ok) hp;have n0:¬(qK n.G p).N=0:=λe=>by
  have e2:=Xx ok P.m e;rw[e2]at hb;obtain⟨a,s,rfl,_⟩:=jB.1 hp;unfold bef pt at hb;simp at hb;omega
 unfold qv hld;rw[dEf n0,Bool.or_false,Bool.and_true,Bool.and_comm]
theorem qEY{p:qH}(ok:qk n=true)(hp:p∈qO n.G):Pure Gm 1180 [p.enc,.ept (.ept n.enc 0) 0] (.bool (hld p)):=by
 obtain⟨a,s,rfl,hs⟩:=jB.1 hp;obtain⟨y,hy,_⟩:=jI.1 hs;have ha:=qZ hy;have hk:=qmL ok ha;refine pJ Uf ?_;simp only[Uf,qM,go_sem];refine qa rfl ?_;simp only[go_sem];have e1:n.G[a]?=some n.G[a]:=gEg ha;cases hd:decide (0<(s:Int))
 ·simp only[go_sem,qW ha,nZa,gMp,e1,oMs,hk];exact qN rfl (by simp only[hld,show (pt a s).S=(s:Int)from rfl,show (pt a s).N=(a:Int)from rfl,hd,Bool.false_or])
 ·simp only[go_sem];exact qN rfl (by simp only[hld,show (pt a s).S=(s:Int)from rfl,hd,Bool.true_or])
theorem c865{p q:qH}(ok:qk n=true)(hp:p∈qO n.G)(hq:q∈qO n.G):Pure Gm 865 [.ept n.enc 0,p.enc,q.enc] (.bool (hld p&&hld q)):=by
 refine Pure.intro [3] [] (gk _ F865) (by kernel_rfl) rfl (by simp[AV.trees,AV.tree,go_sem]) rfl ?_;simp only[F865,qM,go_sem];refine JL rfl ?_;simp only[go_sem,lNa,lSz];refine qa rfl ?_;simp only[go_sem];refine qa rfl ?_;simp only[go_sem];refine qI (qEY ok hp) ?_;simp only[go_sem];cases h1:hld p
 ·simp only[go_sem];exact qN rfl rfl
 simp only[go_sem];refine qI (qEY ok hq) ?_;simp only[go_sem];exact qN rfl rfl
theorem qLT{i:Nat}{p:qH}(ok:qk n=true)(hc:(qO n.G)[i]?=some p):(wrs n.G ((qO n.G).take (i+1))).countP (qv true)=(wrs n.G ((qO n.G).take i)).countP (qv true)+if bef p (qK n.G p)=true/\(hld p&&hld (qK n.G p))=true then 1 else 0:=by
 have et:(qO n.G).take (i+1)=(qO n.G).take i++[p]:=by rw[tA1,hc];rfl
 rw[et,Z4,List.countP_append,YJ];congr 1;by_cases hb:bef p (qK n.G p)=true
 ·rw[iP hb,List.countP_cons,List.countP_nil,nZa];have e3:qv true ⟨p,qK n.G p⟩=(hld p&&hld (qK n.G p)):=qLN ok (lMo hc) hb;rw[e3];simp[hb]
 ·rw[iN hb,iN (λz=>hb z.1)];rfl
def cV(N:List qB)(i:Nat):Nat:=N.length-1+(wrs N ((qO N).take i)).countP (qv true)
theorem c861(hz:n.sz<=1048576)(ok:qk n=true):Pure Gm 861 [.ept n.enc 0] (iI (n.G.length-1+ldQ n.G:Nat)):=by
 refine pJ kw ?_;simp only[kw,qM,go_sem];have hn:=jf ok;have hnz:n.G.length<=1048576:=by unfold qD.sz at hz;omega
 have ew:IntKind.i64.wrap ((n.G.length:Int)-1)=((n.G.length-1:Nat):Int):=by rw[wsA];omega
 rw[ew];refine qI (XF hz) ?_;have hpl:=Qj n.G n.G.length (nLr _);rw[lTl]at hpl;have hpl2:(qO n.G).length<=1048576:=by unfold qO;unfold qD.sz at hz;omega
 rw[show qo n.G n.G.length=qO n.G from rfl];simp only[go_sem];have hW:=wR ok;have e0:cV n.G 0=n.G.length-1:=rfl;refine Sem.loop (λi:Nat=>i<=(qO n.G).length)
  (λi=>(⟨[(0,.ept n.enc 0),(2,iI 0),(3,iI (cV n.G i:Nat)),(14,.lst 2 ((qO n.G).map qH.enc) false),(15,iI ((qO n.G).length:Nat)),(16,iI (i:Nat))],[],[]⟩:VSt)) (λi=>(qO n.G).length-i)
  0 (by kernel_rfl) (nZl _) (Can.sub (by simp[go_sem,e0]) (by simp[go_sem])) ?_
 intro i hi;simp only[go_sem];by_cases hlt:i<(qO n.G).length
 case neg=>
  have e:decide ((i:Int)<((qO n.G).length:Nat))=false:=dEf (by omega);simp only[e,go_sem];refine qN rfl ?_;unfold cV;rw[tOl (by omega),show wrs n.G (qO n.G)=qq n.G from rfl,show (qq n.G).countP (qv true)=jO n.G true from rfl,YH ok]
 have e:decide ((i:Int)<((qO n.G).length:Nat))=true:=dEt (by omega);have hc:=gEg hlt;generalize (qO n.G)[i]=p at hc;have hm:=lMo hc;have hqm:=(zu hW hm).m;have es:=qLT ok hc;obtain⟨a,s,rfl,hs⟩:=jB.1 hm;obtain⟨z,hz1,hz2⟩:=jI.1 hs;have ha:=qZ hz1;simp only[e,gMp,hc,oMs,go_sem];refine lsA ?_;simp only[go_sem];refine qI (Ya hs λ_=>rfl) ?_;simp only[go_sem];have hwc:(wrs n.G ((qO n.G).take i)).countP (qv true)<=1048576:=nLt List.countP_le_length (nLt UL (by rw[lLt];omega));generalize hpe:qK n.G (pt a s)=q at*;refine lsA ?_;simp only[go_sem];refine qI c556 ?_;simp only[go_sem];cases hb:bef (pt a s) q
 ·simp only[go_sem,wuA (n:=i)];have es2:cV n.G (i+1)=cV n.G i:=by unfold cV;rw[es,iN (λz=>by rw[hb]at z;cases z.1)];rfl
  exact qd (i+1) (by omega) (by omega) (Can.sub (by simp[go_sem,es2]) (by simp[go_sem]))
 simp only[go_sem];refine qI (c865 ok hm hqm) ?_;simp only[go_sem];refine qI QT ?_;simp only[go_sem,wuA (n:=i)];have es2:IntKind.i64.wrap ((cV n.G i:Int)+if (hld (pt a s)&&hld q)=true then 1 else 0)=(cV n.G (i+1):Nat):=by
  unfold cV;rw[es];by_cases hh:(hld (pt a s)&&hld q)=true
  ·rw[iP hh,iP ⟨hb,hh⟩,wsA];omega
  ·rw[iN hh,iN (λz=>hh z.2),wsA];omega
 rw[es2];exact lqA (i+1)
theorem s862(h1:1<=size)(h2:size<=1500):SCall Gm 862 [iI (size:Nat)] h0 (λv h'=>∃cid cs ow,v=mE (zg size [] w0) cid .nils []/\MC ow h' (zg size [] w0) cid cs .nils):=by
 refine sI F862 ?_;simp only[F862,qM,go_sem];refine Jc (by unfold LIM;omega) ?_;simp only[go_sem];refine lsA ?_;simp only[go_sem];refine Sem.loop (λa:Nat×List qA=>a.1<=size/\a.2[h0.length]?=some (.row 5 ((List.range size).map λj=>emC (if j<a.1 then((j+1:Nat):Int)else 0)) true))
  (λa=>(⟨[(0,iI (size:Nat)),(10,iI (size:Nat)),(11,iI (a.1:Nat))],[(3,.agg [sQ 5 h0.length size,iI 0,iI 0,iI 0,.nils]),(2,.agg [.nils,iI 0,iI 0,iI 0,.nils])],a.2⟩:VSt)) (λa=>size-a.1)
  (0,h0++[qA.row 5 (List.replicate size (emC 0)) true]) (by kernel_rfl) ⟨nZl _,by rw[ends];simp[List.map_const']⟩ csA ?_
 rintro⟨i,h⟩ ⟨hi,r⟩;simp only at hi r;simp only[go_sem];by_cases hlt:i<size
 case pos=>
  have e:decide ((i:Int)<(size:Nat))=true:=dEt (by omega);simp only[e,go_sem,qW hlt,nZa,wuA (n:=i)];refine zx (e:=emC 0) (e':=emC ((i+1:Nat):Int)) rfl r (by rw[gMp,List.getElem?_range hlt,oMs,iN (by omega)]) (by exact Qk rfl rfl) ?_;simp only[go_sem,wuA (n:=i)];refine qd (i+1,h.set h0.length (.row 5 (((List.range size).map λj=>emC (if j<i then((j+1:Nat):Int)else 0)).set i (emC ((i+1:Nat):Int))) true)) ⟨by simp only;omega, ?_⟩ (by simp only;omega) csA;simp only;rw[gSs (qZ r)];congr 2;refine List.ext_getElem? λk=>?_;by_cases hk:k=i
  ·subst hk;rw[gSs (by simpa using hlt),gMp,List.getElem?_range hlt,oMs,iP (by omega)]
  ·rw[gSn (λz=>hk z.symm),gMp,gMp];by_cases hks:k<size
   ·rw[List.getElem?_range hks,oMs,oMs];by_cases hki:k<i
    ·rw[iP hki,iP (by omega)]
    ·rw[iN hki,iN (by omega)]
   ·rw[gEn (by simp;omega)];rfl
 have e:decide ((i:Int)<(size:Nat))=false:=dEf (by omega);obtain rfl:i=size:=by omega
 simp only[e,go_sem];obtain⟨t,rfl⟩:∃t,i=t+1:=⟨i-1,by omega⟩;have ew:IntKind.i64.wrap (((t+1:Nat):Int)-1)=(t:Nat):=by rw[wsA];omega
 have er:((List.range (t+1)).map λj=>emC (if j<t+1 then((j+1:Nat):Int)else 0))=(List.range (t+1)).map λj=>emC ((j+1:Nat):Int):=List.map_congr_left λj hj=>by rw[iP (lMr.1 hj)]
 rw[er]at r;simp only[ew,qW (show t<t+1 by omega),nZa,go_sem];refine zx (e:=emC ((t+1:Nat):Int)) (e':=emC (-1)) rfl r (by rw[gMp,List.getElem?_range (by omega)];rfl) (by exact Qk rfl rfl) ?_;simp only[go_sem];refine lsA ?_;simp only[go_sem];rw[<-List.range_succ];exact⟨_,_,_,qGD.symm,qGE (gSs (qZ r))⟩
end
section
variable {i j k size:Nat} {n:qD} {N:List qB} {p q:qH} {T:qH->qE}
theorem qJM:∀i,(qo N i).Pairwise λa b=>bef a b=true
 | 0=>.nil
 | i+1=>by
  rw[qo,List.pairwise_append];refine⟨qJM i, ?_,λa ha b hb=>?_⟩
  ·unfold zY;rw[List.pairwise_map];refine List.pairwise_lt_range.imp λh=>?_;unfold bef;simp;omega
  ·obtain⟨a',s',rfl,h1,_⟩:=Vh ha;obtain⟨s,_,rfl⟩:=qB8.1 hb;unfold bef pt;simp;omega
theorem qiC(hc:(qO N)[i]?=some p)(hq:q∈qO N)(hb:bef p q=false)(hne:q≠p):q∈(qO N).take i:=by
 obtain⟨j,hj⟩:=List.getElem?_of_mem hq;have hi:=qZ hc;have hjl:=qZ hj;by_cases h:j<i
 ·exact lMo (by rw[List.getElem?_take_of_lt h];exact hj)
 ·by_cases e:j=i
  ·subst e;rw[hc]at hj;exact absurd (Option.some.inj hj).symm hne
  ·have:=List.pairwise_iff_getElem.1 (qJM (N:=N) N.length) i j hi hjl (by omega);rw[gEg hi]at hc;rw[gEg hjl]at hj;have e1:(qo N N.length)[i]=p:=Option.some.inj hc;have e2:(qo N N.length)[j]=q:=Option.some.inj hj;rw[e1,e2,hb]at this;cases this
def dL(N:List qB)(i:Nat)(q:qH):Bool:=decide (q∈(qO N).take i) || (decide (qK N q∈(qO N).take i)&&(hld q&&hld (qK N q)))
theorem dL_0:dL N 0=λ_=>false:=by funext q;simp[dL]
theorem qkK(h:q∈qO N):dL N (qO N).length q=true:=by unfold dL;rw[lTl];simp[h]
theorem Yj(hc:(qO N)[i]?=some p):dL N (i+1) q=(dL N i q || decide (q=p) || (decide (qK N q=p)&&(hld q&&hld (qK N q)))):=by
 have et:(qO N).take (i+1)=(qO N).take i++[p]:=by rw[tA1,hc];rfl
 unfold dL;rw[et];simp only[jL,lMg];rw[Bool.eq_iff_iff];simp only[Bool.or_eq_true,bAt,dTe];constructor
 ·rintro((h | h) | ⟨h | h,h2⟩)
  ·exact .inl (.inl (.inl h))
  ·exact .inl (.inr h)
  ·exact .inl (.inl (.inr ⟨h,h2⟩))
  ·exact .inr ⟨h,h2⟩
 ·rintro(((h | ⟨h,h2⟩) | h) | ⟨h,h2⟩)
  ·exact .inl (.inl h)
  ·exact .inr ⟨.inl h,h2⟩
  ·exact .inl (.inr h)
  ·exact .inr ⟨.inr h,h2⟩
theorem Vf(hW:W N λ_ _=>False)(hq:q∈qO N):qK N q=p↔q=qK N p/\p∈qO N:=by
 have P:=zu hW hq;constructor
 ·rintro rfl;exact⟨P.pp.symm,P.m⟩
 ·rintro⟨e,hp⟩;rw[e];exact(zu hW hp).pp
theorem qkM(hW:W N λ_ _=>False)(hc:(qO N)[i]?=some p)(h2:hld (qK N p)=false):dW N T (dL N (i+1))=dW N T (zk (dL N i) p):=Ze λa s h _ _=>by
 have hq:pt a s∈qO N:=jB.2 ⟨a,s,rfl,h⟩;generalize pt a s=q at*;rw[Yj hc];unfold zk;by_cases e:qK N q=p
 ·rw[((Vf hW hq).1 e).1,h2];simp[Bool.or_comm]
 ·simp[e,Bool.or_comm]
theorem qkL(hc:(qO N)[i]?=some p)(h1:hld p=false):dW N T (dL N (i+1))=dW N T (dL N i):=Ze λa s h _ h0=>by
 have hh:hld (pt a s)=true:=by unfold hld;simp[pt];omega
 generalize pt a s=q at*;rw[Yj hc];have e1:decide (q=p)=false:=dEf λe=>by rw[e,h1]at hh;cases hh
 have e2:(decide (qK N q=p)&&(hld q&&hld (qK N q)))=false:=by
  by_cases e:qK N q=p
  ·rw[e,h1];simp
  ·simp[e]
 rw[e1,e2];simp
theorem dL_a(hW:W N λ_ _=>False)(hc:(qO N)[i]?=some p)(h1:hld p=true)(h2:hld (qK N p)=true):dW N T (dL N (i+1))=dW N T (zk (zk (dL N i) p) (qK N p)):=Ze λa s h _ _=>by
 have hq:pt a s∈qO N:=jB.2 ⟨a,s,rfl,h⟩;generalize pt a s=q at*;rw[Yj hc];unfold zk;by_cases e:q=qK N p
 ·have e2:=(Vf hW hq).2 ⟨e,lMo hc⟩;rw[e2,<-e];rw[<-e]at h2;simp[h1,h2]
 ·have e2:¬qK N q=p:=λz=>e ((Vf hW hq).1 z).1;simp[e,e2,Bool.or_comm]
theorem dL_b(hW:W N λ_ _=>False)(hc:(qO N)[i]?=some p)(h1:hld p=true)(h2:hld (qK N p)=true)(hb:bef p (qK N p)=false):dW N T (dL N (i+1))=dW N T (dL N i):=Ze λa s h _ _=>by
 have hq:pt a s∈qO N:=jB.2 ⟨a,s,rfl,h⟩;have hp:=lMo hc;have P:=zu hW hp;have ht:=qiC hc P.m hb P.ne;generalize pt a s=q at*;rw[Yj hc];by_cases e1:q=p
 ·have:dL N i q=true:=by unfold dL;rw[e1];simp[ht,h1,h2]
  simp[this]
 ·by_cases e:q=qK N p
  ·have:dL N i q=true:=by unfold dL;rw[e];simp[ht]
   simp[this]
  ·have e2:¬qK N q=p:=λz=>e ((Vf hW hq).1 z).1;simp[e1,e2]
def vL(N:List qB)(i:Nat):Nat:=(wrs N ((qO N).take i)).countP (qv true)
theorem qq3:vL N i<=jO N true:=by
 unfold vL jO qq;rw[show qo N N.length=(qO N).take i++(qO N).drop i from(List.take_append_drop ..).symm,Z4,List.countP_append];omega
theorem qq2(ok:qk n=true)(hc:(qO n.G)[i]?=some p)(hb:bef p (qK n.G p)=true)(hh:(hld p&&hld (qK n.G p))=true):((qq n.G).filter (qv true))[vL n.G i]?=some ⟨p,qK n.G p⟩:=by
 have ed:qO n.G=(qO n.G).take i++([p]++(qO n.G).drop (i+1)):=by
  conv=>lhs;rw[<-List.take_append_drop i (qO n.G)]
  rw[lDc (qZ hc)];have:=hc;rw[gEg (qZ hc)]at this;rw[Option.some.inj this];rfl
 unfold qq;rw[show qo n.G n.G.length=qO n.G from rfl]
 conv=>lhs;rw[ed]
 rw[Z4,Z4,YJ,iP hb,List.filter_append,List.filter_append,gAr (by unfold vL;rw[List.countP_eq_length_filter];exact nLr _)];have e0:vL n.G i-((wrs n.G ((qO n.G).take i)).filter (qv true)).length=0:=by unfold vL;rw[List.countP_eq_length_filter,nSs]
 have e3:qv true ⟨p,qK n.G p⟩=true:=by rw[qLN ok (lMo hc) hb];exact hh
 rw[e0,List.filter_cons_of_pos e3];rfl
end
section
variable {w mid cid k s b size tid:Nat} {post cs:List AV} {ow:Nat->Nat} {h h' h0:List qA} {m:qG} {rv dv:AV} {c:qF} {x:qE} {lev:Int} {n:qD} {N:List qB} {v:AV}
theorem qqC(M:MH w mid post ow h m):SCall Gm 866 [.ptr mid 0 0,(pt 0 0).enc,x.enc,v] h (λ_ h'=>∃ow',MH w mid post ow' h' {m with O:=x}/\Fo ow h ow' h'):=by
 obtain⟨cid,cs,rv,M⟩:=M;refine sI W4 ?_;simp only[W4,qM,go_sem];refine qa rfl ?_;simp only[go_sem];refine qa rfl ?_;have e:decide ((pt 0 0).S=0)=true:=rfl;simp only[go_sem,e];refine M.stoRt ?_;simp only[go_sem];exact⟨_,MH.intro M.rt,by simp,λj hj q=>⟨q,gSn (λz=>by subst z;rw[M.m1]at q;cases q)⟩⟩
theorem qmZ{r:qE}(h0:0<N.length):ldS N size 0 r (λ_=>false)=zg size (agL N (N.length-1)) r:=by
 have e:ldC N 0=agL N (N.length-1):=by simp[ldC]
 unfold ldS;rw[qCH (lev:=0) List.nodup_range (by simp;omega) λj k x hj hx=>?_,e];have hi:=qZ hx;rw[JN (by omega)]at hj;cases hj;exact qBV hx
def lM(N:List qB)(size i:Nat):qG:=ldS N size (vL N i) (if i=0 then w0 else ldR N) (dL N i)
theorem lM_0(h0:0<N.length):lM N size 0=zg size (agL N (N.length-1)) w0:=by
 unfold lM;rw[dL_0,iP rfl,show vL N 0=0 from rfl];exact qmZ h0
theorem qmN(ok:qk n=true):jF (lM n.G size (qO n.G).length) (zX n.G (n.G.length-1) (List.range (n.G.length-1)))=ldM n.G size:=by
 obtain⟨l,hl,_⟩:=Xr ok (n.G.length-1) (by have:=jf ok;omega);have hne:(qO n.G).length≠0:=by
  unfold qO;rw[show n.G.length=n.G.length-1+1 by have:=jf ok;omega,hl];simp
 unfold lM;have e:vL n.G (qO n.G).length=ldQ n.G:=by
  unfold vL;rw[lTl,<-YH ok];rfl
 rw[iN hne,e,qBY λa s h _ _=>qkK (jB.2 ⟨a,s,rfl,h⟩),<-qHZ (r:=ldR n.G)];refine WH (λj=>rfl) rfl ?_ rfl;rw[(Zs _).2];rfl
theorem slcT{w m:Nat}{s l:Env}{h:AH}{xs:List AV}{x y:Ao}{k:IntKind}(hx:ev s x=some (.lst w xs false))(hy:ev s y=some (.int k (m:Nat)))(hm:m<=xs.length):val (.slc w x (some y) none none) s l h=some (.lst w (xs.drop m) false):=by
 simp only[val,hx,bnd,hy];rw[iP ⟨by omega,by omega⟩];simp[tOl]
theorem agC0{z:qB}:(⟨z.K,z.L,z.V,z.D,List.replicate (z.P.length-1) w0⟩:qF)=agC 0 z:=by
 unfold agC;split<;>simp
def nR(n i:Nat):List AV:=(0::(List.range i++List.replicate (n-i) 0)).map λk:Nat=>AV.int .i64 (k:Nat)
theorem nR_0{n:Nat}(h:0<n):List.replicate n (AV.int .i64 0)=nR (n-1) 0:=by
 unfold nR;rw[show n=(n-1-0)+1 by omega,List.replicate_succ,List.range_zero,lNa,lMc,List.map_replicate];rfl
theorem qn0{n i:Nat}(h:i<n):(nR n i).set (i+1) (iI (i:Nat))=nR n (i+1):=by
 unfold nR
 try delta iI
 rw[show (AV.int .i64 (i:Nat))=(λk:Nat=>AV.int .i64 (k:Nat)) i from rfl,<-List.map_set,List.set_cons_succ,lSr _ _ (by simp),List.length_range,nSs,show n-i=(n-(i+1))+1 by omega,List.replicate_succ,lSz,List.range_succ];simp
theorem qnZ{n:Nat}:nR n n=(0::List.range n).map λk:Nat=>AV.int .i64 (k:Nat):=by unfold nR;simp
theorem qnY{n i:Nat}(h:i<n):(nR n i)[i+1]?=some (iI 0):=by
 unfold nR;rw[gMp,List.getElem?_cons_succ,gAr (by simp),List.length_range,nSs,List.getElem?_replicate,iP (by omega)];rfl
theorem qC4{a s q:Nat}{D:qH->Bool}{r:qE}(ok:qk n=true)(M:MH w mid post ow h (ldS n.G size q r D))(hs:Has n.G a s)(hh:hld (pt a s)=true)(hx:a≠0->ldT n.G (pt a s)=x)(ht:h[tid]?=some (.row 1 ((0::List.range (n.G.length-1)).map λk:Nat=>AV.int .i64 (k:Nat)) true))(ot:ow tid=0):
  SCall Gm 866 [.ptr mid 0 0,(pt a s).enc,x.enc,sQ 1 tid n.G.length] h (λ_ h'=>∃ow',MH w mid post ow' h' (ldS n.G size q (if a=0 then x else r) (zk D (pt a s)))/\Fo ow h ow' h'):=by
 obtain⟨y,y1,y2⟩:=jI.1 hs;rcases a with _ | a
 ·have:=Jh ok y1;obtain rfl:s=0:=by omega
  refine SCall.mono (qqC M) ?_;rintro v h' ⟨ow',M',F'⟩;refine⟨ow', ?_,F'⟩;have:ldS n.G size q x (zk D (pt 0 0))={ldS n.G size q r D with O:=x}:=by
   unfold ldS;rw[WL (.inl rfl)];rfl
  rw[iP rfl,this];exact M'
 ·obtain⟨s,rfl⟩:∃s',s=s'+1:=⟨s-1,by
   unfold hld at hh;simp only[pt,Bool.or_eq_true,dTe]at hh;omega⟩
  have hl:=qZ y1;rw[iN (by omega)];exact Vu (T:=ldT n.G) (D:=D) (k0:=0) M List.nodup_range (JN (show a<n.G.length-1 by omega)) (qBV y1) y1 y2 (by have:=wT (Jd ok y1);omega) ht ot (by simp;omega) (hx (by omega))
theorem s506(hz:n.sz<=1048576)(ok:qk n=true)(h1:1<=size)(h2:size<=1500):SCall Gm 506 [n.enc,iI (size:Nat)] h0 (λv h'=>∃p,v=.tup [p,iI (ldK n.G size)]/\(∃a b c d e:AV,p=.agg [a,b,c,d,e])/\(ldK n.G size=0->∃cid cs rv ow,p=mE (ldM n.G size) cid rv []/\MC ow h' (ldM n.G size) cid cs rv)):=by
 have hn:=jf ok;have hW:=wR ok;refine SCall.run [2] [] (gk _ kC) (by kernel_rfl) rfl ?_;simp only[kC,qM,go_sem];refine JL rfl ?_;have eh:(h0++[qA.row 1 [n.enc] true])[h0.length]?=some (.row 1 [n.enc] true):=ends;simp only[go_sem,eh];generalize (h0++[qA.row 1 [n.enc] true]).set h0.length qA.dead=g0;refine qI (c319 hz) ?_;simp only[ok,go_sem];have e1:decide ((size:Int)<1)=false:=dEf (by omega);have e2:decide (1500<(size:Int))=false:=dEf (by omega);simp only[e1,e2,go_sem];refine qI (c861 hz ok) ?_;simp only[go_sem];by_cases hc:size<n.G.length-1+ldQ n.G
 case pos=>
  have e3:decide ((size:Int)<((n.G.length-1+ldQ n.G:Nat):Int))=true:=dEt (by omega);have ek:ldK n.G size=4:=iP hc;simp only[e3,go_sem];refine lsA ?_;simp only[go_sem];rw[ek];exact⟨_,rfl,⟨_,_,_,_,_,rfl⟩,λq=>absurd q (by decide)⟩
 have e3:decide ((size:Int)<((n.G.length-1+ldQ n.G:Nat):Int))=false:=dEf (by omega);have ek:ldK n.G size=0:=iN hc;have hq:n.G.length-1+ldQ n.G<=size:=by omega
 simp only[e3,go_sem];refine qj (SCall.mono (s862 h1 h2) ?_);rintro _ h3 ⟨cid,cs,ow,rfl,M⟩;simp only[go_sem];refine zx (e':=mE (zg size [] w0) cid .nils []) rfl ends rfl rfl ?_;simp only[go_sem,lSz];have hcl:=qZ M.c;have M2:=(M.heap (h':=(h3++[qA.row 5 [AV.agg [AV.nils,AV.int IntKind.i64 0,AV.int IntKind.i64 0,AV.int IntKind.i64 0,AV.nils]] true]).set h3.length (.row 5 [mE (zg size [] w0) cid .nils []] true)) (by simp) λj hj q=>by rw[gSn (by omega),gAl hj]).mo (w:=5) (post:=[]) (mid:=h3.length) (gSs (by simp)) (by
  refine Classical.byContradiction λq=>?_;have:=M.b h3.length q;omega)
 have M2:=MH.intro M2;generalize (h3++[qA.row 5 [AV.agg [AV.nils,AV.int IntKind.i64 0,AV.int IntKind.i64 0,AV.int IntKind.i64 0,AV.nils]] true]).set h3.length (.row 5 [mE (zg size [] w0) cid .nils []] true)=h4 at*;generalize (λj=>if j=h3.length then 1 else ow j)=ow2 at*;generalize h3.length=mid at*;have hnz:n.G.length<=1048576:=by unfold qD.sz at hz;omega
 refine Jc (by unfold LIM;omega) ?_;simp only[go_sem];refine Wm (slcT (xs:=n.G.map qB.enc) (k:=.i64) (m:=1) (by simp only[go_sem]) (by simp only[go_sem];rfl) (by rw[lMp];omega)) ?_;have el:((n.G.map qB.enc).drop 1).length=n.G.length-1:=by simp
 simp only[go_sem,el];have M3:=M2.app [qA.row 1 (List.replicate n.G.length (AV.int .i64 0)) true];have t3:(h4++[qA.row 1 (List.replicate n.G.length (AV.int .i64 0)) true])[h4.length]?=some (.row 1 (nR (n.G.length-1) 0) true):=by rw[ends,nR_0 hn]
 have o3:ow2 h4.length=0:=M2.b;generalize h4++[qA.row 1 (List.replicate n.G.length (AV.int .i64 0)) true]=h5 at*;generalize h4.length=tid at*;refine Sem.loop (λa:Nat×(Nat->Nat)×List qA=>a.1+1<=n.G.length/\MH 5 mid [] a.2.1 a.2.2 (zg size (agL n.G a.1) w0)/\a.2.2[tid]?=some (.row 1 (nR (n.G.length-1) a.1) true)/\a.2.1 tid=0)
  (λa=>(⟨[(2,.ept n.enc 0),(6,.ptr mid 0 0),(7,sQ 1 tid n.G.length),(42,.lst 5 ((n.G.map qB.enc).drop 1) false),(43,iI (n.G.length-1:Nat)),(44,iI (a.1:Nat))],[(4,.agg [.nils,iI 0,iI 0,iI 0,.nils])],a.2.2⟩:VSt)) (λa=>n.G.length-a.1)
  (0,ow2,h5) (by kernel_rfl) ⟨by simp only;omega,M3,t3,o3⟩ csA ?_
 rintro⟨i,ow3,h6⟩ ⟨hi,M4,t4,o4⟩;simp only at hi M4 t4 o4;simp only[go_sem];by_cases hlt:i+1<n.G.length
 case pos=>
  have e4:decide ((i:Int)<((n.G.length-1:Nat):Int))=true:=dEt (by omega);have hx:=gEg hlt;generalize n.G[i+1]=z at hx;have oz:=Jd ok hx;have hpp:=(Je oz).2;have hp4:=wT oz;have hzd:=Zf oz;have hl:=QN (N:=n.G) (i:=i) (by omega);have hd1:((n.G.map qB.enc).drop 1)[i]?=some z.enc:=by rw[gDr,Nat.add_comm,gMp,hx];rfl
  simp only[e4,hd1,oMs,go_sem];refine lsA ?_;simp only[go_sem,wuA (n:=i)];refine qj (SCall.mono (s864 (x:=z) (dv:=lQ z.D) (pv:=.lst 2 (z.P.map qH.enc) false) (.refl (by simp only[AV.tree];exact qb shI.tree _)) (by simp only[QB,lMp]) hpp (by omega) (by omega)) ?_);rintro v h7 ⟨U3,cv3⟩;rw[agC0]at cv3;simp only[go_sem];have M5:=M4.upf U3 λ_ q=>q.elim;have hb2:=λj q=>M4.b' (j:=j) q;have hfr:=Xl (r:=w0) (show (agL n.G i).length<size by omega);have hat:=VH (r:=w0) (show (agL n.G i).length<size by omega);rw[hl]at hfr hat;refine qj (SCall.mono (ZN M5 hfr hat (c':=agC 0 z) (T:=λq=>h6.length<=q/\q<h7.length) (λq y=>⟨y.2,Classical.byContradiction λu=>by have:=hb2 q u;omega⟩) (cv3.mono λj hj q=>⟨⟨q,hj⟩,rfl⟩)) ?_);rintro _ h8 ⟨rfl,ow5,M6,F5,l5⟩;have F6:Fo ow3 h6 ow5 h8:=F5.up U3 λq z=>z.1;obtain⟨t5,o5⟩:=F6.at t4 o4;rw[qB5 (by omega),<-qEA hx]at M6;simp only[go_sem,qW hlt,nZa];refine zx (e':=iI (i:Nat)) rfl t5 (qnY (by omega)) rfl ?_;rw[qn0 (by omega)];have g5:=qZ t5;simp only[go_sem,wuA (n:=i)];exact qd (i+1,ow5,h8.set tid (.row 1 (nR (n.G.length-1) (i+1)) true)) ⟨by simp only;omega,M6.upf Up.set λj q=>by rw[q];exact o5,gSs g5,o5⟩ (by simp only;omega) csA
 have e4:decide ((i:Int)<((n.G.length-1:Nat):Int))=false:=dEf (by omega);obtain rfl:i=n.G.length-1:=by omega
 rw[qnZ]at t4;rw[<-lM_0 hn]at M4;simp only[e4,go_sem];refine qI (XF hz) ?_;rw[show qo n.G n.G.length=qO n.G from rfl];have hpl2:(qO n.G).length<=1048576:=by
  have h1:=Qj n.G n.G.length (nLr _);rw[lTl]at h1;unfold qD.sz at hz;unfold qO;omega
 simp only[go_sem];refine Sem.loop (λa:Nat×(Nat->Nat)×List qA=>a.1<=(qO n.G).length/\MH 5 mid [] a.2.1 a.2.2 (lM n.G size a.1)/\a.2.2[tid]?=some (.row 1 ((0::List.range (n.G.length-1)).map λk:Nat=>AV.int .i64 (k:Nat)) true)/\a.2.1 tid=0)
  (λa=>(⟨[(2,.ept n.enc 0),(6,.ptr mid 0 0),(7,sQ 1 tid n.G.length),(57,.lst 2 ((qO n.G).map qH.enc) false),(58,iI ((qO n.G).length:Nat)),(59,iI (a.1:Nat))],[(4,.agg [.nils,iI 0,iI 0,iI 0,.nils])],a.2.2⟩:VSt)) (λa=>(qO n.G).length-a.1)
  (0,ow3,h6) (by kernel_rfl) ⟨nZl _,M4,t4,o4⟩ csA ?_
 rintro⟨i,ow4,h7⟩ ⟨hi,M5,t5,o5⟩;simp only at hi M5 t5 o5;simp only[go_sem];by_cases hlt2:i<(qO n.G).length
 case neg=>
  have e5:decide ((i:Int)<((qO n.G).length:Nat))=false:=dEf (by omega);obtain rfl:i=(qO n.G).length:=by omega
  simp only[e5,go_sem];refine qI (c376 hz ok) ?_;rw[show Xm n=qu n.G (n.G.length-1)from rfl];simp only[go_sem];have hend:=qmN (size:=size) ok;generalize hMV:lM n.G size (qO n.G).length=MV at*;have hrx:MV.R=[]:=by rw[<-hMV];rfl
  have hpl:=ZI n.G (n.G.length-1);have hpt:(zX n.G (n.G.length-1) (List.range (n.G.length-1))).length=(qu n.G (n.G.length-1)).length:=by simp[zX]
  refine Sem.loop (λa:Nat×(Nat->Nat)×List qA=>a.1<=(qu n.G (n.G.length-1)).length/\MH 5 mid [] a.2.1 a.2.2 (jF MV ((zX n.G (n.G.length-1) (List.range (n.G.length-1))).take a.1))/\a.2.2[tid]?=some (.row 1 ((0::List.range (n.G.length-1)).map λk:Nat=>AV.int .i64 (k:Nat)) true)/\a.2.1 tid=0)
   (λa=>(⟨[(2,.ept n.enc 0),(6,.ptr mid 0 0),(7,sQ 1 tid n.G.length),(102,.lst 2 ((qu n.G (n.G.length-1)).map qL.enc) false),(103,iI ((qu n.G (n.G.length-1)).length:Nat)),(104,iI (a.1:Nat))],[(4,.agg [.nils,iI 0,iI 0,iI 0,.nils])],a.2.2⟩:VSt)) (λa=>(qu n.G (n.G.length-1)).length-a.1)
   (0,ow4,h7) (by kernel_rfl) ⟨nZl _,M5,t5,o5⟩ csA ?_
  rintro⟨i,ow7,h8⟩ ⟨hi,M7,t7,o7⟩;simp only at hi M7 t7 o7;simp only[go_sem];by_cases hil:i<(qu n.G (n.G.length-1)).length
  case neg=>
   have e6:decide ((i:Int)<((qu n.G (n.G.length-1)).length:Nat))=false:=dEf (by omega);rw[tOl (by omega),hend]at M7;obtain⟨cid,cs,rv,M7⟩:=M7;simp only[e6,go_sem,M7.o,qIF];refine lsA ?_;simp only[go_sem];rw[ek];exact⟨_,rfl,⟨_,_,_,_,_,rfl⟩,λ_=>⟨_,_,_,_,rfl,M7.mc⟩⟩
  have e6:decide ((i:Int)<((qu n.G (n.G.length-1)).length:Nat))=true:=dEt (by omega);have hx:=gEg hil;generalize (qu n.G (n.G.length-1))[i]=p at hx;have hpm:=lMo hx;have hpp:=Vb hpm;obtain⟨a,c,rfl,ha,hc⟩:=Va ok hpm;have a2:((0::List.range (n.G.length-1)).map λk:Nat=>AV.int .i64 (k:Nat))[a+1]?=some (iI (a:Nat)):=by rw[gMp,List.getElem?_cons_succ,JN (by omega)];rfl
  have c2:((0::List.range (n.G.length-1)).map λk:Nat=>AV.int .i64 (k:Nat))[c+1]?=some (iI (c:Nat)):=by rw[gMp,List.getElem?_cons_succ,JN (by omega)];rfl
  have et:(zX n.G (n.G.length-1) (List.range (n.G.length-1))).take (i+1)=(zX n.G (n.G.length-1) (List.range (n.G.length-1))).take i++[(a,c)]:=by
   rw[tA1,zX,gMp,hx];simp only[oMs,Option.toList_some,iTn];rw[Za (by omega),Za (by omega)]
  obtain⟨cid,cs,rv,M8⟩:=M7;simp only[e6,gMp,hx,oMs,go_sem];refine lsA ?_;simp only[go_sem,M8.o,qW ha,qW hc,nZa,t7,a2,c2];have M9:=M8.app [qA.row 2 [AV.agg [iI (a:Nat),iI (c:Nat)]] true];have hrl:(jF MV ((zX n.G (n.G.length-1) (List.range (n.G.length-1))).take i)).R.length<=1048576:=by rw[Wo,hrx,lLt];simp;omega
  refine wc M9.r ends (by rw[lMp];omega) λh9 u3 v3 l3=>?_;have hm:=u3.at M9.o (λq=>by have:=q.1;rw[M9.m1]at this;omega);simp only[go_sem];generalize hML:jF MV ((zX n.G (n.G.length-1) (List.range (n.G.length-1))).take i)=ML at*;have hac:(a:Int)<c:=by have:=hpp.2;simp only at this;omega
  have e7:(ML.R.map qL.enc)++[AV.agg [iI (a:Nat),iI (c:Nat)]]=((ML.R++[(⟨min (a:Int) c,max (a:Int) c⟩:qL)]).map qL.enc):=by
   rw[lMa,Int.min_eq_left (by omega),Int.max_eq_right (by omega)];rfl
  rw[e7]at v3;refine X8 hm (ML.R++[(⟨min (a:Int) c,max (a:Int) c⟩:qL)]) rfl ?_;obtain⟨M10,f2⟩:=M9.redx (u3.w λj _ q=>q.1) (nLr _) v3 (rv':=.slice 2 (h8++[qA.row 2 [AV.agg [iI (a:Nat),iI (c:Nat)]] true]).length 0 (ML.R.length+1) false) (by simp);have f3:=(Fo.app (ow:=ow7) (h:=h8) _).trans f2;obtain⟨t8,o8⟩:=f3.at t7 o7;simp only[go_sem,wuA (n:=i)];refine qd (i+1,owR ow7 (h8++[qA.row 2 [AV.agg [AV.int .i64 (a:Nat),AV.int .i64 (c:Nat)]] true]).length,_) ⟨by simp only;omega, ?_,t8,o8⟩ (by simp only;omega) csA;simp only[et];rw[Xw,hML];exact⟨cid,cs,_,M10⟩
 have e5:decide ((i:Int)<((qO n.G).length:Nat))=true:=dEt (by omega);have hcp:=gEg hlt2;generalize (qO n.G)[i]=p at hcp;have hpm:=lMo hcp;have P:=zu hW hpm;have hqm:=P.m;have X:=qH6 ok hq;have hv:=YH ok;have root0:p.N=0->i=0/\p=pt 0 0:=λe=>by
  have e2:=Xx ok hpm e;obtain⟨l,hl,_⟩:=Xr ok (n.G.length-1) (by omega);have e0:(qO n.G)[0]?=some (pt 0 0):=by unfold qO;rw[show n.G.length=n.G.length-1+1 by omega,hl];rfl
  exact⟨(List.getElem?_inj hlt2 Xs).1 (hcp.trans (by rw[e2,e0])),e2⟩
 have zero_root:i=0->p=pt 0 0:=λe=>by
  subst e;obtain⟨l,hl,_⟩:=Xr ok (n.G.length-1) (by omega);have e0:(qO n.G)[0]?=some (pt 0 0):=by unfold qO;rw[show n.G.length=n.G.length-1+1 by omega,hl];rfl
  rw[e0]at hcp;exact(Option.some.inj hcp).symm
 have es:=qLT ok hcp;rw[show (wrs n.G ((qO n.G).take (i+1))).countP (qv true)=vL n.G (i+1)from rfl,show (wrs n.G ((qO n.G).take i)).countP (qv true)=vL n.G i from rfl]at es;have hvl:=qq3 (N:=n.G) (i:=i);rw[hv]at hvl;obtain⟨a,s,rfl,hs⟩:=jB.1 hpm;obtain⟨y,y1,y2⟩:=jI.1 hs;have hal:=qZ y1;simp only[e5,gMp,hcp,oMs,go_sem];refine lsA ?_;simp only[go_sem];refine qI (Ya hs λ_=>rfl) ?_;simp only[go_sem];obtain⟨c,t,hqe,ht⟩:=jB.1 hqm;obtain⟨z,z1,z2⟩:=jI.1 ht;have hcl:=qZ z1;have hpe:qK n.G (pt c t)=pt a s:=by rw[<-hqe];exact P.pp
 rw[hqe]at hqm es|-;refine lsA ?_;simp only[go_sem];refine qI (c865 ok hpm hqm) ?_;simp only[go_sem];have hp4:∀(i:Nat)(z:qB),n.G[i]?=some z->z.P.length<=1000:=λi z h1=>by have:=wT (Jd ok h1);omega
 have ri:∀x:qE,(a=0->x=ldR n.G)->(if a=0 then x else if i=0 then w0 else ldR n.G)=ldR n.G:=λx hx=>by
  by_cases ha:a=0
  ·rw[iP ha,hx ha]
  ·rw[iN ha,iN λe=>ha (by have:=(QE.1 (zero_root e)).1;omega)]
 cases hh:(hld (pt a s)&&hld (pt c t))
 case true=>
  obtain⟨hp1,hq1⟩:=Bool.and_eq_true_iff.1 hh;simp only[go_sem];refine qI c556 ?_;simp only[go_sem];cases hb:bef (pt a s) (pt c t)
  case false=>
   rw[hb,iN (λz=>by cases z.1)]at es;have hi0:i≠0:=λe=>by
    obtain⟨h1,h2⟩:=QE.1 (zero_root e);subst h1 h2;have:=Zb (p:=pt 0 0) (q:=pt c t) (λe=>P.ne (by rw[hqe];exact e.symm));rw[hb]at this;have:=qAJ.1 this;omega
   simp only[go_sem,wuA (n:=i)];refine qd (i+1,ow4,h7) ⟨by simp only;omega, ?_,t5,o5⟩ (by simp only;omega) csA;have eD:=dL_b (T:=ldT n.G) hW hcp hp1 (by rw[hqe];exact hq1) (by rw[hqe];exact hb);have:lM n.G size (i+1)=lM n.G size i:=by
    unfold lM ldS;rw[es,eD,iN (by omega),iN hi0];rfl
   simp only[this];exact M5
  rw[hb,iP ⟨rfl,hh⟩]at es;have hat:=qq2 ok hcp (by rw[hqe];exact hb) (by rw[hqe];exact hh);rw[hqe]at hat;have hvq:vL n.G i<ldQ n.G:=by
   have:=qZ hat;rw[<-List.countP_eq_length_filter]at this;rw[<-hv];exact this
  obtain⟨x1,x2,x3⟩:=X.t2 (vL n.G i) _ (n.G.length-1+vL n.G i) hat (by rw[List.getElem?_range' hvq];simp);simp only at x1 x2 x3;obtain⟨f1,f2,f3⟩:=qH3 (N:=n.G) (size:=size) (q:=vL n.G i) (r:=if i=0 then w0 else ldR n.G) (f:=dW n.G (ldT n.G) (dL n.G i)) hn (by omega);generalize n.G.length-1+vL n.G i=v at*;have M6:MH 5 mid [] ow4 h7 (ovM (zg size (ldC n.G (vL n.G i)) (if i=0 then w0 else ldR n.G)) (gkw (List.range (n.G.length-1)) (dW n.G (ldT n.G) (dL n.G i)))):=M5;simp only[go_sem];refine qj (SCall.mono (Vt M6 f1 f2 (qX []) rfl rfl) ?_);rintro _ h8 ⟨rfl,ow5,M7,F7⟩;rw[f3]at M7;obtain⟨t6,o6⟩:=F7.at t5 o5;simp only[go_sem];refine lsA ?_;simp only[go_sem];refine qj (SCall.mono (qC4 (x:=vW v) ok M7 hs hp1 (λha=>x1 (by
   unfold hld at hp1;simp only[pt,Bool.or_eq_true,dTe]at hp1|-;omega)) t6 o6) ?_)
  rintro _ h9 ⟨ow6,M8,F8⟩;obtain⟨t7,o7⟩:=F8.at t6 o6;simp only[go_sem];have hc0:c≠0:=λe=>by subst e;have:=Jh ok z1;have:=qAJ.1 hb;omega
  refine qj (SCall.mono (qC4 (x:=vW v) ok M8 ht hq1 (λ_=>x2) t7 o7) ?_);rintro _ h10 ⟨ow7,M9,F9⟩;obtain⟨t8,o8⟩:=F9.at t7 o7;simp only[go_sem,wuA (n:=i)];refine qd (i+1,ow7,h10) ⟨by simp only;omega, ?_,t8,o8⟩ (by simp only;omega) csA;have eD:=dL_a (T:=ldT n.G) hW hcp hp1 (by rw[hqe];exact hq1);rw[hqe]at eD;rw[iN hc0,ri _ (λha=>(x3 (by rw[(root0 (by simp[pt,ha])).2])).symm)]at M9;have:lM n.G size (i+1)=ldS n.G size (vL n.G i+1) (ldR n.G) (zk (zk (dL n.G i) (pt a s)) (pt c t)):=by
   unfold lM ldS;rw[es,eD,iN (by omega)]
  simp only[this];exact M9
 have es2:vL n.G (i+1)=vL n.G i:=by rw[es,iN (λz=>by rw[hh]at z;cases z.2)];rfl
 have ep:decide (0<(s:Int))=true\/decide (0<(s:Int))=false:=by cases decide (0<(s:Int))<;>simp
 simp only[go_sem];cases hp1:hld (pt a s)
 case false=>
  have h3:=hp1;unfold hld at h3;rw[Bool.or_eq_false_iff]at h3;have s0:decide (0<(s:Int))=false:=h3.1;have a0:decide ((a:Int)=0)=false:=h3.2;simp only[s0,a0,go_sem,show (pt a s).N=(a:Int)from rfl,wuA (n:=i)];refine qd (i+1,ow4,h7) ⟨by simp only;omega, ?_,t5,o5⟩ (by simp only;omega) csA;have:lM n.G size (i+1)=lM n.G size i:=by
   unfold lM ldS;rw[es2,qkL hcp hp1,iN (by omega),iN λe=>by rw[zero_root e]at hp1;cases hp1]
  simp only[this];exact M5
 have hq1:hld (pt c t)=false:=by rw[hp1,Bool.true_and]at hh;exact hh
 obtain⟨c,rfl⟩:∃c',c=c'+1:=⟨c-1,by
  unfold hld at hq1;rw[Bool.or_eq_false_iff]at hq1;have:=odF hq1.2;simp only[pt]at this;omega⟩
 obtain rfl:t=0:=by
  unfold hld at hq1;rw[Bool.or_eq_false_iff]at hq1;have:=odF hq1.1;simp only[pt]at this;omega
 have fin:∀h8 ow5,MH 5 mid [] ow5 h8 (ldS n.G size (vL n.G i) (if a=0 then aW c else if i=0 then w0 else ldR n.G) (zk (dL n.G i) (pt a s)))->MH 5 mid [] ow5 h8 (lM n.G size (i+1)):=λh8 ow5 M6=>by
  have eD:=qkM (T:=ldT n.G) hW hcp (by rw[hqe];exact hq1);rw[ri _ λha=>(X.r0 c c (by rw[<-hqe,(root0 (by simp[pt,ha])).2]) (JN (by omega))).symm]at M6;have:lM n.G size (i+1)=ldS n.G size (vL n.G i) (ldR n.G) (zk (dL n.G i) (pt a s)):=by
   unfold lM ldS;rw[es2,eD,iN (by omega)]
  rw[this];exact M6
 have hT:a≠0->ldT n.G (pt a s)=aW c:=λha=>qH2 ok hpm (by
  unfold hld at hp1;simp only[pt,Bool.or_eq_true,dTe]at hp1|-;omega) hqe (by omega)
 have c2:((0::List.range (n.G.length-1)).map λk:Nat=>AV.int .i64 (k:Nat))[c+1]?=some (iI (c:Nat)):=by rw[gMp,List.getElem?_cons_succ,JN (by omega)];rfl
 have key:=qC4 (x:=aW c) ok M5 hs hp1 hT t5 o5;rcases ep with s0 | s0
 ·simp only[s0,go_sem,show (pt (c+1) 0).N=((c+1:Nat):Int)from rfl,qW hcl,nZa,t5,c2];refine qj (SCall.mono key ?_);rintro _ h8 ⟨ow5,M6,F6⟩;obtain⟨t6,o6⟩:=F6.at t5 o5;simp only[go_sem,wuA (n:=i)];exact qd (i+1,ow5,h8) ⟨by simp only;omega,fin _ _ M6,t6,o6⟩ (by simp only;omega) csA
 ·have a0:decide ((a:Int)=0)=true:=by
   unfold hld at hp1;rw[show (pt a s).S=(s:Int)from rfl,s0,Bool.false_or]at hp1;exact hp1
  simp only[s0,a0,go_sem,show (pt a s).N=(a:Int)from rfl,show (pt (c+1) 0).N=((c+1:Nat):Int)from rfl,qW hcl,nZa,t5,c2];refine qj (SCall.mono key ?_);rintro _ h8 ⟨ow5,M6,F6⟩;obtain⟨t6,o6⟩:=F6.at t5 o5;simp only[go_sem,wuA (n:=i)];exact qd (i+1,ow5,h8) ⟨by simp only;omega,fin _ _ M6,t6,o6⟩ (by simp only;omega) csA
end
section
variable {w mid cid k s b size tid:Nat} {post cs:List AV} {ow:Nat->Nat} {h h' h0:List qA} {m:qG} {rv dv:AV} {c:qF} {n:qD} {bk:List qD} {bu:Int}
theorem qoM:only (List.range h.length) h=h:=by
 refine List.ext_getElem? λi=>?_;unfold only;rw[List.getElem?_mapIdx];cases hi:h[i]? with
 | none=>rfl
 | some o=>rw[oMs,iP (by rw[lCm,lMr];exact qZ hi)]
theorem MC.cv(M:MC ow h m cid cs rv):Cv h (mE m cid rv []) m.enc:=by
 have hd:∀p∈cs.zip (m.C.map qF.enc),Cv h p.1 p.2:=λp hp=>by
  obtain⟨k,hk⟩:=List.getElem?_of_mem hp;obtain⟨h1,h2⟩:=List.getElem?_zip_eq_some.1 hk;rw[gMp,oMi]at h2;obtain⟨c,c1,c2⟩:=h2;obtain⟨v,v1,dv,wv,v2,v3,v4⟩:=M.e k c c1;rw[h1]at v1;cases v1;rw[v2,<-c2];have:=Cvs.cons (Cv.ints (h:=h) (x:=c.K)) (Cvs.cons (Cv.ints (x:=c.L)) (Cvs.cons (Cv.ints (x:=c.V)) (Cvs.cons (v3.cv (qb shI.tree _) (by decide)) (Cvs.cons (v4.cv (qb qE.isSh.tree _) (by decide)) Cvs.nil))));exact .agg this.1 this.2
 have hs:Cv h (sQ 5 cid m.C.length) (.lst 5 (m.C.map qF.enc) false):=by
  refine .slc M.c (by rw[M.l];omega) (by decide) (by rw[List.drop_zero,lLt,M.l,lMp];omega) ?_;rw[List.drop_zero,tOl (by rw[M.l];omega)];exact hd
 have:=Cvs.cons hs (Cvs.cons (Cv.ints (x:=m.F)) (Cvs.cons (Cv.ints (x:=m.O.T)) (Cvs.cons (Cv.ints (x:=m.O.I)) (Cvs.cons (M.r.cv (qb qL.isSh.tree _) (by decide)) Cvs.nil))));exact .agg this.1 this.2
theorem qG4:∀(f:Nat){r:Run},r.ls<=(goM bk f r).1.ls
 | 0,r=>by
  by_cases h:r.m.R=[]
  ·rw[Yy h];exact Int.le_refl _
  ·rw[qBR h];exact Int.le_refl _
 | f+1,r=>by
  by_cases h:r.m.R=[]
  ·rw[Yy h];exact Int.le_refl _
  ·rw[goM,iN h];split
   ·exact Int.le_refl _
   ·refine Int.le_trans ?_ (qG4 f (r:=r.go bk));exact Int.le_max_left _ _
theorem qm6(ok:qk n=true)(hq:n.G.length-1+ldQ n.G<=size):1<=zI (ldM n.G size):=by
 have hn:=jf ok;have e:nF (ldM n.G size).C=_:=qH5 ok hq;unfold zI;rw[e,qH0 hn hq];obtain⟨c,_,_,_,_,hc⟩:=Jy ok;omega
theorem c186(hl:bk.length+zD qD.sz bk<=1048576)(hz:n.sz<=1048576):Pure Gm 186 [.lst 1 (bk.map qD.enc) false,n.enc,iI bu] (.tup [iI (if lsC bk n bu=0 then(Ji bk (ldM n.G 1500) bu).1.ls else 0),iI (lsC bk n bu)]):=by
 refine pI Kz (by simp[AV.trees,AV.tree,go_sem,qb qD.isSh.tree]) rfl ?_;simp only[Kz,qM,go_sem];refine qa rfl ?_;simp only[go_sem];refine qI (c505 (by omega) λn hn=>by have:=jr (f:=qD.sz) hn;omega) ?_;simp only[go_sem];cases e1:z5 bk
 case false=>
  simp only[go_sem];exact zT (by rfl) (by simp[lsC,ldB,e1])
 simp only[go_sem];refine qI (c319 hz) ?_;simp only[go_sem];cases e2:qk n
 case false=>
  simp only[go_sem];exact zT (by rfl) (by simp[lsC,ldB,e2])
 simp only[go_sem];have e0:inI 1500 1 1500=true:=by decide
 by_cases b0:bu<0
 case pos=>
  simp only[b0,go_sem];have:inI bu 0 4000=false:=by unfold inI;simp;omega
  exact zT (by rfl) (by simp[lsC,ldB,e1,e2,this])
 simp only[b0,decide_false,go_sem];by_cases b1:4000<bu
 case pos=>
  simp only[b1,go_sem];have:inI bu 0 4000=false:=by unfold inI;simp;omega
  exact zT (by rfl) (by simp[lsC,ldB,e1,e2,this])
 simp only[b1,decide_false,go_sem];have e3:inI bu 0 4000=true:=by unfold inI;simp;omega
 have eB:ldB bk n 1500 bu=ldK n.G 1500:=by simp[ldB,e1,e2,e0,e3]
 refine qj (SCall.mono (s506 (size:=1500) hz e2 (by decide) (by decide)) ?_);rintro _ h1 ⟨p,rfl,⟨c0,c1,c2,c3,c4,rfl⟩,H⟩;simp only[go_sem];refine lsA ?_;simp only[go_sem];by_cases hc:ldK n.G 1500=0
 case neg=>
  simp only[hc,decide_false,go_sem];exact zT (by rfl) (by simp[lsC,eB,hc])
 have hB:ldB bk n 1500 bu=0:=by rw[eB,hc]
 obtain⟨_,_,_,_,p0,p1,hq⟩:=ld0 hB;have vm:VM (ldM n.G 1500):=qHY hB;obtain⟨cid,cs,rv,ow,e5,M⟩:=H hc;simp only[hc,go_sem];rw[e5];have hms:=vm.szs;have eb:QQ bk (ldM n.G 1500) bu=0:=by simp[QQ,e1,VG.2 vm,e3]
 have eC:lsC bk n bu=wE bk (ldM n.G 1500) bu:=by rw[lsC,iP hB,wE,iP eb]
 have hcv:Cv (only (List.range h1.length) h1) (mE (ldM n.G 1500) cid rv []) (ldM n.G 1500).enc:=by rw[qoM];exact M.cv
 have k1:=SCall.giveH (vs:=[.lst 1 (bk.map qD.enc) false,mE (ldM n.G 1500) cid rv [],iI bu]) (List.range h1.length) (HCv.list (.same _) (HCv.list (.cv hcv qG.tr) (HCv.list (.same _) ⟨rfl,λp hp=>by cases hp⟩))) (s507 (h0:=without (List.range h1.length) h1) (bu:=bu) hl (by omega:(ldM n.G 1500).sz<=1048576));refine qj (SCall.mono k1 ?_);rintro _ h2 ⟨p,rfl,R⟩;rw[<-eC]at R|-;simp only[go_sem];by_cases h0:lsC bk n bu=0
 case neg=>
  simp only[h0,decide_false,go_sem];exact zT (by rfl) (by simp[h0])
 obtain⟨rid,mid,ctid,ow,tv,rfl,R,_⟩:=R h0;simp only[h0,go_sem,R.e];have hmax:max (Ji bk (ldM n.G 1500) bu).1.ls 1=(Ji bk (ldM n.G 1500) bu).1.ls:=by
  have h1:=qm6 (n:=n) (size:=1500) e2 hq;have h2:=qG4 (bk:=bk) bu.toNat (r:=⟨ldM n.G 1500,[],zI (ldM n.G 1500),zI (ldM n.G 1500)⟩);unfold Ji;simp only at h2;omega
 exact zT (by rfl) (by simp[h0,hmax])
theorem c25(hb:bk.length<=140737488355328/\(∀y∈bk,qD.bd y))(hn:n.bd):Pure Gm 25 [.lst 1 (bk.map qD.enc) false,n.enc,iI bu] (.bool true):=by
 refine pI F25 (by simp[AV.trees,AV.tree,go_sem,qb qD.isSh.tree]) rfl ?_;simp only[F25,qM,go_sem];refine qa rfl ?_;simp only[go_sem];refine qI (c181 bk hb 1048576 (by omega)) ?_;simp only[go_sem];apply qU<;>intro hc<;>simp only[hc,go_sem]
 ·exact qN rfl rfl
 have hbz:bk.length+zD qD.sz bk<=1048576:=by
  have:=odF hc;rw[QA]at this;omega
 rw[Jb hbz];refine qI (c182 n hn (1048576-(bk.length+zD qD.sz bk)) (by omega)) ?_;simp only[go_sem];apply qU<;>intro hc<;>simp only[hc,go_sem]
 ·exact qN rfl rfl
 have hmz:n.sz<=1048576:=by
  have:=odF hc;rw[QA]at this;omega
 refine qI (c184 bk hbz) ?_;simp only[go_sem];refine qI (YY n hmz) ?_;simp only[go_sem];refine qI (c183 hbz hmz) ?_;simp only[go_sem];refine qI (c184 bk hbz) ?_;simp only[go_sem];refine qI (YY n hmz) ?_;simp only[go_sem];refine qI (c186 hbz hmz) ?_;simp only[go_sem,beq_self_eq_true];refine qI (c184 bk hbz) ?_;simp only[go_sem];refine qI (c187 bk (by omega)) ?_;simp only[go_sem];refine qI (YY n hmz) ?_;simp only[go_sem];refine qI (c188 n (by omega)) ?_;simp only[go_sem];exact qN rfl rfl
end
end Go.Ab
