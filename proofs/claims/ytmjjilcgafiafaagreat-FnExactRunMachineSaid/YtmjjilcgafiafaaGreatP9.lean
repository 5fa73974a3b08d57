/- Texts Mi14 .. Mi24: the abstract machine, its laws and contracts of functions: lemmas for the statement. No condition. -/
import Derived.Test.YtmjjilcgafiafaaGreatP8
set_option linter.unusedSimpArgs false
set_option linter.unusedVariables false
namespace Go.Ab
open Go
set_option maxRecDepth 10000
set_option maxHeartbeats 4000000
def rdL(xs:List qF)(k:Nat):List qF:=xs.take k++xs.drop (k+1)
theorem qC3{A:List qA}{x y:qA}{n:Nat}(h:A.length=n):(A++[x]).set n y=A++[y]:=by
 subst h;simp
theorem qsX{xs:List qF}{h:List qA}{id k:Nat}{K:AV->List qA->Prop}(ho:h[id]?=some (.row 2 (xs.map qF.enc) true))(hz:xs.length<=1048576)(hk:k<xs.length)
  (hK:K (sQ 2 h.length (xs.length-1)) (h.set id .dead++[.row 2 ((rdL xs k).map qF.enc) true])):SCall Gm 1287 [sQ 2 id xs.length,iI (k:Int),iI ((k:Int)+1)] h K:=by
 refine SCall.cut h.length (xs.length-1) 2 ?_;refine sI Ka ?_;simp only[Ka,qN,go_sem];have hid:id<h.length:=(gSi.1 ho).1;refine qtG ho (by simp;omega) (c:=xs.length) (b:=k+1) (a:=k) (by simp[bnd,go_sem]) (by simp[bnd,go_sem];omega) (by simp[bnd,go_sem];omega) ?_;simp only[go_sem];have hne:decide ((k:Int)=(k:Int)+1)=false:=dEf (by omega);simp only[hne,go_sem];refine YL (v:=sQ 2 id k) (by simp[val,bnd,go_sem,show k<=xs.length by omega]) ?_;simp only[go_sem];refine YL (v:=.slice 2 id (k+1) (xs.length-(k+1)) false) (by simp[val,bnd,go_sem,show (0:Int)<=(k:Int)+1/\(k:Int)+1<=(xs.length:Int) by omega]) ?_;simp only[go_sem];refine qk8 (el:=xs.map qF.enc) (ys:=(xs.map qF.enc).drop (k+1)) ?_ ho (by simp;omega) (by simp;omega) ?_
 ·have:=Els.part (h:=h) (w:=2) (id:=id) (off:=k+1) (n:=xs.length-(k+1)) (c:=false) ho (by simp;omega);rwa[tOl (by simp)]at this
 simp only[go_sem];have e1:k+(List.drop (k+1) (xs.map qF.enc)).length=xs.length-1:=by simp;omega
 simp only[e1];generalize hrow:(((xs.map qF.enc).drop 0).take k)++(List.drop (k+1) (xs.map qF.enc)++List.drop (0+k+(List.drop (k+1) (xs.map qF.enc)).length) (xs.map qF.enc))=row;have hl:row.length=xs.length:=by rw[<-hrow];simp;omega
 have htk:row.take (xs.length-1)=(rdL xs k).map qF.enc:=by
  rw[<-hrow,<-lAa,List.take_append_of_le_length (by simp;omega),tOl (by simp;omega)];simp[rdL]
 have hA:(h.set id .dead).length=h.length:=by simp
 have hat:(h.set id .dead++[qA.row 2 row true])[h.length]?=some (qA.row 2 row true):=by
  rw[gAr (by simp)];simp
 refine qtH hat (by omega) (b:=xs.length) (a:=xs.length-1) (by simp only[bnd,go_sem,hl];simp) (by simp only[bnd,go_sem];simp) ?_;simp only[go_sem];refine qm9 hat (by omega) (by omega) ?_;simp only[go_sem];refine⟨_,by rw[qC3 hA,gAr (by omega),hA,nSs,List.getElem?_cons_zero], ?_⟩;rw[qC3 hA,qC3 hA];have e2:∀r:List AV,List.take (xs.length-1) (List.take (0+(xs.length-1)) row++r)=(rdL xs k).map qF.enc:=by
  intro r;rw[nZa,List.take_append_of_le_length (by simp;omega),List.take_take,Nat.min_self,htk]
 rw[e2];exact hK
section
variable {w mid cid k a b:Nat} {post cs:List AV} {ow:Nat->Nat} {h h':List qA} {m:qH} {rv dv:AV} {c x y:qC} {P:List qE} {O:Nat->Bool} {bk:List qD} {p:qF}
abbrev bkP(bk:List qD):List AV:=[.lst 1 (bk.map qD.enc) false]
theorem Q4:AV.trees (bkP bk)=true:=by simp[AV.trees,AV.tree,qY qD.isSh.tree]
theorem MH.lendX{g e:Nat}{E:Ev}{ck l:List qG}{fs:List Fr1}{s l':qq}{Q:qn->VSt->Prop}{bs:List AV}{v:AV}(M:MH w mid post ow h m)(hp:AV.trees post=true)(hw:0<w)(hb:AV.trees bs=true)(hf:Pure E.Γ g (.ept (xM m post) 0::bs) v)(hl:v.leaf=true)
  (hr:R E (.ops l::fs) ⟨(e,v)::s,l',h⟩ Q):j7 E (some (g,.ptr mid 0 0::bs)) ck (some e) l fs ⟨s,l',h⟩ Q:=
 jf (Cvs.cons (M.cvp hp hw) (Cvs.tr hb)) hf hl hr
structure Beg(w mid:Nat)(post:List AV)(ow:Nat->Nat)(h:List qA)(lv:AV)(q:qH×List qp)(m m':qH):Prop where
 mh:MH w mid post ow h q.1
 l:LsW (λj=>ow j=0) 4 h lv (q.2.map qp.enc)
 mm:MM q.1 (lws q.2++[]) O0
 e:Jd q.1 q.2=m'
 n:q.2.length<=1000
 c:q.1.C.length=m.C.length
theorem qJ3(M:MH w mid post ow h m)(hc:m.C[k]?=some c):SCall Gm 1288 [.ptr mid 0 0,iI (k:Nat)] h (λ_ h'=>∃ow',MH w mid post ow' h' (qV m k)/\Fo ow h ow' h'/\(∀j,j<h.length->ow j=k+3->ow' j=0/\h'[j]?=h[j]?)/\∀j,j<h.length->2<=ow j->ow j≠k+3->ow' j=ow j/\h'[j]?=h[j]?):=by
 obtain⟨cid,cs,rv,M⟩:=M;have hk:=zP hc;refine sI XN ?_;simp only[XN,qN,go_sem,M.o,qS hk,nZa];refine M.sto5 hc rfl ⟨_,rfl⟩ ?_;have M1:=M.setC (k:=k) (c':=zt m.F) (λ_=>False) hc (λ_ t=>t.elim) CV.free;have f1:=M.setC_fo (k:=k) (T:=λ_=>False) (v':=.agg [iI 0,iI 0,iI m.F,.nils,.nils]) (λ_ t=>t.elim);simp only[go_sem];refine M1.stoF _ ?_;have M2:=M1.setF (k:Int);simp only[go_sem];refine⟨_,⟨cid,_,rv,by rw[qV,iTn];exact M2⟩,f1.trans M1.setF_fo,λj hj q=>⟨by rw[Jh (λt=>t),iP q], ?_⟩,λj hj q q2=>⟨by rw[Jh (λt=>t),iN q2], ?_⟩⟩
 ·rw[sne λe=>by subst e;rw[M.m1]at q;omega,sne λe=>by subst e;rw[M.c1]at q;omega]
 ·rw[sne λe=>by subst e;rw[M.m1]at q;omega,sne λe=>by subst e;rw[M.c1]at q;omega]
theorem s975(M:MH w mid (bkP bk) ow h m)(hw:0<w)(mm:MM m [] O0)(hk:k<m.R.length)(hb:z8 bk=true)(hcl:m.C.length<=1500):
  SCall Gm 975 [.ptr mid 0 0,iI (k:Nat)] h (λv h'=>∃ow' lv q,v=.tup [iI (doM bk m k).2.1,lv,iI (doM bk m k).2.2]/\Beg w mid (bkP bk) ow' h' lv q m (doM bk m k).1/\Fo ow h ow' h'):=by
 obtain⟨p,a,b,x,y,r⟩:=W8 mm hk;have hrl:=WB mm;refine sI F975 ?_;have MM1:=M;obtain⟨cid,cs,rv,M⟩:=M;obtain⟨rid,i1,rfl,i3⟩:=M.r.full (by rw[lMp];omega);rw[lMp]at M;simp only[F975,qN,go_sem,M.o,qS hk,nZa,i3,gMp,r.at',oMs];refine lsA ?_;simp only[go_sem];refine MM1.lendX Q4 hw (by simp[AV.trees,qF.tr]) (qEU r hb) rfl ?_;simp only[go_sem];have er:=r.do (bk:=bk);rw[r.need];have mm0:MM m (lws []++[]) O0:=mm;by_cases h0:(zE bk x y).2=0
 case neg=>
  rw[iP h0]at er;simp only[h0,decide_false,go_sem];rw[er];exact⟨ow,.nils,(m,[]),rfl,⟨MM1,.inl ⟨rfl,rfl⟩,mm0,rfl,by simp,rfl⟩,Fo.refl⟩
 have h8:qi x y≠8:=λe=>by have:=qB6 (bk:=bk) e;omega
 have w1:=Jg r.ro.ox;have w2:=Jg r.ro.oy;rw[agp]at w1 w2;simp only[h0,go_sem];refine MM1.lend Q4 hw (by simp[AV.trees,qF.tr]) (qEV r.ro (by omega) (by omega) h8) rfl ?_;simp only[go_sem];refine MM1.lend Q4 hw rfl (qEW (by omega)) rfl ?_;simp only[go_sem];refine qL Q6 ?_;simp only[go_sem];have hnF:nF m.C<=m.C.length:=List.countP_le_length;have ew:IntKind.i64.wrap (IntKind.i64.wrap ((nF m.C:Nat)+2)-(if decide (qi x y=7)=true then 1 else 0:Int))=(nF m.C:Int)+jC (qi x y):=by
  have e2:IntKind.i64.wrap ((nF m.C:Nat)+2:Int)=(nF m.C:Nat)+2:=wsA;rw[e2];unfold jC;by_cases q:qi x y=7
  ·simp only[q,decide_true,if_true];rw[wsA];omega
  ·simp only[q,decide_false,bFt,if_false];rw[wsA];omega
 rw[iN (by omega)]at er;simp only[ew];by_cases hn:(nF m.C:Int)+jC (qi x y)<(zE bk x y).1
 ·rw[iP hn]at er;simp only[hn,go_sem];rw[er];exact⟨ow,.nils,(m,[]),rfl,⟨MM1,.inl ⟨rfl,rfl⟩,mm0,rfl,by simp,rfl⟩,Fo.refl⟩
 rw[iN hn]at er;simp only[hn,decide_false,go_sem,M.o];have lm:=qw M.o;have hrd:(unR m k).R=rdL m.R k:=rfl;have ew2:IntKind.i64.wrap ((k:Int)+1)=(k:Int)+1:=wsA;rw[ew2];refine qr (qsX (xs:=m.R) (id:=rid) i3 (by omega) hk ?_);simp only[go_sem];have hlr:(rdL m.R k).length=m.R.length-1:=by simp[rdL];omega
 have U1:Up (λj=>ow j=2) h (h.set rid .dead++[qA.row 2 ((rdL m.R k).map qF.enc) true]):=by
  refine(Up.set (id:=rid)).trans (Up.app _ (S:=λ_=>False)) (λ_ _ q=>q.elim) |>.w λj _ q=>by rw[q];exact i1
 have hid:(h.set rid .dead++[qA.row 2 ((rdL m.R k).map qF.enc) true])[h.length]?=some (.row 2 ((unR m k).R.map qF.enc) true):=by
  rw[gAr (by simp)];simp[hrd]
 have hM1:=U1.at M.o (λq=>by rw[M.m1]at q;cases q);obtain⟨M2,F2⟩:=M.redx (rx:=(unR m k).R) (rv':=sQ 2 h.length (m.R.length-1)) U1 (nLr _) hid (by rw[hrd,hlr]);generalize h.set rid .dead++[qA.row 2 ((rdL m.R k).map qF.enc) true]=hA at*;refine UZ (rv':=sQ 2 h.length (m.R.length-1)) hM1 (unR m k).R rfl ?_;have pl:=r.pl hb h0 hn;generalize owR ow h.length=ow2 at*;generalize hA.set mid _=hB at*;obtain⟨ra,rb⟩:=r.ro.at;have hka:=zP ra;have hkb:=zP rb;have ra':(unR m k).C[a]?=some x:=ra;have rb':(unR m k).C[b]?=some y:=rb;obtain⟨dvx,wvx,v1,v2,v3⟩:=M2.words ra';obtain⟨dvy,wvy,y1,y2,y3⟩:=M2.words rb';have M3:MH w mid (bkP bk) ow2 hB (unR m k):=MH.intro M2;have M2o:=M2.o;have M2c:=M2.c;clear M2 hM1 U1 hid;simp only[go_sem,M2o,qS hka,qS hkb,nZa,M2c,v1,y1];refine lsA ?_;simp only[go_sem];refine lsA ?_;simp only[go_sem];refine qr (SCall.mono (qJ3 M3 ra') ?_);rintro _ h3 ⟨ow3,M4,F3,g3,g4⟩;have lx:∀{w:Nat}{v:AV}{el:List AV},LsW (λj=>ow2 j=a+3) w hB v el->LsW (λj=>ow3 j=0) w h3 v el:=λq=>q.mono λj hj z=>g3 j hj z;have vx2:=lx v2;have vx3:=lx v3;have F23:=F2.trans F3;simp only[go_sem];have hcls:=pl.o.cls;obtain⟨p1,p2⟩:=qCJ pl;have pll:=qI2 pl;have fin:∀ow' h' lv,MH w mid (bkP bk) ow' h' (za bk (unR m k) a b x y).1->LsW (λj=>ow' j=0) 4 h' lv ((za bk (unR m k) a b x y).2.map qp.enc)->Beg w mid (bkP bk) ow' h' lv (za bk (unR m k) a b x y) m (doM bk m k).1:=λow' h' lv q1 q2=>⟨q1,q2,p1,by rw[er],pll,p2⟩;rw[er]at fin|-;generalize hC:qi x y=C at*;by_cases c7:C=7
 ·subst c7;obtain⟨v0,v1',ot,n9,hf⟩:=pl.need7 hC;obtain⟨ks,vs,X⟩:=pl.exp hC;have tz:=ZT ot;have hl:=QN pl.o.ox;have p1':=pl.h1;rw[(pl.o.f7 hC).1,lNa]at p1';have ep:za bk (unR m k) a b x y=(Xt (qy bk x.V) x.L (qV (unR m k) a) b,[]):=by unfold za;rw[iP hC]
  rw[ep]at fin|-;simp only[go_sem];refine qr (SCall.mono (qsY M4 ⟨v0,v1'⟩ rfl (by omega) ot hl n9 p1' (by rw[pl.f1];exact hf) X (by have:(qV (unR m k) a).R=rdL m.R k:=rfl;rw[this,hlr];omega)) ?_);rintro _ h5 ⟨ow5,M5,F5⟩;simp only[go_sem];exact⟨ow5,.nils,_,rfl,fin ow5 h5 .nils M5 (.inl ⟨rfl,rfl⟩),F23.trans F5⟩
 simp only[c7,decide_false,go_sem];have rb4:(qV (unR m k) a).C[b]?=some y:=pl.hy;refine qr (SCall.mono (qJ3 M4 rb4) ?_);rintro _ h4 ⟨ow4,M5,F4,g5,-⟩;have hnab:b+3≠a+3:=by have:=pl.ne;omega
 have ly:∀{w:Nat}{v:AV}{el:List AV},LsW (λj=>ow2 j=b+3) w hB v el->LsW (λj=>ow4 j=0) w h4 v el:=λq=>q.mono λj hj z=>by
  obtain⟨z1,z2⟩:=g4 j hj (by omega) (by omega);have hj3:j<h3.length:=nLl hj F3.l;obtain⟨z3,z4⟩:=g5 j hj3 (by omega);exact⟨z3,z4.trans z2⟩
 have wy2:=ly y2;have wy3:=ly y3;have wx2:=vx2.fo0 F4;have wx3:=vx3.fo0 F4;have WO:=F23.trans F4;clear lx ly g3 g4 g5 v1 v2 v3 y1 y2 y3 vx2 vx3;simp only[go_sem];have hxd:=Wa pl.o.ox;have hyd:=Wa pl.o.oy;have hyd':y.D.length<=1000:=by have:y.D.length<=4:=hyd;omega
 obtain⟨wl1,wl2⟩:=pl.o.wl;by_cases c12:C=1\/C=2
 ·have ep:za bk (unR m k) a b x y=(qV (qV (unR m k) a) b,[⟨x.W.getD 0 w0,y.W.getD 0 w0⟩,⟨x.W.getD 1 w0,y.W.getD 1 w0⟩]):=by
   unfold za;rw[iN (by rw[hC];exact c7),iP (by rw[hC];exact c12)]
  rw[ep]at fin|-;obtain⟨w1,w2⟩:=pl.o.f12 (by rw[hC];exact c12);have ex:=Qy w1;have ey:=Qy w2;generalize x.W.getD 0 w0=x0 at*;generalize x.W.getD 1 w0=x1 at*;generalize y.W.getD 0 w0=y0 at*;generalize y.W.getD 1 w0=y1 at*;rw[ex,lMc,lMc,List.map_nil]at wx3;rw[ey,lMc,lMc,List.map_nil]at wy3;obtain⟨ix,i1,rfl,i3⟩:=wx3.two;obtain⟨iy,j1,rfl,j3⟩:=wy3.two;have tl:∀Cd:Bool,Cd=decide (C=1)->(Cd=true\/(Cd=false/\C=2)):=λCd e=>by
   rcases c12 with c | c
   ·exact .inl (by rw[e];simpa using c)
   ·exact .inr ⟨by rw[e];simp;omega,c⟩
  rcases tl _ rfl with e | ⟨e,rfl⟩
  all_goals
   simp only[e,go_sem,ZD,Wh,i3,j3];exact⟨ow4,_,_,rfl,fin ow4 _ _ (M5.app _) (.inr ⟨h4.length,M5.b,rfl,ends⟩),WO.trans (Fo.app _)⟩
 have c1:C≠1:=λe=>c12 (.inl e);have c2:C≠2:=λe=>c12 (.inr e);simp only[c1,c2,decide_false,go_sem];by_cases c3:C=3
 ·subst c3;have ep:za bk (unR m k) a b x y=wj (qV (qV (unR m k) a) b) x y:=by
   unfold za;rw[iN (by omega),iN (by omega),iP hC]
  rw[ep]at fin|-;obtain⟨w1,w2⟩:=pl.o.f3 hC;simp only[go_sem];refine qr (SCall.mono (qsZ M5 wx2 wx3 wy2 wy3 pl.h2 pl.o.ky (.inl ⟨pl.o.ky,pl.o.oy⟩) w1 (by omega) hyd' w2 (by rw[pl.f2];exact pl.need3 hC)) ?_);rintro lv h5 ⟨ow5,M6,F5,L5⟩;simp only[go_sem];exact⟨ow5,lv,_,rfl,fin ow5 h5 lv M6 L5,WO.trans F5⟩
 simp only[c3,decide_false,go_sem];by_cases c4:C=4
 ·subst c4;have ep:za bk (unR m k) a b x y=zw (qV (qV (unR m k) a) b) y y.W.length:=by
   unfold za;rw[iN (by omega),iN (by omega),iN (by omega),iP hC]
  rw[ep]at fin|-;have h2:=pl.h2;rw[pl.o.f4 hC,lNa]at h2;simp only[go_sem];refine qr (SCall.mono (qs0 M5 wy3 h2 (by rw[pl.f2];exact pl.need4 hC) (by omega)) ?_);rintro lv h5 ⟨ow5,M6,F5,L5⟩;simp only[go_sem];exact⟨ow5,lv,_,rfl,fin ow5 h5 lv M6 L5,WO.trans F5⟩
 simp only[c4,decide_false,go_sem];by_cases c5:C=5
 ·subst c5;have ep:za bk (unR m k) a b x y=wB (qV (qV (unR m k) a) b) x y:=by
   unfold za;rw[iN (by omega),iN (by omega),iN (by omega),iN (by omega),iP hC]
  rw[ep]at fin|-;obtain⟨w1,w2,w3⟩:=pl.o.f5 hC;obtain⟨kf,df,f1,f2,-⟩:=we pl.h2 (by rw[pl.f2];omega);simp only[go_sem];refine qr (SCall.mono (qs1 M5 wy2 wy3 f1 ⟨df,f2⟩ w2) ?_);rintro lv h5 ⟨ow5,M6,F5,L5⟩;simp only[go_sem];exact⟨ow5,lv,_,rfl,fin ow5 h5 lv M6 L5,WO.trans F5⟩
 simp only[c5,decide_false,go_sem];obtain rfl:C=6:=by omega
 have ep:za bk (unR m k) a b x y=chM (qV (qV (unR m k) a) b) x y:=by
  unfold za;rw[iN (by omega),iN (by omega),iN (by omega),iN (by omega),iN (by omega),iP hC]
 rw[ep]at fin|-;obtain⟨w1,w2,w3,w4⟩:=pl.o.f6 hC;simp only[go_sem];refine qr (SCall.mono (qs2 M5 wx2 wx3 wy2 wy3 pl.h2 (by rw[pl.f2];exact pl.need6 hC) w1 w2 w3 (by omega) w4 (by have:(qV (qV (unR m k) a) b).R=rdL m.R k:=rfl;rw[this,hlr];omega)) ?_);rintro lv h5 ⟨ow5,M6,F5,L5⟩;simp only[go_sem];exact⟨ow5,lv,_,rfl,fin ow5 h5 lv M6 L5,WO.trans F5⟩
end
section
variable {w mid cid k a b:Nat} {post cs:List AV} {ow:Nat->Nat} {h h':List qA} {m:qH} {rv dv:AV} {c x y:qC} {P:List qE} {O:Nat->Bool} {bk:List qD} {p:qF}
theorem s602(M:MH w mid (bkP bk) ow h m)(hw:0<w)(mm:MM m [] O0)(hk:k<m.R.length)(hb:z8 bk=true)(hcl:m.C.length<=1500):
  SCall Gm 602 [.ptr mid 0 0,iI (k:Nat)] h (λv h'=>v=.tup [iI (doM bk m k).2.1,iI (doM bk m k).2.2]/\∃ow',MH w mid (bkP bk) ow' h' (doM bk m k).1/\Fo ow h ow' h'):=by
 refine sI F602 ?_;simp only[F602,qN,go_sem];refine qr (SCall.mono (s975 M hw mm hk hb hcl) ?_);rintro _ h4 ⟨ow4,lv,q,rfl,⟨M4,L4,p1,er,hql,p2⟩,F4⟩;have hv4:=L4.len;rw[lMp]at hv4;simp only[go_sem,hv4];refine Sem.loop (λa':Nat×(Nat->Nat)×List qA=>a'.1<=q.2.length/\MH w mid (bkP bk) a'.2.1 a'.2.2 (Jd q.1 (q.2.take a'.1))/\Fo ow4 h4 a'.2.1 a'.2.2)
  (λa'=>(⟨[(0,.ptr mid 0 0),(6,iI (doM bk m k).2.1),(8,iI (doM bk m k).2.2),(18,lv),(19,iI (q.2.length:Nat)),(20,iI (a'.1:Nat))],[],a'.2.2⟩:VSt)) (λa'=>q.2.length-a'.1)
  (0,ow4,h4) (by kernel_rfl) ⟨nZl _,M4,Fo.refl⟩ csA ?_
 rintro⟨i,ow5,h5⟩ ⟨hi,M5,F5⟩;simp only at hi M5 F5;simp only[go_sem];by_cases hlt:i<q.2.length
 case neg=>
  have e:decide ((i:Int)<(q.2.length:Nat))=false:=dEf (by omega);simp only[e,go_sem];rw[tOl (by omega),er]at M5;exact⟨trivial,ow5,M5,F4.trans F5⟩
 have e:decide ((i:Int)<(q.2.length:Nat))=true:=dEt (by omega);have hli:=gEg hlt;generalize hlk:q.2[i]=lk at hli;obtain⟨id,j1,rfl,j3⟩:=(L4.fo0 F5).full (by rw[lMp];omega);simp only[e,go_sem,qS hlt,nZa,j3,gMp,hli,oMs];refine lsA ?_;obtain⟨m1,m2⟩:=qHL (i:=i) p1;have ed:q.2.drop i=lk::q.2.drop (i+1):=by rw[lDc hlt,hlk]
 rw[ed,lAn]at m1;have hr5:=WB m1;simp only[go_sem];refine qr (SCall.mono (s976 M5 m1 (by omega)) ?_);rintro _ h6 ⟨ow6,M6,F6⟩;simp only[go_sem,wuA (n:=i)];have et2:q.2.take (i+1)=q.2.take i++[lk]:=by rw[tA1,hli];rfl
 rw[<-qHK,<-et2]at M6;exact qa (i+1,ow6,h6) ⟨by simp only;omega,M6,F5.trans F6⟩ (by simp only;omega) csA
end
section
variable {w mid cid k:Nat} {post cs:List AV} {ow:Nat->Nat} {h h' h1:List qA} {m:qH} {rv dv wv:AV} {c:qC}
theorem Uq:∀(xs:List qE)(n:Nat),qP (xs.map qE.enc) n=(xs.map qE.enc,[])
 |[],_=>rfl
 | x::xs,n=>by
  simp[qP,qE.enc,lay,Uq xs]
theorem UJ:∀(xs:List qF)(n:Nat),qP (xs.map qF.enc) n=(xs.map qF.enc,[])
 |[],_=>rfl
 | x::xs,n=>by
  simp[qP,qF.enc,lay,UJ xs]
theorem qLD(x:qE):x.enc.pl=true:=by simp[qE.enc,AV.pl,AV.pls]
theorem qIT(x:qF):x.enc.pl=true:=by simp[qF.enc,AV.pl,AV.pls]
theorem qqL(xs:List qF)(hz:xs.length<=4194304):Fresh Gm 1070 [.lst 2 (xs.map qF.enc) false] (.lst 2 (xs.map qF.enc) false):=
 Y9 (w:=2) (gk _ qDP) (UJ xs) (zN qIT xs) (qY qF.isSh.tree xs) (by simpa using hz)
theorem qqO(xs:List qE)(hz:xs.length<=4194304):Fresh Gm 1181 [.lst 2 (xs.map qE.enc) false] (.lst 2 (xs.map qE.enc) false):=
 Y9 (w:=2) (gk _ qDT) (Uq xs) (zN qLD xs) (qY qE.isSh.tree xs) (by simpa using hz)
theorem qpR{xs:List qE}{n:Nat}:lay (.lst 2 (xs.map qE.enc) false) n=(sQ 2 n xs.length,[.row 2 (xs.map qE.enc) true]):=by simp[lay,Uq]
theorem qpQ{xs:List qF}{n:Nat}:lay (.lst 2 (xs.map qF.enc) false) n=(sQ 2 n xs.length,[.row 2 (xs.map qF.enc) true]):=by simp[lay,UJ]
theorem s868{h0:List qA}(hz:m.sz<=1000000)(h1n:0<m.C.length):SCall Gm 868 [m.enc] h0 (λv h'=>∃cid cs rv ow,v=mE m cid rv []/\MC ow h' m cid cs rv/\Up (λ_=>False) h0 h'/\∀j,j<h0.length->ow j=0):=by
 have hsz:m.C.length+qJ qC.sz m.C+m.R.length<=1000000:=by unfold qH.sz at hz;exact hz
 refine sI F868 ?_;simp only[F868,qN,go_sem];refine qX rfl ?_;simp only[go_sem];refine je (qqL m.R (by omega)) ?_;rw[qpQ];simp only[go_sem];refine qHU (n:=0) (by omega) (by omega) ?_;simp only[go_sem];refine lsA ?_;simp only[go_sem];refine Sem.loop (λa:Nat×(Nat->Nat)×List AV×AV×List qA=>a.1<=m.C.length/\Up (λ_=>False) h0 a.2.2.2.2/\(∀j,j<h0.length->a.2.1 j=0)/\LsW (λj=>a.2.1 j=2) 2 a.2.2.2.2 (sQ 2 h0.length m.R.length) (m.R.map qF.enc)/\LsW (λj=>a.2.1 j=1) 5 a.2.2.2.2 a.2.2.2.1 a.2.2.1/\a.2.2.1.length=a.1/\(∀(k:Nat)(c:qC),k<a.1->m.C[k]?=some c->∃v,a.2.2.1[k]?=some v/\CV (λj=>a.2.1 j=k+3) a.2.2.2.2 v c)/\(∀j,a.2.1 j≠0->j<a.2.2.2.2.length))
  (λa=>(⟨[(19,.lst 5 (m.C.map qC.enc) false),(20,iI (m.C.length:Nat)),(21,iI (a.1:Nat))],[(3,.agg [a.2.2.2.1,iI m.F,iI m.O.T,iI m.O.I,sQ 2 h0.length m.R.length]),(2,.agg [.nils,iI 0,iI 0,iI 0,.nils])],a.2.2.2.2⟩:VSt)) (λa=>m.C.length-a.1)
  (0,(λj=>if j=h0.length then 2 else if j=h0.length+1 then 1 else 0),[],.slice 5 (h0++[qA.row 2 (List.map qF.enc m.R) true]).length 0 0 false,_) (by kernel_rfl) ⟨nZl _,(Up.app _).trans (Up.app _) (λ_ _ q=>q),λj hj=>by simp only;rw[iN (by omega),iN (by omega)],.inr ⟨h0.length,iP rfl,by rw[lMp],z7 ends⟩,.inr ⟨(h0++[qA.row 2 (List.map qF.enc m.R) true]).length,by simp,rfl,ends⟩,rfl,λk c hk=>by omega,λj hj=>by
   by_cases e:j=h0.length
   ·rw[e];simp
   ·by_cases e2:j=h0.length+1
    ·rw[e2];simp
    ·simp only[iN e,iN e2]at hj;exact absurd rfl hj⟩ csA ?_
 rintro⟨i,ow,cs,v,h⟩ ⟨hi,u0,o0,rr,cc,cl,ce,ob⟩;simp only at hi u0 o0 rr cc cl ce ob;simp only[go_sem];by_cases hlt:i<m.C.length
 case neg=>
  have e:decide ((i:Int)<(m.C.length:Nat))=false:=dEf (by omega);obtain rfl:i=m.C.length:=by omega
  simp only[e,go_sem];refine lsA ?_;simp only[go_sem];obtain⟨cid,c1,rfl,c3⟩:∃id,ow id=1/\v=sQ 5 id m.C.length/\h[id]?=some (.row 5 cs true):=by
   rcases cc with⟨_,q⟩ | ⟨j,j1,j2,j3⟩
   ·rw[q]at cl;simp at cl;omega
   ·exact⟨j,j1,by rw[j2,cl],j3⟩
  exact⟨cid,cs,_,ow,rfl,⟨c3,cl,λk c hc=>ce k c (zP hc) hc,rr,c1,ob⟩,u0,o0⟩
 have e:decide ((i:Int)<(m.C.length:Nat))=true:=dEt (by omega);have hc:=gEg hlt;generalize m.C[i]=c at hc;have hcz:c.sz<=1000000:=by have:=jB (f:=qC.sz) (lMo hc);omega
 unfold qC.sz at hcz;simp only[e,gMp,hc,oMs,go_sem];refine lsA ?_;simp only[go_sem];refine je (Vw c.D (by omega)) ?_;rw[ZG];simp only[go_sem];refine je (qqO c.W (by omega)) ?_;rw[qpR];simp only[go_sem];refine Ws (c':=cE c (sQ 1 h.length c.D.length) (.lst 2 (c.W.map qE.enc) false)) rfl (W7 rfl rfl) ?_;simp only[go_sem];refine Ws (c':=cE c (sQ 1 h.length c.D.length) (.slice 2 (h++[qA.row 1 (c.D.map qO) true]).length 0 c.W.length false)) rfl (W7 rfl rfl) ?_;simp only[go_sem];have u1:Up (λ_=>False) h (h++[qA.row 1 (c.D.map qO) true]++[qA.row 2 (c.W.map qE.enc) true]):=(Up.app _).trans (Up.app _) λ_ _ q=>q;have hh1:(h++[qA.row 1 (c.D.map qO) true]++[qA.row 2 (c.W.map qE.enc) true]).length=h.length+2:=by simp
 have d1:LsW (λj=>h.length<=j) 1 (h++[qA.row 1 (c.D.map qO) true]++[qA.row 2 (c.W.map qE.enc) true]) (sQ 1 h.length c.D.length) (c.D.map qO):=.inr ⟨h.length,nLr _,by rw[lMp],z7 ends⟩;have w1:LsW (λj=>h.length<=j) 2 (h++[qA.row 1 (c.D.map qO) true]++[qA.row 2 (c.W.map qE.enc) true]) (.slice 2 (h++[qA.row 1 (c.D.map qO) true]).length 0 c.W.length false) (c.W.map qE.enc):=.inr ⟨_,by simp,by rw[lMp],ends⟩
 try delta sQ at*
 generalize AV.slice 1 h.length 0 c.D.length false=dv at*;generalize AV.slice 2 (h++[qA.row 1 (c.D.map qO) true]).length 0 c.W.length false=wv at*;generalize h++[qA.row 1 (c.D.map qO) true]++[qA.row 2 (c.W.map qE.enc) true]=h1 at*;simp only[qGB,go_sem];have cc1:LsW (λj=>ow j=1) 5 h1 v cs:=cc.mono λj hj q=>⟨q,u1.eq hj id⟩;refine JL (cc1.app _) ends (by omega) λh3 u3 w3 l3=>?_;simp only[go_sem,wuA (n:=i)];have hl1:=u1.1;have hl0:=u0.1;have l3':h3.length=h1.length+2:=by rw[l3];simp
 have old:∀j,j<h.length->ow j≠1->h3[j]?=h[j]?:=λj hj n=>by
  rw[u3.eq (by simp;omega) (λq=>n q.1),gAl (by omega)];exact u1.eq hj id
 have onew:∀j,j<h.length->ow j≠1->owN ow h.length h1.length (h1++[qA.row 5 [cE c dv wv] true]).length i j=ow j:=λj hj n=>by
  unfold owN;rw[iN (by simp;omega),iN (by omega),iN n]
 refine qa (i+1,owN ow h.length h1.length (h1++[qA.row 5 [cE c dv wv] true]).length i,cs++[cE c dv wv],.slice 5 (h1++[qA.row 5 [cE c dv wv] true]).length 0 (cs.length+1) false,h3) ⟨by simp only;omega, ?_,λj hj=>?_, ?_,.inr ⟨(h1++[qA.row 5 [cE c dv wv] true]).length,iP rfl,by simp,w3⟩,by simp[cl],λk d hk hd=>?_,λj hj=>?_⟩ (by simp only;omega) csA
 ·exact((u0.trans u1 (λ_ _ q=>q)).trans (Up.app _ (S:=λ_=>False)) (λ_ _ q=>q)).trans u3 λj hj q=>by have:=o0 j hj;omega
 ·simp only;have:=o0 j hj;rw[onew j (by omega) (by omega)];exact this
 ·refine rr.mono λj hj q=>⟨?_,old j hj (by omega)⟩;simp only;rw[onew j hj (by omega)];exact q
 ·by_cases e:k<i
  ·obtain⟨u,x1,x2⟩:=ce k d e hd;refine⟨u,by simp only;rw[gAl (by omega)];exact x1,x2.mono λj hj q=>⟨?_,old j hj (by omega)⟩⟩;simp only;rw[onew j hj (by omega)];exact q
  ·obtain rfl:k=i:=by simp only at hk;omega
   rw[hc]at hd;cases hd;refine⟨cE c dv wv,by simp only;rw[gAr (by omega),cl,nSs];rfl,CV.mono (P:=λj=>h.length<=j) (h:=h1) ⟨dv,wv,rfl,d1,w1⟩ λj hj q=>⟨?_, ?_⟩⟩
   ·simp only[owN];rw[iN (by simp;omega),iP ⟨q,hj⟩]
   ·rw[u3.eq (by simp;omega) (λz=>by have:=ob j (by omega);omega),gAl hj]
 ·simp only at hj|-;unfold owN at hj;by_cases e1:j=(h1++[qA.row 5 [cE c dv wv] true]).length
  ·rw[e1,l3];simp
  ·rw[iN e1]at hj;by_cases e2:h.length<=j/\j<h1.length
   ·omega
   ·rw[iN e2]at hj;split at hj
    ·exact absurd rfl hj
    ·have:=ob j hj;omega
end
section
variable {w mid cid rid ctid k a b:Nat} {post cs:List AV} {ow:Nat->Nat} {h h':List qA} {m:qH} {rv dv:AV} {c x y:qC} {P:List qE} {O:Nat->Bool} {bk:List qD} {p:qF}
structure RH(w mid rid ctid:Nat)(bk:List qD)(ow:Nat->Nat)(h:List qA)(tv:AV)(r:Run):Prop where
 mh:MH w mid (bkP bk) ow h r.m
 e:h[rid]?=some (.row 5 [.agg [.ptr mid 0 0,sQ 1 ctid 7,tv,iI r.pk,iI r.ls]] true)
 t:LsW (λj=>ow j=0/\rid<j) 1 h tv (r.tr.map qO)
 o:ow rid=0
 c:h[ctid]?=some (.row 1 ((zg r.tr).map qO) true)
 co:ow ctid=0
theorem Vv(mm:MM m [] O0):∀c∈m.C,zu c:=λc hc=>by
 obtain⟨k,hk⟩:=List.getElem?_of_mem hc;exact mm.form k c hk rfl
theorem s869{bu:Nat}(M:MH w mid (bkP bk) ow h m)(hw:0<w)(mm:MM m [] O0)(hb:z8 bk=true)(hcl:m.C.length<=1500)(hbu:bu<=4000){pk ls:Int}(hr:h[rid]?=some (.row 5 [.agg [.ptr mid 0 0,sQ 1 ctid 7,.nils,iI pk,iI ls]] true))(hro:ow rid=0)
  (hc:h[ctid]?=some (.row 1 ((zg []).map qO) true)) (hco:ow ctid=0) (hne:ctid<rid):
  SCall Gm 869 [.ptr rid 0 0,iI (bu:Nat)] h (λv h'=>v=iI (goM bk bu ⟨m,[],zO m,zO m⟩).2/\((goM bk bu ⟨m,[],zO m,zO m⟩).2=0->∃ow' tv,RH w mid rid ctid bk ow' h' tv (goM bk bu ⟨m,[],zO m,zO m⟩).1)):=by
 refine sI F869 ?_;have hcF:=Vv mm;simp only[F869,qN,go_sem,hr];refine M.lend Q4 hw rfl (Yz (by omega) hcF) rfl ?_;simp only[go_sem];refine M.lend Q4 hw rfl (Yz (by omega) hcF) rfl ?_;simp only[go_sem];refine Zb hr rfl rfl λh1 U1 l1 g1=>?_;simp only[List.set_cons_succ,lSz]at g1;simp only[go_sem];refine Zb g1 rfl rfl λh2 U2 l2 g2=>?_;simp only[List.set_cons_succ,lSz]at g2;simp only[go_sem];have u0:=Qw (m:=m);have hu0:zO m=(m.C.length:Int)-(nF m.C:Nat):=rfl;rw[<-hu0]at g2;have U12:Up (λj=>j=rid) h h2:=U1.trans U2 λ_ _ q=>q;have M2:=M.upf U12 λj q=>by rw[q];exact hro
 have hc2:=U12.at hc (by omega);have R0:RH w mid rid ctid bk ow h2 .nils ⟨m,[],zO m,zO m⟩:=⟨M2,g2,.inl ⟨rfl,rfl⟩,hro,hc2,hco⟩;generalize hG:goM bk bu ⟨m,[],zO m,zO m⟩=G;clear M M2 hr hc U1 U2 U12 g1 g2 hc2;refine Sem.loop (λa:Run×AV×(Nat->Nat)×List qA=>goM bk (bu-a.1.tr.length) a.1=G/\a.1.tr.length<=bu/\RJ m.C.length a.1/\RH w mid rid ctid bk a.2.2.1 a.2.2.2 a.2.1 a.1)
  (λa=>(⟨[(0,.ptr rid 0 0),(1,iI (bu:Nat))],[],a.2.2.2⟩:VSt)) (λa=>bu-a.1.tr.length)
  (⟨m,[],zO m,zO m⟩,.nils,ow,h2) (by kernel_rfl) ⟨hG,nZl _,⟨mm,rfl,u0,u0⟩,R0⟩ csA ?_
 rintro⟨r,tv,ow1,h1⟩ ⟨eG,hrl,J,⟨M1,e1,e2,e3,e4,e5⟩⟩;simp only at eG hrl J M1 e1 e2 e3 e4 e5;have mm1:=J.mm;have hrx:=WB mm1;have hcl1:=J.cl;have htl:=e2.len;rw[lMp]at htl;have hcF1:=Vv mm1;obtain⟨cid,cs,rv,MO1⟩:=id M1;have hrv:=MO1.r.len;rw[lMp]at hrv;simp only[go_sem,e1,MO1.o,hrv];by_cases hne':r.m.R=[]
 ·have e:decide (0<((r.m.R.length:Nat):Int))=false:=by rw[hne'];rfl
  rw[VZ hne']at eG;subst eG;simp only[e,go_sem];exact⟨trivial,λ_=>⟨ow1,tv,M1,e1,e2,e3,e4,e5⟩⟩
 have hlp:0<r.m.R.length:=lPi.2 hne';have e:decide (0<((r.m.R.length:Nat):Int))=true:=dEt (by omega);simp only[e,go_sem,e1,htl];by_cases hb2:r.tr.length=bu
 ·have e6:decide (((r.tr.length:Nat):Int)=(bu:Nat))=true:=dEt (by omega);rw[show bu-r.tr.length=0 by omega,VX hne']at eG;subst eG;simp only[e6,go_sem];exact⟨trivial,λz=>by cases z⟩
 have e6:decide (((r.tr.length:Nat):Int)=(bu:Nat))=false:=dEf (by omega);have ew:IntKind.i64.wrap ((r.m.R.length:Nat)-1:Int)=((r.m.R.length-1:Nat):Int):=by rw[wsA];omega
 obtain⟨p,a,b,x,y,d⟩:=W8 mm1 (show r.m.R.length-1<r.m.R.length by omega);obtain⟨rxid,i1,rfl,i3⟩:=MO1.r.full (by rw[lMp];omega);rw[lMp]at MO1;have hk:r.m.R.length-1<r.m.R.length:=by omega
 simp only[e6,go_sem,e1,MO1.o,hrv,ew];refine M1.lend Q4 hw rfl (Yz (by omega) hcF1) rfl ?_;generalize hkk:r.m.R.length-1=k at*;simp only[go_sem,e1,MO1.o,qS hk,nZa,i3,gMp,d.at',oMs];refine M1.lendX Q4 hw (by simp[AV.trees,qF.tr]) (qEU d hb) rfl ?_;simp only[go_sem];have ebu:bu-r.tr.length=(bu-(r.tr.length+1))+1:=by omega
 rw[ebu]at eG;have hdn:(wA bk r.m k).2≠0->(doM bk r.m k).2.2=(wA bk r.m k).2:=λq=>by
  rw[d.need]at q|-;rw[d.do,iP q]
 by_cases hn0:(wA bk r.m k).2=0
 case neg=>
  have hd:=hdn hn0;rw[Xy hne' (by rw[hkk,hd];exact hn0),hkk,hd]at eG;subst eG;simp only[hn0,decide_false,go_sem];exact⟨trivial,λz=>z.elim⟩
 simp only[hn0,go_sem,e1];refine qr (SCall.mono (s602 M1 hw mm1 hk hb (by omega)) ?_);rintro _ h2' ⟨rfl,ow2,M2,F2⟩;obtain⟨f1,f2⟩:=F2.at e1 e3;obtain⟨f4,f5⟩:=F2.at e4 e5;have tv2:LsW (λj=>ow2 j=0/\rid<j) 1 h2' tv (r.tr.map qO):=e2.mono λj hj q=>⟨⟨(F2.k j hj q.1).1,q.2⟩,(F2.k j hj q.1).2⟩;simp only[go_sem];by_cases h0:(doM bk r.m k).2.2=0
 case neg=>
  rw[Xy hne' (by rw[hkk];exact h0),hkk]at eG;subst eG;simp only[h0,decide_false,go_sem];exact⟨trivial,λz=>z.elim⟩
 rw[VY hne' (by rw[hkk];exact h0)]at eG;have J2:=J.go hb hne' (by rw[hkk];exact h0);obtain⟨c1,c2,c3,c4,c5⟩:=VH hb mm1 hk h0;simp only[h0,go_sem,f1];generalize hcv:(doM bk r.m k).2.1=cv at*;obtain⟨q,hq⟩:∃q:Nat,cv=(q:Int)+1:=⟨(cv-1).toNat,by omega⟩;have ew1:IntKind.i64.wrap (cv-1)=(q:Int):=by rw[hq,wsA];omega
 have hq7:q<7:=by omega
 have hlc:=Xj (T:=r.tr);have hcb:=qFQ (T:=r.tr) ((zg r.tr).getD q 0) (by rw[lGd,gEg (by omega)];exact gMm _);have hx:((zg r.tr).map qO)[q]?=some (iI ((zg r.tr).getD q 0)):=by
  rw[gMp,gEg (by omega),lGd,gEg (by omega)];rfl
 have ew2:IntKind.i64.wrap ((zg r.tr).getD q 0+1)=(zg r.tr).getD q 0+1:=wsA;have hgt:(r.go bk).tr=r.tr++[cv]:=by simp only[Run.go,hkk,hcv]
 have hgl:(r.go bk).tr.length=r.tr.length+1:=by rw[hgt];simp
 have ecn:((zg r.tr).map qO).set q (iI ((zg r.tr).getD q 0+1))=(zg (r.go bk).tr).map qO:=by
  rw[hgt,qFR];unfold QH;rw[hq,show ((q:Int)+1-1).toNat=q by omega,List.map_set];rfl
 simp only[ew1,qS hq7,go_sem,nZa,f4,hx,ew2];refine zW (e':=iI ((zg r.tr).getD q 0+1)) rfl f4 hx rfl ?_;rw[ecn];have U3:Up (λj=>j=ctid) h2' (h2'.set ctid (.row 1 ((zg (r.go bk).tr).map qO) true)):=Up.set;have k3:(h2'.set ctid (.row 1 ((zg (r.go bk).tr).map qO) true))[ctid]?=some (.row 1 ((zg (r.go bk).tr).map qO) true):=gSs (qw f4);have l3:(h2'.set ctid (.row 1 ((zg (r.go bk).tr).map qO) true)).length=h2'.length:=by simp
 generalize h2'.set ctid (.row 1 ((zg (r.go bk).tr).map qO) true)=h3 at*;have M3:=M2.upf U3 λj q=>by rw[q];exact f5
 have g1:=U3.at f1 (by omega);have tv3:LsW (λj=>ow2 j=0/\rid<j) 1 h3 tv (r.tr.map qO):=tv2.mono λj hj z=>⟨z,U3.eq hj (by have:=z.2;omega)⟩;simp only[go_sem,g1];refine JL (tv3.app _) ends (by rw[lMp];omega) λh4 U4 w4 l4=>?_;have M4:=(M3.app [qA.row 1 [AV.int .i64 cv] true]).upf U4 λj z=>z.1.1;have g2:h4[rid]?=_:=U4.at (z7 g1) λz=>by have:=z.1.2;omega
 have k4:h4[ctid]?=_:=U4.at (z7 k3) λz=>by have:=z.1.2;omega
 have z4:ow2 (h3++[qA.row 1 [AV.int .i64 cv] true]).length=0:=(M3.app _).b;have hrl3:rid<h3.length:=qw g1;simp only[go_sem];refine Zb g2 rfl rfl λh5 U5 l5 g5=>?_;simp only[List.set_cons_succ,lSz]at g5;have M5:=M4.upf U5 λj z=>by rw[z];exact f2
 have hid:(h3++[qA.row 1 [AV.int .i64 cv] true]).length≠rid:=by simp;omega
 have w5:=U5.at w4 hid;have k5:=U5.at k4 (by omega);have J2m:=J2.mm;have J2c:=J2.cl;simp only[Run.go,hkk]at J2c J2m;simp only[go_sem,g5];refine M5.lend Q4 hw rfl (Yz (by omega) (Vv J2m)) rfl ?_;simp only[go_sem];have u1:=Qw (m:=r.m);have u2:=Qw (m:=(doM bk r.m k).1);have hpk:=J.pk;have hls:=J.ls;have J2p:=J2.pk;have J2l:=J2.ls;have hu1:zO r.m=(r.m.C.length:Int)-(nF r.m.C:Nat):=rfl;have hu2:zO (doM bk r.m k).1=((doM bk r.m k).1.C.length:Int)-(nF (doM bk r.m k).1.C:Nat):=rfl;have hcr:1<=jC cv/\jC cv<=2:=by unfold jC;split<;>omega
 have htr:(if decide (cv=7)=true then 1 else 0:Int)=2-jC cv:=by
  unfold jC;by_cases z:cv=7
  ·simp[z]
  ·simp[z]
 rw[<-hu2];refine Zb g5 rfl rfl λh6 U6 l6 g6=>?_;simp only[List.set_cons_succ,lSz]at g6;simp only[go_sem,g6];refine qL Q6 ?_;simp only[go_sem];rw[htr,<-hu1,jL (show-9223372036854775808<=zO r.m-2 by omega) (by omega),jL (show-9223372036854775808<=zO r.m-2+(2-jC cv) by omega) (by omega),jL (show-9223372036854775808<=zO r.m-2+(2-jC cv)+(wA bk r.m k).1 by omega) (by omega),show zO r.m-2+(2-jC cv)+(wA bk r.m k).1=zO r.m+(wA bk r.m k).1-jC cv by omega];refine Zb g6 rfl rfl λh7 U7 l7 g7=>?_;simp only[List.set_cons_succ,lSz]at g7;simp only[go_sem];have w7:=U7.at (U6.at w5 hid) hid;have k7:=U7.at (U6.at k5 (by omega)) (by omega);have M7:=(M5.upf U6 λj z=>by rw[z];exact f2).upf U7 λj z=>by rw[z];exact f2
 have e1':(r.go bk).pk=max r.pk (zO (doM bk r.m k).1):=by simp only[Run.go,hkk]
 have e2':(r.go bk).ls=max r.ls (zO r.m+(wA bk r.m k).1-jC cv):=by simp only[Run.go,hkk,hcv]
 have e3':(r.go bk).m=(doM bk r.m k).1:=by simp only[Run.go,hkk]
 refine qa (r.go bk,.slice 1 (h3++[qA.row 1 [AV.int .i64 cv] true]).length 0 (r.tr.length+1) false,ow2,h7) ⟨by simp only[hgl];exact eG,by simp only;omega,J2,⟨by simp only[e3'];exact M7, ?_,.inr ⟨_,⟨z4,by simp;omega⟩,by rw[lMp,hgl], ?_⟩,f2,k7,f5⟩⟩ (by simp only;omega) csA
 ·simp only[e1',e2'];exact g7
 ·simp only[hgt,lMa];exact w7
end
noncomputable def wI(bk:List qD)(m:qH)(bu:Int):Int:=if (z8 bk&&Je m)=true then(if inI bu 0 4000=true then 0 else 2)else 1
def wt(bk:List qD)(m:qH)(bu:Int):Run×Int:=goM bk bu.toNat ⟨m,[],zO m,zO m⟩
noncomputable def jI(bk:List qD)(m:qH)(bu:Int):Int:=if wI bk m bu=0 then(wt bk m bu).2 else wI bk m bu
theorem beg0{bk:List qD}{m:qH}{bu:Int}(h:wI bk m bu=0):z8 bk=true/\VM m/\0<=bu/\bu<=4000:=by
 unfold wI at h;split at h
 ·rename_i e;rw[bAt]at e;split at h
  ·rename_i q;unfold inI at q;rw[bAt,dTe,dTe]at q;exact⟨e.1,YC.1 e.2,q⟩
  ·cases h
 ·cases h
theorem VM.len{m:qH}(h:VM m):0<m.C.length/\m.C.length<=1500:=by
 have:=h.sz;unfold inI at this;rw[bAt,dTe,dTe]at this;omega
theorem qE7{c:qC}(h:zu c):c.sz<=8:=by
 rcases h with⟨_,h⟩ | ⟨_,_,_,h1,h2⟩ | ⟨_,_,h1,h2⟩
 ·have:=qID h;unfold qB.sz at this;unfold qC.sz;simp only[qb,lLr]at this;omega
 ·unfold qC.sz;rw[h1];simp only[lNi];omega
 ·unfold qC.sz;rw[h1,h2];simp
theorem VM.szs{m:qH}(h:VM m):m.sz<=1000000:=by
 have h1:=h.len;have h2:=h.rs;have h3:=Ua (f:=qC.sz) (k:=8) λc hc=>qE7 (qAR (h.cell c hc));unfold qH.sz;omega
section
variable {bk:List qD} {m:qH} {bu:Int} {h0:List qA}
theorem c544(hl:bk.length+qJ qD.sz bk<=1048576)(hz:m.sz<=1048576):Pure Gm 544 [.lst 1 (bk.map qD.enc) false,.ept m.enc 0,iI bu] (iI (wI bk m bu)):=by
 refine pI F544 (by simp[AV.trees,AV.tree,go_sem,qY qD.isSh.tree]) rfl ?_;simp only[F544,qN,go_sem];refine qL (c598 hl) ?_;simp only[go_sem];cases e1:z8 bk
 case false=>
  simp only[go_sem];exact qM rfl (by simp[wI,e1])
 simp only[go_sem];refine qL (c923 hz) ?_;simp only[go_sem];cases e2:Je m
 case false=>
  simp only[go_sem];exact qM rfl (by simp[wI,e1,e2])
 simp only[go_sem];refine qL wU ?_;simp only[go_sem];cases e3:inI bu 0 4000
 case false=>
  simp only[go_sem];exact qM rfl (by simp[wI,e1,e2,e3])
 simp only[go_sem];exact qM rfl (by simp[wI,e1,e2,e3])
theorem s507(hl:bk.length+qJ qD.sz bk<=1048576)(hz:m.sz<=1048576):SCall Gm 507 [.lst 1 (bk.map qD.enc) false,m.enc,iI bu] h0 (λv h'=>∃p,v=.tup [p,iI (jI bk m bu)]/\(jI bk m bu=0->∃rid mid ctid ow tv,p=.ptr rid 0 0/\RH 6 mid rid ctid bk ow h' tv (wt bk m bu).1/\h0.length<=rid)):=by
 refine sI F507 ?_;simp only[F507,qN,go_sem];have bad:jI bk m bu=1->∃p,AV.tup [.nilp,iI 1]=.tup [p,iI (jI bk m bu)]/\(jI bk m bu=0->∃rid mid ctid ow tv,p=.ptr rid 0 0/\RH 6 mid rid ctid bk ow h0 tv (wt bk m bu).1/\h0.length<=rid):=λe=>⟨.nilp,by rw[e],λq=>by rw[e]at q;cases q⟩;have bad2:jI bk m bu=2->∃p,AV.tup [.nilp,iI 2]=.tup [p,iI (jI bk m bu)]/\(jI bk m bu=0->∃rid mid ctid ow tv,p=.ptr rid 0 0/\RH 6 mid rid ctid bk ow h0 tv (wt bk m bu).1/\h0.length<=rid):=λe=>⟨.nilp,by rw[e],λq=>by rw[e]at q;cases q⟩;refine qX rfl ?_;simp only[go_sem];refine qL (c505 (by omega) λn hn=>by have:=jB (f:=qD.sz) hn;omega) ?_;simp only[go_sem];cases e1:z8 bk
 case false=>
  simp only[go_sem];exact bad (by simp[jI,wI,e1])
 simp only[go_sem];refine qL (c867 hz) ?_;simp only[go_sem];cases e2:Je m
 case false=>
  simp only[go_sem];exact bad (by simp[jI,wI,e1,e2])
 simp only[go_sem];by_cases b0:bu<0
 case pos=>
  simp only[b0,go_sem];exact bad2 (by simp[jI,wI,e1,e2,inI];omega)
 simp only[b0,decide_false,go_sem];by_cases b1:4000<bu
 case pos=>
  simp only[b1,go_sem];exact bad2 (by simp[jI,wI,e1,e2,inI];omega)
 simp only[b1,decide_false,go_sem];have vm:=YC.1 e2;refine qr (SCall.mono (s868 vm.szs vm.len.1) ?_);rintro _ h1 ⟨cid,cs,rv,ow,rfl,M,U,hw⟩;simp only[go_sem,mE];refine QE rfl ?_;simp only[go_sem];refine Jp (n:=7) (by unfold LIM;omega) ?_;simp only[go_sem];refine QE rfl ?_;obtain⟨n,rfl⟩:=eOz (show 0<=bu by omega);have hlt:=qw M.c;have M2:=(M.heap (h':=h1++[qA.row 6 [mE m cid rv (bkP bk)] true]) (by simp) λj hj q=>by rw[gAl hj]).mo (w:=6) (post:=bkP bk) (mid:=h1.length) ends (by have:=M.b h1.length;omega);have M3:=((MH.intro M2).app [qA.row 1 (List.replicate 7 (AV.int .i64 0)) true]).app [qA.row 5 [.agg [.ptr h1.length 0 0,.slice 1 (h1++[qA.row 6 [mE m cid rv (bkP bk)] true]).length 0 7 false,.nils,iI 0,iI 0]] true];have e4:jI bk m (n:Nat)=(goM bk n ⟨m,[],zO m,zO m⟩).2:=by
  rw[jI,iP (by simp[wI,e1,e2,inI];omega)];rfl
 simp only[go_sem];have hz1:∀j,h1.length<j->(if j=h1.length then 1 else ow j)=0:=λj hj=>by
  rw[iN (by omega)];refine Classical.byContradiction λq=>?_;have:=M.b j q;omega
 refine qr (SCall.mono (s869 M3 (by decide) vm.mi e1 vm.len.2 (by omega) ends (hz1 _ (by simp)) (z7 ends) (hz1 _ (by simp)) (by simp)) ?_);rintro _ h2 ⟨rfl,R⟩;have hU:=U.1;rw[<-e4]at R;rw[<-e4];simp only[go_sem];by_cases h0':jI bk m (n:Nat)=0
 case neg=>
  simp only[h0',decide_false,go_sem];exact⟨_,rfl,λq=>q.elim⟩
 obtain⟨ow',tv,R⟩:=R h0';simp only[h0',go_sem];exact⟨_,rfl,λ_=>⟨_,_,_,ow',tv,rfl,R,by simp;omega⟩⟩
end
set_option maxHeartbeats 2000000
theorem qE.plx(x:qE):x.enc.pl=true:=by simp[qE.enc,AV.pl,AV.pls]
theorem qE.cnx(x:qE):x.enc.cn=true:=by simp[qE.enc,AV.cn,AV.cns]
theorem qE.layE(x:qE)(n:Nat):lay x.enc n=(.agg [iI x.T,iI x.I],[]):=by
 simp[qE.enc,lay,qP,z5,AV.rows,Nat.add_assoc,Nat.add_comm,Nat.add_left_comm]
theorem qE.rowsE(x:qE):x.enc.rows=0:=by simp[qE.enc,AV.rows,AV.rowss,Nat.add_assoc]
def qE.mrk(x:qE)(k:Int):qE:={T:=k,I:=k+1}
def qE.ct(x:qE):Nat:=1+1
def qE.mkV(x:qE)(k:Int):qE:={T:=x.T,I:=x.I}
def qE.ctV(x:qE):Nat:=0
theorem qE.rowsM(x:qE)(k:Int):(x.mrk k).enc.rows=x.enc.rows:=by simp[qE.rowsE,qE.mrk,AV.rows]
theorem qE.rowsV(x:qE)(k:Int):(x.mkV k).enc.rows=x.enc.rows:=by simp[qE.rowsE,qE.mkV,AV.rows]
theorem qE.ctle(x:qE):x.ct<=16:=by simp[qE.ct]
theorem qC.plx(x:qC):x.enc.pl=true:=by simp[qC.enc,AV.pl,AV.pls,zN (enc:=qO) (λ_=>rfl),zN qE.plx]
theorem qC.cnx(x:qC):x.enc.cn=true:=by simp[qC.enc,AV.cn,AV.cns,jY (enc:=qO) (λ_=>rfl),jY qE.cnx]
theorem qC.layE(x:qC)(n:Nat):lay x.enc n=(.agg [iI x.K,iI x.L,iI x.V,sQ 1 (n) x.D.length,.slice 2 (n+AV.rows (lQ x.D)) 0 x.W.length false],(lay (lQ x.D) (n)).2++((lay (.lst 2 (x.W.map qE.enc) false) (n+AV.rows (lQ x.D))).2++[])):=by
 simp[qC.enc,lay,qP,z5,AV.rows,Nat.add_assoc,Nat.add_comm,Nat.add_left_comm]
theorem qC.rowsE(x:qC):x.enc.rows=AV.rows (lQ x.D)+AV.rows (.lst 2 (x.W.map qE.enc) false):=by simp[qC.enc,AV.rows,AV.rowss,Nat.add_assoc]
def qC.mrk(x:qC)(k:Int):qC:={K:=k,L:=k+1,V:=k+1+1,D:=mkL mkI ctI x.D (k+1+1+1),W:=mkL qE.mrk qE.ct x.W (k+1+1+1+((qJ ctI x.D:Nat):Int))}
def qC.ct(x:qC):Nat:=1+1+1+qJ ctI x.D+qJ qE.ct x.W
def qC.mkV(x:qC)(k:Int):qC:={K:=x.K,L:=x.L,V:=x.V,D:=mkL mkI ctI x.D (k),W:=mkL qE.mrk qE.ct x.W (k+((qJ ctI x.D:Nat):Int))}
def qC.ctV(x:qC):Nat:=qJ ctI x.D+qJ qE.ct x.W
theorem qC.rowsM(x:qC)(k:Int):(x.mrk k).enc.rows=x.enc.rows:=by simp[qC.rowsE,qC.mrk,AV.rows,qx qE.mrk qE.ct (enc:=qE.enc) qE.rowsM,qx mkI ctI (enc:=qO) (λ_ _=>rfl)]
theorem qC.rowsV(x:qC)(k:Int):(x.mkV k).enc.rows=x.enc.rows:=by simp[qC.rowsE,qC.mkV,AV.rows,qx qE.mrk qE.ct (enc:=qE.enc) qE.rowsM,qx mkI ctI (enc:=qO) (λ_ _=>rfl)]
theorem qC.ctle(x:qC):x.ct<=16+16*x.sz:=by
 have h0:=ji (c:=ctI) (λ_=>by simp[ctI]) x.D;have h1:=ji (c:=qE.ct) (λy=>by have:=qE.ctle y;simpa using this) x.W;simp only[qC.ct,qC.sz];omega
theorem qC.ctVle(x:qC):x.ctV<=16*x.sz:=by
 have h0:=ji (c:=ctI) (λ_=>by simp[ctI]) x.D;have h1:=ji (c:=qE.ct) (λy=>by have:=qE.ctle y;simpa using this) x.W;simp only[qC.ctV,qC.sz];omega
theorem qF.plx(x:qF):x.enc.pl=true:=by simp[qF.enc,AV.pl,AV.pls]
theorem qF.cnx(x:qF):x.enc.cn=true:=by simp[qF.enc,AV.cn,AV.cns]
theorem qF.layE(x:qF)(n:Nat):lay x.enc n=(.agg [iI x.A,iI x.B],[]):=by
 simp[qF.enc,lay,qP,z5,AV.rows,Nat.add_assoc,Nat.add_comm,Nat.add_left_comm]
theorem qF.rowsE(x:qF):x.enc.rows=0:=by simp[qF.enc,AV.rows,AV.rowss,Nat.add_assoc]
def qF.mrk(x:qF)(k:Int):qF:={A:=k,B:=k+1}
def qF.ct(x:qF):Nat:=1+1
def qF.mkV(x:qF)(k:Int):qF:={A:=x.A,B:=x.B}
def qF.ctV(x:qF):Nat:=0
theorem qF.rowsM(x:qF)(k:Int):(x.mrk k).enc.rows=x.enc.rows:=by simp[qF.rowsE,qF.mrk,AV.rows]
theorem qF.rowsV(x:qF)(k:Int):(x.mkV k).enc.rows=x.enc.rows:=by simp[qF.rowsE,qF.mkV,AV.rows]
theorem qF.ctle(x:qF):x.ct<=16:=by simp[qF.ct]
theorem qH.plx(x:qH):x.enc.pl=true:=by simp[qH.enc,AV.pl,AV.pls,zN qC.plx,zN qF.plx]
theorem qH.cnx(x:qH):x.enc.cn=true:=by simp[qH.enc,AV.cn,AV.cns,jY qC.cnx,jY qF.cnx]
theorem qH.layE(x:qH)(n:Nat):lay x.enc n=(.agg [sQ 5 (n) x.C.length,iI x.F,iI x.O.T,iI x.O.I,.slice 2 (n+AV.rows (.lst 5 (x.C.map qC.enc) false)) 0 x.R.length false],(lay (.lst 5 (x.C.map qC.enc) false) (n)).2++((lay (.lst 2 (x.R.map qF.enc) false) (n+AV.rows (.lst 5 (x.C.map qC.enc) false))).2++[])):=by
 simp[qH.enc,lay,qP,z5,AV.rows,Nat.add_assoc,Nat.add_comm,Nat.add_left_comm]
theorem qH.rowsE(x:qH):x.enc.rows=AV.rows (.lst 5 (x.C.map qC.enc) false)+AV.rows (.lst 2 (x.R.map qF.enc) false):=by simp[qH.enc,AV.rows,AV.rowss,Nat.add_assoc]
def qH.mrk(x:qH)(k:Int):qH:={C:=mkL qC.mrk qC.ct x.C (k),F:=k+((qJ qC.ct x.C:Nat):Int),O:={T:=k+((qJ qC.ct x.C:Nat):Int)+1,I:=k+((qJ qC.ct x.C:Nat):Int)+1+1},R:=mkL qF.mrk qF.ct x.R (k+((qJ qC.ct x.C:Nat):Int)+1+1+1)}
def qH.ct(x:qH):Nat:=qJ qC.ct x.C+1+1+1+qJ qF.ct x.R
def qH.mkV(x:qH)(k:Int):qH:={C:=mkL qC.mrk qC.ct x.C (k),F:=x.F,O:={T:=x.O.T,I:=x.O.I},R:=mkL qF.mrk qF.ct x.R (k+((qJ qC.ct x.C:Nat):Int))}
def qH.ctV(x:qH):Nat:=qJ qC.ct x.C+qJ qF.ct x.R
theorem qH.rowsM(x:qH)(k:Int):(x.mrk k).enc.rows=x.enc.rows:=by simp[qH.rowsE,qH.mrk,AV.rows,qx qC.mrk qC.ct (enc:=qC.enc) qC.rowsM,qx qF.mrk qF.ct (enc:=qF.enc) qF.rowsM]
theorem qH.rowsV(x:qH)(k:Int):(x.mkV k).enc.rows=x.enc.rows:=by simp[qH.rowsE,qH.mkV,AV.rows,qx qC.mrk qC.ct (enc:=qC.enc) qC.rowsM,qx qF.mrk qF.ct (enc:=qF.enc) qF.rowsM]
theorem qH.ctle(x:qH):x.ct<=16+16*x.sz:=by
 have h0:=wF (c:=qC.ct) (z:=qC.sz) qC.ctle x.C;have h1:=ji (c:=qF.ct) (λy=>by have:=qF.ctle y;simpa using this) x.R;simp only[qH.ct,qH.sz];omega
theorem qH.ctVle(x:qH):x.ctV<=16*x.sz:=by
 have h0:=wF (c:=qC.ct) (z:=qC.sz) qC.ctle x.C;have h1:=ji (c:=qF.ct) (λy=>by have:=qF.ctle y;simpa using this) x.R;simp only[qH.ctV,qH.sz];omega
theorem n547(x:qE):Fresh Gm 547 [x.enc] x.enc:=by
 refine fI XR (by simp[AV.trees,AV.tree,qE.tr]) (qE.plx x) ?_;simp only[XR,qN,go_sem];refine qX rfl ?_;simp only[go_sem];refine lsA ?_;simp only[go_sem];exact JO (pre:=[]) (post:=[]) (qE.plx x) (by simp[zp,qE.layE,qv,Nat.add_assoc]) (by simp[qE.layE,qv,Nat.add_assoc])
theorem qqP(xs:List qE)(hl:xs.length<=1048576):Fresh Gm 1243 [.lst 2 (xs.map qE.enc) false] (.lst 2 (xs.map qE.enc) false):=
 XF qE.isSh qE.plx rfl rfl (by simp) (gk _ KM) xs (λx hm=>n547 x) (by omega)
theorem n925(x:qC)(hz:x.sz<=1048576):Fresh Gm 925 [x.enc] x.enc:=by
 refine fI XU (by simp[AV.trees,AV.tree,qC.tr]) (qC.plx x) ?_;simp only[XU,qN,go_sem];refine qX rfl ?_;simp only[go_sem];unfold qC.sz at hz;refine je (n147 _ (by omega)) ?_;simp only[go_sem,ja];refine je (qqP _ (by omega)) ?_;simp only[go_sem,ja];refine lsA ?_;simp only[go_sem];exact JO (pre:=[]) (post:=[]) (qC.plx x) (by simp[zp,qC.layE,qv,Nat.add_assoc]) (by simp[qC.layE,qv,Nat.add_assoc])
theorem n546(xs:List qC)(hl:xs.length+qJ qC.sz xs<=1048576):Fresh Gm 546 [.lst 5 (xs.map qC.enc) false] (.lst 5 (xs.map qC.enc) false):=
 XF qC.isSh qC.plx rfl rfl (by simp) (gk _ F546) xs (λx hm=>n925 x (by have:=jB (f:=qC.sz) hm;omega)) (by omega)
theorem n926(x:qF):Fresh Gm 926 [x.enc] x.enc:=by
 refine fI XV (by simp[AV.trees,AV.tree,qF.tr]) (qF.plx x) ?_;simp only[XV,qN,go_sem];refine qX rfl ?_;simp only[go_sem];refine lsA ?_;simp only[go_sem];exact JO (pre:=[]) (post:=[]) (qF.plx x) (by simp[zp,qF.layE,qv,Nat.add_assoc]) (by simp[qF.layE,qv,Nat.add_assoc])
theorem n548(xs:List qF)(hl:xs.length<=1048576):Fresh Gm 548 [.lst 2 (xs.map qF.enc) false] (.lst 2 (xs.map qF.enc) false):=
 XF qF.isSh qF.plx rfl rfl (by simp) (gk _ F548) xs (λx hm=>n926 x) (by omega)
theorem n211(x:qH)(hz:x.sz<=1048576):Fresh Gm 211 [x.enc] x.enc:=by
 refine fI XQ (by simp[AV.trees,AV.tree,qH.tr]) (qH.plx x) ?_;simp only[XQ,qN,go_sem];refine qX rfl ?_;simp only[go_sem];unfold qH.sz at hz;refine je (n546 _ (by omega)) ?_;simp only[go_sem,ja];refine je (n547 _) ?_;simp only[go_sem,ja,qE.layE];refine Ws (c':=.agg [sQ 5 0 x.C.length,iI x.F,iI x.O.T,iI x.O.I,.nils]) rfl rfl ?_;simp only[go_sem,ja,qE.layE];refine je (n548 _ (by omega)) ?_;simp only[go_sem,ja];refine lsA ?_;simp only[go_sem];exact JO (pre:=[]) (post:=[]) (qH.plx x) (by simp[zp,qH.layE,qv,Nat.add_assoc,qE.layE,qE.rowsE]) (by simp[qH.layE,qv,Nat.add_assoc,qE.layE,qE.rowsE])
theorem k968(xs:List qE)(k:Int)(h0:0<=k)(hk:k+(qJ qE.ct xs:Nat)<=4611686018427387904)(hz:xs.length<=4194304):Mark Gm 968 (.lst 2 (xs.map qE.enc) false) (.lst 2 ((mkL qE.mrk qE.ct xs k).map qE.enc) false) k (k+(qJ qE.ct xs:Nat)):=by
 refine Mark.intro (gk _ F968) (by kernel_rfl) rfl (zN qE.plx xs) (zN qE.plx _) (by simp only[AV.rows,qx qE.mrk qE.ct (enc:=qE.enc) qE.rowsM]) ?_;simp only[F968,qN,ja,go_sem,nZa];refine Sem.loop (λi:Nat=>i<=xs.length) (λi=>(⟨[(0,sQ 2 0 xs.length),(1,iI (k+((qJ qE.ct (xs.take i):Nat):Int))),(5,iI (i:Nat))],[],(lay (.lst 2 ((mkL qE.mrk qE.ct (xs.take i) k++xs.drop i).map qE.enc) false) 0).2⟩:VSt)) (λi=>xs.length-i) 0 (by kernel_rfl) (nZl _) (by simp only[List.take_zero,mkL,lNa,List.drop_zero,qJ,Int.ofNat_zero,Int.natCast_zero,Int.add_zero];exact csA) ?_;intro i hi;simp only[go_sem,nZa];apply qT<;>intro hc<;>simp only[hc,go_sem,nZa]
 ·have hlt:i<xs.length:=by have:=odT hc;omega
  have hct:=Qs qE.ct hlt;have hcl:=Qr qE.ct xs (i+1);have hrow:=qE.rowsM;rw[lDc hlt,Jo];obtain⟨K,hK⟩:∃K:Int,K=k+((qJ qE.ct (xs.take i):Nat):Int):=⟨_,rfl⟩;have hend:k+((qJ qE.ct (xs.take (i+1)):Nat):Int)=K+((qE.ct xs[i]:Nat):Int):=by rw[hct,hK];omega
  have hKb:0<=K/\K+((qE.ct xs[i]:Nat):Int)<=4611686018427387904:=by rw[<-hend];omega
  have hmk:(mkL qE.mrk qE.ct (xs.take (i+1)) k++xs.drop (i+1))=mkL qE.mrk qE.ct (xs.take i) k++qE.mrk xs[i] K::xs.drop (i+1):=by rw[Zx qE.mrk qE.ct hlt,<-hK,lAa];rfl
  have hrx:=hrow xs[i] K;rw[<-hK];obtain⟨y,hy⟩:∃y,y=xs[i]:=⟨_,rfl⟩;rw[<-hy]at hmk hend hKb hrx|-;have hcy:qE.ct y=1+1:=rfl;rw[hcy]at hend hKb;have hA:(qP ((mkL qE.mrk qE.ct (xs.take i) k).map qE.enc) 1).1.length=i:=by rw[jp,lMp,jv];simp;omega
  have hoA:=z5 ((mkL qE.mrk qE.ct (xs.take i) k).map qE.enc) 1;have e2:=Jo (enc:=qE.enc) (w:=2) (c:=false) (A:=mkL qE.mrk qE.ct (xs.take i) k) (B:=xs.drop (i+1)) (z:=qE.mrk y K);rw[hrx]at e2;rw[qE.layE]at e2|-;obtain⟨p,hp⟩:∃p,p=1+AV.rowss ((mkL qE.mrk qE.ct (xs.take i) k).map qE.enc):=⟨_,rfl⟩;rw[<-hp]at e2|-;generalize (qP ((xs.drop (i+1)).map qE.enc) (p+y.enc.rows)).1=vB at e2|-;generalize (qP ((xs.drop (i+1)).map qE.enc) (p+y.enc.rows)).2=oB at e2|-;generalize (qP ((mkL qE.mrk qE.ct (xs.take i) k).map qE.enc) 1).1=vA at e2 hA|-;generalize (qP ((mkL qE.mrk qE.ct (xs.take i) k).map qE.enc) 1).2=oA at e2 hoA|-;simp only[zk hA,jQ hA,qS hlt,lSz,go_sem,nZa];refine zW (e':=.agg [iI (K),iI y.I]) (by rfl) (by rfl) (zk hA) (by rfl) ?_;simp only[zk hA,jQ hA,qS hlt,lSz,go_sem,nZa];rw[wsA (n:=K+1)]
  try simp only[zk hA,jQ hA,qS hlt,lSz,go_sem,nZa]
  refine zW (e':=.agg [iI (K),iI (K+1)]) (by rfl) (by rfl) (zk hA) (by rfl) ?_;simp only[zk hA,jQ hA,qS hlt,lSz,go_sem,nZa];rw[wsA (n:=K+1+1)];simp only[wuA (n:=i)];refine qa (i+1) (by omega) (by omega) ?_;have e3:K+1+1=k+((qJ qE.ct (xs.take (i+1)):Nat):Int):=by first | (rw[hend];done) | (rw[hend];omega)
  rw[e3];rw[hmk,e2];simp only[qE.mrk,jv,AV.rows,lAa,lNa,lAn,lCa];exact csA
 ·have hge:i=xs.length:=by have:=odF hc;omega
  subst hge;refine ZC (by rw[lTl]) ?_;rw[lTl,List.drop_length,lAn]
theorem k595(xs:List qC)(k:Int)(h0:0<=k)(hk:k+(qJ qC.ct xs:Nat)<=4611686018427387904)(hz:xs.length+qJ qC.sz xs<=4194304):Mark Gm 595 (.lst 5 (xs.map qC.enc) false) (.lst 5 ((mkL qC.mrk qC.ct xs k).map qC.enc) false) k (k+(qJ qC.ct xs:Nat)):=by
 refine Mark.intro (gk _ F595) (by kernel_rfl) rfl (zN qC.plx xs) (zN qC.plx _) (by simp only[AV.rows,qx qC.mrk qC.ct (enc:=qC.enc) qC.rowsM]) ?_;simp only[F595,qN,ja,go_sem,nZa];refine Sem.loop (λi:Nat=>i<=xs.length) (λi=>(⟨[(0,sQ 5 0 xs.length),(1,iI (k+((qJ qC.ct (xs.take i):Nat):Int))),(5,iI (i:Nat))],[],(lay (.lst 5 ((mkL qC.mrk qC.ct (xs.take i) k++xs.drop i).map qC.enc) false) 0).2⟩:VSt)) (λi=>xs.length-i) 0 (by kernel_rfl) (nZl _) (by simp only[List.take_zero,mkL,lNa,List.drop_zero,qJ,Int.ofNat_zero,Int.natCast_zero,Int.add_zero];exact csA) ?_;intro i hi;simp only[go_sem,nZa];apply qT<;>intro hc<;>simp only[hc,go_sem,nZa]
 ·have hlt:i<xs.length:=by have:=odT hc;omega
  have hct:=Qs qC.ct hlt;have hcl:=Qr qC.ct xs (i+1);have hrow:=qC.rowsM;rw[lDc hlt,Jo];have hsz:qC.sz xs[i]<=qJ qC.sz xs:=jB (f:=qC.sz) (gMm hlt);obtain⟨K,hK⟩:∃K:Int,K=k+((qJ qC.ct (xs.take i):Nat):Int):=⟨_,rfl⟩;have hend:k+((qJ qC.ct (xs.take (i+1)):Nat):Int)=K+((qC.ct xs[i]:Nat):Int):=by rw[hct,hK];omega
  have hKb:0<=K/\K+((qC.ct xs[i]:Nat):Int)<=4611686018427387904:=by rw[<-hend];omega
  have hmk:(mkL qC.mrk qC.ct (xs.take (i+1)) k++xs.drop (i+1))=mkL qC.mrk qC.ct (xs.take i) k++qC.mrk xs[i] K::xs.drop (i+1):=by rw[Zx qC.mrk qC.ct hlt,<-hK,lAa];rfl
  have hrx:=hrow xs[i] K;rw[<-hK];obtain⟨y,hy⟩:∃y,y=xs[i]:=⟨_,rfl⟩;rw[<-hy]at hmk hend hKb hrx hsz|-;have hcy:qC.ct y=1+1+1+qJ ctI y.D+qJ qE.ct y.W:=rfl;rw[hcy]at hend hKb;simp only[qC.sz]at hsz;have hA:(qP ((mkL qC.mrk qC.ct (xs.take i) k).map qC.enc) 1).1.length=i:=by rw[jp,lMp,jv];simp;omega
  have hoA:=z5 ((mkL qC.mrk qC.ct (xs.take i) k).map qC.enc) 1;have e2:=Jo (enc:=qC.enc) (w:=5) (c:=false) (A:=mkL qC.mrk qC.ct (xs.take i) k) (B:=xs.drop (i+1)) (z:=qC.mrk y K);rw[hrx]at e2;rw[qC.layE]at e2|-;obtain⟨p,hp⟩:∃p,p=1+AV.rowss ((mkL qC.mrk qC.ct (xs.take i) k).map qC.enc):=⟨_,rfl⟩;rw[<-hp]at e2|-;generalize (qP ((xs.drop (i+1)).map qC.enc) (p+y.enc.rows)).1=vB at e2|-;generalize (qP ((xs.drop (i+1)).map qC.enc) (p+y.enc.rows)).2=oB at e2|-;generalize (qP ((mkL qC.mrk qC.ct (xs.take i) k).map qC.enc) 1).1=vA at e2 hA|-;generalize (qP ((mkL qC.mrk qC.ct (xs.take i) k).map qC.enc) 1).2=oA at e2 hoA|-;simp only[zk hA,jQ hA,qS hlt,lSz,go_sem,nZa];refine zW (e':=.agg [iI (K),iI y.L,iI y.V,sQ 1 (p) y.D.length,.slice 2 (p+AV.rows (lQ y.D)) 0 y.W.length false]) (by rfl) (by rfl) (zk hA) (by rfl) ?_;simp only[zk hA,jQ hA,qS hlt,lSz,go_sem,nZa];rw[wsA (n:=K+1)]
  try simp only[zk hA,jQ hA,qS hlt,lSz,go_sem,nZa]
  refine zW (e':=.agg [iI (K),iI (K+1),iI y.V,sQ 1 (p) y.D.length,.slice 2 (p+AV.rows (lQ y.D)) 0 y.W.length false]) (by rfl) (by rfl) (zk hA) (by rfl) ?_;simp only[zk hA,jQ hA,qS hlt,lSz,go_sem,nZa];rw[wsA (n:=K+1+1)]
  try simp only[zk hA,jQ hA,qS hlt,lSz,go_sem,nZa]
  refine zW (e':=.agg [iI (K),iI (K+1),iI (K+1+1),sQ 1 (p) y.D.length,.slice 2 (p+AV.rows (lQ y.D)) 0 y.W.length false]) (by rfl) (by rfl) (zk hA) (by rfl) ?_;simp only[zk hA,jQ hA,qS hlt,lSz,go_sem,nZa];rw[wsA (n:=K+1+1+1)]
  try simp only[zk hA,jQ hA,qS hlt,lSz,go_sem,nZa]
  refine Jw (n:=p) (pre:=.row 5 (vA++.agg [iI (K),iI (K+1),iI (K+1+1),sQ 1 (p) y.D.length,.slice 2 (p+AV.rows (lQ y.D)) 0 y.W.length false]::vB) true::(oA++[])) (post:=((lay (.lst 2 (y.W.map qE.enc) false) (p+AV.rows (lQ y.D))).2++[])++oB) (t:=(lQ y.D)) (t':=(lQ (mkL mkI ctI y.D (K+1+1+1)))) (k90 y.D (K+1+1+1) (by omega) (by omega) (by omega)) ?_ ?_ (by rw[ja,lMp]) ?_
  ·first | rfl | (simp only[lCo,lAp,lNi,hoA,qv,AV.rows,qx qE.mrk qE.ct (enc:=qE.enc) qE.rowsM,qx mkI ctI (enc:=qO) (λ_ _=>rfl)];done) | (simp only[lCo,lAp,lNi,hoA,qv,AV.rows,qx qE.mrk qE.ct (enc:=qE.enc) qE.rowsM,qx mkI ctI (enc:=qO) (λ_ _=>rfl)];omega)
  ·first | rfl | (simp only[lAa,lNa,lAn,lCa];done)
  simp only[zk hA,jQ hA,qS hlt,lSz,lCa,go_sem,nZa];refine Jw (n:=p+AV.rows (lQ y.D)) (pre:=.row 5 (vA++.agg [iI (K),iI (K+1),iI (K+1+1),sQ 1 (p) y.D.length,.slice 2 (p+AV.rows (lQ y.D)) 0 y.W.length false]::vB) true::(oA++((lay (lQ (mkL mkI ctI y.D (K+1+1+1))) (p)).2))) (post:=([])++oB) (t:=(.lst 2 (y.W.map qE.enc) false)) (t':=(.lst 2 ((mkL qE.mrk qE.ct y.W (K+1+1+1+((qJ ctI y.D:Nat):Int))).map qE.enc) false)) (k968 y.W (K+1+1+1+((qJ ctI y.D:Nat):Int)) (by omega) (by omega) (by omega)) ?_ ?_ (by rw[ja,lMp]) ?_
  ·first | rfl | (simp only[lCo,lAp,lNi,hoA,qv,AV.rows,qx qE.mrk qE.ct (enc:=qE.enc) qE.rowsM,qx mkI ctI (enc:=qO) (λ_ _=>rfl)];done) | (simp only[lCo,lAp,lNi,hoA,qv,AV.rows,qx qE.mrk qE.ct (enc:=qE.enc) qE.rowsM,qx mkI ctI (enc:=qO) (λ_ _=>rfl)];omega)
  ·first | rfl | (simp only[lAa,lNa,lAn,lCa];done)
  simp only[zk hA,jQ hA,qS hlt,lSz,lCa,go_sem,nZa];simp only[wuA (n:=i)];refine qa (i+1) (by omega) (by omega) ?_;have e3:K+1+1+1+((qJ ctI y.D:Nat):Int)+((qJ qE.ct y.W:Nat):Int)=k+((qJ qC.ct (xs.take (i+1)):Nat):Int):=by first | (rw[hend];done) | (rw[hend];omega)
  rw[e3];rw[hmk,e2];simp only[qC.mrk,jv,AV.rows,lAa,lNa,lAn,lCa,qx qE.mrk qE.ct (enc:=qE.enc) qE.rowsM,qx mkI ctI (enc:=qO) (λ_ _=>rfl)];exact csA
 ·have hge:i=xs.length:=by have:=odF hc;omega
  subst hge;refine ZC (by rw[lTl]) ?_;rw[lTl,List.drop_length,lAn]
theorem k596(xs:List qF)(k:Int)(h0:0<=k)(hk:k+(qJ qF.ct xs:Nat)<=4611686018427387904)(hz:xs.length<=4194304):Mark Gm 596 (.lst 2 (xs.map qF.enc) false) (.lst 2 ((mkL qF.mrk qF.ct xs k).map qF.enc) false) k (k+(qJ qF.ct xs:Nat)):=by
 refine Mark.intro (gk _ F596) (by kernel_rfl) rfl (zN qF.plx xs) (zN qF.plx _) (by simp only[AV.rows,qx qF.mrk qF.ct (enc:=qF.enc) qF.rowsM]) ?_;simp only[F596,qN,ja,go_sem,nZa];refine Sem.loop (λi:Nat=>i<=xs.length) (λi=>(⟨[(0,sQ 2 0 xs.length),(1,iI (k+((qJ qF.ct (xs.take i):Nat):Int))),(5,iI (i:Nat))],[],(lay (.lst 2 ((mkL qF.mrk qF.ct (xs.take i) k++xs.drop i).map qF.enc) false) 0).2⟩:VSt)) (λi=>xs.length-i) 0 (by kernel_rfl) (nZl _) (by simp only[List.take_zero,mkL,lNa,List.drop_zero,qJ,Int.ofNat_zero,Int.natCast_zero,Int.add_zero];exact csA) ?_;intro i hi;simp only[go_sem,nZa];apply qT<;>intro hc<;>simp only[hc,go_sem,nZa]
 ·have hlt:i<xs.length:=by have:=odT hc;omega
  have hct:=Qs qF.ct hlt;have hcl:=Qr qF.ct xs (i+1);have hrow:=qF.rowsM;rw[lDc hlt,Jo];obtain⟨K,hK⟩:∃K:Int,K=k+((qJ qF.ct (xs.take i):Nat):Int):=⟨_,rfl⟩;have hend:k+((qJ qF.ct (xs.take (i+1)):Nat):Int)=K+((qF.ct xs[i]:Nat):Int):=by rw[hct,hK];omega
  have hKb:0<=K/\K+((qF.ct xs[i]:Nat):Int)<=4611686018427387904:=by rw[<-hend];omega
  have hmk:(mkL qF.mrk qF.ct (xs.take (i+1)) k++xs.drop (i+1))=mkL qF.mrk qF.ct (xs.take i) k++qF.mrk xs[i] K::xs.drop (i+1):=by rw[Zx qF.mrk qF.ct hlt,<-hK,lAa];rfl
  have hrx:=hrow xs[i] K;rw[<-hK];obtain⟨y,hy⟩:∃y,y=xs[i]:=⟨_,rfl⟩;rw[<-hy]at hmk hend hKb hrx|-;have hcy:qF.ct y=1+1:=rfl;rw[hcy]at hend hKb;have hA:(qP ((mkL qF.mrk qF.ct (xs.take i) k).map qF.enc) 1).1.length=i:=by rw[jp,lMp,jv];simp;omega
  have hoA:=z5 ((mkL qF.mrk qF.ct (xs.take i) k).map qF.enc) 1;have e2:=Jo (enc:=qF.enc) (w:=2) (c:=false) (A:=mkL qF.mrk qF.ct (xs.take i) k) (B:=xs.drop (i+1)) (z:=qF.mrk y K);rw[hrx]at e2;rw[qF.layE]at e2|-;obtain⟨p,hp⟩:∃p,p=1+AV.rowss ((mkL qF.mrk qF.ct (xs.take i) k).map qF.enc):=⟨_,rfl⟩;rw[<-hp]at e2|-;generalize (qP ((xs.drop (i+1)).map qF.enc) (p+y.enc.rows)).1=vB at e2|-;generalize (qP ((xs.drop (i+1)).map qF.enc) (p+y.enc.rows)).2=oB at e2|-;generalize (qP ((mkL qF.mrk qF.ct (xs.take i) k).map qF.enc) 1).1=vA at e2 hA|-;generalize (qP ((mkL qF.mrk qF.ct (xs.take i) k).map qF.enc) 1).2=oA at e2 hoA|-;simp only[zk hA,jQ hA,qS hlt,lSz,go_sem,nZa];refine zW (e':=.agg [iI (K),iI y.B]) (by rfl) (by rfl) (zk hA) (by rfl) ?_;simp only[zk hA,jQ hA,qS hlt,lSz,go_sem,nZa];rw[wsA (n:=K+1)]
  try simp only[zk hA,jQ hA,qS hlt,lSz,go_sem,nZa]
  refine zW (e':=.agg [iI (K),iI (K+1)]) (by rfl) (by rfl) (zk hA) (by rfl) ?_;simp only[zk hA,jQ hA,qS hlt,lSz,go_sem,nZa];rw[wsA (n:=K+1+1)];simp only[wuA (n:=i)];refine qa (i+1) (by omega) (by omega) ?_;have e3:K+1+1=k+((qJ qF.ct (xs.take (i+1)):Nat):Int):=by first | (rw[hend];done) | (rw[hend];omega)
  rw[e3];rw[hmk,e2];simp only[qF.mrk,jv,AV.rows,lAa,lNa,lAn,lCa];exact csA
 ·have hge:i=xs.length:=by have:=odF hc;omega
  subst hge;refine ZC (by rw[lTl]) ?_;rw[lTl,List.drop_length,lAn]
theorem k240(x:qH)(k:Int)(h0:0<=k)(hk:k+(x.ctV:Nat)<=4611686018427387904)(hz:x.sz<=4194304):Mark Gm 240 x.enc (x.mkV k).enc k (k+(x.ctV:Nat)):=by
 refine Mark.intro (gk _ F240) (by kernel_rfl) rfl (qH.plx x) (qH.plx _) (qH.rowsV x k) ?_;rw[qH.layE,qH.layE];simp only[F240,qN,go_sem,nZa];refine qX rfl ?_;simp only[go_sem,nZa];unfold qH.ctV at hk;simp only[qH.sz]at hz;refine Jw (n:=0) (pre:=[]) (post:=(lay (.lst 2 (x.R.map qF.enc) false) (AV.rows (.lst 5 (x.C.map qC.enc) false))).2++[]) (t:=(.lst 5 (x.C.map qC.enc) false)) (t':=(.lst 5 ((mkL qC.mrk qC.ct x.C (k)).map qC.enc) false)) (k595 x.C (k) (by omega) (by omega) (by omega)) ?_ ?_ (by rw[ja,lMp]) ?_
 ·first | rfl | (simp only[lAp,lNi,qv,AV.rows,qx qC.mrk qC.ct (enc:=qC.enc) qC.rowsM,qx qF.mrk qF.ct (enc:=qF.enc) qF.rowsM];done) | (simp only[lAp,lNi,qv,AV.rows,qx qC.mrk qC.ct (enc:=qC.enc) qC.rowsM,qx qF.mrk qF.ct (enc:=qF.enc) qF.rowsM];omega)
 ·first | rfl | (simp only[lAa,lNa,lAn];done)
 simp only[lAa,lNa,lAn,go_sem,nZa];refine Jw (n:=AV.rows (.lst 5 (x.C.map qC.enc) false)) (pre:=(lay (.lst 5 ((mkL qC.mrk qC.ct x.C (k)).map qC.enc) false) (0)).2) (post:=[]) (t:=(.lst 2 (x.R.map qF.enc) false)) (t':=(.lst 2 ((mkL qF.mrk qF.ct x.R (k+((qJ qC.ct x.C:Nat):Int))).map qF.enc) false)) (k596 x.R (k+((qJ qC.ct x.C:Nat):Int)) (by omega) (by omega) (by omega)) ?_ ?_ (by rw[ja,lMp]) ?_
 ·first | rfl | (simp only[lAp,lNi,qv,AV.rows,qx qC.mrk qC.ct (enc:=qC.enc) qC.rowsM,qx qF.mrk qF.ct (enc:=qF.enc) qF.rowsM];done) | (simp only[lAp,lNi,qv,AV.rows,qx qC.mrk qC.ct (enc:=qC.enc) qC.rowsM,qx qF.mrk qF.ct (enc:=qF.enc) qF.rowsM];omega)
 ·first | rfl | (simp only[lAa,lNa,lAn];done)
 simp only[lAa,lNa,lAn,go_sem,nZa];refine ZC (by first | rfl | (simp only[qH.ctV];done) | (simp only[qH.ctV];omega)) ?_;simp only[qH.mkV,AV.rows,nZa,lAa,lNa,lAn,qx qC.mrk qC.ct (enc:=qC.enc) qC.rowsM,qx qF.mrk qF.ct (enc:=qF.enc) qF.rowsM]
theorem q977(xs:List qE)(k:Int)(h0:0<=k)(hk:k+(qJ qE.ct xs:Nat)<=4611686018427387904)(hz:xs.length<=4194304):Pure Gm 977 [(.lst 2 ((mkL qE.mrk qE.ct xs k).map qE.enc) false),iI k] (iI (k+(qJ qE.ct xs:Nat))):=by
 refine pI F977 (by simp[AV.trees,AV.tree,qY qE.isSh.tree]) rfl ?_;simp only[F977,qN,go_sem,nZa];refine Sem.loop (λi:Nat=>i<=xs.length) (λi=>(⟨[(0,(.lst 2 ((mkL qE.mrk qE.ct xs k).map qE.enc) false)),(1,iI (k+((qJ qE.ct (xs.take i):Nat):Int))),(5,iI (i:Nat))],[],[]⟩:VSt)) (λi=>xs.length-i) 0 (by kernel_rfl) (nZl _) (by simp only[List.take_zero,qJ,Int.ofNat_zero,Int.natCast_zero,Int.add_zero];exact csA) ?_;intro i hi;simp only[jv,go_sem,nZa];apply qT<;>intro hc<;>simp only[hc,go_sem,nZa]
 ·have hlt:i<xs.length:=by have:=odT hc;omega
  have hct:=Qs qE.ct hlt;have hcl:=Qr qE.ct xs (i+1);have hget:=Vu qE.mrk qE.ct hlt k;obtain⟨K,hK⟩:∃K:Int,K=k+((qJ qE.ct (xs.take i):Nat):Int):=⟨_,rfl⟩;have hend:k+((qJ qE.ct (xs.take (i+1)):Nat):Int)=K+((qE.ct xs[i]:Nat):Int):=by rw[hct,hK];omega
  have hKb:0<=K/\K+((qE.ct xs[i]:Nat):Int)<=4611686018427387904:=by rw[<-hend];omega
  rw[<-hK]at hget|-;obtain⟨y,hy⟩:∃y,y=xs[i]:=⟨_,rfl⟩;rw[<-hy]at hget hend hKb;have hcy:qE.ct y=1+1:=rfl;rw[hcy]at hend hKb;simp only[gMp,hget,oMs,go_sem,nZa]
  try simp only[gMp,hget,oMs,qE.mrk,go_sem,nZa]
  rw[wsA (n:=K+1)]
  try simp only[gMp,hget,oMs,qE.mrk,go_sem,nZa]
  try simp only[gMp,hget,oMs,qE.mrk,go_sem,nZa]
  rw[wsA (n:=K+1+1)]
  try simp only[gMp,hget,oMs,qE.mrk,go_sem,nZa]
  simp only[wuA (n:=i)];refine qa (i+1) (by omega) (by omega) ?_;have e3:K+1+1=k+((qJ qE.ct (xs.take (i+1)):Nat):Int):=by first | (rw[hend];done) | (rw[hend];omega)
  rw[e3];exact csA
 ·have hge:i=xs.length:=by have:=odF hc;omega
  subst hge;refine qM rfl ?_;rw[lTl]
theorem q603(xs:List qC)(k:Int)(h0:0<=k)(hk:k+(qJ qC.ct xs:Nat)<=4611686018427387904)(hz:xs.length+qJ qC.sz xs<=4194304):Pure Gm 603 [(.lst 5 ((mkL qC.mrk qC.ct xs k).map qC.enc) false),iI k] (iI (k+(qJ qC.ct xs:Nat))):=by
 refine pI F603 (by simp[AV.trees,AV.tree,qY qC.isSh.tree]) rfl ?_;simp only[F603,qN,go_sem,nZa];refine Sem.loop (λi:Nat=>i<=xs.length) (λi=>(⟨[(0,(.lst 5 ((mkL qC.mrk qC.ct xs k).map qC.enc) false)),(1,iI (k+((qJ qC.ct (xs.take i):Nat):Int))),(5,iI (i:Nat))],[],[]⟩:VSt)) (λi=>xs.length-i) 0 (by kernel_rfl) (nZl _) (by simp only[List.take_zero,qJ,Int.ofNat_zero,Int.natCast_zero,Int.add_zero];exact csA) ?_;intro i hi;simp only[jv,go_sem,nZa];apply qT<;>intro hc<;>simp only[hc,go_sem,nZa]
 ·have hlt:i<xs.length:=by have:=odT hc;omega
  have hct:=Qs qC.ct hlt;have hcl:=Qr qC.ct xs (i+1);have hget:=Vu qC.mrk qC.ct hlt k;have hsz:qC.sz xs[i]<=qJ qC.sz xs:=jB (f:=qC.sz) (gMm hlt);obtain⟨K,hK⟩:∃K:Int,K=k+((qJ qC.ct (xs.take i):Nat):Int):=⟨_,rfl⟩;have hend:k+((qJ qC.ct (xs.take (i+1)):Nat):Int)=K+((qC.ct xs[i]:Nat):Int):=by rw[hct,hK];omega
  have hKb:0<=K/\K+((qC.ct xs[i]:Nat):Int)<=4611686018427387904:=by rw[<-hend];omega
  rw[<-hK]at hget|-;obtain⟨y,hy⟩:∃y,y=xs[i]:=⟨_,rfl⟩;rw[<-hy]at hget hend hKb hsz;have hcy:qC.ct y=1+1+1+qJ ctI y.D+qJ qE.ct y.W:=rfl;rw[hcy]at hend hKb;simp only[qC.sz]at hsz;simp only[gMp,hget,oMs,go_sem,nZa]
  try simp only[gMp,hget,oMs,qC.mrk,go_sem,nZa]
  rw[wsA (n:=K+1)]
  try simp only[gMp,hget,oMs,qC.mrk,go_sem,nZa]
  try simp only[gMp,hget,oMs,qC.mrk,go_sem,nZa]
  rw[wsA (n:=K+1+1)]
  try simp only[gMp,hget,oMs,qC.mrk,go_sem,nZa]
  try simp only[gMp,hget,oMs,qC.mrk,go_sem,nZa]
  rw[wsA (n:=K+1+1+1)]
  try simp only[gMp,hget,oMs,qC.mrk,go_sem,nZa]
  try simp only[gMp,hget,oMs,qC.mrk,go_sem,nZa]
  refine qL (q92 y.D (K+1+1+1) (by omega) (by omega) (by omega)) ?_;simp only[gMp,hget,oMs,qC.mrk,go_sem,nZa];rw[show decide (K+1+1+1+((qJ ctI y.D:Nat):Int)<0)=false from dEf (by omega)];simp only[gMp,hget,oMs,qC.mrk,go_sem,nZa]
  try simp only[gMp,hget,oMs,qC.mrk,go_sem,nZa]
  refine qL (q977 y.W (K+1+1+1+((qJ ctI y.D:Nat):Int)) (by omega) (by omega) (by omega)) ?_;simp only[gMp,hget,oMs,qC.mrk,go_sem,nZa];rw[show decide (K+1+1+1+((qJ ctI y.D:Nat):Int)+((qJ qE.ct y.W:Nat):Int)<0)=false from dEf (by omega)];simp only[gMp,hget,oMs,qC.mrk,go_sem,nZa];simp only[wuA (n:=i)];refine qa (i+1) (by omega) (by omega) ?_;have e3:K+1+1+1+((qJ ctI y.D:Nat):Int)+((qJ qE.ct y.W:Nat):Int)=k+((qJ qC.ct (xs.take (i+1)):Nat):Int):=by first | (rw[hend];done) | (rw[hend];omega)
  rw[e3];exact csA
 ·have hge:i=xs.length:=by have:=odF hc;omega
  subst hge;refine qM rfl ?_;rw[lTl]
theorem q604(xs:List qF)(k:Int)(h0:0<=k)(hk:k+(qJ qF.ct xs:Nat)<=4611686018427387904)(hz:xs.length<=4194304):Pure Gm 604 [(.lst 2 ((mkL qF.mrk qF.ct xs k).map qF.enc) false),iI k] (iI (k+(qJ qF.ct xs:Nat))):=by
 refine pI F604 (by simp[AV.trees,AV.tree,qY qF.isSh.tree]) rfl ?_;simp only[F604,qN,go_sem,nZa];refine Sem.loop (λi:Nat=>i<=xs.length) (λi=>(⟨[(0,(.lst 2 ((mkL qF.mrk qF.ct xs k).map qF.enc) false)),(1,iI (k+((qJ qF.ct (xs.take i):Nat):Int))),(5,iI (i:Nat))],[],[]⟩:VSt)) (λi=>xs.length-i) 0 (by kernel_rfl) (nZl _) (by simp only[List.take_zero,qJ,Int.ofNat_zero,Int.natCast_zero,Int.add_zero];exact csA) ?_;intro i hi;simp only[jv,go_sem,nZa];apply qT<;>intro hc<;>simp only[hc,go_sem,nZa]
 ·have hlt:i<xs.length:=by have:=odT hc;omega
  have hct:=Qs qF.ct hlt;have hcl:=Qr qF.ct xs (i+1);have hget:=Vu qF.mrk qF.ct hlt k;obtain⟨K,hK⟩:∃K:Int,K=k+((qJ qF.ct (xs.take i):Nat):Int):=⟨_,rfl⟩;have hend:k+((qJ qF.ct (xs.take (i+1)):Nat):Int)=K+((qF.ct xs[i]:Nat):Int):=by rw[hct,hK];omega
  have hKb:0<=K/\K+((qF.ct xs[i]:Nat):Int)<=4611686018427387904:=by rw[<-hend];omega
  rw[<-hK]at hget|-;obtain⟨y,hy⟩:∃y,y=xs[i]:=⟨_,rfl⟩;rw[<-hy]at hget hend hKb;have hcy:qF.ct y=1+1:=rfl;rw[hcy]at hend hKb;simp only[gMp,hget,oMs,go_sem,nZa]
  try simp only[gMp,hget,oMs,qF.mrk,go_sem,nZa]
  rw[wsA (n:=K+1)]
  try simp only[gMp,hget,oMs,qF.mrk,go_sem,nZa]
  try simp only[gMp,hget,oMs,qF.mrk,go_sem,nZa]
  rw[wsA (n:=K+1+1)]
  try simp only[gMp,hget,oMs,qF.mrk,go_sem,nZa]
  simp only[wuA (n:=i)];refine qa (i+1) (by omega) (by omega) ?_;have e3:K+1+1=k+((qJ qF.ct (xs.take (i+1)):Nat):Int):=by first | (rw[hend];done) | (rw[hend];omega)
  rw[e3];exact csA
 ·have hge:i=xs.length:=by have:=odF hc;omega
  subst hge;refine qM rfl ?_;rw[lTl]
theorem q245(x:qH)(k:Int)(h0:0<=k)(hk:k+(x.ctV:Nat)<=4611686018427387904)(hz:x.sz<=4194304):Pure Gm 245 [(x.mkV k).enc,iI k] (iI (k+(x.ctV:Nat))):=by
 refine pI F245 (by simp[AV.trees,AV.tree,qH.tr]) rfl ?_;simp only[F245,qN,go_sem,nZa];refine qX rfl ?_;simp only[go_sem,nZa];unfold qH.ctV at hk;simp only[qH.sz]at hz;refine qL (q603 x.C (k) (by omega) (by omega) (by omega)) ?_;simp only[go_sem,nZa]
 try (rw[show decide (k+((qJ qC.ct x.C:Nat):Int)<0)=false from dEf (by omega)];simp only[go_sem,nZa])
 refine qL (q604 x.R (k+((qJ qC.ct x.C:Nat):Int)) (by omega) (by omega) (by omega)) ?_;simp only[go_sem,nZa]
 try (rw[show decide (k+((qJ qC.ct x.C:Nat):Int)+((qJ qF.ct x.R:Nat):Int)<0)=false from dEf (by omega)];simp only[go_sem,nZa])
 refine qM rfl ?_
 first | rfl | (simp only[qH.ctV,AV.int.injEq,true_and];done) | (simp only[qH.ctV,AV.int.injEq,true_and];omega)
section
variable {bk:List qD} {m:qH} {bu:Int} {h0:List qA}
theorem YI{xs:List Int}:AV.pls (xs.map qO)=true:=zN (enc:=qO) (λ_=>rfl) xs
noncomputable def qDC(bk:List qD)(m:qH)(bu:Int):List Int:=if jI bk m bu=0 then(wt bk m bu).1.tr else []
end
section
variable {w mid cid rid ctid k:Nat} {post cs:List AV} {ow:Nat->Nat} {h h':List qA} {m:qH} {rv dv v:AV} {c:qC} {P:Nat->Prop} {el:List AV}
theorem LsW.own(x:LsW P w h v el)(hf:∀n,qP el n=(el,[]))(hp:AV.pls el=true)(ht:AV.trees el=true):∃S,j0 S h v (.lst w el false)/\∀j,some j∈S->P j/\h[j]?=some (.row w el true):=by
 rcases x with⟨rfl,rfl⟩ | ⟨id,q1,rfl,q3⟩
 ·exact⟨[none],.nils (c:=false),λj hj=>by simp at hj⟩
 ·refine⟨[some id],(qCH hf hp ht).row q3 (by simp),λj hj=>?_⟩;simp only[lMg,oSi]at hj;rw[hj];exact⟨q1,q3⟩
theorem CV.own(x:CV P h v c):∃S,j0 S h v c.enc/\∀j,some j∈S->P j:=by
 obtain⟨dv,wv,rfl,x1,x2⟩:=x;obtain⟨S1,o1,p1⟩:=x1.own (λn=>Vg _ n) YI (qY shI.tree _);obtain⟨S2,o2,p2⟩:=x2.own (λn=>Uq _ n) (zN qLD _) (qY qE.isSh.tree _);have hn:∀j,some j∈S1->some j∉S2:=λj a b=>by
  have e1:=(p1 j a).2;have e2:=(p2 j b).2;rw[e1]at e2;cases e2
 have sc:∀(i:Int),(∀n,lay (AV.int .i64 i) n=(AV.int .i64 i,[])):=λi n=>rfl;have:=((((jN.nil (h:=h)).scal (sc c.K) rfl rfl).scal (sc c.L) rfl rfl).scal (sc c.V) rfl rfl).snoc o1 (by simp);have:=this.snoc o2 (by simpa using hn);refine⟨_,this.agg,λj hj=>?_⟩;simp only[lNa,jA]at hj;rcases hj with hj | hj
 ·exact(p1 j hj).1
 ·exact(p2 j hj).1
theorem MO.own(M:MO w mid post ow h m cid cs rv):∃S,j0 S h (mE m cid rv []) m.enc/\∀j,some j∈S->ow j≠0:=by
 have key:∀i,i<=m.C.length->∃S,jN S h (cs.take i) ((m.C.take i).map qC.enc)/\∀j,some j∈S->3<=ow j/\ow j<i+3:=by
  intro i
  induction i with
  | zero=>exact λ_=>⟨[],by simpa using jN.nil,λj hj=>by cases hj⟩
  | succ i ih=>
   intro hi;obtain⟨S,o,p⟩:=ih (by omega);have hc:m.C[i]?=some m.C[i]:=gEg (by omega);obtain⟨u,u1,u2⟩:=M.e i _ hc;obtain⟨S2,o2,p2⟩:=u2.own;have hl:i<cs.length:=by have:=M.l;omega
   have e:cs[i]=u:=by rw[gEg hl]at u1;exact Option.some.inj u1
   refine⟨S++S2, ?_,λj hj=>?_⟩
   ·rw[lTs hl,lTs (by omega),lMa,e];exact o.snoc o2 λj a b=>by have:=p j a;have:=p2 j b;omega
   ·rcases jA.1 hj with q | q
    ·have:=p j q;omega
    ·have:=p2 j q;omega
 obtain⟨S,o,p⟩:=key _ (nLr _);rw[tOl (Nat.le_of_eq M.l),tOl (nLr _)]at o;have o1:=o.row M.c (λhj=>by have:=p cid hj;have:=M.c1;omega);obtain⟨S2,o2,p2⟩:=M.r.own (λn=>UJ _ n) (zN qIT _) (qY qF.isSh.tree _);have sc:∀(i:Int),(∀n,lay (AV.int .i64 i) n=(AV.int .i64 i,[])):=λi n=>rfl;have:=(((o1.one.scal (sc m.F) rfl rfl).scal (sc m.O.T) rfl rfl).scal (sc m.O.I) rfl rfl).snoc o2 (λj a b=>by
  have:=(p2 j b).1;rcases mCo.1 a with q | q
  ·cases q;have:=M.c1;omega
  ·have:=p j q;omega)
 rw[lMp]at this;refine⟨_,this.agg,λj hj=>?_⟩;simp only[jA,mCo,oSi]at hj;rcases hj with(rfl | q) | q
 ·rw[M.c1];decide
 ·have:=p j q;omega
 ·have:=(p2 j q).1;omega
end
def bkT(bk:List qD):AV:=.lst 1 (bk.map qD.enc) false
theorem Yy{bk:List qD}:(bkT bk).pl=true:=by simp[bkT,AV.pl,zN qD.plx]
theorem Yx{bk:List qD}:(bkT bk).cn=true:=by simp[bkT,AV.cn,jY qD.cnx]
theorem QI(x:qH)(n:Nat):(lay x.enc n).1.part 0 (some 5)=some (lay x.enc n).1:=qpU (qH.plx x) ⟨_,rfl⟩ rfl
theorem qBP(x:qH)(n:Nat):(lay x.enc n).1.cells.length=5:=by rw[Vd (qH.plx x)];rfl
theorem qBO(x:qH)(n:Nat):∃cs,(lay x.enc n).1=.agg cs:=⟨_,congrArg Prod.fst (qH.layE x n)⟩
theorem qpP(x:qH)(k:Int)(n:Nat):(lay (x.mkV k).enc n).1=(lay x.enc n).1:=by simp[qH.layE,qH.mkV,jv,AV.rows,qx qC.mrk qC.ct (enc:=qC.enc) qC.rowsM]
theorem qGU{bk:List qD}:∀{f:Nat}{r:Run},(goM bk f r).1.tr.length<=f+r.tr.length
 | f,r=>by
  by_cases h:r.m.R=[]
  ·rw[VZ h];simp only;omega
  ·cases f with
   | zero=>rw[VX h];simp only;omega
   | succ f=>
    by_cases e:(doM bk r.m (r.m.R.length-1)).2.2=0
    ·rw[VY h e];have:=qGU (bk:=bk) (f:=f) (r:=r.go bk);have e2:(r.go bk).tr.length=r.tr.length+1:=by simp[Run.go]
     omega
    ·rw[Xy h e];simp only;omega
theorem qtU{bk:List qD}{m:qH}{bu:Int}:(qDC bk m bu).length<=4000:=by
 unfold qDC;split
 ·rename_i h;by_cases hc:wI bk m bu=0
  ·have:=qGU (bk:=bk) (f:=bu.toNat) (r:=⟨m,[],zO m,zO m⟩);have:=(beg0 hc).2.2;simp only[wt,lNi]at*;omega
  ·rw[jI,iN hc]at h;exact absurd h hc
 ·simp
theorem qKO{α:Type}{ct sz:α->Nat}(h:∀x,ct x<=16+16*sz x):∀xs:List α,qJ ct xs<=16*xs.length+16*qJ sz xs
 |[]=>nZl _
 | x::r=>by
  have:=h x;have:=qKO h r;simp only[qJ,lCo];omega
theorem qKN:∀xs:List Int,qJ ctI xs=xs.length
 |[]=>rfl
 | x::r=>by rw[qJ,qKN r];simp[ctI];omega
def Ut:qH:=⟨[],0,⟨0,0⟩,[]⟩
noncomputable def QK(bk:List qD)(m:qH)(bu:Int):qH:=if jI bk m bu=0 then(wt bk m bu).1.m else Ut
noncomputable def QJ(bk:List qD)(m:qH)(bu:Int):List Int:=if jI bk m bu=0 then zg (wt bk m bu).1.tr else []
def Z2(M:qH)(L:List Int)(c:Int):AV:=.tup [M.enc,lQ L,iI c]
theorem qGT{bk:List qD}(hb:z8 bk=true):∀{f:Nat}{r:Run}{n:Nat},RJ n r->(∀v∈r.tr,1<=v/\v<=7)->RJ n (goM bk f r).1/\∀v∈(goM bk f r).1.tr,1<=v/\v<=7
 | f,r,n,J,h=>by
  by_cases hn:r.m.R=[]
  ·rw[VZ hn];exact⟨J,h⟩
  ·cases f with
   | zero=>rw[VX hn];exact⟨J,h⟩
   | succ f=>
    by_cases e:(doM bk r.m (r.m.R.length-1)).2.2=0
    ·rw[VY hn e];have hk:r.m.R.length-1<r.m.R.length:=by have:=lPi.2 hn;omega
     have c:=VH hb J.mm hk e;refine qGT hb (J.go hb hn e) λv hv=>?_;simp only[Run.go,jA,lMg]at hv;rcases hv with hv | rfl
     ·exact h v hv
     ·exact⟨c.1,c.2.1⟩
    ·rw[Xy hn e];exact⟨J,h⟩
theorem qJV{bk:List qD}{m:qH}{bu:Int}(hb:z8 bk=true)(vm:VM m):RJ m.C.length (wt bk m bu).1/\∀v∈(wt bk m bu).1.tr,1<=v/\v<=7:=
 qGT hb ⟨vm.mi,rfl,Qw,Qw⟩ λv hv=>by cases hv
theorem qBF{h:List qA}{a b c a' b' c':AV}(x:Cvs h [a,b,c] [a',b',c']):Fin (some [a,b,c]) h (.tup [a',b',c']):=by
 unfold Fin;exact Cv.tup x.1 x.2
theorem qLJ{h:List qA}:Cv h (.agg [.nils,iI 0,iI 0,iI 0,.nils]) Ut.enc:=
 Cv.agg rfl (XM .nils (XM (.refl rfl) (XM (.refl rfl) (XM (.refl rfl) (XM .nils λp hp=>by simp at hp)))))
@[go_sem] theorem qBZ{m:qH}{cid:Nat}{rv:AV}:(mE m cid rv []).part 0 (some 5)=some (mE m cid rv []):=rfl
@[go_sem] theorem qxK{m:qH}{cid:Nat}{rv:AV}{bk:List qD}:(mE m cid rv (bkP bk)).part 0 (some 5)=some (mE m cid rv []):=rfl
theorem qt5{h:List qA}:j0 [none,none] h (.agg [.nils,iI 0,iI 0,iI 0,.nils]) Ut.enc:=by
 have sc:∀(i:Int),(∀n,lay (AV.int .i64 i) n=(AV.int .i64 i,[])):=λi n=>rfl;exact(((((j0.nils (h:=h) (w:=5) (c:=false)).one.scal (sc 0) rfl rfl).scal (sc 0) rfl rfl).scal (sc 0) rfl rfl).snoc (j0.nils (w:=2) (c:=false)) (by simp)).agg
theorem qIQ{h:List qA}{S S2:List (Option Nat)}{a b:AV}{M:qH}{L:List Int}{c:Int}(x:j0 S h a M.enc)(y:j0 S2 h b (lQ L))(hn:∀j,some j∈S->some j∉S2):Zh (some [a,b,iI c]) h (Z2 M L c):=by
 have sc:∀(i:Int),(∀n,lay (AV.int .i64 i) n=(AV.int .i64 i,[])):=λi n=>rfl;exact((x.one.snoc y hn).scal (sc c) rfl rfl).tup.fin
section
variable {bk:List qD} {m:qH} {bu:Int} {h0:List qA}
theorem qrG{M:qH}{L:List Int}{c:Int}:(Z2 M L c).tree=true:=by simp[Z2,AV.tree,AV.trees,qH.tr,qY shI.tree]
theorem c252(hl:bk.length+qJ qD.sz bk<=1048576)(hz:m.sz<=1048576):Pure Gm 252 [.lst 1 (bk.map qD.enc) false,m.enc,iI bu] (Z2 (QK bk m bu) (QJ bk m bu) (jI bk m bu)):=by
 refine Pure.intro [4] [] (gk _ F252) (by kernel_rfl) rfl (by simp[AV.trees,AV.tree,go_sem,qY qD.isSh.tree]) qrG ?_;simp only[F252,qN,go_sem];refine QE rfl ?_;simp only[go_sem,lNa,lSz];refine qL (c544 hl hz) ?_;simp only[go_sem];by_cases hc:wI bk m bu=0
 case neg=>
  simp only[hc,decide_false,go_sem];refine lsA ?_;simp only[go_sem];have e:jI bk m bu=wI bk m bu:=by rw[jI,iN hc]
  rw[QK,QJ,e,iN hc,iN hc];exact qBF (.cons qLJ (.cons .nils (.cons (.refl rfl) .nil)))
 have eC:jI bk m bu=(wt bk m bu).2:=by rw[jI,iP hc]
 simp only[hc,go_sem];obtain⟨hb,vm,b0,b1⟩:=beg0 hc;refine qr (SCall.mono (s545 vm.szs vm.len.1) ?_);rintro _ h1 ⟨cid,cs,rv,ow,rfl,M,U,hw⟩;simp only[go_sem];refine zW (e':=mE m cid rv []) rfl ends rfl rfl ?_;simp only[go_sem];simp only[lSz];have hcl:cid≠h1.length:=λe=>by have:=qw M.c;omega
 have M2:=(M.heap (h':=(h1++[qA.row 5 [AV.agg [AV.nils,AV.int IntKind.i64 0,AV.int IntKind.i64 0,AV.int IntKind.i64 0,AV.nils]] true]).set h1.length (.row 5 [mE m cid rv []] true)) (by simp) λj hj q=>by rw[gSn (by omega),gAl hj]).mo (w:=5) (post:=[]) (mid:=h1.length) (gSs (by simp)) (by have:=M.b h1.length;omega);obtain⟨n,rfl⟩:=eOz b0;refine qr (SCall.mono (s503 (n:=0) (MH.intro M2) (by decide) vm.mi hb vm.len.2 (by omega)) ?_);rintro _ h2 ⟨ow2,rid,rfl,R,F⟩;have eG:wt bk m ((n:Nat):Int)=goM bk n ⟨m,[],zO m,zO m⟩:=rfl;rw[<-eG]at R;rw[<-eG,<-eC];simp only[go_sem];by_cases h0:jI bk m (n:Nat)=0
 case neg=>
  simp only[h0,decide_false,go_sem];refine lsA ?_;simp only[go_sem];rw[QK,QJ,iN h0,iN h0];exact qBF (.cons qLJ (.cons .nils (.cons (.refl rfl) .nil)))
 obtain⟨tv,e,w⟩:=R.e;obtain⟨cid2,cs2,rv2,M3⟩:=R.m;have hin:=qJV (bu:=(n:Nat)) hb vm;have htl:(wt bk m (n:Nat)).1.tr.length<=4000:=by have:=qtU (bk:=bk) (m:=m) (bu:=(n:Nat));rw[qDC,iP h0]at this;exact this
 have hcv:Cv h2 tv (.lst 1 ((wt bk m (n:Nat)).1.tr.map qO) false):=w.cv (qY shI.tree _) (by decide);simp only[h0,go_sem,e,M3.o,qBZ];refine Zl (Cvs.cons hcv .nil) (n571 hin.2 htl) ?_;simp only[go_sem];refine lsA ?_;simp only[go_sem,qBZ];rw[QK,QJ,iP h0,iP h0];refine qBF (.cons ?_ (.cons (qHH (pre:=h2) (post:=[]) (by simp[AV.pl,YI]) (by simp[AV.cn,jY (enc:=qO) (λ_=>rfl)]) (by simp)) (.cons (.refl rfl) .nil)));have:=(M3.heap (h':=h2++(lay (.lst 1 ((zg (wt bk m (n:Nat)).1.tr).map qO) false) h2.length).2) (by simp) λj hj _=>gAl hj).cv;exact this
theorem n253(hl:bk.length+qJ qD.sz bk<=1048576)(hz:m.sz<=1048576):Fresh Gm 253 [.lst 1 (bk.map qD.enc) false,m.enc,iI bu] (Z2 (QK bk m bu) (QJ bk m bu) (jI bk m bu)):=by
 refine fI F253 (by simp[AV.trees,AV.tree,go_sem,qY qD.isSh.tree]) (by simp[Z2,AV.pl,AV.pls,YI,qH.plx]) ?_;simp only[F253,qN,go_sem];refine qX rfl ?_;simp only[go_sem];refine qr (SCall.mono (s507 hl hz) ?_);rintro _ h1 ⟨p,rfl,R⟩;simp only[go_sem];by_cases h0:jI bk m bu=0
 case neg=>
  simp only[h0,decide_false,go_sem];refine lsA ?_;simp only[go_sem];rw[QK,QJ,iN h0,iN h0];exact qIQ qt5 ((j0.nils (c:=false))) (by simp)
 obtain⟨rid,mid,ctid,ow,tv,rfl,R,_⟩:=R h0;obtain⟨cid2,cs2,rv2,M3⟩:=R.mh;simp only[h0,go_sem,R.e,M3.o];refine lsA ?_;simp only[go_sem,qBZ];rw[QK,QJ,iP h0,iP h0];obtain⟨S,o,q⟩:=M3.own;have o2:=(qCH (h:=h1) (xs:=(zg (wt bk m bu).1.tr).map qO) (λn=>Vg _ n) YI (qY shI.tree _)).row R.c (by simp);rw[lMp,Xj]at o2;refine qIQ o o2 λj a b=>?_;simp only[lMg,oSi]at b;exact q j a (by rw[b];exact R.co)
end
theorem ZH{t:AV}{n:Nat}{pre post h:List qA}(hp:t.pl=true)(hc:t.cn=true)(hn:pre.length=n)(hh:h=pre++((lay t n).2++post)):Cv h (lay t n).1 t:=by
 subst hn;exact qHH hp hc hh
theorem lay4{a b c d:AV}{n k q:Nat}(h1:a.rows=n)(h2:n+b.rows=k)(h3:k+c.rows=q)(pa:a.pl=true)(ca:a.cn=true)(pb:b.pl=true)(cb:b.cn=true)(pc:c.pl=true)(cc:c.cn=true)(pd:d.pl=true)(cd:d.cn=true)(post:List qA):
  Cv ((lay a 0).2++((lay b n).2++((lay c k).2++((lay d q).2++post)))) (lay a 0).1 a/\Cv ((lay a 0).2++((lay b n).2++((lay c k).2++((lay d q).2++post)))) (lay b n).1 b/\Cv ((lay a 0).2++((lay b n).2++((lay c k).2++((lay d q).2++post)))) (lay c k).1 c/\Cv ((lay a 0).2++((lay b n).2++((lay c k).2++((lay d q).2++post)))) (lay d q).1 d:=by
 refine⟨ZH (pre:=[]) pa ca rfl rfl,ZH (pre:=(lay a 0).2) pb cb (by rw[qv,h1]) rfl,ZH (pre:=(lay a 0).2++(lay b n).2) (post:=(lay d q).2++post) pc cc (by rw[lAp,qv,qv,h1,h2]) (by simp only[lAa]),ZH (pre:=(lay a 0).2++((lay b n).2++(lay c k).2)) (post:=post) pd cd (by simp only[lAp,qv];omega) (by simp only[lAa])⟩
theorem qpZ{bk:List qD}{m:qH}{bu:Int}:(QK bk m bu).sz<=1000000:=by
 unfold QK;split
 ·rename_i h;by_cases hc:wI bk m bu=0
  ·obtain⟨hb,vm,_,_⟩:=beg0 hc;have J:=(qJV (bu:=bu) hb vm).1;have h1:=vm.len;have h2:=WB J.mm;have h3:=Ua (f:=qC.sz) (k:=8) λc hc=>qE7 (Vv J.mm c hc);have h4:=J.cl;unfold qH.sz;omega
  ·rw[jI,iN hc]at h;exact absurd h hc
 ·simp[Ut,qH.sz,qJ]
theorem qpY{bk:List qD}{m:qH}{bu:Int}:(QJ bk m bu).length<=7:=by
 unfold QJ;split
 ·rw[Xj];omega
 ·simp
theorem qBQ{e f:AV}{k:IntKind}{n:Int}{m:Nat}:lay (.tup [e,f,.int k n]) m=(.tup [(lay e m).1,(lay f (m+e.rows)).1,.int k n],(lay e m).2++(lay f (m+e.rows)).2):=by simp[lay,qP,qv]
theorem c42{bk:List qD}{m:qH}{bu:Int}(hb:bk.length<=140737488355328/\(∀y∈bk,qD.bd y))(hm:m.bd):Pure Gm 42 [.lst 1 (bk.map qD.enc) false,m.enc,iI bu] (.bool true):=by
 refine pI F42 (by simp[AV.trees,AV.tree,go_sem,qY qD.isSh.tree]) rfl ?_;simp only[F42,qN,go_sem];refine qX rfl ?_;simp only[go_sem];refine qL (c181 bk hb 1048576 (by omega)) ?_;simp only[go_sem];apply qT<;>intro hc<;>simp only[hc,go_sem]
 ·exact qM rfl rfl
 have hbz:bk.length+qJ qD.sz bk<=1048576:=by
  have:=odF hc;rw[wK]at this;omega
 rw[wL hbz];refine qL (c209 m hm (1048576-(bk.length+qJ qD.sz bk)) (by omega)) ?_;simp only[go_sem];apply qT<;>intro hc<;>simp only[hc,go_sem]
 ·exact qM rfl rfl
 have hmz:m.sz<=1048576:=by
  have:=odF hc;rw[wK]at this;omega
 refine qL (c184 bk hbz) ?_;simp only[go_sem];refine qL (c211 m hmz) ?_;simp only[go_sem];have kp:=c252 (bu:=bu) hbz hmz;have k1:=n253 (bu:=bu) hbz hmz;have hGz:=qpZ (bk:=bk) (m:=m) (bu:=bu);have hLl:=qpY (bk:=bk) (m:=m) (bu:=bu);generalize QK bk m bu=G at kp k1 hGz;generalize QJ bk m bu=L at kp k1 hLl;generalize jI bk m bu=C at kp k1;unfold Z2 at kp k1;refine qL kp ?_;simp only[go_sem];refine lsA ?_;simp only[go_sem];refine je (n184 bk hbz) ?_;simp only[go_sem];refine je (n211 m hmz) ?_;simp only[go_sem];refine J3 (k:=5) (by rfl) (qBP _ _) (qBO _ _) (by decide) ?_;have e1:(lay (AV.lst 1 (bk.map qD.enc) false) 0).2.length=(bkT bk).rows:=qv _ _;have hM:∀n,(lay m.enc n).2.length=m.enc.rows:=λn=>qv _ _;simp only[go_sem,QI,lNa,e1];have a1:=ZH (t:=bkT bk) (n:=0) (h:=(lay (bkT bk) 0).2++(lay m.enc (bkT bk).rows).2) (pre:=[]) (post:=(lay m.enc (bkT bk).rows).2) Yy Yx rfl rfl;have a2:=ZH (t:=m.enc) (n:=(bkT bk).rows) (h:=(lay (bkT bk) 0).2++(lay m.enc (bkT bk).rows).2) (pre:=(lay (bkT bk) 0).2) (post:=[]) (qH.plx m) (qH.cnx m) (qv _ _) (by simp);refine Zl (Cvs.cons a1 (Cvs.cons a2 (Cvs.cons (.refl rfl) Cvs.nil))) k1 ?_;simp only[go_sem,qBQ,QI,lAp,e1,hM];refine J3 (k:=5) (by rfl) (qBP _ _) (qBO _ _) (by decide) ?_;simp only[go_sem,QI,lAa];have pL:∀{L:List Int},(AV.lst 1 (L.map qO) false).pl=true:=by intro L;simp[AV.pl,YI]
 have cL:∀{L:List Int},(AV.lst 1 (L.map qO) false).cn=true:=by intro L;simp[AV.cn,jY (enc:=qO) (λ_=>rfl)]
 generalize hn1:(bkT bk).rows=n1;generalize hn2:n1+m.enc.rows=n2;generalize hn3:n2+G.enc.rows=n3;obtain⟨x1,x2,x3,x4⟩:=lay4 (a:=bkT bk) (b:=m.enc) (c:=G.enc) (d:=lQ L) hn1 hn2 hn3 Yy Yx (qH.plx m) (qH.cnx m) (qH.plx G) (qH.cnx G) pL cL [];rw[lAn]at x1 x2 x3 x4;refine jf (Cvs.cons x3 (Cvs.cons (.refl qH.tr) Cvs.nil)) (Y1 G (by omega)) rfl ?_;simp only[go_sem];refine jf (Cvs.cons x4 (Cvs.cons (.refl (qY shI.tree _)) Cvs.nil)) (c86 L (by omega)) rfl ?_;simp only[go_sem,beq_self_eq_true];refine qL (c184 bk hbz) ?_;simp only[go_sem];refine jf (Cvs.cons x1 (Cvs.cons (.refl (qY qD.isSh.tree _)) Cvs.nil)) (c187 bk (by omega)) rfl ?_;simp only[go_sem,QI];refine qL (c211 m hmz) ?_;simp only[go_sem];refine jf (Cvs.cons x2 (Cvs.cons (.refl qH.tr) Cvs.nil)) (Y1 m (by omega)) rfl ?_;simp only[go_sem];have hctm:=m.ctVle;have hctg:=G.ctVle;have hctb:=qKO (λx=>qD.ctle x) bk;have hcl:=qKN L;have mb:=k225 bk 1 (by omega) (by omega) (by omega);have mm:=k240 m (1+(qJ qD.ct bk:Nat)) (by omega) (by omega) (by omega);have mg:=k240 G 1 (by omega) (by omega) (by omega);have ml:=k90 L (1+(G.ctV:Nat)) (by omega) (by omega) (by omega);have rb:(bkT (mkL qD.mrk qD.ct bk 1)).rows=n1:=mb.2.2.1.trans hn1;have rm:=hn2;rw[<-mm.2.2.1]at rm;have rg:=hn3;rw[<-mg.2.2.1]at rg;refine Jw (E:={Γ:=Gm,b:=0,fz:=[],bp:=[]}) mb (pre:=[]) (post:=(lay m.enc n1).2++((lay G.enc n2).2++(lay (AV.lst 1 (L.map qO) false) n3).2)) rfl rfl rfl ?_;simp only[go_sem,QI,lNa];refine Jw (E:={Γ:=Gm,b:=0,fz:=[],bp:=[]}) mm (pre:=(lay (bkT (mkL qD.mrk qD.ct bk 1)) 0).2) (post:=(lay G.enc n2).2++(lay (AV.lst 1 (L.map qO) false) n3).2) (by rw[qv,rb]) rfl rfl ?_;obtain⟨y1,y2,y3,y4⟩:=lay4 (a:=bkT (mkL qD.mrk qD.ct bk 1)) (b:=(m.mkV (1+(qJ qD.ct bk:Nat))).enc) (c:=G.enc) (d:=lQ L) rb rm hn3 Yy Yx (qH.plx _) (qH.cnx _) (qH.plx G) (qH.cnx G) pL cL [];rw[lAn]at y3 y4;have hk:decide (1+((qJ qD.ct bk:Nat):Int)+(m.ctV:Nat)<0)=false:=dEf (by omega);simp only[go_sem,hk,QI];refine jf (Cvs.cons y3 (Cvs.cons (.refl qH.tr) Cvs.nil)) (Y1 G (by omega)) rfl ?_;simp only[go_sem];refine jf (Cvs.cons y4 (Cvs.cons (.refl (qY shI.tree _)) Cvs.nil)) (c86 L (by omega)) rfl ?_;simp only[go_sem,beq_self_eq_true,QI];refine Jw (E:={Γ:=Gm,b:=0,fz:=[],bp:=[]}) mg (n:=n2) (pre:=(lay (bkT (mkL qD.mrk qD.ct bk 1)) 0).2++(lay (m.mkV (1+(qJ qD.ct bk:Nat))).enc n1).2) (post:=(lay (AV.lst 1 (L.map qO) false) n3).2) (by rw[lAp,qv,qv,rb,rm]) (by simp only[lAa]) rfl ?_;simp only[go_sem];refine Jw (E:={Γ:=Gm,b:=0,fz:=[],bp:=[]}) ml (n:=n3) (pre:=(lay (bkT (mkL qD.mrk qD.ct bk 1)) 0).2++((lay (m.mkV (1+(qJ qD.ct bk:Nat))).enc n1).2++(lay (G.mkV 1).enc n2).2)) (post:=[]) (by simp only[lAp,qv];omega) (by simp only[lAa,lAn]) rfl ?_;simp only[go_sem,lAa,lAn,QI];have z:=λpost=>lay4 (a:=bkT (mkL qD.mrk qD.ct bk 1)) (b:=(m.mkV (1+(qJ qD.ct bk:Nat))).enc) (c:=(G.mkV 1).enc) (d:=.lst 1 ((mkL mkI ctI L (1+(G.ctV:Nat))).map qO) false) rb rm rg Yy Yx (qH.plx _) (qH.cnx _) (qH.plx (G.mkV 1)) (qH.cnx _) pL cL post;have e5:∀k n,(lay (AV.lst 1 ((mkL mkI ctI L k).map qO) false) n).1=(lay (AV.lst 1 (L.map qO) false) n).1:=λk n=>by simp[lay,jv]
 simp only[e5,qpP]at z;obtain⟨_,_,z3,z4⟩:=z [];rw[lAn]at z3 z4;have hk2:decide (1+((G.ctV:Nat):Int)<0)=false:=dEf (by omega);have hk3:decide (1+((G.ctV:Nat):Int)+((qJ ctI L:Nat):Int)<0)=false:=dEf (by omega);refine jf (Cvs.cons z3 (Cvs.cons (.refl rfl) Cvs.nil)) (q245 G 1 (by omega) (by omega) (by omega)) rfl ?_;simp only[go_sem,hk2];refine jf (Cvs.cons z4 (Cvs.cons (.refl rfl) Cvs.nil)) (q92 L (1+(G.ctV:Nat)) (by omega) (by omega) (by omega)) rfl ?_;simp only[go_sem,hk3,beq_self_eq_true];refine qL (c184 bk hbz) ?_;simp only[go_sem];refine qL (c211 m hmz) ?_;simp only[go_sem];refine je k1 ?_;obtain⟨_,_,u3,u4⟩:=z (lay (.tup [G.enc,lQ L,iI C]) ((lay (bkT (mkL qD.mrk qD.ct bk 1)) 0).2++((lay (m.mkV (1+(qJ qD.ct bk:Nat))).enc n1).2++((lay (G.mkV 1).enc n2).2++(lay (AV.lst 1 ((mkL mkI ctI L (1+(G.ctV:Nat))).map qO) false) n3).2))).length).2;simp only[<-lAa]at u3 u4;simp only[<-lAa];generalize (lay (bkT (mkL qD.mrk qD.ct bk 1)) 0).2++(lay (m.mkV (1+(qJ qD.ct bk:Nat))).enc n1).2++(lay (G.mkV 1).enc n2).2++(lay (AV.lst 1 ((mkL mkI ctI L (1+(G.ctV:Nat))).map qO) false) n3).2=X at u3 u4|-;simp only[qBQ]at u3 u4;simp only[go_sem,qBQ];refine J3 (k:=5) (by rfl) (qBP _ _) (qBO _ _) (by decide) ?_;simp only[go_sem,QI];refine jf (Cvs.cons (ZH (pre:=X) (post:=(lay (AV.lst 1 (L.map qO) false) (X.length+G.enc.rows)).2) (qH.plx G) (qH.cnx G) rfl (by simp only[lAa])) (Cvs.cons (.refl qH.tr) Cvs.nil)) (Y1 G (by omega)) rfl ?_;simp only[go_sem];refine jf (Cvs.cons (ZH (pre:=X++(lay G.enc X.length).2) (post:=[]) pL cL (by rw[lAp,qv]) (by simp only[lAa,lAn])) (Cvs.cons (.refl (qY shI.tree _)) Cvs.nil)) (c86 L (by omega)) rfl ?_;simp only[go_sem,beq_self_eq_true,QI];refine jf (Cvs.cons u3 (Cvs.cons (.refl rfl) Cvs.nil)) (q245 G 1 (by omega) (by omega) (by omega)) rfl ?_;simp only[go_sem,hk2];refine jf (Cvs.cons u4 (Cvs.cons (.refl rfl) Cvs.nil)) (q92 L (1+(G.ctV:Nat)) (by omega) (by omega) (by omega)) rfl ?_;simp only[go_sem,hk3,beq_self_eq_true];exact qM rfl rfl
end Go.Ab
