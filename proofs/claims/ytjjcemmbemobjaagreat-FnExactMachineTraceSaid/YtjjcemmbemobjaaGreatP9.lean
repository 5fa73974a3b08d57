/- Texts Mi14 .. Mi21: the abstract machine, its laws and contracts of functions: lemmas for the statement. No condition. -/
import Derived.Test.YtjjcemmbemobjaaGreatP8
set_option linter.unusedSimpArgs false
set_option linter.unusedVariables false
namespace Go.Ab
open Go
set_option maxRecDepth 10000
set_option maxHeartbeats 4000000
def rdL(xs:List qL)(k:Nat):List qL:=xs.take k++xs.drop (k+1)
theorem qC1{A:List qB}{x y:qB}{n:Nat}(h:A.length=n):(A++[x]).set n y=A++[y]:=by
 subst h;simp
theorem qqA{xs:List qL}{h:List qB}{id k:Nat}{K:AV->List qB->Prop}(ho:h[id]?=some (.row 2 (xs.map qL.enc) true))(hz:xs.length<=1048576)(hk:k<xs.length)
  (hK:K (sQ 2 h.length (xs.length-1)) (h.set id .dead++[.row 2 ((rdL xs k).map qL.enc) true])):SCall Gm 1287 [sQ 2 id xs.length,iI (k:Int),iI ((k:Int)+1)] h K:=by
 refine SCall.cut h.length (xs.length-1) 2 ?_;refine sI Uj ?_;simp only[Uj,qN,go_sem];have hid:id<h.length:=(gSi.1 ho).1;refine qqS ho (by simp;omega) (c:=xs.length) (b:=k+1) (a:=k) (by simp[bnd,go_sem]) (by simp[bnd,go_sem];omega) (by simp[bnd,go_sem];omega) ?_;simp only[go_sem];have hne:decide ((k:Int)=(k:Int)+1)=false:=dEf (by omega);simp only[hne,go_sem];refine X4 (v:=sQ 2 id k) (by simp[val,bnd,go_sem,show k<=xs.length by omega]) ?_;simp only[go_sem];refine X4 (v:=.slice 2 id (k+1) (xs.length-(k+1)) false) (by simp[val,bnd,go_sem,show (0:Int)<=(k:Int)+1/\(k:Int)+1<=(xs.length:Int) by omega]) ?_;simp only[go_sem];refine qiU (el:=xs.map qL.enc) (ys:=(xs.map qL.enc).drop (k+1)) ?_ ho (by simp;omega) (by simp;omega) ?_
 ·have:=Els.part (h:=h) (w:=2) (id:=id) (off:=k+1) (n:=xs.length-(k+1)) (c:=false) ho (by simp;omega);rwa[tOl (by simp)]at this
 simp only[go_sem];have e1:k+(List.drop (k+1) (xs.map qL.enc)).length=xs.length-1:=by simp;omega
 simp only[e1];generalize hrow:(((xs.map qL.enc).drop 0).take k)++(List.drop (k+1) (xs.map qL.enc)++List.drop (0+k+(List.drop (k+1) (xs.map qL.enc)).length) (xs.map qL.enc))=row;have hl:row.length=xs.length:=by rw[<-hrow];simp;omega
 have htk:row.take (xs.length-1)=(rdL xs k).map qL.enc:=by
  rw[<-hrow,<-lAa,List.take_append_of_le_length (by simp;omega),tOl (by simp;omega)];simp[rdL]
 have hA:(h.set id .dead).length=h.length:=by simp
 have hat:(h.set id .dead++[qB.row 2 row true])[h.length]?=some (qB.row 2 row true):=by
  rw[gAr (by simp)];simp
 refine qqT hat (by omega) (b:=xs.length) (a:=xs.length-1) (by simp only[bnd,go_sem,hl];simp) (by simp only[bnd,go_sem];simp) ?_;simp only[go_sem];refine qkV hat (by omega) (by omega) ?_;simp only[go_sem];refine⟨_,by rw[qC1 hA,gAr (by omega),hA,nSs,List.getElem?_cons_zero], ?_⟩;rw[qC1 hA,qC1 hA];have e2:∀r:List AV,List.take (xs.length-1) (List.take (0+(xs.length-1)) row++r)=(rdL xs k).map qL.enc:=by
  intro r;rw[nZa,List.take_append_of_le_length (by simp;omega),List.take_take,Nat.min_self,htk]
 rw[e2];exact hK
section
variable {w mid cid k a b:Nat} {post cs:List AV} {ow:Nat->Nat} {h h':List qB} {m:qH} {rv dv:AV} {c x y:qD} {P:List qF} {O:Nat->Bool} {bk:List qE} {p:qL}
abbrev bkP(bk:List qE):List AV:=[.lst 1 (bk.map qE.enc) false]
theorem Qw:AV.trees (bkP bk)=true:=by simp[AV.trees,AV.tree,qb qE.isSh.tree]
theorem MH.lendX{g e:Nat}{E:Ev}{ck l:List qA}{fs:List Fr1}{s l':qq}{Q:qf->VSt->Prop}{bs:List AV}{v:AV}(M:MH w mid post ow h m)(hp:AV.trees post=true)(hw:0<w)(hb:AV.trees bs=true)(hf:Pure E.Γ g (.ept (xM m post) 0::bs) v)(hl:v.leaf=true)
  (hr:R E (.ops l::fs) ⟨(e,v)::s,l',h⟩ Q):we E (some (g,.ptr mid 0 0::bs)) ck (some e) l fs ⟨s,l',h⟩ Q:=
 Jv (Cvs.cons (M.cvp hp hw) (Cvs.tr hb)) hf hl hr
structure Beg(w mid:Nat)(post:List AV)(ow:Nat->Nat)(h:List qB)(lv:AV)(q:qH×List qj)(m m':qH):Prop where
 mh:MH w mid post ow h q.1
 l:LsW (λj=>ow j=0) 4 h lv (q.2.map qj.enc)
 mm:MM q.1 (lws q.2++[]) O0
 e:JZ q.1 q.2=m'
 n:q.2.length<=1000
 c:q.1.C.length=m.C.length
theorem qg6(M:MH w mid post ow h m)(hc:m.C[k]?=some c):SCall Gm 1288 [.ptr mid 0 0,iI (k:Nat)] h (λ_ h'=>∃ow',MH w mid post ow' h' (qQ m k)/\Fo ow h ow' h'/\(∀j,j<h.length->ow j=k+3->ow' j=0/\h'[j]?=h[j]?)/\∀j,j<h.length->2<=ow j->ow j≠k+3->ow' j=ow j/\h'[j]?=h[j]?):=by
 obtain⟨cid,cs,rv,M⟩:=M;have hk:=zH hc;refine sI XD ?_;simp only[XD,qN,go_sem,M.o,qY hk,nZa];refine M.sto5 hc rfl ⟨_,rfl⟩ ?_;have M1:=M.setC (k:=k) (c':=zp m.F) (λ_=>False) hc (λ_ t=>t.elim) CV.free;have f1:=M.setC_fo (k:=k) (T:=λ_=>False) (v':=.agg [iI 0,iI 0,iI m.F,.nils,.nils]) (λ_ t=>t.elim);simp only[go_sem];refine M1.stoF _ ?_;have M2:=M1.setF (k:Int);simp only[go_sem];refine⟨_,⟨cid,_,rv,by rw[qQ,iTn];exact M2⟩,f1.trans M1.setF_fo,λj hj q=>⟨by rw[Je (λt=>t),iP q], ?_⟩,λj hj q q2=>⟨by rw[Je (λt=>t),iN q2], ?_⟩⟩
 ·rw[sne λe=>by subst e;rw[M.m1]at q;omega,sne λe=>by subst e;rw[M.c1]at q;omega]
 ·rw[sne λe=>by subst e;rw[M.m1]at q;omega,sne λe=>by subst e;rw[M.c1]at q;omega]
theorem s975(M:MH w mid (bkP bk) ow h m)(hw:0<w)(mm:MM m [] O0)(hk:k<m.R.length)(hb:jH bk=true)(hcl:m.C.length<=1500):
  SCall Gm 975 [.ptr mid 0 0,iI (k:Nat)] h (λv h'=>∃ow' lv q,v=.tup [iI (doM bk m k).2.1,lv,iI (doM bk m k).2.2]/\Beg w mid (bkP bk) ow' h' lv q m (doM bk m k).1/\Fo ow h ow' h'):=by
 obtain⟨p,a,b,x,y,r⟩:=Wv mm hk;have hrl:=Wy mm;refine sI F975 ?_;have MM1:=M;obtain⟨cid,cs,rv,M⟩:=M;obtain⟨rid,i1,rfl,i3⟩:=M.r.full (by rw[lMp];omega);rw[lMp]at M;simp only[F975,qN,go_sem,M.o,qY hk,nZa,i3,gMp,r.at',oMs];refine lsA ?_;simp only[go_sem];refine MM1.lendX Qw hw (by simp[AV.trees,qL.tr]) (qbV r hb) rfl ?_;simp only[go_sem];have er:=r.do (bk:=bk);rw[r.need];have mm0:MM m (lws []++[]) O0:=mm;by_cases h0:(qy bk x y).2=0
 case neg=>
  rw[iP h0]at er;simp only[h0,decide_false,go_sem];rw[er];exact⟨ow,.nils,(m,[]),rfl,⟨MM1,.inl ⟨rfl,rfl⟩,mm0,rfl,by simp,rfl⟩,Fo.refl⟩
 have h8:qe x y≠8:=λe=>by have:=qB1 (bk:=bk) e;omega
 have w1:=Jd r.ro.ox;have w2:=Jd r.ro.oy;rw[agp]at w1 w2;simp only[h0,go_sem];refine MM1.lend Qw hw (by simp[AV.trees,qL.tr]) (qbW r.ro (by omega) (by omega) h8) rfl ?_;simp only[go_sem];refine MM1.lend Qw hw rfl (qbX (by omega)) rfl ?_;simp only[go_sem];refine qI Qz ?_;simp only[go_sem];have hnF:nF m.C<=m.C.length:=List.countP_le_length;have ew:IntKind.i64.wrap (IntKind.i64.wrap ((nF m.C:Nat)+2)-(if decide (qe x y=7)=true then 1 else 0:Int))=(nF m.C:Int)+jA (qe x y):=by
  have e2:IntKind.i64.wrap ((nF m.C:Nat)+2:Int)=(nF m.C:Nat)+2:=wsA;rw[e2];unfold jA;by_cases q:qe x y=7
  ·simp only[q,decide_true,if_true];rw[wsA];omega
  ·simp only[q,decide_false,bFt,if_false];rw[wsA];omega
 rw[iN (by omega)]at er;simp only[ew];by_cases hn:(nF m.C:Int)+jA (qe x y)<(qy bk x y).1
 ·rw[iP hn]at er;simp only[hn,go_sem];rw[er];exact⟨ow,.nils,(m,[]),rfl,⟨MM1,.inl ⟨rfl,rfl⟩,mm0,rfl,by simp,rfl⟩,Fo.refl⟩
 rw[iN hn]at er;simp only[hn,decide_false,go_sem,M.o];have lm:=qp M.o;have hrd:(unR m k).R=rdL m.R k:=rfl;have ew2:IntKind.i64.wrap ((k:Int)+1)=(k:Int)+1:=wsA;rw[ew2];refine qk (qqA (xs:=m.R) (id:=rid) i3 (by omega) hk ?_);simp only[go_sem];have hlr:(rdL m.R k).length=m.R.length-1:=by simp[rdL];omega
 have U1:Up (λj=>ow j=2) h (h.set rid .dead++[qB.row 2 ((rdL m.R k).map qL.enc) true]):=by
  refine(Up.set (id:=rid)).trans (Up.app _ (S:=λ_=>False)) (λ_ _ q=>q.elim) |>.w λj _ q=>by rw[q];exact i1
 have hid:(h.set rid .dead++[qB.row 2 ((rdL m.R k).map qL.enc) true])[h.length]?=some (.row 2 ((unR m k).R.map qL.enc) true):=by
  rw[gAr (by simp)];simp[hrd]
 have hM1:=U1.at M.o (λq=>by rw[M.m1]at q;cases q);obtain⟨M2,F2⟩:=M.redx (rx:=(unR m k).R) (rv':=sQ 2 h.length (m.R.length-1)) U1 (nLr _) hid (by rw[hrd,hlr]);generalize h.set rid .dead++[qB.row 2 ((rdL m.R k).map qL.enc) true]=hA at*;refine Vu (rv':=sQ 2 h.length (m.R.length-1)) hM1 (unR m k).R rfl ?_;have pl:=r.pl hb h0 hn;generalize owR ow h.length=ow2 at*;generalize hA.set mid _=hB at*;obtain⟨ra,rb⟩:=r.ro.at;have hka:=zH ra;have hkb:=zH rb;have ra':(unR m k).C[a]?=some x:=ra;have rb':(unR m k).C[b]?=some y:=rb;obtain⟨dvx,wvx,v1,v2,v3⟩:=M2.words ra';obtain⟨dvy,wvy,y1,y2,y3⟩:=M2.words rb';have M3:MH w mid (bkP bk) ow2 hB (unR m k):=MH.intro M2;have M2o:=M2.o;have M2c:=M2.c;clear M2 hM1 U1 hid;simp only[go_sem,M2o,qY hka,qY hkb,nZa,M2c,v1,y1];refine lsA ?_;simp only[go_sem];refine lsA ?_;simp only[go_sem];refine qk (SCall.mono (qg6 M3 ra') ?_);rintro _ h3 ⟨ow3,M4,F3,g3,g4⟩;have lx:∀{w:Nat}{v:AV}{el:List AV},LsW (λj=>ow2 j=a+3) w hB v el->LsW (λj=>ow3 j=0) w h3 v el:=λq=>q.mono λj hj z=>g3 j hj z;have vx2:=lx v2;have vx3:=lx v3;have F23:=F2.trans F3;simp only[go_sem];have hcls:=pl.o.cls;obtain⟨p1,p2⟩:=qCG pl;have pll:=qf7 pl;have fin:∀ow' h' lv,MH w mid (bkP bk) ow' h' (zY bk (unR m k) a b x y).1->LsW (λj=>ow' j=0) 4 h' lv ((zY bk (unR m k) a b x y).2.map qj.enc)->Beg w mid (bkP bk) ow' h' lv (zY bk (unR m k) a b x y) m (doM bk m k).1:=λow' h' lv q1 q2=>⟨q1,q2,p1,by rw[er],pll,p2⟩;rw[er]at fin|-;generalize hC:qe x y=C at*;by_cases c7:C=7
 ·subst c7;obtain⟨v0,v1',ot,n9,hf⟩:=pl.need7 hC;obtain⟨ks,vs,X⟩:=pl.exp hC;have tz:=ZJ ot;have hl:=QJ pl.o.ox;have p1':=pl.h1;rw[(pl.o.f7 hC).1,lNa]at p1';have ep:zY bk (unR m k) a b x y=(Xd (qr bk x.V) x.L (qQ (unR m k) a) b,[]):=by unfold zY;rw[iP hC]
  rw[ep]at fin|-;simp only[go_sem];refine qk (SCall.mono (qqB M4 ⟨v0,v1'⟩ rfl (by omega) ot hl n9 p1' (by rw[pl.f1];exact hf) X (by have:(qQ (unR m k) a).R=rdL m.R k:=rfl;rw[this,hlr];omega)) ?_);rintro _ h5 ⟨ow5,M5,F5⟩;simp only[go_sem];exact⟨ow5,.nils,_,rfl,fin ow5 h5 .nils M5 (.inl ⟨rfl,rfl⟩),F23.trans F5⟩
 simp only[c7,decide_false,go_sem];have rb4:(qQ (unR m k) a).C[b]?=some y:=pl.hy;refine qk (SCall.mono (qg6 M4 rb4) ?_);rintro _ h4 ⟨ow4,M5,F4,g5,-⟩;have hnab:b+3≠a+3:=by have:=pl.ne;omega
 have ly:∀{w:Nat}{v:AV}{el:List AV},LsW (λj=>ow2 j=b+3) w hB v el->LsW (λj=>ow4 j=0) w h4 v el:=λq=>q.mono λj hj z=>by
  obtain⟨z1,z2⟩:=g4 j hj (by omega) (by omega);have hj3:j<h3.length:=nLl hj F3.l;obtain⟨z3,z4⟩:=g5 j hj3 (by omega);exact⟨z3,z4.trans z2⟩
 have wy2:=ly y2;have wy3:=ly y3;have wx2:=vx2.fo0 F4;have wx3:=vx3.fo0 F4;have WD:=F23.trans F4;clear lx ly g3 g4 g5 v1 v2 v3 y1 y2 y3 vx2 vx3;simp only[go_sem];have hxd:=WP pl.o.ox;have hyd:=WP pl.o.oy;have hyd':y.D.length<=1000:=by have:y.D.length<=4:=hyd;omega
 obtain⟨wl1,wl2⟩:=pl.o.wl;by_cases c12:C=1\/C=2
 ·have ep:zY bk (unR m k) a b x y=(qQ (qQ (unR m k) a) b,[⟨x.W.getD 0 w0,y.W.getD 0 w0⟩,⟨x.W.getD 1 w0,y.W.getD 1 w0⟩]):=by
   unfold zY;rw[iN (by rw[hC];exact c7),iP (by rw[hC];exact c12)]
  rw[ep]at fin|-;obtain⟨w1,w2⟩:=pl.o.f12 (by rw[hC];exact c12);have ex:=Qq w1;have ey:=Qq w2;generalize x.W.getD 0 w0=x0 at*;generalize x.W.getD 1 w0=x1 at*;generalize y.W.getD 0 w0=y0 at*;generalize y.W.getD 1 w0=y1 at*;rw[ex,lMc,lMc,List.map_nil]at wx3;rw[ey,lMc,lMc,List.map_nil]at wy3;obtain⟨ix,i1,rfl,i3⟩:=wx3.two;obtain⟨iy,j1,rfl,j3⟩:=wy3.two;have tl:∀Cd:Bool,Cd=decide (C=1)->(Cd=true\/(Cd=false/\C=2)):=λCd e=>by
   rcases c12 with c | c
   ·exact .inl (by rw[e];simpa using c)
   ·exact .inr ⟨by rw[e];simp;omega,c⟩
  rcases tl _ rfl with e | ⟨e,rfl⟩
  all_goals
   simp only[e,go_sem,Q5,WW,i3,j3];exact⟨ow4,_,_,rfl,fin ow4 _ _ (M5.app _) (.inr ⟨h4.length,M5.b,rfl,ends⟩),WD.trans (Fo.app _)⟩
 have c1:C≠1:=λe=>c12 (.inl e);have c2:C≠2:=λe=>c12 (.inr e);simp only[c1,c2,decide_false,go_sem];by_cases c3:C=3
 ·subst c3;have ep:zY bk (unR m k) a b x y=wh (qQ (qQ (unR m k) a) b) x y:=by
   unfold zY;rw[iN (by omega),iN (by omega),iP hC]
  rw[ep]at fin|-;obtain⟨w1,w2⟩:=pl.o.f3 hC;simp only[go_sem];refine qk (SCall.mono (qqC M5 wx2 wx3 wy2 wy3 pl.h2 pl.o.ky (.inl ⟨pl.o.ky,pl.o.oy⟩) w1 (by omega) hyd' w2 (by rw[pl.f2];exact pl.need3 hC)) ?_);rintro lv h5 ⟨ow5,M6,F5,L5⟩;simp only[go_sem];exact⟨ow5,lv,_,rfl,fin ow5 h5 lv M6 L5,WD.trans F5⟩
 simp only[c3,decide_false,go_sem];by_cases c4:C=4
 ·subst c4;have ep:zY bk (unR m k) a b x y=zt (qQ (qQ (unR m k) a) b) y y.W.length:=by
   unfold zY;rw[iN (by omega),iN (by omega),iN (by omega),iP hC]
  rw[ep]at fin|-;have h2:=pl.h2;rw[pl.o.f4 hC,lNa]at h2;simp only[go_sem];refine qk (SCall.mono (qqD M5 wy3 h2 (by rw[pl.f2];exact pl.need4 hC) (by omega)) ?_);rintro lv h5 ⟨ow5,M6,F5,L5⟩;simp only[go_sem];exact⟨ow5,lv,_,rfl,fin ow5 h5 lv M6 L5,WD.trans F5⟩
 simp only[c4,decide_false,go_sem];by_cases c5:C=5
 ·subst c5;have ep:zY bk (unR m k) a b x y=j9 (qQ (qQ (unR m k) a) b) x y:=by
   unfold zY;rw[iN (by omega),iN (by omega),iN (by omega),iN (by omega),iP hC]
  rw[ep]at fin|-;obtain⟨w1,w2,w3⟩:=pl.o.f5 hC;obtain⟨kf,df,f1,f2,-⟩:=wX pl.h2 (by rw[pl.f2];omega);simp only[go_sem];refine qk (SCall.mono (qqE M5 wy2 wy3 f1 ⟨df,f2⟩ w2) ?_);rintro lv h5 ⟨ow5,M6,F5,L5⟩;simp only[go_sem];exact⟨ow5,lv,_,rfl,fin ow5 h5 lv M6 L5,WD.trans F5⟩
 simp only[c5,decide_false,go_sem];obtain rfl:C=6:=by omega
 have ep:zY bk (unR m k) a b x y=chM (qQ (qQ (unR m k) a) b) x y:=by
  unfold zY;rw[iN (by omega),iN (by omega),iN (by omega),iN (by omega),iN (by omega),iP hC]
 rw[ep]at fin|-;obtain⟨w1,w2,w3,w4⟩:=pl.o.f6 hC;simp only[go_sem];refine qk (SCall.mono (qqF M5 wx2 wx3 wy2 wy3 pl.h2 (by rw[pl.f2];exact pl.need6 hC) w1 w2 w3 (by omega) w4 (by have:(qQ (qQ (unR m k) a) b).R=rdL m.R k:=rfl;rw[this,hlr];omega)) ?_);rintro lv h5 ⟨ow5,M6,F5,L5⟩;simp only[go_sem];exact⟨ow5,lv,_,rfl,fin ow5 h5 lv M6 L5,WD.trans F5⟩
end
section
variable {w mid cid k a b:Nat} {post cs:List AV} {ow:Nat->Nat} {h h':List qB} {m:qH} {rv dv:AV} {c x y:qD} {P:List qF} {O:Nat->Bool} {bk:List qE} {p:qL}
theorem s602(M:MH w mid (bkP bk) ow h m)(hw:0<w)(mm:MM m [] O0)(hk:k<m.R.length)(hb:jH bk=true)(hcl:m.C.length<=1500):
  SCall Gm 602 [.ptr mid 0 0,iI (k:Nat)] h (λv h'=>v=.tup [iI (doM bk m k).2.1,iI (doM bk m k).2.2]/\∃ow',MH w mid (bkP bk) ow' h' (doM bk m k).1/\Fo ow h ow' h'):=by
 refine sI kI ?_;simp only[kI,qN,go_sem];refine qk (SCall.mono (s975 M hw mm hk hb hcl) ?_);rintro _ h4 ⟨ow4,lv,q,rfl,⟨M4,L4,p1,er,hql,p2⟩,F4⟩;have hv4:=L4.len;rw[lMp]at hv4;simp only[go_sem,hv4];refine Sem.loop (λa':Nat×(Nat->Nat)×List qB=>a'.1<=q.2.length/\MH w mid (bkP bk) a'.2.1 a'.2.2 (JZ q.1 (q.2.take a'.1))/\Fo ow4 h4 a'.2.1 a'.2.2)
  (λa'=>(⟨[(0,.ptr mid 0 0),(6,iI (doM bk m k).2.1),(8,iI (doM bk m k).2.2),(18,lv),(19,iI (q.2.length:Nat)),(20,iI (a'.1:Nat))],[],a'.2.2⟩:VSt)) (λa'=>q.2.length-a'.1)
  (0,ow4,h4) (by kernel_rfl) ⟨nZl _,M4,Fo.refl⟩ csA ?_
 rintro⟨i,ow5,h5⟩ ⟨hi,M5,F5⟩;simp only at hi M5 F5;simp only[go_sem];by_cases hlt:i<q.2.length
 case neg=>
  have e:decide ((i:Int)<(q.2.length:Nat))=false:=dEf (by omega);simp only[e,go_sem];rw[tOl (by omega),er]at M5;exact⟨trivial,ow5,M5,F4.trans F5⟩
 have e:decide ((i:Int)<(q.2.length:Nat))=true:=dEt (by omega);have hli:=gEg hlt;generalize hlk:q.2[i]=lk at hli;obtain⟨id,j1,rfl,j3⟩:=(L4.fo0 F5).full (by rw[lMp];omega);simp only[e,go_sem,qY hlt,nZa,j3,gMp,hli,oMs];refine lsA ?_;obtain⟨m1,m2⟩:=qeR (i:=i) p1;have ed:q.2.drop i=lk::q.2.drop (i+1):=by rw[lDc hlt,hlk]
 rw[ed,lAn]at m1;have hr5:=Wy m1;simp only[go_sem];refine qk (SCall.mono (s976 M5 m1 (by omega)) ?_);rintro _ h6 ⟨ow6,M6,F6⟩;simp only[go_sem,wuA (n:=i)];have et2:q.2.take (i+1)=q.2.take i++[lk]:=by rw[tA1,hli];rfl
 rw[<-qeQ,<-et2]at M6;exact qa (i+1,ow6,h6) ⟨by simp only;omega,M6,F5.trans F6⟩ (by simp only;omega) csA
end
section
variable {w mid cid k:Nat} {post cs:List AV} {ow:Nat->Nat} {h h' h1:List qB} {m:qH} {rv dv wv:AV} {c:qD}
theorem qDG:∀(xs:List qF)(n:Nat),qT (xs.map qF.enc) n=(xs.map qF.enc,[])
 |[],_=>rfl
 | x::xs,n=>by
  simp[qT,qF.enc,lay,qDG xs]
theorem qCE:∀(xs:List qL)(n:Nat),qT (xs.map qL.enc) n=(xs.map qL.enc,[])
 |[],_=>rfl
 | x::xs,n=>by
  simp[qT,qL.enc,lay,qCE xs]
theorem qrC(x:qF):x.enc.pl=true:=by simp[qF.enc,AV.pl,AV.pls]
theorem qoX(x:qL):x.enc.pl=true:=by simp[qL.enc,AV.pl,AV.pls]
theorem qnZ(xs:List qL)(hz:xs.length<=4194304):Fresh Gm 1070 [.lst 2 (xs.map qL.enc) false] (.lst 2 (xs.map qL.enc) false):=
 Yn (w:=2) (gk _ qEQ) (qCE xs) (jb qoX xs) (qb qL.isSh.tree xs) (by simpa using hz)
theorem qn1(xs:List qF)(hz:xs.length<=4194304):Fresh Gm 1181 [.lst 2 (xs.map qF.enc) false] (.lst 2 (xs.map qF.enc) false):=
 Yn (w:=2) (gk _ qHF) (qDG xs) (jb qrC xs) (qb qF.isSh.tree xs) (by simpa using hz)
theorem qnA{xs:List qF}{n:Nat}:lay (.lst 2 (xs.map qF.enc) false) n=(sQ 2 n xs.length,[.row 2 (xs.map qF.enc) true]):=by simp[lay,qDG]
theorem qm9{xs:List qL}{n:Nat}:lay (.lst 2 (xs.map qL.enc) false) n=(sQ 2 n xs.length,[.row 2 (xs.map qL.enc) true]):=by simp[lay,qCE]
theorem s868{h0:List qB}(hz:m.sz<=1000000)(h1n:0<m.C.length):SCall Gm 868 [m.enc] h0 (λv h'=>∃cid cs rv ow,v=mE m cid rv []/\MC ow h' m cid cs rv/\Up (λ_=>False) h0 h'/\∀j,j<h0.length->ow j=0):=by
 have hsz:m.C.length+qx qD.sz m.C+m.R.length<=1000000:=by unfold qH.sz at hz;exact hz
 refine sI kw ?_;simp only[kw,qN,go_sem];refine qW rfl ?_;simp only[go_sem];refine Ju (qnZ m.R (by omega)) ?_;rw[qm9];simp only[go_sem];refine qeZ (n:=0) (by omega) (by omega) ?_;simp only[go_sem];refine lsA ?_;simp only[go_sem];refine Sem.loop (λa:Nat×(Nat->Nat)×List AV×AV×List qB=>a.1<=m.C.length/\Up (λ_=>False) h0 a.2.2.2.2/\(∀j,j<h0.length->a.2.1 j=0)/\LsW (λj=>a.2.1 j=2) 2 a.2.2.2.2 (sQ 2 h0.length m.R.length) (m.R.map qL.enc)/\LsW (λj=>a.2.1 j=1) 5 a.2.2.2.2 a.2.2.2.1 a.2.2.1/\a.2.2.1.length=a.1/\(∀(k:Nat)(c:qD),k<a.1->m.C[k]?=some c->∃v,a.2.2.1[k]?=some v/\CV (λj=>a.2.1 j=k+3) a.2.2.2.2 v c)/\(∀j,a.2.1 j≠0->j<a.2.2.2.2.length))
  (λa=>(⟨[(19,.lst 5 (m.C.map qD.enc) false),(20,iI (m.C.length:Nat)),(21,iI (a.1:Nat))],[(3,.agg [a.2.2.2.1,iI m.F,iI m.O.T,iI m.O.I,sQ 2 h0.length m.R.length]),(2,.agg [.nils,iI 0,iI 0,iI 0,.nils])],a.2.2.2.2⟩:VSt)) (λa=>m.C.length-a.1)
  (0,(λj=>if j=h0.length then 2 else if j=h0.length+1 then 1 else 0),[],.slice 5 (h0++[qB.row 2 (List.map qL.enc m.R) true]).length 0 0 false,_) (by kernel_rfl) ⟨nZl _,(Up.app _).trans (Up.app _) (λ_ _ q=>q),λj hj=>by simp only;rw[iN (by omega),iN (by omega)],.inr ⟨h0.length,iP rfl,by rw[lMp],z7 ends⟩,.inr ⟨(h0++[qB.row 2 (List.map qL.enc m.R) true]).length,by simp,rfl,ends⟩,rfl,λk c hk=>by omega,λj hj=>by
   by_cases e:j=h0.length
   ·rw[e];simp
   ·by_cases e2:j=h0.length+1
    ·rw[e2];simp
    ·simp only[iN e,iN e2]at hj;exact absurd rfl hj⟩ csA ?_
 rintro⟨i,ow,cs,v,h⟩ ⟨hi,u0,o0,rr,cc,cl,ce,ob⟩;simp only at hi u0 o0 rr cc cl ce ob;simp only[go_sem];by_cases hlt:i<m.C.length
 case neg=>
  have e:decide ((i:Int)<(m.C.length:Nat))=false:=dEf (by omega);obtain rfl:i=m.C.length:=by omega
  simp only[e,go_sem];refine lsA ?_;simp only[go_sem];obtain⟨cid,c1,rfl,c3⟩:∃id,ow id=1/\v=sQ 5 id m.C.length/\h[id]?=some (.row 5 cs true):=by
   rcases cc with⟨_,q⟩ | ⟨j,j1,j2,j3⟩
   ·rw[q]at cl;simp at cl;omega
   ·exact⟨j,j1,by rw[j2,cl],j3⟩
  exact⟨cid,cs,_,ow,rfl,⟨c3,cl,λk c hc=>ce k c (zH hc) hc,rr,c1,ob⟩,u0,o0⟩
 have e:decide ((i:Int)<(m.C.length:Nat))=true:=dEt (by omega);have hc:=gEg hlt;generalize m.C[i]=c at hc;have hcz:c.sz<=1000000:=by have:=jg (f:=qD.sz) (lMo hc);omega
 unfold qD.sz at hcz;simp only[e,gMp,hc,oMs,go_sem];refine lsA ?_;simp only[go_sem];refine Ju (VO c.D (by omega)) ?_;rw[Q8];simp only[go_sem];refine Ju (qn1 c.W (by omega)) ?_;rw[qnA];simp only[go_sem];refine Xt (c':=cE c (sQ 1 h.length c.D.length) (.lst 2 (c.W.map qF.enc) false)) rfl (Wu rfl rfl) ?_;simp only[go_sem];refine Xt (c':=cE c (sQ 1 h.length c.D.length) (.slice 2 (h++[qB.row 1 (c.D.map qP) true]).length 0 c.W.length false)) rfl (Wu rfl rfl) ?_;simp only[go_sem];have u1:Up (λ_=>False) h (h++[qB.row 1 (c.D.map qP) true]++[qB.row 2 (c.W.map qF.enc) true]):=(Up.app _).trans (Up.app _) λ_ _ q=>q;have hh1:(h++[qB.row 1 (c.D.map qP) true]++[qB.row 2 (c.W.map qF.enc) true]).length=h.length+2:=by simp
 have d1:LsW (λj=>h.length<=j) 1 (h++[qB.row 1 (c.D.map qP) true]++[qB.row 2 (c.W.map qF.enc) true]) (sQ 1 h.length c.D.length) (c.D.map qP):=.inr ⟨h.length,nLr _,by rw[lMp],z7 ends⟩;have w1:LsW (λj=>h.length<=j) 2 (h++[qB.row 1 (c.D.map qP) true]++[qB.row 2 (c.W.map qF.enc) true]) (.slice 2 (h++[qB.row 1 (c.D.map qP) true]).length 0 c.W.length false) (c.W.map qF.enc):=.inr ⟨_,by simp,by rw[lMp],ends⟩
 try delta sQ at*
 generalize AV.slice 1 h.length 0 c.D.length false=dv at*;generalize AV.slice 2 (h++[qB.row 1 (c.D.map qP) true]).length 0 c.W.length false=wv at*;generalize h++[qB.row 1 (c.D.map qP) true]++[qB.row 2 (c.W.map qF.enc) true]=h1 at*;simp only[qdA,go_sem];have cc1:LsW (λj=>ow j=1) 5 h1 v cs:=cc.mono λj hj q=>⟨q,u1.eq hj id⟩;refine JH (cc1.app _) ends (by omega) λh3 u3 w3 l3=>?_;simp only[go_sem,wuA (n:=i)];have hl1:=u1.1;have hl0:=u0.1;have l3':h3.length=h1.length+2:=by rw[l3];simp
 have old:∀j,j<h.length->ow j≠1->h3[j]?=h[j]?:=λj hj n=>by
  rw[u3.eq (by simp;omega) (λq=>n q.1),gAl (by omega)];exact u1.eq hj id
 have onew:∀j,j<h.length->ow j≠1->owN ow h.length h1.length (h1++[qB.row 5 [cE c dv wv] true]).length i j=ow j:=λj hj n=>by
  unfold owN;rw[iN (by simp;omega),iN (by omega),iN n]
 refine qa (i+1,owN ow h.length h1.length (h1++[qB.row 5 [cE c dv wv] true]).length i,cs++[cE c dv wv],.slice 5 (h1++[qB.row 5 [cE c dv wv] true]).length 0 (cs.length+1) false,h3) ⟨by simp only;omega, ?_,λj hj=>?_, ?_,.inr ⟨(h1++[qB.row 5 [cE c dv wv] true]).length,iP rfl,by simp,w3⟩,by simp[cl],λk d hk hd=>?_,λj hj=>?_⟩ (by simp only;omega) csA
 ·exact((u0.trans u1 (λ_ _ q=>q)).trans (Up.app _ (S:=λ_=>False)) (λ_ _ q=>q)).trans u3 λj hj q=>by have:=o0 j hj;omega
 ·simp only;have:=o0 j hj;rw[onew j (by omega) (by omega)];exact this
 ·refine rr.mono λj hj q=>⟨?_,old j hj (by omega)⟩;simp only;rw[onew j hj (by omega)];exact q
 ·by_cases e:k<i
  ·obtain⟨u,x1,x2⟩:=ce k d e hd;refine⟨u,by simp only;rw[gAl (by omega)];exact x1,x2.mono λj hj q=>⟨?_,old j hj (by omega)⟩⟩;simp only;rw[onew j hj (by omega)];exact q
  ·obtain rfl:k=i:=by simp only at hk;omega
   rw[hc]at hd;cases hd;refine⟨cE c dv wv,by simp only;rw[gAr (by omega),cl,nSs];rfl,CV.mono (P:=λj=>h.length<=j) (h:=h1) ⟨dv,wv,rfl,d1,w1⟩ λj hj q=>⟨?_, ?_⟩⟩
   ·simp only[owN];rw[iN (by simp;omega),iP ⟨q,hj⟩]
   ·rw[u3.eq (by simp;omega) (λz=>by have:=ob j (by omega);omega),gAl hj]
 ·simp only at hj|-;unfold owN at hj;by_cases e1:j=(h1++[qB.row 5 [cE c dv wv] true]).length
  ·rw[e1,l3];simp
  ·rw[iN e1]at hj;by_cases e2:h.length<=j/\j<h1.length
   ·omega
   ·rw[iN e2]at hj;split at hj
    ·exact absurd rfl hj
    ·have:=ob j hj;omega
end
section
variable {w mid cid rid ctid k a b:Nat} {post cs:List AV} {ow:Nat->Nat} {h h':List qB} {m:qH} {rv dv:AV} {c x y:qD} {P:List qF} {O:Nat->Bool} {bk:List qE} {p:qL}
structure RH(w mid rid ctid:Nat)(bk:List qE)(ow:Nat->Nat)(h:List qB)(tv:AV)(r:Run):Prop where
 mh:MH w mid (bkP bk) ow h r.m
 e:h[rid]?=some (.row 5 [.agg [.ptr mid 0 0,sQ 1 ctid 7,tv,iI r.pk,iI r.ls]] true)
 t:LsW (λj=>ow j=0/\rid<j) 1 h tv (r.tr.map qP)
 o:ow rid=0
 c:h[ctid]?=some (.row 1 ((jm r.tr).map qP) true)
 co:ow ctid=0
theorem qBY(mm:MM m [] O0):∀c∈m.C,zr c:=λc hc=>by
 obtain⟨k,hk⟩:=List.getElem?_of_mem hc;exact mm.form k c hk rfl
theorem s869{bu:Nat}(M:MH w mid (bkP bk) ow h m)(hw:0<w)(mm:MM m [] O0)(hb:jH bk=true)(hcl:m.C.length<=1500)(hbu:bu<=4000){pk ls:Int}(hr:h[rid]?=some (.row 5 [.agg [.ptr mid 0 0,sQ 1 ctid 7,.nils,iI pk,iI ls]] true))(hro:ow rid=0)
  (hc:h[ctid]?=some (.row 1 ((jm []).map qP) true)) (hco:ow ctid=0) (hne:ctid<rid):
  SCall Gm 869 [.ptr rid 0 0,iI (bu:Nat)] h (λv h'=>v=iI (goM bk bu ⟨m,[],zK m,zK m⟩).2/\((goM bk bu ⟨m,[],zK m,zK m⟩).2=0->∃ow' tv,RH w mid rid ctid bk ow' h' tv (goM bk bu ⟨m,[],zK m,zK m⟩).1)):=by
 refine sI F869 ?_;have hcF:=qBY mm;simp only[F869,qN,go_sem,hr];refine M.lend Qw hw rfl (Ye (by omega) hcF) rfl ?_;simp only[go_sem];refine M.lend Qw hw rfl (Ye (by omega) hcF) rfl ?_;simp only[go_sem];refine ZU hr rfl rfl λh1 U1 l1 g1=>?_;simp only[List.set_cons_succ,lSz]at g1;simp only[go_sem];refine ZU g1 rfl rfl λh2 U2 l2 g2=>?_;simp only[List.set_cons_succ,lSz]at g2;simp only[go_sem];have u0:=Z6 (m:=m);have hu0:zK m=(m.C.length:Int)-(nF m.C:Nat):=rfl;rw[<-hu0]at g2;have U12:Up (λj=>j=rid) h h2:=U1.trans U2 λ_ _ q=>q;have M2:=M.upf U12 λj q=>by rw[q];exact hro
 have hc2:=U12.at hc (by omega);have R0:RH w mid rid ctid bk ow h2 .nils ⟨m,[],zK m,zK m⟩:=⟨M2,g2,.inl ⟨rfl,rfl⟩,hro,hc2,hco⟩;generalize hG:goM bk bu ⟨m,[],zK m,zK m⟩=G;clear M M2 hr hc U1 U2 U12 g1 g2 hc2;refine Sem.loop (λa:Run×AV×(Nat->Nat)×List qB=>goM bk (bu-a.1.tr.length) a.1=G/\a.1.tr.length<=bu/\RJ m.C.length a.1/\RH w mid rid ctid bk a.2.2.1 a.2.2.2 a.2.1 a.1)
  (λa=>(⟨[(0,.ptr rid 0 0),(1,iI (bu:Nat))],[],a.2.2.2⟩:VSt)) (λa=>bu-a.1.tr.length)
  (⟨m,[],zK m,zK m⟩,.nils,ow,h2) (by kernel_rfl) ⟨hG,nZl _,⟨mm,rfl,u0,u0⟩,R0⟩ csA ?_
 rintro⟨r,tv,ow1,h1⟩ ⟨eG,hrl,J,⟨M1,e1,e2,e3,e4,e5⟩⟩;simp only at eG hrl J M1 e1 e2 e3 e4 e5;have mm1:=J.mm;have hrx:=Wy mm1;have hcl1:=J.cl;have htl:=e2.len;rw[lMp]at htl;have hcF1:=qBY mm1;obtain⟨cid,cs,rv,MO1⟩:=id M1;have hrv:=MO1.r.len;rw[lMp]at hrv;simp only[go_sem,e1,MO1.o,hrv];by_cases hne':r.m.R=[]
 ·have e:decide (0<((r.m.R.length:Nat):Int))=false:=by rw[hne'];rfl
  rw[qdV hne']at eG;subst eG;simp only[e,go_sem];exact⟨trivial,λ_=>⟨ow1,tv,M1,e1,e2,e3,e4,e5⟩⟩
 have hlp:0<r.m.R.length:=List.length_pos_iff.2 hne';have e:decide (0<((r.m.R.length:Nat):Int))=true:=dEt (by omega);simp only[e,go_sem,e1,htl];by_cases hb2:r.tr.length=bu
 ·have e6:decide (((r.tr.length:Nat):Int)=(bu:Nat))=true:=dEt (by omega);rw[show bu-r.tr.length=0 by omega,qdT hne']at eG;subst eG;simp only[e6,go_sem];exact⟨trivial,λz=>by cases z⟩
 have e6:decide (((r.tr.length:Nat):Int)=(bu:Nat))=false:=dEf (by omega);have ew:IntKind.i64.wrap ((r.m.R.length:Nat)-1:Int)=((r.m.R.length-1:Nat):Int):=by rw[wsA];omega
 obtain⟨p,a,b,x,y,d⟩:=Wv mm1 (show r.m.R.length-1<r.m.R.length by omega);obtain⟨rxid,i1,rfl,i3⟩:=MO1.r.full (by rw[lMp];omega);rw[lMp]at MO1;have hk:r.m.R.length-1<r.m.R.length:=by omega
 simp only[e6,go_sem,e1,MO1.o,hrv,ew];refine M1.lend Qw hw rfl (Ye (by omega) hcF1) rfl ?_;generalize hkk:r.m.R.length-1=k at*;simp only[go_sem,e1,MO1.o,qY hk,nZa,i3,gMp,d.at',oMs];refine M1.lendX Qw hw (by simp[AV.trees,qL.tr]) (qbV d hb) rfl ?_;simp only[go_sem];have ebu:bu-r.tr.length=(bu-(r.tr.length+1))+1:=by omega
 rw[ebu]at eG;have hdn:(j8 bk r.m k).2≠0->(doM bk r.m k).2.2=(j8 bk r.m k).2:=λq=>by
  rw[d.need]at q|-;rw[d.do,iP q]
 by_cases hn0:(j8 bk r.m k).2=0
 case neg=>
  have hd:=hdn hn0;rw[qBM hne' (by rw[hkk,hd];exact hn0),hkk,hd]at eG;subst eG;simp only[hn0,decide_false,go_sem];exact⟨trivial,λz=>z.elim⟩
 simp only[hn0,go_sem,e1];refine qk (SCall.mono (s602 M1 hw mm1 hk hb (by omega)) ?_);rintro _ h2' ⟨rfl,ow2,M2,F2⟩;obtain⟨f1,f2⟩:=F2.at e1 e3;obtain⟨f4,f5⟩:=F2.at e4 e5;have tv2:LsW (λj=>ow2 j=0/\rid<j) 1 h2' tv (r.tr.map qP):=e2.mono λj hj q=>⟨⟨(F2.k j hj q.1).1,q.2⟩,(F2.k j hj q.1).2⟩;simp only[go_sem];by_cases h0:(doM bk r.m k).2.2=0
 case neg=>
  rw[qBM hne' (by rw[hkk];exact h0),hkk]at eG;subst eG;simp only[h0,decide_false,go_sem];exact⟨trivial,λz=>z.elim⟩
 rw[qdU hne' (by rw[hkk];exact h0)]at eG;have J2:=J.go hb hne' (by rw[hkk];exact h0);obtain⟨c1,c2,c3,c4,c5⟩:=qA8 hb mm1 hk h0;simp only[h0,go_sem,f1];generalize hcv:(doM bk r.m k).2.1=cv at*;obtain⟨q,hq⟩:∃q:Nat,cv=(q:Int)+1:=⟨(cv-1).toNat,by omega⟩;have ew1:IntKind.i64.wrap (cv-1)=(q:Int):=by rw[hq,wsA];omega
 have hq7:q<7:=by omega
 have hlc:=qkY (T:=r.tr);have hcb:=qkX (T:=r.tr) ((jm r.tr).getD q 0) (by rw[lGd,gEg (by omega)];exact gMm _);have hx:((jm r.tr).map qP)[q]?=some (iI ((jm r.tr).getD q 0)):=by
  rw[gMp,gEg (by omega),lGd,gEg (by omega)];rfl
 have ew2:IntKind.i64.wrap ((jm r.tr).getD q 0+1)=(jm r.tr).getD q 0+1:=wsA;have hgt:(r.go bk).tr=r.tr++[cv]:=by simp only[Run.go,hkk,hcv]
 have hgl:(r.go bk).tr.length=r.tr.length+1:=by rw[hgt];simp
 have ecn:((jm r.tr).map qP).set q (iI ((jm r.tr).getD q 0+1))=(jm (r.go bk).tr).map qP:=by
  rw[hgt,qkZ];unfold Qe;rw[hq,show ((q:Int)+1-1).toNat=q by omega,List.map_set];rfl
 simp only[ew1,qY hq7,go_sem,nZa,f4,hx,ew2];refine jF (e':=iI ((jm r.tr).getD q 0+1)) rfl f4 hx rfl ?_;rw[ecn];have U3:Up (λj=>j=ctid) h2' (h2'.set ctid (.row 1 ((jm (r.go bk).tr).map qP) true)):=Up.set;have k3:(h2'.set ctid (.row 1 ((jm (r.go bk).tr).map qP) true))[ctid]?=some (.row 1 ((jm (r.go bk).tr).map qP) true):=gSs (qp f4);have l3:(h2'.set ctid (.row 1 ((jm (r.go bk).tr).map qP) true)).length=h2'.length:=by simp
 generalize h2'.set ctid (.row 1 ((jm (r.go bk).tr).map qP) true)=h3 at*;have M3:=M2.upf U3 λj q=>by rw[q];exact f5
 have g1:=U3.at f1 (by omega);have tv3:LsW (λj=>ow2 j=0/\rid<j) 1 h3 tv (r.tr.map qP):=tv2.mono λj hj z=>⟨z,U3.eq hj (by have:=z.2;omega)⟩;simp only[go_sem,g1];refine JH (tv3.app _) ends (by rw[lMp];omega) λh4 U4 w4 l4=>?_;have M4:=(M3.app [qB.row 1 [AV.int .i64 cv] true]).upf U4 λj z=>z.1.1;have g2:h4[rid]?=_:=U4.at (z7 g1) λz=>by have:=z.1.2;omega
 have k4:h4[ctid]?=_:=U4.at (z7 k3) λz=>by have:=z.1.2;omega
 have z4:ow2 (h3++[qB.row 1 [AV.int .i64 cv] true]).length=0:=(M3.app _).b;have hrl3:rid<h3.length:=qp g1;simp only[go_sem];refine ZU g2 rfl rfl λh5 U5 l5 g5=>?_;simp only[List.set_cons_succ,lSz]at g5;have M5:=M4.upf U5 λj z=>by rw[z];exact f2
 have hid:(h3++[qB.row 1 [AV.int .i64 cv] true]).length≠rid:=by simp;omega
 have w5:=U5.at w4 hid;have k5:=U5.at k4 (by omega);have J2m:=J2.mm;have J2c:=J2.cl;simp only[Run.go,hkk]at J2c J2m;simp only[go_sem,g5];refine M5.lend Qw hw rfl (Ye (by omega) (qBY J2m)) rfl ?_;simp only[go_sem];have u1:=Z6 (m:=r.m);have u2:=Z6 (m:=(doM bk r.m k).1);have hpk:=J.pk;have hls:=J.ls;have J2p:=J2.pk;have J2l:=J2.ls;have hu1:zK r.m=(r.m.C.length:Int)-(nF r.m.C:Nat):=rfl;have hu2:zK (doM bk r.m k).1=((doM bk r.m k).1.C.length:Int)-(nF (doM bk r.m k).1.C:Nat):=rfl;have hcr:1<=jA cv/\jA cv<=2:=by unfold jA;split<;>omega
 have htr:(if decide (cv=7)=true then 1 else 0:Int)=2-jA cv:=by
  unfold jA;by_cases z:cv=7
  ·simp[z]
  ·simp[z]
 rw[<-hu2];refine ZU g5 rfl rfl λh6 U6 l6 g6=>?_;simp only[List.set_cons_succ,lSz]at g6;simp only[go_sem,g6];refine qI Qz ?_;simp only[go_sem];rw[htr,<-hu1,jO (show-9223372036854775808<=zK r.m-2 by omega) (by omega),jO (show-9223372036854775808<=zK r.m-2+(2-jA cv) by omega) (by omega),jO (show-9223372036854775808<=zK r.m-2+(2-jA cv)+(j8 bk r.m k).1 by omega) (by omega),show zK r.m-2+(2-jA cv)+(j8 bk r.m k).1=zK r.m+(j8 bk r.m k).1-jA cv by omega];refine ZU g6 rfl rfl λh7 U7 l7 g7=>?_;simp only[List.set_cons_succ,lSz]at g7;simp only[go_sem];have w7:=U7.at (U6.at w5 hid) hid;have k7:=U7.at (U6.at k5 (by omega)) (by omega);have M7:=(M5.upf U6 λj z=>by rw[z];exact f2).upf U7 λj z=>by rw[z];exact f2
 have e1':(r.go bk).pk=max r.pk (zK (doM bk r.m k).1):=by simp only[Run.go,hkk]
 have e2':(r.go bk).ls=max r.ls (zK r.m+(j8 bk r.m k).1-jA cv):=by simp only[Run.go,hkk,hcv]
 have e3':(r.go bk).m=(doM bk r.m k).1:=by simp only[Run.go,hkk]
 refine qa (r.go bk,.slice 1 (h3++[qB.row 1 [AV.int .i64 cv] true]).length 0 (r.tr.length+1) false,ow2,h7) ⟨by simp only[hgl];exact eG,by simp only;omega,J2,⟨by simp only[e3'];exact M7, ?_,.inr ⟨_,⟨z4,by simp;omega⟩,by rw[lMp,hgl], ?_⟩,f2,k7,f5⟩⟩ (by simp only;omega) csA
 ·simp only[e1',e2'];exact g7
 ·simp only[hgt,lMa];exact w7
end
noncomputable def JA(bk:List qE)(m:qH)(bu:Int):Int:=if (jH bk&&Ja m)=true then(if inI bu 0 4000=true then 0 else 2)else 1
def ZP(bk:List qE)(m:qH)(bu:Int):Run×Int:=goM bk bu.toNat ⟨m,[],zK m,zK m⟩
noncomputable def jd(bk:List qE)(m:qH)(bu:Int):Int:=if JA bk m bu=0 then(ZP bk m bu).2 else JA bk m bu
theorem beg0{bk:List qE}{m:qH}{bu:Int}(h:JA bk m bu=0):jH bk=true/\VM m/\0<=bu/\bu<=4000:=by
 unfold JA at h;split at h
 ·rename_i e;rw[bAt]at e;split at h
  ·rename_i q;unfold inI at q;rw[bAt,dTe,dTe]at q;exact⟨e.1,Xy.1 e.2,q⟩
  ·cases h
 ·cases h
theorem VM.len{m:qH}(h:VM m):0<m.C.length/\m.C.length<=1500:=by
 have:=h.sz;unfold inI at this;rw[bAt,dTe,dTe]at this;omega
theorem qkQ{c:qD}(h:zr c):c.sz<=8:=by
 rcases h with⟨_,h⟩ | ⟨_,_,_,h1,h2⟩ | ⟨_,_,h1,h2⟩
 ·have:=qfK h;unfold qC.sz at this;unfold qD.sz;simp only[qX,lLr]at this;omega
 ·unfold qD.sz;rw[h1];simp only[lNi];omega
 ·unfold qD.sz;rw[h1,h2];simp
theorem VM.szs{m:qH}(h:VM m):m.sz<=1000000:=by
 have h1:=h.len;have h2:=h.rs;have h3:=qC7 (f:=qD.sz) (k:=8) λc hc=>qkQ (qAR (h.cell c hc));unfold qH.sz;omega
section
variable {bk:List qE} {m:qH} {bu:Int} {h0:List qB}
theorem c544(hl:bk.length+qx qE.sz bk<=1048576)(hz:m.sz<=1048576):Pure Gm 544 [.lst 1 (bk.map qE.enc) false,.ept m.enc 0,iI bu] (iI (JA bk m bu)):=by
 refine pI K6 (by simp[AV.trees,AV.tree,go_sem,qb qE.isSh.tree]) rfl ?_;simp only[K6,qN,go_sem];refine qI (c598 hl) ?_;simp only[go_sem];cases e1:jH bk
 case false=>
  simp only[go_sem];exact qK rfl (by simp[JA,e1])
 simp only[go_sem];refine qI (c923 hz) ?_;simp only[go_sem];cases e2:Ja m
 case false=>
  simp only[go_sem];exact qK rfl (by simp[JA,e1,e2])
 simp only[go_sem];refine qI wN ?_;simp only[go_sem];cases e3:inI bu 0 4000
 case false=>
  simp only[go_sem];exact qK rfl (by simp[JA,e1,e2,e3])
 simp only[go_sem];exact qK rfl (by simp[JA,e1,e2,e3])
theorem s507(hl:bk.length+qx qE.sz bk<=1048576)(hz:m.sz<=1048576):SCall Gm 507 [.lst 1 (bk.map qE.enc) false,m.enc,iI bu] h0 (λv h'=>∃p,v=.tup [p,iI (jd bk m bu)]/\(jd bk m bu=0->∃rid mid ctid ow tv,p=.ptr rid 0 0/\RH 6 mid rid ctid bk ow h' tv (ZP bk m bu).1/\h0.length<=rid)):=by
 refine sI K5 ?_;simp only[K5,qN,go_sem];have bad:jd bk m bu=1->∃p,AV.tup [.nilp,iI 1]=.tup [p,iI (jd bk m bu)]/\(jd bk m bu=0->∃rid mid ctid ow tv,p=.ptr rid 0 0/\RH 6 mid rid ctid bk ow h0 tv (ZP bk m bu).1/\h0.length<=rid):=λe=>⟨.nilp,by rw[e],λq=>by rw[e]at q;cases q⟩;have bad2:jd bk m bu=2->∃p,AV.tup [.nilp,iI 2]=.tup [p,iI (jd bk m bu)]/\(jd bk m bu=0->∃rid mid ctid ow tv,p=.ptr rid 0 0/\RH 6 mid rid ctid bk ow h0 tv (ZP bk m bu).1/\h0.length<=rid):=λe=>⟨.nilp,by rw[e],λq=>by rw[e]at q;cases q⟩;refine qW rfl ?_;simp only[go_sem];refine qI (c505 (by omega) λn hn=>by have:=jg (f:=qE.sz) hn;omega) ?_;simp only[go_sem];cases e1:jH bk
 case false=>
  simp only[go_sem];exact bad (by simp[jd,JA,e1])
 simp only[go_sem];refine qI (c867 hz) ?_;simp only[go_sem];cases e2:Ja m
 case false=>
  simp only[go_sem];exact bad (by simp[jd,JA,e1,e2])
 simp only[go_sem];by_cases b0:bu<0
 case pos=>
  simp only[b0,go_sem];exact bad2 (by simp[jd,JA,e1,e2,inI];omega)
 simp only[b0,decide_false,go_sem];by_cases b1:4000<bu
 case pos=>
  simp only[b1,go_sem];exact bad2 (by simp[jd,JA,e1,e2,inI];omega)
 simp only[b1,decide_false,go_sem];have vm:=Xy.1 e2;refine qk (SCall.mono (s868 vm.szs vm.len.1) ?_);rintro _ h1 ⟨cid,cs,rv,ow,rfl,M,U,hw⟩;simp only[go_sem,mE];refine QD rfl ?_;simp only[go_sem];refine QI (n:=7) (by unfold LIM;omega) ?_;simp only[go_sem];refine QD rfl ?_;obtain⟨n,rfl⟩:=eOz (show 0<=bu by omega);have hlt:=qp M.c;have M2:=(M.heap (h':=h1++[qB.row 6 [mE m cid rv (bkP bk)] true]) (by simp) λj hj q=>by rw[gAl hj]).mo (w:=6) (post:=bkP bk) (mid:=h1.length) ends (by have:=M.b h1.length;omega);have M3:=((MH.intro M2).app [qB.row 1 (List.replicate 7 (AV.int .i64 0)) true]).app [qB.row 5 [.agg [.ptr h1.length 0 0,.slice 1 (h1++[qB.row 6 [mE m cid rv (bkP bk)] true]).length 0 7 false,.nils,iI 0,iI 0]] true];have e4:jd bk m (n:Nat)=(goM bk n ⟨m,[],zK m,zK m⟩).2:=by
  rw[jd,iP (by simp[JA,e1,e2,inI];omega)];rfl
 simp only[go_sem];have hz1:∀j,h1.length<j->(if j=h1.length then 1 else ow j)=0:=λj hj=>by
  rw[iN (by omega)];refine Classical.byContradiction λq=>?_;have:=M.b j q;omega
 refine qk (SCall.mono (s869 M3 (by decide) vm.mi e1 vm.len.2 (by omega) ends (hz1 _ (by simp)) (z7 ends) (hz1 _ (by simp)) (by simp)) ?_);rintro _ h2 ⟨rfl,R⟩;have hU:=U.1;rw[<-e4]at R;rw[<-e4];simp only[go_sem];by_cases h0':jd bk m (n:Nat)=0
 case neg=>
  simp only[h0',decide_false,go_sem];exact⟨_,rfl,λq=>q.elim⟩
 obtain⟨ow',tv,R⟩:=R h0';simp only[h0',go_sem];exact⟨_,rfl,λ_=>⟨_,_,_,ow',tv,rfl,R,by simp;omega⟩⟩
end
set_option maxHeartbeats 2000000
theorem qF.plx(x:qF):x.enc.pl=true:=by simp[qF.enc,AV.pl,AV.pls]
theorem qF.cnx(x:qF):x.enc.cn=true:=by simp[qF.enc,AV.cn,AV.cns]
theorem qF.layE(x:qF)(n:Nat):lay x.enc n=(.agg [iI x.T,iI x.I],[]):=by
 simp[qF.enc,lay,qT,wk,AV.rows,Nat.add_assoc,Nat.add_comm,Nat.add_left_comm]
theorem qF.rowsE(x:qF):x.enc.rows=0:=by simp[qF.enc,AV.rows,AV.rowss,Nat.add_assoc]
def qF.mrk(x:qF)(k:Int):qF:={T:=k,I:=k+1}
def qF.ct(x:qF):Nat:=1+1
def qF.mkV(x:qF)(k:Int):qF:={T:=x.T,I:=x.I}
def qF.ctV(x:qF):Nat:=0
theorem qF.rowsM(x:qF)(k:Int):(x.mrk k).enc.rows=x.enc.rows:=by simp[qF.rowsE,qF.mrk,AV.rows]
theorem qF.rowsV(x:qF)(k:Int):(x.mkV k).enc.rows=x.enc.rows:=by simp[qF.rowsE,qF.mkV,AV.rows]
theorem qF.ctle(x:qF):x.ct<=16:=by simp[qF.ct]
theorem qD.plx(x:qD):x.enc.pl=true:=by simp[qD.enc,AV.pl,AV.pls,jb (enc:=qP) (λ_=>rfl),jb qF.plx]
theorem qD.cnx(x:qD):x.enc.cn=true:=by simp[qD.enc,AV.cn,AV.cns,wP (enc:=qP) (λ_=>rfl),wP qF.cnx]
theorem qD.layE(x:qD)(n:Nat):lay x.enc n=(.agg [iI x.K,iI x.L,iI x.V,sQ 1 (n) x.D.length,.slice 2 (n+AV.rows (lQ x.D)) 0 x.W.length false],(lay (lQ x.D) (n)).2++((lay (.lst 2 (x.W.map qF.enc) false) (n+AV.rows (lQ x.D))).2++[])):=by
 simp[qD.enc,lay,qT,wk,AV.rows,Nat.add_assoc,Nat.add_comm,Nat.add_left_comm]
theorem qD.rowsE(x:qD):x.enc.rows=AV.rows (lQ x.D)+AV.rows (.lst 2 (x.W.map qF.enc) false):=by simp[qD.enc,AV.rows,AV.rowss,Nat.add_assoc]
def qD.mrk(x:qD)(k:Int):qD:={K:=k,L:=k+1,V:=k+1+1,D:=mkL mkI ctI x.D (k+1+1+1),W:=mkL qF.mrk qF.ct x.W (k+1+1+1+((qx ctI x.D:Nat):Int))}
def qD.ct(x:qD):Nat:=1+1+1+qx ctI x.D+qx qF.ct x.W
def qD.mkV(x:qD)(k:Int):qD:={K:=x.K,L:=x.L,V:=x.V,D:=mkL mkI ctI x.D (k),W:=mkL qF.mrk qF.ct x.W (k+((qx ctI x.D:Nat):Int))}
def qD.ctV(x:qD):Nat:=qx ctI x.D+qx qF.ct x.W
theorem qD.rowsM(x:qD)(k:Int):(x.mrk k).enc.rows=x.enc.rows:=by simp[qD.rowsE,qD.mrk,AV.rows,W1 qF.mrk qF.ct (enc:=qF.enc) qF.rowsM,W1 mkI ctI (enc:=qP) (λ_ _=>rfl)]
theorem qD.rowsV(x:qD)(k:Int):(x.mkV k).enc.rows=x.enc.rows:=by simp[qD.rowsE,qD.mkV,AV.rows,W1 qF.mrk qF.ct (enc:=qF.enc) qF.rowsM,W1 mkI ctI (enc:=qP) (λ_ _=>rfl)]
theorem qD.ctle(x:qD):x.ct<=16+16*x.sz:=by
 have h0:=qxD (c:=ctI) (λ_=>by simp[ctI]) x.D;have h1:=qxD (c:=qF.ct) (λy=>by have:=qF.ctle y;simpa using this) x.W;simp only[qD.ct,qD.sz];omega
theorem qD.ctVle(x:qD):x.ctV<=16*x.sz:=by
 have h0:=qxD (c:=ctI) (λ_=>by simp[ctI]) x.D;have h1:=qxD (c:=qF.ct) (λy=>by have:=qF.ctle y;simpa using this) x.W;simp only[qD.ctV,qD.sz];omega
theorem qL.plx(x:qL):x.enc.pl=true:=by simp[qL.enc,AV.pl,AV.pls]
theorem qL.cnx(x:qL):x.enc.cn=true:=by simp[qL.enc,AV.cn,AV.cns]
theorem qL.layE(x:qL)(n:Nat):lay x.enc n=(.agg [iI x.A,iI x.B],[]):=by
 simp[qL.enc,lay,qT,wk,AV.rows,Nat.add_assoc,Nat.add_comm,Nat.add_left_comm]
theorem qL.rowsE(x:qL):x.enc.rows=0:=by simp[qL.enc,AV.rows,AV.rowss,Nat.add_assoc]
def qL.mrk(x:qL)(k:Int):qL:={A:=k,B:=k+1}
def qL.ct(x:qL):Nat:=1+1
def qL.mkV(x:qL)(k:Int):qL:={A:=x.A,B:=x.B}
def qL.ctV(x:qL):Nat:=0
theorem qL.rowsM(x:qL)(k:Int):(x.mrk k).enc.rows=x.enc.rows:=by simp[qL.rowsE,qL.mrk,AV.rows]
theorem qL.rowsV(x:qL)(k:Int):(x.mkV k).enc.rows=x.enc.rows:=by simp[qL.rowsE,qL.mkV,AV.rows]
theorem qL.ctle(x:qL):x.ct<=16:=by simp[qL.ct]
theorem qH.plx(x:qH):x.enc.pl=true:=by simp[qH.enc,AV.pl,AV.pls,jb qD.plx,jb qL.plx]
theorem qH.cnx(x:qH):x.enc.cn=true:=by simp[qH.enc,AV.cn,AV.cns,wP qD.cnx,wP qL.cnx]
theorem qH.layE(x:qH)(n:Nat):lay x.enc n=(.agg [sQ 5 (n) x.C.length,iI x.F,iI x.O.T,iI x.O.I,.slice 2 (n+AV.rows (.lst 5 (x.C.map qD.enc) false)) 0 x.R.length false],(lay (.lst 5 (x.C.map qD.enc) false) (n)).2++((lay (.lst 2 (x.R.map qL.enc) false) (n+AV.rows (.lst 5 (x.C.map qD.enc) false))).2++[])):=by
 simp[qH.enc,lay,qT,wk,AV.rows,Nat.add_assoc,Nat.add_comm,Nat.add_left_comm]
theorem qH.rowsE(x:qH):x.enc.rows=AV.rows (.lst 5 (x.C.map qD.enc) false)+AV.rows (.lst 2 (x.R.map qL.enc) false):=by simp[qH.enc,AV.rows,AV.rowss,Nat.add_assoc]
def qH.mrk(x:qH)(k:Int):qH:={C:=mkL qD.mrk qD.ct x.C (k),F:=k+((qx qD.ct x.C:Nat):Int),O:={T:=k+((qx qD.ct x.C:Nat):Int)+1,I:=k+((qx qD.ct x.C:Nat):Int)+1+1},R:=mkL qL.mrk qL.ct x.R (k+((qx qD.ct x.C:Nat):Int)+1+1+1)}
def qH.ct(x:qH):Nat:=qx qD.ct x.C+1+1+1+qx qL.ct x.R
def qH.mkV(x:qH)(k:Int):qH:={C:=mkL qD.mrk qD.ct x.C (k),F:=x.F,O:={T:=x.O.T,I:=x.O.I},R:=mkL qL.mrk qL.ct x.R (k+((qx qD.ct x.C:Nat):Int))}
def qH.ctV(x:qH):Nat:=qx qD.ct x.C+qx qL.ct x.R
theorem qH.rowsM(x:qH)(k:Int):(x.mrk k).enc.rows=x.enc.rows:=by simp[qH.rowsE,qH.mrk,AV.rows,W1 qD.mrk qD.ct (enc:=qD.enc) qD.rowsM,W1 qL.mrk qL.ct (enc:=qL.enc) qL.rowsM]
theorem qH.rowsV(x:qH)(k:Int):(x.mkV k).enc.rows=x.enc.rows:=by simp[qH.rowsE,qH.mkV,AV.rows,W1 qD.mrk qD.ct (enc:=qD.enc) qD.rowsM,W1 qL.mrk qL.ct (enc:=qL.enc) qL.rowsM]
theorem qH.ctle(x:qH):x.ct<=16+16*x.sz:=by
 have h0:=qxE (c:=qD.ct) (z:=qD.sz) qD.ctle x.C;have h1:=qxD (c:=qL.ct) (λy=>by have:=qL.ctle y;simpa using this) x.R;simp only[qH.ct,qH.sz];omega
theorem qH.ctVle(x:qH):x.ctV<=16*x.sz:=by
 have h0:=qxE (c:=qD.ct) (z:=qD.sz) qD.ctle x.C;have h1:=qxD (c:=qL.ct) (λy=>by have:=qL.ctle y;simpa using this) x.R;simp only[qH.ctV,qH.sz];omega
theorem n547(x:qF):Fresh Gm 547 [x.enc] x.enc:=by
 refine fI K8 (by simp[AV.trees,AV.tree,qF.tr]) (qF.plx x) ?_;simp only[K8,qN,go_sem];refine qW rfl ?_;simp only[go_sem];refine lsA ?_;simp only[go_sem];exact Xe (pre:=[]) (post:=[]) (qF.plx x) (by simp[ja,qF.layE,jW,Nat.add_assoc]) (by simp[qF.layE,jW,Nat.add_assoc])
theorem zAI(xs:List qF)(hl:xs.length<=1048576):Fresh Gm 1243 [.lst 2 (xs.map qF.enc) false] (.lst 2 (xs.map qF.enc) false):=
 qxO qF.isSh qF.plx rfl rfl (by simp) (gk _ qHX) xs (λx hm=>n547 x) (by omega)
theorem n925(x:qD)(hz:x.sz<=1048576):Fresh Gm 925 [x.enc] x.enc:=by
 refine fI F925 (by simp[AV.trees,AV.tree,qD.tr]) (qD.plx x) ?_;simp only[F925,qN,go_sem];refine qW rfl ?_;simp only[go_sem];unfold qD.sz at hz;refine Ju (n147 _ (by omega)) ?_;simp only[go_sem,qeJ];refine Ju (zAI _ (by omega)) ?_;simp only[go_sem,qeJ];refine lsA ?_;simp only[go_sem];exact Xe (pre:=[]) (post:=[]) (qD.plx x) (by simp[ja,qD.layE,jW,Nat.add_assoc]) (by simp[qD.layE,jW,Nat.add_assoc])
theorem n546(xs:List qD)(hl:xs.length+qx qD.sz xs<=1048576):Fresh Gm 546 [.lst 5 (xs.map qD.enc) false] (.lst 5 (xs.map qD.enc) false):=
 qxO qD.isSh qD.plx rfl rfl (by simp) (gk _ F546) xs (λx hm=>n925 x (by have:=jg (f:=qD.sz) hm;omega)) (by omega)
theorem n926(x:qL):Fresh Gm 926 [x.enc] x.enc:=by
 refine fI F926 (by simp[AV.trees,AV.tree,qL.tr]) (qL.plx x) ?_;simp only[F926,qN,go_sem];refine qW rfl ?_;simp only[go_sem];refine lsA ?_;simp only[go_sem];exact Xe (pre:=[]) (post:=[]) (qL.plx x) (by simp[ja,qL.layE,jW,Nat.add_assoc]) (by simp[qL.layE,jW,Nat.add_assoc])
theorem n548(xs:List qL)(hl:xs.length<=1048576):Fresh Gm 548 [.lst 2 (xs.map qL.enc) false] (.lst 2 (xs.map qL.enc) false):=
 qxO qL.isSh qL.plx rfl rfl (by simp) (gk _ F548) xs (λx hm=>n926 x) (by omega)
theorem n211(x:qH)(hz:x.sz<=1048576):Fresh Gm 211 [x.enc] x.enc:=by
 refine fI Kt (by simp[AV.trees,AV.tree,qH.tr]) (qH.plx x) ?_;simp only[Kt,qN,go_sem];refine qW rfl ?_;simp only[go_sem];unfold qH.sz at hz;refine Ju (n546 _ (by omega)) ?_;simp only[go_sem,qeJ];refine Ju (n547 _) ?_;simp only[go_sem,qeJ,qF.layE];refine Xt (c':=.agg [sQ 5 0 x.C.length,iI x.F,iI x.O.T,iI x.O.I,.nils]) rfl rfl ?_;simp only[go_sem,qeJ,qF.layE];refine Ju (n548 _ (by omega)) ?_;simp only[go_sem,qeJ];refine lsA ?_;simp only[go_sem];exact Xe (pre:=[]) (post:=[]) (qH.plx x) (by simp[ja,qH.layE,jW,Nat.add_assoc,qF.layE,qF.rowsE]) (by simp[qH.layE,jW,Nat.add_assoc,qF.layE,qF.rowsE])
theorem k968(xs:List qF)(k:Int)(h0:0<=k)(hk:k+(qx qF.ct xs:Nat)<=4611686018427387904)(hz:xs.length<=4194304):Mark Gm 968 (.lst 2 (xs.map qF.enc) false) (.lst 2 ((mkL qF.mrk qF.ct xs k).map qF.enc) false) k (k+(qx qF.ct xs:Nat)):=by
 refine Mark.intro (gk _ F968) (by kernel_rfl) rfl (jb qF.plx xs) (jb qF.plx _) (by simp only[AV.rows,W1 qF.mrk qF.ct (enc:=qF.enc) qF.rowsM]) ?_;simp only[F968,qN,qeJ,go_sem,nZa];refine Sem.loop (λi:Nat=>i<=xs.length) (λi=>(⟨[(0,sQ 2 0 xs.length),(1,iI (k+((qx qF.ct (xs.take i):Nat):Int))),(5,iI (i:Nat))],[],(lay (.lst 2 ((mkL qF.mrk qF.ct (xs.take i) k++xs.drop i).map qF.enc) false) 0).2⟩:VSt)) (λi=>xs.length-i) 0 (by kernel_rfl) (nZl _) (by simp only[List.take_zero,mkL,lNa,List.drop_zero,qx,Int.ofNat_zero,Int.natCast_zero,Int.add_zero];exact csA) ?_;intro i hi;simp only[go_sem,nZa];apply qS<;>intro hc<;>simp only[hc,go_sem,nZa]
 ·have hlt:i<xs.length:=by have:=odT hc;omega
  have hct:=qxN qF.ct hlt;have hcl:=qxM qF.ct xs (i+1);have hrow:=qF.rowsM;rw[lDc hlt,qxG];obtain⟨K,hK⟩:∃K:Int,K=k+((qx qF.ct (xs.take i):Nat):Int):=⟨_,rfl⟩;have hend:k+((qx qF.ct (xs.take (i+1)):Nat):Int)=K+((qF.ct xs[i]:Nat):Int):=by rw[hct,hK];omega
  have hKb:0<=K/\K+((qF.ct xs[i]:Nat):Int)<=4611686018427387904:=by rw[<-hend];omega
  have hmk:(mkL qF.mrk qF.ct (xs.take (i+1)) k++xs.drop (i+1))=mkL qF.mrk qF.ct (xs.take i) k++qF.mrk xs[i] K::xs.drop (i+1):=by rw[qxL qF.mrk qF.ct hlt,<-hK,lAa];rfl
  have hrx:=hrow xs[i] K;rw[<-hK];obtain⟨y,hy⟩:∃y,y=xs[i]:=⟨_,rfl⟩;rw[<-hy]at hmk hend hKb hrx|-;have hcy:qF.ct y=1+1:=rfl;rw[hcy]at hend hKb;have hA:(qT ((mkL qF.mrk qF.ct (xs.take i) k).map qF.enc) 1).1.length=i:=by rw[Jk,lMp,qxF];simp;omega
  have hoA:=wk ((mkL qF.mrk qF.ct (xs.take i) k).map qF.enc) 1;have e2:=qxG (enc:=qF.enc) (w:=2) (c:=false) (A:=mkL qF.mrk qF.ct (xs.take i) k) (B:=xs.drop (i+1)) (z:=qF.mrk y K);rw[hrx]at e2;rw[qF.layE]at e2|-;obtain⟨p,hp⟩:∃p,p=1+AV.rowss ((mkL qF.mrk qF.ct (xs.take i) k).map qF.enc):=⟨_,rfl⟩;rw[<-hp]at e2|-;generalize (qT ((xs.drop (i+1)).map qF.enc) (p+y.enc.rows)).1=vB at e2|-;generalize (qT ((xs.drop (i+1)).map qF.enc) (p+y.enc.rows)).2=oB at e2|-;generalize (qT ((mkL qF.mrk qF.ct (xs.take i) k).map qF.enc) 1).1=vA at e2 hA|-;generalize (qT ((mkL qF.mrk qF.ct (xs.take i) k).map qF.enc) 1).2=oA at e2 hoA|-;simp only[W2 hA,qxC hA,qY hlt,lSz,go_sem,nZa];refine jF (e':=.agg [iI (K),iI y.I]) (by rfl) (by rfl) (W2 hA) (by rfl) ?_;simp only[W2 hA,qxC hA,qY hlt,lSz,go_sem,nZa];rw[wsA (n:=K+1)]
  try simp only[W2 hA,qxC hA,qY hlt,lSz,go_sem,nZa]
  refine jF (e':=.agg [iI (K),iI (K+1)]) (by rfl) (by rfl) (W2 hA) (by rfl) ?_;simp only[W2 hA,qxC hA,qY hlt,lSz,go_sem,nZa];rw[wsA (n:=K+1+1)];simp only[wuA (n:=i)];refine qa (i+1) (by omega) (by omega) ?_;have e3:K+1+1=k+((qx qF.ct (xs.take (i+1)):Nat):Int):=by first | (rw[hend];done) | (rw[hend];omega)
  rw[e3];rw[hmk,e2];simp only[qF.mrk,qxF,AV.rows,lAa,lNa,lAn,lCa];exact csA
 ·have hge:i=xs.length:=by have:=odF hc;omega
  subst hge;refine qxJ (by rw[lTl]) ?_;rw[lTl,List.drop_length,lAn]
theorem k595(xs:List qD)(k:Int)(h0:0<=k)(hk:k+(qx qD.ct xs:Nat)<=4611686018427387904)(hz:xs.length+qx qD.sz xs<=4194304):Mark Gm 595 (.lst 5 (xs.map qD.enc) false) (.lst 5 ((mkL qD.mrk qD.ct xs k).map qD.enc) false) k (k+(qx qD.ct xs:Nat)):=by
 refine Mark.intro (gk _ F595) (by kernel_rfl) rfl (jb qD.plx xs) (jb qD.plx _) (by simp only[AV.rows,W1 qD.mrk qD.ct (enc:=qD.enc) qD.rowsM]) ?_;simp only[F595,qN,qeJ,go_sem,nZa];refine Sem.loop (λi:Nat=>i<=xs.length) (λi=>(⟨[(0,sQ 5 0 xs.length),(1,iI (k+((qx qD.ct (xs.take i):Nat):Int))),(5,iI (i:Nat))],[],(lay (.lst 5 ((mkL qD.mrk qD.ct (xs.take i) k++xs.drop i).map qD.enc) false) 0).2⟩:VSt)) (λi=>xs.length-i) 0 (by kernel_rfl) (nZl _) (by simp only[List.take_zero,mkL,lNa,List.drop_zero,qx,Int.ofNat_zero,Int.natCast_zero,Int.add_zero];exact csA) ?_;intro i hi;simp only[go_sem,nZa];apply qS<;>intro hc<;>simp only[hc,go_sem,nZa]
 ·have hlt:i<xs.length:=by have:=odT hc;omega
  have hct:=qxN qD.ct hlt;have hcl:=qxM qD.ct xs (i+1);have hrow:=qD.rowsM;rw[lDc hlt,qxG];have hsz:qD.sz xs[i]<=qx qD.sz xs:=jg (f:=qD.sz) (gMm hlt);obtain⟨K,hK⟩:∃K:Int,K=k+((qx qD.ct (xs.take i):Nat):Int):=⟨_,rfl⟩;have hend:k+((qx qD.ct (xs.take (i+1)):Nat):Int)=K+((qD.ct xs[i]:Nat):Int):=by rw[hct,hK];omega
  have hKb:0<=K/\K+((qD.ct xs[i]:Nat):Int)<=4611686018427387904:=by rw[<-hend];omega
  have hmk:(mkL qD.mrk qD.ct (xs.take (i+1)) k++xs.drop (i+1))=mkL qD.mrk qD.ct (xs.take i) k++qD.mrk xs[i] K::xs.drop (i+1):=by rw[qxL qD.mrk qD.ct hlt,<-hK,lAa];rfl
  have hrx:=hrow xs[i] K;rw[<-hK];obtain⟨y,hy⟩:∃y,y=xs[i]:=⟨_,rfl⟩;rw[<-hy]at hmk hend hKb hrx hsz|-;have hcy:qD.ct y=1+1+1+qx ctI y.D+qx qF.ct y.W:=rfl;rw[hcy]at hend hKb;simp only[qD.sz]at hsz;have hA:(qT ((mkL qD.mrk qD.ct (xs.take i) k).map qD.enc) 1).1.length=i:=by rw[Jk,lMp,qxF];simp;omega
  have hoA:=wk ((mkL qD.mrk qD.ct (xs.take i) k).map qD.enc) 1;have e2:=qxG (enc:=qD.enc) (w:=5) (c:=false) (A:=mkL qD.mrk qD.ct (xs.take i) k) (B:=xs.drop (i+1)) (z:=qD.mrk y K);rw[hrx]at e2;rw[qD.layE]at e2|-;obtain⟨p,hp⟩:∃p,p=1+AV.rowss ((mkL qD.mrk qD.ct (xs.take i) k).map qD.enc):=⟨_,rfl⟩;rw[<-hp]at e2|-;generalize (qT ((xs.drop (i+1)).map qD.enc) (p+y.enc.rows)).1=vB at e2|-;generalize (qT ((xs.drop (i+1)).map qD.enc) (p+y.enc.rows)).2=oB at e2|-;generalize (qT ((mkL qD.mrk qD.ct (xs.take i) k).map qD.enc) 1).1=vA at e2 hA|-;generalize (qT ((mkL qD.mrk qD.ct (xs.take i) k).map qD.enc) 1).2=oA at e2 hoA|-;simp only[W2 hA,qxC hA,qY hlt,lSz,go_sem,nZa];refine jF (e':=.agg [iI (K),iI y.L,iI y.V,sQ 1 (p) y.D.length,.slice 2 (p+AV.rows (lQ y.D)) 0 y.W.length false]) (by rfl) (by rfl) (W2 hA) (by rfl) ?_;simp only[W2 hA,qxC hA,qY hlt,lSz,go_sem,nZa];rw[wsA (n:=K+1)]
  try simp only[W2 hA,qxC hA,qY hlt,lSz,go_sem,nZa]
  refine jF (e':=.agg [iI (K),iI (K+1),iI y.V,sQ 1 (p) y.D.length,.slice 2 (p+AV.rows (lQ y.D)) 0 y.W.length false]) (by rfl) (by rfl) (W2 hA) (by rfl) ?_;simp only[W2 hA,qxC hA,qY hlt,lSz,go_sem,nZa];rw[wsA (n:=K+1+1)]
  try simp only[W2 hA,qxC hA,qY hlt,lSz,go_sem,nZa]
  refine jF (e':=.agg [iI (K),iI (K+1),iI (K+1+1),sQ 1 (p) y.D.length,.slice 2 (p+AV.rows (lQ y.D)) 0 y.W.length false]) (by rfl) (by rfl) (W2 hA) (by rfl) ?_;simp only[W2 hA,qxC hA,qY hlt,lSz,go_sem,nZa];rw[wsA (n:=K+1+1+1)]
  try simp only[W2 hA,qxC hA,qY hlt,lSz,go_sem,nZa]
  refine qxH (n:=p) (pre:=.row 5 (vA++.agg [iI (K),iI (K+1),iI (K+1+1),sQ 1 (p) y.D.length,.slice 2 (p+AV.rows (lQ y.D)) 0 y.W.length false]::vB) true::(oA++[])) (post:=((lay (.lst 2 (y.W.map qF.enc) false) (p+AV.rows (lQ y.D))).2++[])++oB) (t:=(lQ y.D)) (t':=(lQ (mkL mkI ctI y.D (K+1+1+1)))) (k90 y.D (K+1+1+1) (by omega) (by omega) (by omega)) ?_ ?_ (by rw[qeJ,lMp]) ?_
  ·first | rfl | (simp only[lCo,lAp,lNi,hoA,jW,AV.rows,W1 qF.mrk qF.ct (enc:=qF.enc) qF.rowsM,W1 mkI ctI (enc:=qP) (λ_ _=>rfl)];done) | (simp only[lCo,lAp,lNi,hoA,jW,AV.rows,W1 qF.mrk qF.ct (enc:=qF.enc) qF.rowsM,W1 mkI ctI (enc:=qP) (λ_ _=>rfl)];omega)
  ·first | rfl | (simp only[lAa,lNa,lAn,lCa];done)
  simp only[W2 hA,qxC hA,qY hlt,lSz,lCa,go_sem,nZa];refine qxH (n:=p+AV.rows (lQ y.D)) (pre:=.row 5 (vA++.agg [iI (K),iI (K+1),iI (K+1+1),sQ 1 (p) y.D.length,.slice 2 (p+AV.rows (lQ y.D)) 0 y.W.length false]::vB) true::(oA++((lay (lQ (mkL mkI ctI y.D (K+1+1+1))) (p)).2))) (post:=([])++oB) (t:=(.lst 2 (y.W.map qF.enc) false)) (t':=(.lst 2 ((mkL qF.mrk qF.ct y.W (K+1+1+1+((qx ctI y.D:Nat):Int))).map qF.enc) false)) (k968 y.W (K+1+1+1+((qx ctI y.D:Nat):Int)) (by omega) (by omega) (by omega)) ?_ ?_ (by rw[qeJ,lMp]) ?_
  ·first | rfl | (simp only[lCo,lAp,lNi,hoA,jW,AV.rows,W1 qF.mrk qF.ct (enc:=qF.enc) qF.rowsM,W1 mkI ctI (enc:=qP) (λ_ _=>rfl)];done) | (simp only[lCo,lAp,lNi,hoA,jW,AV.rows,W1 qF.mrk qF.ct (enc:=qF.enc) qF.rowsM,W1 mkI ctI (enc:=qP) (λ_ _=>rfl)];omega)
  ·first | rfl | (simp only[lAa,lNa,lAn,lCa];done)
  simp only[W2 hA,qxC hA,qY hlt,lSz,lCa,go_sem,nZa];simp only[wuA (n:=i)];refine qa (i+1) (by omega) (by omega) ?_;have e3:K+1+1+1+((qx ctI y.D:Nat):Int)+((qx qF.ct y.W:Nat):Int)=k+((qx qD.ct (xs.take (i+1)):Nat):Int):=by first | (rw[hend];done) | (rw[hend];omega)
  rw[e3];rw[hmk,e2];simp only[qD.mrk,qxF,AV.rows,lAa,lNa,lAn,lCa,W1 qF.mrk qF.ct (enc:=qF.enc) qF.rowsM,W1 mkI ctI (enc:=qP) (λ_ _=>rfl)];exact csA
 ·have hge:i=xs.length:=by have:=odF hc;omega
  subst hge;refine qxJ (by rw[lTl]) ?_;rw[lTl,List.drop_length,lAn]
theorem k596(xs:List qL)(k:Int)(h0:0<=k)(hk:k+(qx qL.ct xs:Nat)<=4611686018427387904)(hz:xs.length<=4194304):Mark Gm 596 (.lst 2 (xs.map qL.enc) false) (.lst 2 ((mkL qL.mrk qL.ct xs k).map qL.enc) false) k (k+(qx qL.ct xs:Nat)):=by
 refine Mark.intro (gk _ F596) (by kernel_rfl) rfl (jb qL.plx xs) (jb qL.plx _) (by simp only[AV.rows,W1 qL.mrk qL.ct (enc:=qL.enc) qL.rowsM]) ?_;simp only[F596,qN,qeJ,go_sem,nZa];refine Sem.loop (λi:Nat=>i<=xs.length) (λi=>(⟨[(0,sQ 2 0 xs.length),(1,iI (k+((qx qL.ct (xs.take i):Nat):Int))),(5,iI (i:Nat))],[],(lay (.lst 2 ((mkL qL.mrk qL.ct (xs.take i) k++xs.drop i).map qL.enc) false) 0).2⟩:VSt)) (λi=>xs.length-i) 0 (by kernel_rfl) (nZl _) (by simp only[List.take_zero,mkL,lNa,List.drop_zero,qx,Int.ofNat_zero,Int.natCast_zero,Int.add_zero];exact csA) ?_;intro i hi;simp only[go_sem,nZa];apply qS<;>intro hc<;>simp only[hc,go_sem,nZa]
 ·have hlt:i<xs.length:=by have:=odT hc;omega
  have hct:=qxN qL.ct hlt;have hcl:=qxM qL.ct xs (i+1);have hrow:=qL.rowsM;rw[lDc hlt,qxG];obtain⟨K,hK⟩:∃K:Int,K=k+((qx qL.ct (xs.take i):Nat):Int):=⟨_,rfl⟩;have hend:k+((qx qL.ct (xs.take (i+1)):Nat):Int)=K+((qL.ct xs[i]:Nat):Int):=by rw[hct,hK];omega
  have hKb:0<=K/\K+((qL.ct xs[i]:Nat):Int)<=4611686018427387904:=by rw[<-hend];omega
  have hmk:(mkL qL.mrk qL.ct (xs.take (i+1)) k++xs.drop (i+1))=mkL qL.mrk qL.ct (xs.take i) k++qL.mrk xs[i] K::xs.drop (i+1):=by rw[qxL qL.mrk qL.ct hlt,<-hK,lAa];rfl
  have hrx:=hrow xs[i] K;rw[<-hK];obtain⟨y,hy⟩:∃y,y=xs[i]:=⟨_,rfl⟩;rw[<-hy]at hmk hend hKb hrx|-;have hcy:qL.ct y=1+1:=rfl;rw[hcy]at hend hKb;have hA:(qT ((mkL qL.mrk qL.ct (xs.take i) k).map qL.enc) 1).1.length=i:=by rw[Jk,lMp,qxF];simp;omega
  have hoA:=wk ((mkL qL.mrk qL.ct (xs.take i) k).map qL.enc) 1;have e2:=qxG (enc:=qL.enc) (w:=2) (c:=false) (A:=mkL qL.mrk qL.ct (xs.take i) k) (B:=xs.drop (i+1)) (z:=qL.mrk y K);rw[hrx]at e2;rw[qL.layE]at e2|-;obtain⟨p,hp⟩:∃p,p=1+AV.rowss ((mkL qL.mrk qL.ct (xs.take i) k).map qL.enc):=⟨_,rfl⟩;rw[<-hp]at e2|-;generalize (qT ((xs.drop (i+1)).map qL.enc) (p+y.enc.rows)).1=vB at e2|-;generalize (qT ((xs.drop (i+1)).map qL.enc) (p+y.enc.rows)).2=oB at e2|-;generalize (qT ((mkL qL.mrk qL.ct (xs.take i) k).map qL.enc) 1).1=vA at e2 hA|-;generalize (qT ((mkL qL.mrk qL.ct (xs.take i) k).map qL.enc) 1).2=oA at e2 hoA|-;simp only[W2 hA,qxC hA,qY hlt,lSz,go_sem,nZa];refine jF (e':=.agg [iI (K),iI y.B]) (by rfl) (by rfl) (W2 hA) (by rfl) ?_;simp only[W2 hA,qxC hA,qY hlt,lSz,go_sem,nZa];rw[wsA (n:=K+1)]
  try simp only[W2 hA,qxC hA,qY hlt,lSz,go_sem,nZa]
  refine jF (e':=.agg [iI (K),iI (K+1)]) (by rfl) (by rfl) (W2 hA) (by rfl) ?_;simp only[W2 hA,qxC hA,qY hlt,lSz,go_sem,nZa];rw[wsA (n:=K+1+1)];simp only[wuA (n:=i)];refine qa (i+1) (by omega) (by omega) ?_;have e3:K+1+1=k+((qx qL.ct (xs.take (i+1)):Nat):Int):=by first | (rw[hend];done) | (rw[hend];omega)
  rw[e3];rw[hmk,e2];simp only[qL.mrk,qxF,AV.rows,lAa,lNa,lAn,lCa];exact csA
 ·have hge:i=xs.length:=by have:=odF hc;omega
  subst hge;refine qxJ (by rw[lTl]) ?_;rw[lTl,List.drop_length,lAn]
theorem k240(x:qH)(k:Int)(h0:0<=k)(hk:k+(x.ctV:Nat)<=4611686018427387904)(hz:x.sz<=4194304):Mark Gm 240 x.enc (x.mkV k).enc k (k+(x.ctV:Nat)):=by
 refine Mark.intro (gk _ F240) (by kernel_rfl) rfl (qH.plx x) (qH.plx _) (qH.rowsV x k) ?_;rw[qH.layE,qH.layE];simp only[F240,qN,go_sem,nZa];refine qW rfl ?_;simp only[go_sem,nZa];unfold qH.ctV at hk;simp only[qH.sz]at hz;refine qxH (n:=0) (pre:=[]) (post:=(lay (.lst 2 (x.R.map qL.enc) false) (AV.rows (.lst 5 (x.C.map qD.enc) false))).2++[]) (t:=(.lst 5 (x.C.map qD.enc) false)) (t':=(.lst 5 ((mkL qD.mrk qD.ct x.C (k)).map qD.enc) false)) (k595 x.C (k) (by omega) (by omega) (by omega)) ?_ ?_ (by rw[qeJ,lMp]) ?_
 ·first | rfl | (simp only[lAp,lNi,jW,AV.rows,W1 qD.mrk qD.ct (enc:=qD.enc) qD.rowsM,W1 qL.mrk qL.ct (enc:=qL.enc) qL.rowsM];done) | (simp only[lAp,lNi,jW,AV.rows,W1 qD.mrk qD.ct (enc:=qD.enc) qD.rowsM,W1 qL.mrk qL.ct (enc:=qL.enc) qL.rowsM];omega)
 ·first | rfl | (simp only[lAa,lNa,lAn];done)
 simp only[lAa,lNa,lAn,go_sem,nZa];refine qxH (n:=AV.rows (.lst 5 (x.C.map qD.enc) false)) (pre:=(lay (.lst 5 ((mkL qD.mrk qD.ct x.C (k)).map qD.enc) false) (0)).2) (post:=[]) (t:=(.lst 2 (x.R.map qL.enc) false)) (t':=(.lst 2 ((mkL qL.mrk qL.ct x.R (k+((qx qD.ct x.C:Nat):Int))).map qL.enc) false)) (k596 x.R (k+((qx qD.ct x.C:Nat):Int)) (by omega) (by omega) (by omega)) ?_ ?_ (by rw[qeJ,lMp]) ?_
 ·first | rfl | (simp only[lAp,lNi,jW,AV.rows,W1 qD.mrk qD.ct (enc:=qD.enc) qD.rowsM,W1 qL.mrk qL.ct (enc:=qL.enc) qL.rowsM];done) | (simp only[lAp,lNi,jW,AV.rows,W1 qD.mrk qD.ct (enc:=qD.enc) qD.rowsM,W1 qL.mrk qL.ct (enc:=qL.enc) qL.rowsM];omega)
 ·first | rfl | (simp only[lAa,lNa,lAn];done)
 simp only[lAa,lNa,lAn,go_sem,nZa];refine qxJ (by first | rfl | (simp only[qH.ctV];done) | (simp only[qH.ctV];omega)) ?_;simp only[qH.mkV,AV.rows,nZa,lAa,lNa,lAn,W1 qD.mrk qD.ct (enc:=qD.enc) qD.rowsM,W1 qL.mrk qL.ct (enc:=qL.enc) qL.rowsM]
section
variable {bk:List qE} {m:qH} {bu:Int} {h0:List qB}
theorem qxY{xs:List Int}:AV.pls (xs.map qP)=true:=jb (enc:=qP) (λ_=>rfl) xs
theorem qxW{h:List qB}{a b a' b':AV}(c:Cvs h [a,b] [a',b']):Fin (some [a,b]) h (.tup [a',b']):=by
 unfold Fin;exact Cv.tup c.1 c.2
theorem qxZ{P:Nat->Prop}{h:List qB}{v:AV}{xs:List Int}{c:Int}(g:LsW P 1 h v (xs.map qP)):XF (some [v,iI c]) h (.tup [lQ xs,iI c]):=by
 rcases g with⟨rfl,e⟩ | ⟨id,_,rfl,g⟩
 ·(try delta lQ);rw[e];exact⟨[none],rfl,⟨.ph,trivial⟩,.tup rfl (VR2s.cons (.ph rfl) (VR2s.cons (.tree rfl) VR2s.nil)).2⟩
 ·have hl:=qp g;refine Xe (pre:=h.take id) (post:=h.drop (id+1)) (by simp[AV.pl,AV.pls,qxY]) ?_ ?_
  ·simp[ja,lay,qT,lLt,Nat.min_eq_left (Nat.le_of_lt hl)]
  ·have e:h[id]=.row 1 (xs.map qP) true:=by rw[gEg hl]at g;exact Option.some.inj g
   rw[lay,qT,qT,qT,lay,qeN];simp only[lay,lAn,lCa,lNa];rw[<-e,List.getElem_cons_drop,List.take_append_drop]
noncomputable def qxI(bk:List qE)(m:qH)(bu:Int):List Int:=if jd bk m bu=0 then(ZP bk m bu).1.tr else []
theorem c238(hl:bk.length+qx qE.sz bk<=1048576)(hz:m.sz<=1048576):Pure Gm 238 [.lst 1 (bk.map qE.enc) false,m.enc,iI bu] (.tup [lQ (qxI bk m bu),iI (jd bk m bu)]):=by
 refine Pure.intro [4] [] (gk _ F238) (by kernel_rfl) rfl (by simp[AV.trees,AV.tree,go_sem,qb qE.isSh.tree]) (by simp[AV.trees,AV.tree,qb shI.tree]) ?_;simp only[F238,qN,go_sem];refine QD rfl ?_;simp only[go_sem,lNa,lSz];refine qI (c544 hl hz) ?_;simp only[go_sem];by_cases hc:JA bk m bu=0
 case neg=>
  simp only[hc,decide_false,go_sem];have e:jd bk m bu=JA bk m bu:=by rw[jd,iN hc]
  rw[qxI,e,iN hc];exact qxW (.cons .nils (.cons (.refl rfl) .nil))
 have eC:jd bk m bu=(ZP bk m bu).2:=by rw[jd,iP hc]
 simp only[hc,go_sem];obtain⟨hb,vm,b0,b1⟩:=beg0 hc;refine qk (SCall.mono (s545 vm.szs vm.len.1) ?_);rintro _ h1 ⟨cid,cs,rv,ow,rfl,M,U,hw⟩;simp only[go_sem];refine jF (e':=mE m cid rv []) rfl ends rfl rfl ?_;simp only[go_sem];simp only[lSz];have hcl:cid≠h1.length:=λe=>by have:=qp M.c;omega
 have M2:=(M.heap (h':=(h1++[qB.row 5 [AV.agg [AV.nils,AV.int IntKind.i64 0,AV.int IntKind.i64 0,AV.int IntKind.i64 0,AV.nils]] true]).set h1.length (.row 5 [mE m cid rv []] true)) (by simp) λj hj q=>by rw[gSn (by omega),gAl hj]).mo (w:=5) (post:=[]) (mid:=h1.length) (gSs (by simp)) (by have:=M.b h1.length;omega);obtain⟨n,rfl⟩:=eOz b0;refine qk (SCall.mono (s503 (n:=0) (MH.intro M2) (by decide) vm.mi hb vm.len.2 (by omega)) ?_);rintro _ h2 ⟨ow2,rid,rfl,R,F⟩;have eG:ZP bk m ((n:Nat):Int)=goM bk n ⟨m,[],zK m,zK m⟩:=rfl;rw[<-eG]at R;rw[<-eG,<-eC];simp only[go_sem];by_cases h0:jd bk m (n:Nat)=0
 case neg=>
  simp only[h0,decide_false,go_sem];rw[qxI,iN h0];exact qxW (.cons .nils (.cons (.refl rfl) .nil))
 obtain⟨tv,e,w⟩:=R.e;simp only[h0,go_sem,e];rw[qxI,iP h0];exact qxW (.cons (w.cv (qb shI.tree _) (by decide)) (.cons (.refl rfl) .nil))
theorem n239(hl:bk.length+qx qE.sz bk<=1048576)(hz:m.sz<=1048576):Fresh Gm 239 [.lst 1 (bk.map qE.enc) false,m.enc,iI bu] (.tup [lQ (qxI bk m bu),iI (jd bk m bu)]):=by
 refine fI F239 (by simp[AV.trees,AV.tree,go_sem,qb qE.isSh.tree]) (by simp[AV.pl,AV.pls,qxY]) ?_;simp only[F239,qN,go_sem];refine qW rfl ?_;simp only[go_sem];refine qk (SCall.mono (s507 hl hz) ?_);rintro _ h1 ⟨p,rfl,R⟩;simp only[go_sem];by_cases h0:jd bk m bu=0
 case neg=>
  simp only[h0,decide_false,go_sem];rw[qxI,iN h0];exact qxZ (P:=λ_=>True) (.inl ⟨rfl,rfl⟩)
 obtain⟨rid,mid,ctid,ow,tv,rfl,R,_⟩:=R h0;simp only[h0,go_sem,R.e];rw[qxI,iP h0];exact qxZ R.t
end
def bkT(bk:List qE):AV:=.lst 1 (bk.map qE.enc) false
theorem qxR{bk:List qE}:(bkT bk).pl=true:=by simp[bkT,AV.pl,jb qE.plx]
theorem qxQ{bk:List qE}:(bkT bk).cn=true:=by simp[bkT,AV.cn,wP qE.cnx]
theorem qxS(x:qH)(n:Nat):(lay x.enc n).1.part 0 (some 5)=some (lay x.enc n).1:=zAE (qH.plx x) ⟨_,rfl⟩ rfl
theorem zAB(x:qH)(n:Nat):(lay x.enc n).1.cells.length=5:=by rw[qnB (qH.plx x)];rfl
theorem zAA(x:qH)(n:Nat):∃cs,(lay x.enc n).1=.agg cs:=⟨_,congrArg Prod.fst (qH.layE x n)⟩
theorem qx3{e:AV}{k:IntKind}{n:Int}{m:Nat}:lay (.tup [e,.int k n]) m=(.tup [(lay e m).1,.int k n],(lay e m).2):=by simp[lay,qT]
theorem qx0{bk:List qE}:∀{f:Nat}{r:Run},(goM bk f r).1.tr.length<=f+r.tr.length
 | f,r=>by
  by_cases h:r.m.R=[]
  ·rw[qdV h];simp only;omega
  ·cases f with
   | zero=>rw[qdT h];simp only;omega
   | succ f=>
    by_cases e:(doM bk r.m (r.m.R.length-1)).2.2=0
    ·rw[qdU h e];have:=qx0 (bk:=bk) (f:=f) (r:=r.go bk);have e2:(r.go bk).tr.length=r.tr.length+1:=by simp[Run.go]
     omega
    ·rw[qBM h e];simp only;omega
theorem zAM{bk:List qE}{m:qH}{bu:Int}:(qxI bk m bu).length<=4000:=by
 unfold qxI;split
 ·rename_i h;by_cases hc:JA bk m bu=0
  ·have:=qx0 (bk:=bk) (f:=bu.toNat) (r:=⟨m,[],zK m,zK m⟩);have:=(beg0 hc).2.2;simp only[ZP,lNi]at*;omega
  ·rw[jd,iN hc]at h;exact absurd h hc
 ·simp
theorem qx5{α:Type}{ct sz:α->Nat}(h:∀x,ct x<=16+16*sz x):∀xs:List α,qx ct xs<=16*xs.length+16*qx sz xs
 |[]=>nZl _
 | x::r=>by
  have:=h x;have:=qx5 h r;simp only[qx,lCo];omega
theorem qxT:∀xs:List Int,qx ctI xs=xs.length
 |[]=>rfl
 | x::r=>by rw[qx,qxT r];simp[ctI];omega
theorem lay3{a b c:AV}{n k:Nat}(h1:a.rows=n)(h2:n+b.rows=k)(pa:a.pl=true)(ca:a.cn=true)(pb:b.pl=true)(cb:b.cn=true)(pc:c.pl=true)(cc:c.cn=true):
  Cv ((lay a 0).2++((lay b n).2++(lay c k).2)) (lay a 0).1 a/\Cv ((lay a 0).2++((lay b n).2++(lay c k).2)) (lay b n).1 b/\Cv ((lay a 0).2++((lay b n).2++(lay c k).2)) (lay c k).1 c:=by
 have e1:(lay a 0).2.length=n:=by rw[jW,h1]
 have e2:((lay a 0).2++(lay b n).2).length=k:=by rw[lAp,e1,jW,h2]
 refine⟨qxK (pre:=[]) pa ca rfl, ?_, ?_⟩
 ·have:=qxK (pre:=(lay a 0).2) (post:=(lay c k).2) (h:=(lay a 0).2++((lay b n).2++(lay c k).2)) pb cb (by rw[e1]);rw[e1]at this;exact this
 ·have:=qxK (pre:=(lay a 0).2++(lay b n).2) (post:=[]) (h:=(lay a 0).2++((lay b n).2++(lay c k).2)) pc cc (by rw[e2,lAn,lAa]);rw[e2]at this;exact this
theorem c36{bk:List qE}{m:qH}{bu:Int}(hb:bk.length<=140737488355328/\(∀y∈bk,qE.bd y))(hm:m.bd):Pure Gm 36 [.lst 1 (bk.map qE.enc) false,m.enc,iI bu] (.bool true):=by
 refine pI F36 (by simp[AV.trees,AV.tree,go_sem,qb qE.isSh.tree]) rfl ?_;simp only[F36,qN,go_sem];refine qW rfl ?_;simp only[go_sem];refine qI (c181 bk hb 1048576 (by omega)) ?_;simp only[go_sem];apply qS<;>intro hc<;>simp only[hc,go_sem]
 ·exact qK rfl rfl
 have hbz:bk.length+qx qE.sz bk<=1048576:=by
  have:=odF hc;rw[wE]at this;omega
 rw[wF hbz];refine qI (c209 m hm (1048576-(bk.length+qx qE.sz bk)) (by omega)) ?_;simp only[go_sem];apply qS<;>intro hc<;>simp only[hc,go_sem]
 ·exact qK rfl rfl
 have hmz:m.sz<=1048576:=by
  have:=odF hc;rw[wE]at this;omega
 refine qI (c184 bk hbz) ?_;simp only[go_sem];refine qI (c211 m hmz) ?_;simp only[go_sem];refine qI (c238 hbz hmz) ?_;simp only[go_sem];have k1:=n239 (bu:=bu) hbz hmz;generalize hT:qxI bk m bu=T at k1;generalize jd bk m bu=C at k1;refine Ju (n184 bk hbz) ?_;simp only[go_sem];refine Ju (n211 m hmz) ?_;simp only[go_sem];refine qU (k:=5) (by rfl) (zAB _ _) (zAA _ _) (by decide) ?_;simp only[go_sem,qxS,lNa];have hA:(lay (bkT bk) 0).2.length=(bkT bk).rows:=jW _ _;have hM:∀n,(lay m.enc n).2.length=m.enc.rows:=λn=>jW _ _;have cA:∀{post:List qB},Cv ((lay (bkT bk) 0).2++post) (lay (bkT bk) 0).1 (bkT bk):=qxK (pre:=[]) qxR qxQ rfl;have cM:∀{post:List qB},Cv ((lay (bkT bk) 0).2++((lay m.enc (lay (bkT bk) 0).2.length).2++post)) (lay m.enc (lay (bkT bk) 0).2.length).1 m.enc:=qxK (qH.plx m) (qH.cnx m) rfl;have cA':=cA (post:=(lay m.enc (lay (bkT bk) 0).2.length).2);have cM':=cM (post:=[]);rw[lAn]at cM';refine XR (Cvs.cons cA' (Cvs.cons cM' (Cvs.cons (.refl rfl) Cvs.nil))) k1 ?_;have e1:(lay (AV.lst 1 (bk.map qE.enc) false) 0).2.length=(bkT bk).rows:=jW _ _;simp only[go_sem,qx3,qxS,lAp,e1,hM];have hT4:T.length<=4000:=hT▸zAM;have pT:(AV.lst 1 (T.map qP) false).pl=true:=by simp[AV.pl,qxY]
 have cT:∀{T:List Int},(AV.lst 1 (T.map qP) false).cn=true:=by intro T;simp[AV.cn,wP (enc:=qP) (λ_=>rfl)]
 obtain⟨x1,x2,x3⟩:=lay3 (n:=(bkT bk).rows) (k:=(bkT bk).rows+m.enc.rows) rfl rfl qxR qxQ (qH.plx m) (qH.cnx m) pT cT;simp only[lAa];refine Jv (Cvs.cons x3 (Cvs.cons (.refl (qb shI.tree _)) Cvs.nil)) (c86 T (by omega)) rfl ?_;simp only[go_sem,beq_self_eq_true];refine qI (c184 bk hbz) ?_;simp only[go_sem];refine Jv (Cvs.cons x1 (Cvs.cons (.refl (qb qE.isSh.tree _)) Cvs.nil)) (c187 bk (by omega)) rfl ?_;simp only[go_sem,qxS];refine qI (c211 m hmz) ?_;simp only[go_sem];refine Jv (Cvs.cons x2 (Cvs.cons (.refl qH.tr) Cvs.nil)) (c213 m (by omega)) rfl ?_;simp only[go_sem];have hctm:=m.ctVle;have hctb:=qx5 (λx=>qE.ctle x) bk;refine qxH (k225 bk 1 (by omega) (by omega) (by omega)) (pre:=[]) (post:=(lay m.enc (bkT bk).rows).2++(lay (AV.lst 1 (T.map qP) false) ((bkT bk).rows+m.enc.rows)).2) rfl rfl rfl ?_;have mb:=k225 bk 1 (by omega) (by omega) (by omega);have mm:=k240 m (1+(qx qE.ct bk:Nat)) (by omega) (by omega) (by omega);have mt:=k90 T 1 (by omega) (by rw[qxT];omega) (by omega);have rb:(bkT (mkL qE.mrk qE.ct bk 1)).rows=(bkT bk).rows:=mb.2.2.1;simp only[go_sem,qxS];refine qxH (E:={Γ:=Gm,b:=0,fz:=[],bp:=[]}) mm (pre:=(lay (bkT (mkL qE.mrk qE.ct bk 1)) 0).2) (post:=(lay (AV.lst 1 (T.map qP) false) ((bkT bk).rows+m.enc.rows)).2) (by rw[jW,rb]) rfl rfl ?_;obtain⟨y1,y2,y3⟩:=lay3 (n:=(bkT bk).rows) (k:=(bkT bk).rows+m.enc.rows) rb (show (bkT bk).rows+(m.mkV (1+(qx qE.ct bk:Nat))).enc.rows=_ by rw[mm.2.2.1]) qxR qxQ (qH.plx (m.mkV (1+(qx qE.ct bk:Nat)))) (qH.cnx _) pT cT;have hk:decide (1+((qx qE.ct bk:Nat):Int)+(m.ctV:Nat)<0)=false:=dEf (by omega);simp only[go_sem,hk];refine Jv (Cvs.cons y3 (Cvs.cons (.refl (qb shI.tree _)) Cvs.nil)) (c86 T (by omega)) rfl ?_;simp only[go_sem,beq_self_eq_true];refine qxH (E:={Γ:=Gm,b:=0,fz:=[],bp:=[]}) mt (n:=(bkT bk).rows+m.enc.rows) (pre:=(lay (bkT (mkL qE.mrk qE.ct bk 1)) 0).2++(lay (m.mkV (1+(qx qE.ct bk:Nat))).enc (bkT bk).rows).2) (post:=[]) (by rw[lAp,jW,jW,rb,mm.2.2.1]) (by simp[bkT]) rfl ?_;simp only[go_sem];obtain⟨z1,z2,z3⟩:=lay3 (n:=(bkT bk).rows) (k:=(bkT bk).rows+m.enc.rows) rb (show (bkT bk).rows+(m.mkV (1+(qx qE.ct bk:Nat))).enc.rows=_ by rw[mm.2.2.1]) qxR qxQ (qH.plx (m.mkV (1+(qx qE.ct bk:Nat)))) (qH.cnx _) mt.2.1 cT;have e5:∀n,(lay (AV.lst 1 (T.map qP) false) n).1=(lay (AV.lst 1 ((mkL mkI ctI T 1).map qP) false) n).1:=λn=>by simp[lay,qxF]
 rw[<-e5]at z3;simp only[lAn,lAa];refine Jv (Cvs.cons z3 (Cvs.cons (.refl rfl) Cvs.nil)) (q92 T 1 (by omega) (by rw[qxT];omega) (by omega)) rfl ?_;have hk2:decide (1+((qx ctI T:Nat):Int)<0)=false:=dEf (by omega);simp only[go_sem,hk2,beq_self_eq_true];refine qI (c184 bk hbz) ?_;simp only[go_sem];refine qI (c211 m hmz) ?_;simp only[go_sem];refine Ju k1 ?_;have w4:∀{post:List qB},Cv ((lay (bkT (mkL qE.mrk qE.ct bk 1)) 0).2++((lay (m.mkV (1+(qx qE.ct bk:Nat))).enc (bkT bk).rows).2++((lay (AV.lst 1 ((mkL mkI ctI T 1).map qP) false) ((bkT bk).rows+m.enc.rows)).2++post))) (lay (AV.lst 1 (T.map qP) false) ((bkT bk).rows+m.enc.rows)).1 (lQ (mkL mkI ctI T 1)):=λ{post}=>by
  have e:((lay (bkT (mkL qE.mrk qE.ct bk 1)) 0).2++(lay (m.mkV (1+(qx qE.ct bk:Nat))).enc (bkT bk).rows).2).length=(bkT bk).rows+m.enc.rows:=by rw[lAp,jW,jW,rb,mm.2.2.1]
  rw[e5];have:=qxK (pre:=(lay (bkT (mkL qE.mrk qE.ct bk 1)) 0).2++(lay (m.mkV (1+(qx qE.ct bk:Nat))).enc (bkT bk).rows).2) (post:=post) mt.2.1 cT rfl;rw[e,lAa]at this;exact this
 generalize hX:(lay (bkT (mkL qE.mrk qE.ct bk 1)) 0).2++((lay (m.mkV (1+(qx qE.ct bk:Nat))).enc (bkT bk).rows).2++(lay (AV.lst 1 ((mkL mkI ctI T 1).map qP) false) ((bkT bk).rows+m.enc.rows)).2)=X;have w5:Cv (X++(lay (AV.lst 1 (T.map qP) false) X.length).2) (lay (AV.lst 1 (T.map qP) false) ((bkT bk).rows+m.enc.rows)).1 (lQ (mkL mkI ctI T 1)):=by
  have:=w4 (post:=(lay (AV.lst 1 (T.map qP) false) X.length).2);rw[<-hX]at this|-;simp only[lAa]at this|-;exact this
 simp only[go_sem,qx3];refine Jv (Cvs.cons (qxK (pre:=X) (post:=[]) pT cT (by simp)) (Cvs.cons (.refl (qb shI.tree _)) Cvs.nil)) (c86 T (by omega)) rfl ?_;simp only[go_sem,beq_self_eq_true];refine Jv (Cvs.cons w5 (Cvs.cons (.refl rfl) Cvs.nil)) (q92 T 1 (by omega) (by rw[qxT];omega) (by omega)) rfl ?_;simp only[go_sem,hk2,beq_self_eq_true];exact qK rfl rfl
end Go.Ab
