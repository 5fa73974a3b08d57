/- Texts AbZ .. AbZ: the abstract machine, its laws and contracts of functions: lemmas for the statement. No condition. -/
import Derived.Carry
import Derived.ChangeArms
import Derived.ChangeSame
import Derived.JoinedOf
import Derived.OpenShut
import Derived.RowKit3
import Derived.SizedLaws
import Derived.WideKeyArgs
import Derived.Test.YtifmaamaodjfjaaGreatP2
import Derived.Test.YtifmaamaodjfjaaGreatP4
set_option linter.unusedSimpArgs false
set_option linter.unusedVariables false
namespace Go.Ab
open Go
theorem qlA {P : Program} {f : FuncId} {fn : Func} {c : Code} (hf : P.funcs[f]? = some fn) (hname : (fn.name == "runtime.NumGoroutine") = false) (hb : fn.body = some c) (args : Array Value) (w : World) :
  (callFunc f args).run P w=.ok (.enter f args) w:=by
 have h1 : fn.name ≠ "runtime.NumGoroutine" := by simpa using hname
 simp[callFunc,hf,h1,hb]
def YN (S : qV) (g : Nat) (F : qJ) : Prop := ∃ fn, S.P.funcs[S.N.f g]? = some fn ∧ (fn.name == "runtime.NumGoroutine") = false ∧ Zl S F fn = true
def WB(S:qV):List (Nat×qJ)->Prop
 |[]=>True
 | (g,F)::r=>YN S g F/\WB S r
theorem Xf{S:qV}:∀{tab:List (Nat×qJ)},WB S tab->∀{g:Nat}{x:AFn},Q5 g tab=some x->∃F,x=.fn F/\YN S g F
 |[],_,g,x,h=>by cases h
 | (k,F)::r,hf,g,x,h=>by
  simp only[Q5]at h;cases hk:Nat.beq k g with
  | true=>
   rw[hk]at h;have:k=g:=Nat.eq_of_beq_eq_true hk;subst this;simp only[cond_true,oSi]at h;exact⟨F,h.symm,hf.1⟩
  | false=>
   rw[hk]at h;exact Xf hf.2 h
def qIE(g:Nat):List (Nat×Nat)->Nat
 |[]=>0
 | (k,n)::r=>bif Nat.beq k g then n else qIE g r
theorem qlK {S : qV} {P : Program} {g k : Nat} {F : qJ} {fn : Func} (hN : S.N.f g = k) (hP : S.P = P) (hf : P.funcs[k]? = some fn) (hn : (fn.name == "runtime.NumGoroutine") = false) (hm : Zl S F fn = true) : YN S g F :=
 ⟨fn,by rw[hN,hP];exact hf,hn,hm⟩
section
variable {S:qV} {Γ:Nat->Option AFn} {tab:List (Nat×qJ)}
theorem qlV(hΓ:∀g,Γ g=Q5 g tab)(hf:WB S tab):GOK Γ:=λg R hg=>by
 rw[hΓ]at hg;obtain⟨F,h,_⟩:=Xf hf hg;cases h
theorem qlL(hΓ:∀g,Γ g=Q5 g tab)(hf:WB S tab):YM S Γ where
 fn:=λg F hg=>by
  rw[hΓ]at hg;obtain⟨F',h,fn,h1,_,h2⟩:=Xf hf hg;cases h;exact⟨fn,h1,h2⟩
 ext:=λg R hg=>by
  rw[hΓ]at hg;obtain⟨F,h,_⟩:=Xf hf hg;cases h
theorem qmM(hΓ:∀g,Γ g=Q5 g tab)(hf:WB S tab):QL S Γ:=λg hg args w=>by
 rw[hΓ]at hg;obtain⟨x,hx⟩:=Option.ne_none_iff_exists'.1 hg;obtain⟨F,_,fn,h1,hn,h2⟩:=Xf hf hx;unfold Zl at h2;cases hb:fn.body with
 | none=>rw[hb]at h2;cases h2
 | some c=>exact qlA h1 hn hb args w
end
def fz0(W:World):Mp:=⟨λ_=>none,λb=>match W.heap[b]? with
 | some (.cells c _ _)=>some c
 | _=>none⟩
theorem qlT{N:zB}{W:World}:HR N (fz0 W) AH.empty W where
 at':=λid o h=>by cases h
 none':=λ_ _=>rfl
 apart:=λi j o o' p q h=>by cases h
 zz:=λb c h=>by
  refine⟨?_,λid o p h=>by cases h⟩;simp only[fz0]at h;split at h
  ·rename_i c' e fz hh;cases h;exact⟨e,fz,hh⟩
  ·cases h
theorem qm8{v:AV}(hl:v.leaf=true){r:AV}(h:RelV ρ0 v r):r=v:=Y8 _ _ hl h
theorem qmP{S:qV}{Γ:Nat->Option AFn}(hG:GOK Γ)(hK:QL S Γ)(hF:YM S Γ){g:Nat}{as:List AV}{b:Bool}(hp:Pure Γ g as (.bool b)){W:World}{vs:Array Value}
  (hv:VRs S.N (fz0 W) as vs.toList):Calls S.P (S.N.f g) vs W λe w'=>e=.returned (.bool b)/\RowKit.Below W.heap.size W w':=by
 unfold Pure at hp;obtain⟨t1,t2,hp⟩:=hp;obtain⟨k,r,hr',h1,h2,h3,h4⟩:=hp AH.empty as (Z1 _ t1);have hr:=qm8 rfl h4;subst hr;refine Calls.mono (qjO hG hK hF k g as _ _ _ h1 (fz0 W) W vs qlT hv) ?_;rintro e w' ⟨m',hfr,_,u,rfl,hu⟩;simp only[VR]at hu;subst hu;exact⟨rfl,hfr.os,hfr.tape,hfr.output,hfr.size,λi hi=>(hfr.keep i hi (λid o p h=>by cases h)).1⟩
section
variable {H:Type} (enc:TypeId×Value->H) (N:zB) (P:Program) (W:World)
def RdL(as:List AV)(cs:List Value):Prop:=VRs N (fz0 W) as cs/\as.all AV.sc=true
def Wt(t:TypeId)(d:DataW H):Prop:=∀n∈d.weights P t,n<=reachBytes
def Rd{α:Type}(t:TypeId)(e:α->AV)(bd:α->Prop):Prop:=∀fuel cs d,DataW.trod enc P W 0 (λ_=>true) true fuel t cs=some d->Wt P t d.1->∃x,RdL N W (e x).cells cs/\bd x
def RdB{α:Type}(m:Nat)(t:TypeId)(e:α->AV)(bd:α->Prop):Prop:=∀fuel,fuel<m->∀cs d,DataW.trod enc P W 0 (λ_=>true) true fuel t cs=some d->Wt P t d.1->∃x,RdL N W (e x).cells cs/\bd x
variable {enc N P W}
theorem qpH{t:TypeId}{k:IntKind}(ht:P.underlying t=some (.int k)):Rd enc N P W t (λn:Int=>.int k n) (λn=>(Lit.int k n).wf=true):=λfuel cs d h _=>by
 obtain⟨n,rfl,_,hw⟩:=DataW.trod_int ht h;refine⟨n,⟨?_,rfl⟩,hw⟩;simp only[AV.cells,VRs,VR];exact⟨_,_,rfl,rfl,rfl⟩
theorem RdL.nil{cs:List Value}{o:Nat}(h:cs.length<=o):RdL N W [] (cs.drop o):=by
 rw[List.drop_eq_nil_of_le h];exact⟨by simp only[VRs],rfl⟩
theorem RdL.cat{as bs:List AV}{cs:List Value}{o n:Nat}(h:RdL N W as ((cs.drop o).take n))(k:RdL N W bs (cs.drop (o+n))):RdL N W (as++bs) (cs.drop o):=by
 refine⟨?_,by simp[h.2,k.2]⟩;have e:cs.drop o=(cs.drop o).take n++cs.drop (o+n):=by
  rw[<-List.drop_drop,List.take_append_drop]
 rw[e];exact h.1.append k.1
theorem RdL.val{a:AV}{cs:List Value}(h:RdL N W a.cells cs)(hl:0<a.cells.length):∃u:Value,VR N (fz0 W) a u/\u.cells.toList=cs:=by
 by_cases hag:∃xs,a=.agg xs
 ·obtain⟨xs,rfl⟩:=hag;refine⟨.agg cs.toArray, ?_,by simp[Value.cells]⟩;simp only[VR];exact⟨_,rfl,h.1,h.2⟩
 ·have hc:a.cells=[a]/\a.sc=true:=by
   cases a<;>first
    | exact⟨rfl,rfl⟩
    | exact absurd ⟨_,rfl⟩ hag
    | (simp[AV.cells]at hl;done)
  obtain⟨h1,h2⟩:=h;rw[hc.1]at h1;simp only[VRs]at h1;obtain⟨u,us,rfl,h3,rfl⟩:=h1;exact⟨u,h3,by rw[h3.sc_cells hc.2]⟩
theorem qAV{base:Nat}{a:Addr}{n:Nat}{cs:List Value}(h:W.cells? base a n=some cs):cs.length=n/\∀i,i<n->W.cell? (a.add i)=cs[i]?:=by
 obtain⟨_,h1,h2⟩:=World.cells?_some h;exact⟨h1,h2⟩
theorem qqR{base k:Nat}{a:Addr}{w:Nat}{cs:List Value}(h0:0<w)(h:W.cells? base (a.add ((0+0)*k)) w=some cs):a.spot=none:=by
 obtain⟨hl0,hcell0⟩:=qAV h;have hq:=hcell0 0 h0;have e00:(a.add ((0+0)*k)).add 0=a:=by simp[Addr.add]
 rw[e00,gEg (by omega)]at hq;obtain⟨b,o,s⟩:=a;simp only[World.cell?]at hq;split at hq
 ·split at hq
  ·cases hq
  ·rename_i hs;cases s<;>simp_all
 ·cases hq
theorem qIA{α:Type}{p:Nat->α->Prop}:∀n:Nat,(∀i:Nat,i<n->∃x,p i x)->∃xs:List α,xs.length=n/\∀(i:Nat)(h:i<xs.length),p i xs[i]
 | 0,_=>⟨[],rfl,λi h=>by simp at h⟩
 | n+1,h=>by
  obtain⟨xs,h1,h2⟩:=qIA n λi hi=>h i (by omega);obtain⟨x,hx⟩:=h n (by omega);refine⟨xs++[x],by simp[h1],λi hi=>?_⟩;rcases Nat.lt_or_ge i xs.length with q | q
  ·rw[List.getElem_append_left q];exact h2 i q
  ·have:i=n:=by simp at hi;omega
   subst this;rw[List.getElem_append_right q];simpa using hx
theorem qLU{e':TypeId}:∀{l:List (DataW H)}{d:DataW H},d∈l->∀n∈d.weights P e',n∈DataW.weightsAll P e' l
 | x::l,d,hd,n,hn=>by
  simp only[DataW.weightsAll,jL];rcases mCo.1 hd with rfl | hd
  ·exact .inl hn
  ·exact .inr (qLU hd n hn)
 |[],_,hd,_,_=>by cases hd
theorem qpI{α:Type}{m0:Nat}{t e':TypeId}{w:Nat}{e:α->AV}{bd:α->Prop}(ht:P.underlying t=some (.slice e'))(hw:P.cellsOf e'=w)(h0:0<w)(hl:∀x,(e x).cells.length=w)(hb:0<P.bytesOf e')
  (he:RdB enc N P W m0 e' e bd):RdB enc N P W (m0+1) t (λxs:List α=>.lst w (xs.map e) false) (λxs=>xs.length<=140737488355328/\∀x∈xs,bd x):=λfuel hfu cs d h hwt=>by
 rcases DataW.trod_slice ht h with⟨rfl,_⟩ | ⟨a,len,cap,elems,rest,n,rfl,rfl,rfl,_,hlc,_,hel,hat,hrs,_⟩
 ·refine⟨[],⟨?_,rfl⟩,by simp⟩;simp only[List.map_nil,AV.cells,VRs,VR];exact⟨_,_,rfl,⟨none,0,rfl,by simp,λh=>by simp at h,.inl ⟨trivial,λ_=>rfl,λx hx=>by cases hx⟩⟩,rfl⟩
 ·rw[hw]at hat;obtain⟨xs,hxl,hx⟩:=qIA (p:=λi (x:α)=>∃ci,W.cells? 0 (a.add (i*w)) w=some ci/\RdL N W (e x).cells ci/\bd x) len λi hi=>by
   have h1:=hat i hi;rw[gEg (by omega)]at h1;simp only[Option.bind_eq_some_iff]at h1;obtain⟨ci,h1,h2⟩:=h1;obtain⟨x,h3,h4⟩:=he _ (by omega) _ _ h2 (λm hm=>hwt m (by
    simp only[DataW.weights,ht,mCo,jL];exact .inr (.inl (qLU (List.mem_map.2 ⟨_,gMm (by omega),rfl⟩) m hm))))
   exact⟨x,ci,h1,h3,h4⟩
  have hm:len<=140737488355328:=by
   have h1:=hwt _ (by simp only[DataW.weights,ht];exact lMs ..);have h2:reachBytes<=140737488355328:=by decide
   have h3:=Nat.le_mul_of_pos_right ((elems.map (·.1)).length+(rest.map (·.1)).length) hb;simp only[lMp]at h1 h3;omega
  refine⟨xs,⟨?_,rfl⟩,by omega,λx hm=>?_⟩
  ·simp only[AV.cells,VRs];refine⟨_,_,rfl, ?_,rfl⟩;simp only[VR];refine⟨some a,cap,by rw[lMp,hxl],by rw[lMp,hxl];exact hlc,λq=>by simp at q, ?_⟩;rcases Nat.eq_zero_or_pos len with hz | hz
   ·refine .inl ⟨?_,(λq=>nomatch q),λx hx hc=>?_⟩
    ·rw[List.map_eq_nil_iff];exact lEz (by omega)
    ·cases hx;obtain⟨q1,q2⟩:=hrs rfl;have q3:=q2 0 (by omega);rw[gEg (by omega)]at q3;simp only[Option.bind_eq_some_iff]at q3;obtain⟨c0,hc0,_⟩:=q3;rw[hw,hz]at hc0;exact qqR h0 hc0
   ·right;obtain⟨c0,hc0,_,_⟩:=hx 0 (by omega);obtain⟨hl0,hcell0⟩:=qAV hc0;have hq:=hcell0 0 h0;have e00:(a.add (0*w)).add 0=a:=by simp[Addr.add]
    rw[e00,gEg (by omega)]at hq;obtain⟨b,o,s⟩:=a;have hblk:∃c ty fz,W.heap[b]?=some (.cells c ty fz)/\s=none:=by
     simp only[World.cell?]at hq;split at hq
     ·rename_i c ty fz hh;split at hq
      ·cases hq
      ·rename_i hs;exact⟨c,ty,fz,hh,by cases s<;>simp_all⟩
     ·cases hq
    obtain⟨c,ty,fz,hh,rfl⟩:=hblk;refine⟨b,o,c,rfl,by simp only[fz0,hh], ?_⟩;have cell:∀k,W.cell? ⟨b,k,none⟩=c[k]?:=λk=>by simp[World.cell?,hh]
    have adds:∀k,(⟨b,o,none⟩:Addr).add k=⟨b,o+k,none⟩:=λk=>by
     unfold Addr.add;split
     ·subst_vars;rfl
     ·rfl
    have all:∀(i:Nat)(hi:i<xs.length),∃u,VR N (fz0 W) (e xs[i]) u/\(e xs[i]).cells.length=w/\0<w/\∀j,j<w->c[o+i*w+j]?=u.cells[j]?:=λi hi=>by
     obtain⟨ci,h1,h2,_⟩:=hx i hi;obtain⟨h3,h4⟩:=qAV h1;obtain⟨u,h5,h6⟩:=h2.val (by rw[hl];exact h0);refine⟨u,h5,hl _,h0,λj hj=>?_⟩;have:=h4 j hj;rw[adds]at this;have e2:(⟨b,o+i*w,none⟩:Addr).add j=⟨b,o+i*w+j,none⟩:=by
      unfold Addr.add;split
      ·subst_vars;rfl
      ·rfl
     rw[e2,cell]at this;rw[this,<-h6];simp
    have gen:∀(ys:List α)(k:Nat),(∀(i:Nat)(hi:i<ys.length),∃u,VR N (fz0 W) (e ys[i]) u/\(e ys[i]).cells.length=w/\0<w/\∀j,j<w->c[k+i*w+j]?=u.cells[j]?)->VRe N (fz0 W) w (ys.map e) c k:=by
     intro ys
     induction ys with
     | nil=>intro k _;simp only[List.map_nil,VRe]
     | cons y ys ih=>
      intro k hk;simp only[lMc,VRe];refine⟨?_,ih (k+w) λi hi=>?_⟩
      ·obtain⟨u,h1,h2,h3,h4⟩:=hk 0 (by simp);exact⟨u,h1,h2,h3,λj hj=>by have:=h4 j hj;simpa using this⟩
      ·obtain⟨u,h1,h2,h3,h4⟩:=hk (i+1) (by simpa using hi);refine⟨u,by simpa using h1,by simpa using h2,h3,λj hj=>?_⟩;have:=h4 j hj;rw[<-this];congr 1;rw[Nat.add_mul];omega
    exact gen xs o all
  ·obtain⟨i,hi,rfl⟩:=List.getElem_of_mem hm;obtain⟨_,_,_,h⟩:=hx i hi;exact h
theorem Vj{α:Type}{t e':TypeId}{w:Nat}{e:α->AV}{bd:α->Prop}(ht:P.underlying t=some (.slice e'))(hw:P.cellsOf e'=w)(h0:0<w)(hl:∀x,(e x).cells.length=w)(hb:0<P.bytesOf e')
  (he:Rd enc N P W e' e bd):Rd enc N P W t (λxs:List α=>.lst w (xs.map e) false) (λxs=>xs.length<=140737488355328/\∀x∈xs,bd x):=λfuel cs d h hwt=>
 qpI (m0:=fuel) ht hw h0 hl hb (λk _=>he k) fuel (by omega) cs d h hwt
theorem qCX{t:TypeId}{fs:Array Field}{n fuel:Nat}{cs:List Value}{d}(ht:P.underlying t=some (.struct fs))(hn:P.cellsOf t=n)(h:DataW.trod enc P W 0 (λ_=>true) true fuel t cs=some d)(hwt:Wt P t d.1):
  cs.length=n/\∀(i:Nat)(f:Field),fs[i]?=some f->∃k y,DataW.trod enc P W 0 (λ_=>true) true k f.type ((cs.drop f.offset).take (P.cellsOf f.type))=some y/\Wt P f.type y.1:=by
 obtain⟨xs,k,rfl,rfl,h1,h2,h3⟩:=DataW.trod_struct ht h;refine⟨by omega,λi f hf=>?_⟩;have hi:i<xs.length:=by
  have:=(aSi.1 hf).1;omega
 refine⟨k,xs[i],by rw[h3 i f hf,gEg hi],λm hm=>hwt m ?_⟩;simp only[DataW.weights,ht];refine DataW.weights_mem_each (j:=i) (t:=f.type) (d:=xs[i].1) ?_ ?_ m hm
 ·rw[gMp,Array.getElem?_toList,hf];rfl
 ·rw[gMp,gEg hi];rfl
theorem ZK{α:Type}{ft:TypeId}{fs:Array Field}{cs:List Value}{e:α->AV}{bd:α->Prop}(hf:∀(i:Nat)(f:Field),fs[i]?=some f->∃k y,DataW.trod enc P W 0 (λ_=>true) true k f.type ((cs.drop f.offset).take (P.cellsOf f.type))=some y/\Wt P f.type y.1)
  (i off n:Nat) {f:Field} (hi:fs[i]?=some f) (hft:f.type=ft) (ho:f.offset=off) (hn:P.cellsOf ft=n) (he:Rd enc N P W ft e bd):∃x,RdL N W (e x).cells ((cs.drop off).take n)/\bd x:=by
 obtain⟨k,y,hy,hw⟩:=hf i f hi;rw[hft,ho,hn]at hy;rw[hft]at hw;exact he _ _ _ hy hw
def RdA{α:Type}(N:zB)(W:World)(e:α->AV)(bd:α->Prop)(v:Value):Prop:=∃x,VR N (fz0 W) (e x) v/\bd x
theorem qh8{α:Type}{t:TypeId}{fs:Array Field}{e:α->AV}{bd:α->Prop}{v:Value}{d}{ps:List MemPlace}(ht:P.underlying t=some (.struct fs))(he:∀x,∃cs,e x=.agg cs)(hr:Rd enc N P W t e bd)
  {b:Nat} (hok:Value.okWide P W .any b t v) (h:DataW.Trod enc P W 0 (λ_=>true) true t v d ps) (hwt:Wt P t d):RdA N W e bd v:=by
 obtain⟨fuel,h⟩:=h;unfold Value.okWide at hok;rw[ht]at hok;obtain⟨cs,rfl,_,_⟩:=hok;obtain⟨x,h1,h2⟩:=hr _ _ _ h hwt;refine⟨x, ?_,h2⟩;obtain⟨as,ha⟩:=he x;rw[ha]at h1|-;simp only[VR];exact⟨cs,rfl,h1.1,h1.2⟩
theorem qh6{t:TypeId}{k:IntKind}{v:Value}{d}{ps:List MemPlace}(ht:P.underlying t=some (.int k))
  {b:Nat} (hok:Value.okWide P W .any b t v) (h:DataW.Trod enc P W 0 (λ_=>true) true t v d ps):RdA N W (λn:Int=>.int k n) (λn=>(Lit.int k n).wf=true) v:=by
 obtain⟨n,rfl,_,_,hw⟩:=ChangeShapes.open_int ht hok h;exact⟨n,by simp only[VR],hw⟩
end
section
variable {H:Type} {enc:TypeId×Value->H} {P:Program} {W W':World}
theorem qEH(hl:laidOutB P=true)(hb:RowKit.Below W.heap.size W W'){sp:Nat->Bool}:∀{ts:List TypeId}{vs:List Value}{ds:List (DataW H)}{ps:List MemPlace},
  (∀t∈ts,P.readableRec t=true/\t<P.types.size)->DataW.TrodAll enc P W 0 (λ_=>true) true ts vs ds ps->(∀p∈ps,sp p.block=true)->DataW.TrodAll enc P W' 0 sp true ts vs ds ps
 |[],vs,ds,ps,_,h,_=>by
  obtain⟨rfl,rfl,rfl⟩:=ChangeShapes.trodAll_nil h;exact ChangeShapes.trodAll_mk0
 | t::ts,vs,ds,ps,ht,h,hs=>by
  obtain⟨v,vs',d,ds',p,q,rfl,rfl,rfl,h1,h2⟩:=ChangeShapes.trodAll_cons h;obtain⟨r1,r2⟩:=ht t (by simp);have hlt:∀x∈p,x.block<W.heap.size:=λx hx=>(ChangeShapes.trodAll_mk1 h1).lt x (by simpa using hx);exact⟨p,q,WideElems.Trod_stays hl r1 r2 h1 (λx hx=>hb.same (hlt x hx)) (λx hx=>hs x (by simp[hx])),qEH hl hb (λt ht'=>ht t (by simp[ht'])) h2 (λx hx=>hs x (by simp[hx])),rfl⟩
theorem qmR{f:Func}{s:ChangeSpec}{args:Array Value}{ds gs:List (DataW H)}{before:List MemPlace}{tb:TypeId}(hsv:s.vars=[])
  (hW:DataW.Whole enc P f.params.toList s.vars false W args.toList ds gs before) (hl:laidOutB P=true) (hrow:∀t∈f.params.toList,P.readableRec t=true/\t<P.types.size)
  (hr:f.resultTypes= #[tb]) (htb:P.underlying tb=some .bool) (hs:(s.fn H ds).results=[.lit (.bool true)]/\(s.fn H ds).args=ds/\(s.fn H ds).vars=[]) (hb:RowKit.Below W.heap.size W W'):
  s.post enc P f false true false false W args (.bool true) W':=by
 have hW':=hW;have hlt:∀p∈before,p.block<W.heap.size:=λp hp=>hW.lt p hp;obtain⟨pa,q,hA,hV,rfl,hz,hn⟩:=hW;rw[hsv]at hV;obtain⟨rfl,rfl⟩:=ChangeShapes.trodVars_none hV;have hres:∀(b:Nat)(sp:Nat->Bool)(hd:Bool),DataW.TrodAll enc P W' b sp hd f.resultTypes.toList ((Value.bool true).resultList f.resultTypes.size) (s.fn H (ds++[])).results []:=λb sp hd=>by
  rw[hr,lAn,hs.1];exact ChangeShapes.trodAll_mk1 (RowKit.shut_bool htb true)
 have hargs:∀sp:Nat->Bool,(∀p∈pa++[],sp p.block=true)->DataW.TrodAll enc P W' 0 sp true f.params.toList args.toList (s.fn H (ds++[])).args pa:=λsp hsp=>by
  rw[lAn,hs.2.1];exact qEH hl hb hrow hA (by simpa using hsp)
 have hvars:∀sp:Nat->Bool,DataW.TrodVars enc P W' sp s.vars (s.fn H (ds++[])).vars []:=λsp=>by
  rw[hsv,lAn,hs.2.2];rfl
 have hold:∀p∈pa++[],(λb=>decide (b<W.heap.size)) p.block=true:=λp hp=>by simpa using hlt p hp
 refine⟨ds,[],pa++[],[],pa,[],hW',hres _ _ _,hargs _ hold,hvars _,World.keptBut_mono (λp hp=>⟨hp,by simpa using hp⟩) (hb.frame (· ∈pa++[])),λ_=>?_⟩;refine⟨RowKit.ok_one hr rfl (RowKit.okWide_bool_mk htb true),_,_,([]++pa)++[],⟨[]++pa,[],ChangeShapes.trodAll_append (hargs _ (λ_ _=>rfl)) (hres _ _ _),hvars _,rfl,λb off hp=>?_,λha=>by cases ha⟩,λp hp _=>by simpa using hp⟩;have hin:MemPlace.cell b off∈pa++[]:=by simpa using hp
 rw[hb.frozen (hlt _ hin)];exact hz b off hin
theorem qmQ{C:Checked}{os:Os}(started:os.Started){f:FuncId}{fn:Func}{s:ChangeSpec}{tb:TypeId}(own:ownKnob C.prog.godebug=none)(noInit:C.prog.inits.idxOf? f=none)(hfn:C.prog.funcs[f]?=some fn)
  (witness:∃(w:World)(tape:Tape)(i:Input),w.os=os/\(w.forCall tape i).Shaped C.prog/\i.vars=[]/\Input.okWide C.prog (w.forCall tape i) .any w.heap.size f i/\
   s.pre6 enc C.prog fn [] false (w.forCall tape i).memory i.args/\({}:Assume).holds C.prog (lone (Frame.enter C.prog f i.args .normal) [] (w.forCall tape i)))
  (hl:laidOutB C.prog=true) (hrow:∀t∈fn.params.toList,C.prog.readableRec t=true/\t<C.prog.types.size) (hsv:s.vars=[]) (hr:fn.resultTypes= #[tb]) (htb:C.prog.underlying tb=some .bool)
  (hs:∀ds:List (DataW H),ds.length=fn.params.size->(s.fn H ds).results=[.lit (.bool true)]/\(s.fn H ds).args=ds/\(s.fn H ds).vars=[])
  (Qv:∀(W:World)(base:Nat)(args:Array Value)(ds:List (DataW H))(ps:List MemPlace),(∀(j:Nat) t v,fn.params[j]?=some t->args[j]?=some v->Value.okWide C.prog W .any base t v)->
   DataW.TrodAll enc C.prog W 0 (λ_=>true) true fn.params.toList args.toList ds ps->(∀n∈DataW.weightsEach C.prog fn.params.toList ds,n<=reachBytes)->
   Calls C.prog f args W λe W'=>e=.returned (.bool true)/\RowKit.Below W.heap.size W W'):
  ReturnsInHanded {} C os f .any (s.pre6 enc C.prog fn [] false) (s.post enc C.prog fn false true false false):=by
 refine returnsInHanded_of_change_sized own started noInit hfn witness ?_;intro W base args ds gs before hval hW _ hwt _;have hW':=hW;obtain⟨p,q,hA,hV,rfl,_,_⟩:=hW;rw[hsv]at hV;obtain⟨rfl,rfl⟩:=ChangeShapes.trodVars_none hV;have hlen:ds.length=fn.params.size:=by
  have key:∀{ts:List TypeId}{vs:List Value}{ds:List (DataW H)}{ps:List MemPlace},DataW.TrodAll enc C.prog W 0 (λ_=>true) true ts vs ds ps->ds.length=ts.length:=by
   intro ts
   induction ts with
   | nil=>intro vs ds ps h;obtain⟨_,rfl,_⟩:=ChangeShapes.trodAll_nil h;rfl
   | cons t ts ih=>
    intro vs ds ps h;obtain⟨v,vs',d,ds',p,q,rfl,rfl,rfl,_,h2⟩:=ChangeShapes.trodAll_cons h;simp[ih h2]
  simpa using key hA
 have hw:∀n∈DataW.weightsEach C.prog fn.params.toList ds,n<=reachBytes:=by
  have hv0:s.plain.varTypes C.prog=[]:=by
   have:s.plain.vars=[]:=hsv;simp[DataSpec.varTypes,this]
  rw[hv0,lAn,lAn]at hwt;intro n hn;simpa using lAt.1 hwt n hn
 refine(Qv W base args ds p hval hA hw).mono ?_;rintro e W' ⟨rfl,hb⟩;exact⟨_,rfl,qmR hsv hW' hl hrow hr htb (hs ds hlen) hb⟩
end
end Go.Ab
