/- Texts AbZ .. AbZ: the abstract machine, its laws and contracts of functions: lemmas for the statement. No condition. -/
import Derived.Carry
import Derived.ChangeArms
import Derived.ChangeSame
import Derived.JoinedOf
import Derived.OpenShut
import Derived.RowKit3
import Derived.SizedLaws
import Derived.WideKeyArgs
import Derived.Test.YtdcoliamajikfaaGreatDoorP3
import Derived.Test.YtdcoliamajikfaaGreatDoorP5
set_option linter.unusedSimpArgs false
set_option linter.unusedVariables false
namespace Go.Ab
open Go
theorem enter_run {P : Program} {f : FuncId} {fn : Func} {c : Code} (hf : P.funcs[f]? = some fn) (hname : (fn.name == "runtime.NumGoroutine") = false) (hb : fn.body = some c) (args : Array Value) (w : World) :
    (callFunc f args).run P w=.ok (.enter f args) w:=by
  have h1 : fn.name ≠ "runtime.NumGoroutine" := by simpa using hname
  simp[callFunc,hf,h1,hb]
def FitsAt (S : Seat) (g : Nat) (F : AFun) : Prop := ∃ fn, S.P.funcs[S.N.f g]? = some fn ∧ (fn.name == "runtime.NumGoroutine") = false ∧ mFun S F fn = true
def TryAt (S : Seat) (g : Nat) (t : ATry) : Prop := (∃ fn, S.P.funcs[S.N.f g]? = some fn ∧ (fn.name == "runtime.NumGoroutine") = false ∧ ∃ c, fn.body = some c) ∧ TryFits S g t
def ToldAt (S : Seat) (g : Nat) (P : List AV → AV → Prop) : Prop := (∃ fn, S.P.funcs[S.N.f g]? = some fn ∧ (fn.name == "runtime.NumGoroutine") = false ∧ ∃ c, fn.body = some c) ∧
  ∀as v,P as v→∀m h w (vs:Array Value),HR S.N m h w→VRs S.N m as vs.toList→Calls S.P (S.N.f g) vs w fun e w'=>RowKit.Below w.heap.size w w'∧∃u,e=.returned u∧VR S.N m v u
def SpAt(S:Seat)(g:Nat):AFn→Prop
  |.fn _=>False
  |.try t=>TryAt S g t
  |.ext R=>∃P,R=told1 P∧ToldAt S g P
def TryAll(S:Seat):List (Nat×AFn)→Prop
  |[]=>S.X=[]∧S.Yk=[]
  | (g,t)::r=>SpAt S g t∧TryAll S r
def FitAll(S:Seat):List (Nat×AFun)→Prop
  |[]=>True
  | (g,F)::r=>FitsAt S g F∧FitAll S r
theorem try_end{S:Seat}:∀{tt:List (Nat×AFn)},TryAll S tt→S.X=[]∧S.Yk=[]
  |[],h=>h
  | _::_,h=>try_end h.2
theorem look_try{S:Seat}:∀{tt:List (Nat×AFn)},TryAll S tt→∀{g:Nat}{x:AFn},lookY.lookY0 g tt=some x→SpAt S g x
  |[],_,g,x,h=>by cases h
  | (k,F)::r,hf,g,x,h=>by
    simp only[lookY.lookY0]at h;cases hk:Nat.beq k g with
    | true=>
      rw[hk]at h;have:k=g:=Nat.eq_of_beq_eq_true hk;subst this;simp only[cond_true,Option.some.injEq]at h;subst h;exact hf.1
    | false=>
      rw[hk]at h;exact look_try hf.2 h
theorem look_fit{S:Seat}{tt:List (Nat×AFn)}(ht:TryAll S tt):∀{tab:List (Nat×AFun)},FitAll S tab→∀{g:Nat}{x:AFn},lookY g tt tab=some x→(∃F,x=.fn F∧FitsAt S g F)∨SpAt S g x
  |[],_,g,x,h=>.inr (look_try ht h)
  | (k,F)::r,hf,g,x,h=>by
    simp only[lookY]at h;cases hk:Nat.beq k g with
    | true=>
      rw[hk]at h;have:k=g:=Nat.eq_of_beq_eq_true hk;subst this;simp only[cond_true,Option.some.injEq]at h;exact .inl ⟨F,h.symm,hf.1⟩
    | false=>
      rw[hk]at h;exact look_fit ht hf.2 h
def lookN(g:Nat):List (Nat×Nat)→Nat
  |[]=>0
  | (k,n)::r=>bif Nat.beq k g then n else lookN g r
theorem fits_mk {S : Seat} {P : Program} {g k : Nat} {F : AFun} {fn : Func} (hN : S.N.f g = k) (hP : S.P = P) (hf : P.funcs[k]? = some fn) (hn : (fn.name == "runtime.NumGoroutine") = false) (hm : mFun S F fn = true) : FitsAt S g F :=
  ⟨fn,by rw[hN,hP];exact hf,hn,hm⟩
section
variable {S:Seat} {Γ:Nat→Option AFn} {tab:List (Nat×AFun)} {tt:List (Nat×AFn)}
theorem gok_of(hΓ:∀g,Γ g=lookY g tt tab)(ht:TryAll S tt)(hf:FitAll S tab):GOK Γ:=fun g R hg as h r h' hR id o hid=>by
  rw[hΓ]at hg;rcases look_fit ht hf hg with⟨F,h,_⟩ | ⟨P,rfl,_⟩
  · cases h
  · obtain⟨rfl,v,rfl,hp⟩:=hR;exact⟨hid,rfl,v,rfl,hp⟩
theorem fits_of(hΓ:∀g,Γ g=lookY g tt tab)(ht:TryAll S tt)(hf:FitAll S tab):Fits S Γ where
  X:=(try_end ht).1
  Y:=(try_end ht).2
  tr:=fun g t hg=>by
    rw[hΓ]at hg;rcases look_fit ht hf hg with⟨F,h,_⟩ | h
    · cases h
    · exact h.2
  fn:=fun g F hg=>by
    rw[hΓ]at hg;rcases look_fit ht hf hg with⟨F',h,fn,h1,_,h2⟩ | h
    · cases h;exact⟨fn,h1,h2⟩
    · exact h.elim
  ext:=fun g R hg as h r h' hR m w vs hH hvs=>by
    rw[hΓ]at hg;rcases look_fit ht hf hg with⟨F,h,_⟩ | ⟨P,rfl,_,hT⟩
    · cases h
    · obtain⟨rfl,v,rfl,hp⟩:=hR;refine Calls.mono (hT as v hp m h' w vs hH hvs) ?_;rintro e w' ⟨hb,u,rfl,hu⟩;refine⟨m,⟨hb.os,hb.tape,hb.output,hb.size,m.le_refl,fun b h1 h2=>⟨hb.block b h1,h2⟩,fun b _ h2=>h2⟩,hH.blocks hb.size (fun id o p ho hl hp=>hb.block _ (hH.lt ho hl hp)) (fun b c hz=>hb.block _ (hH.zlt hz)),u,rfl,hu⟩
theorem known_of(hΓ:∀g,Γ g=lookY g tt tab)(ht:TryAll S tt)(hf:FitAll S tab):Known S Γ:=fun g hg args w=>by
  rw[hΓ]at hg;obtain⟨x,hx⟩:=Option.ne_none_iff_exists'.1 hg;rcases look_fit ht hf hx with⟨F,_,fn,h1,hn,h2⟩ | h
  · unfold mFun at h2;cases hb:fn.body with
    | none=>rw[hb]at h2;cases h2
    | some c=>exact enter_run h1 hn hb args w
  · cases x with
    | fn F=>exact h.elim
    | «try»t=>
      obtain⟨⟨fn,h1,hn,c,hb⟩,_⟩:=h;exact enter_run h1 hn hb args w
    | ext R=>
      obtain⟨P,_,⟨fn,h1,hn,c,hb⟩,_⟩:=h;exact enter_run h1 hn hb args w
end
def fz0(W:World):Mp:=⟨fun _=>none,fun b=>match W.heap[b]? with
  | some (.cells c _ _)=>some c
  | _=>none⟩
theorem fz0_HR{N:Nums}{W:World}(hg:∀b c,N.gz b=some c→(fz0 W).z b=some c):HR N (fz0 W) AH.empty W where
  gg:=hg
  at':=fun id o h=>by cases h
  none':=fun _ _=>rfl
  apart:=fun i j o o' p q h=>by cases h
  zz:=fun b c h=>by
    refine⟨?_,fun id o p h=>by cases h⟩;simp only[fz0]at h;split at h
    · rename_i c' e fz hh;cases h;exact⟨e,fz,hh⟩
    · cases h
theorem leaf_ret{v:AV}(hl:v.leaf=true){r:AV}(h:RelV ρ0 v r):r=v:=leaf_eq _ _ hl h
theorem law_calls{S:Seat}{Γ:Nat→Option AFn}(hG:GOK Γ)(hK:Known S Γ)(hF:Fits S Γ){g:Nat}{as:List AV}{b:Bool}(hp:Pure Γ g as (.bool b)){W:World}{vs:Array Value}(hg:∀b c,S.N.gz b=some c→(fz0 W).z b=some c)
    (hv:VRs S.N (fz0 W) as vs.toList):Calls S.P (S.N.f g) vs W fun e w'=>e=.returned (.bool b)∧RowKit.Below W.heap.size W w':=by
  unfold Pure at hp;obtain⟨t1,t2,hp⟩:=hp;obtain⟨k,r,hr',h1,h2,h3,h4⟩:=hp AH.empty as (trees_rel _ t1);have hr:=leaf_ret rfl h4;subst hr;refine Calls.mono (call_sim hG hK hF k g as _ _ _ h1 (fz0 W) W vs (fz0_HR hg) hv) ?_;rintro e w' ⟨m',hfr,_,u,rfl,hu⟩;simp only[VR]at hu;subst hu;exact⟨rfl,hfr.os,hfr.tape,hfr.output,hfr.size,fun i hi=>(hfr.keep i hi (fun id o p h=>by cases h)).1⟩
section
variable {H:Type} (enc:TypeId×Value→H) (N:Nums) (P:Program) (W:World)
def RdL(as:List AV)(cs:List Value):Prop:=VRs N (fz0 W) as cs∧as.all AV.sc=true
def Wt(t:TypeId)(d:DataW H):Prop:=∀n∈d.weights P t,n≤reachBytes
def Rd{α:Type}(t:TypeId)(e:α→AV)(bd:α→Prop):Prop:=∀fuel cs d,DataW.trod enc P W 0 (fun _=>true) true fuel t cs=some d→Wt P t d.1→∃x,RdL N W (e x).cells cs∧bd x
def RdB{α:Type}(m:Nat)(t:TypeId)(e:α→AV)(bd:α→Prop):Prop:=∀fuel,fuel<m→∀cs d,DataW.trod enc P W 0 (fun _=>true) true fuel t cs=some d→Wt P t d.1→∃x,RdL N W (e x).cells cs∧bd x
variable {enc N P W}
theorem Rd.mono{α:Type}{t:TypeId}{e:α→AV}{bd bd':α→Prop}(h:Rd enc N P W t e bd)(hb:∀x,bd x→bd' x):Rd enc N P W t e bd':=fun fuel cs d hd hw=>
  let ⟨x,h1,h2⟩:=h fuel cs d hd hw;⟨x,h1,hb x h2⟩
theorem rd_int{t:TypeId}{k:IntKind}(ht:P.underlying t=some (.int k)):Rd enc N P W t (fun n:Int=>.int k n) (fun n=>(Lit.int k n).wf=true):=fun fuel cs d h _=>by
  obtain⟨n,rfl,_,hw⟩:=DataW.trod_int ht h;refine⟨n,⟨?_,rfl⟩,hw⟩;simp only[AV.cells,VRs,VR];exact⟨_,_,rfl,rfl,rfl⟩
theorem RdL.nil{cs:List Value}{o:Nat}(h:cs.length≤o):RdL N W [] (cs.drop o):=by
  rw[List.drop_eq_nil_of_le h];exact⟨by simp only[VRs],rfl⟩
theorem RdL.val{a:AV}{cs:List Value}(h:RdL N W a.cells cs)(hl:0<a.cells.length):∃u:Value,VR N (fz0 W) a u∧u.cells.toList=cs:=by
  by_cases hag:∃xs,a=.agg xs
  · obtain⟨xs,rfl⟩:=hag;refine⟨.agg cs.toArray, ?_,by simp[Value.cells]⟩;simp only[VR];exact⟨_,rfl,h.1,h.2⟩
  · have hc:a.cells=[a]∧a.sc=true:=by
      cases a<;>first
        | exact⟨rfl,rfl⟩
        | exact absurd ⟨_,rfl⟩ hag
        | (simp[AV.cells]at hl;done)
    obtain⟨h1,h2⟩:=h;rw[hc.1]at h1;simp only[VRs]at h1;obtain⟨u,us,rfl,h3,rfl⟩:=h1;exact⟨u,h3,by rw[h3.sc_cells hc.2]⟩
theorem cells_at{base:Nat}{a:Addr}{n:Nat}{cs:List Value}(h:W.cells? base a n=some cs):cs.length=n∧∀i,i<n→W.cell? (a.add i)=cs[i]?:=by
  obtain⟨_,h1,h2⟩:=World.cells?_some h;exact⟨h1,h2⟩
theorem spot_none{base k:Nat}{a:Addr}{w:Nat}{cs:List Value}(h0:0<w)(h:W.cells? base (a.add ((0+0)*k)) w=some cs):a.spot=none:=by
  obtain⟨hl0,hcell0⟩:=cells_at h;have hq:=hcell0 0 h0;have e00:(a.add ((0+0)*k)).add 0=a:=by simp[Addr.add]
  rw[e00,List.getElem?_eq_getElem (by omega)]at hq;obtain⟨b,o,s⟩:=a;simp only[World.cell?]at hq;split at hq
  · split at hq
    · cases hq
    · rename_i hs;cases s<;>simp_all
  · cases hq
theorem list_of{α:Type}{p:Nat→α→Prop}:∀n:Nat,(∀i:Nat,i<n→∃x,p i x)→∃xs:List α,xs.length=n∧∀(i:Nat)(h:i<xs.length),p i xs[i]
  | 0,_=>⟨[],rfl,fun i h=>by simp at h⟩
  | n+1,h=>by
    obtain⟨xs,h1,h2⟩:=list_of n fun i hi=>h i (by omega);obtain⟨x,hx⟩:=h n (by omega);refine⟨xs++[x],by simp[h1],fun i hi=> ?_⟩;rcases Nat.lt_or_ge i xs.length with q | q
    · rw[List.getElem_append_left q];exact h2 i q
    · have:i=n:=by simp at hi;omega
      subst this;rw[List.getElem_append_right q];simpa using hx
theorem weights_all{e':TypeId}:∀{l:List (DataW H)}{d:DataW H},d∈l→∀n∈d.weights P e',n∈DataW.weightsAll P e' l
  | x::l,d,hd,n,hn=>by
    simp only[DataW.weightsAll,List.mem_append];rcases List.mem_cons.1 hd with rfl | hd
    · exact .inl hn
    · exact .inr (weights_all hd n hn)
  |[],_,hd,_,_=>by cases hd
theorem rd_sliceB{α:Type}{m0:Nat}{t e':TypeId}{w:Nat}{e:α→AV}{bd:α→Prop}(ht:P.underlying t=some (.slice e'))(hw:P.cellsOf e'=w)(h0:0<w)(hl:∀x,(e x).cells.length=w)(hb:0<P.bytesOf e')
    (he:RdB enc N P W m0 e' e bd):RdB enc N P W (m0+1) t (fun xs:List α=>.lst w (xs.map e) false) (fun xs=>xs.length≤140737488355328∧∀x∈xs,bd x):=fun fuel hfu cs d h hwt=>by
  rcases DataW.trod_slice ht h with⟨rfl,_⟩ | ⟨a,len,cap,elems,rest,n,rfl,rfl,rfl,_,hlc,_,hel,hat,hrs,_⟩
  · refine⟨[],⟨?_,rfl⟩,by simp⟩;simp only[List.map_nil,AV.cells,VRs,VR];exact⟨_,_,rfl,⟨none,0,rfl,by simp,fun h=>by simp at h,.inl ⟨trivial,fun _=>rfl,fun x hx=>by cases hx⟩⟩,rfl⟩
  · rw[hw]at hat;obtain⟨xs,hxl,hx⟩:=list_of (p:=fun i (x:α)=>∃ci,W.cells? 0 (a.add (i*w)) w=some ci∧RdL N W (e x).cells ci∧bd x) len fun i hi=>by
      have h1:=hat i hi;rw[List.getElem?_eq_getElem (by omega)]at h1;simp only[Option.bind_eq_some_iff]at h1;obtain⟨ci,h1,h2⟩:=h1;obtain⟨x,h3,h4⟩:=he _ (by omega) _ _ h2 (fun m hm=>hwt m (by
        simp only[DataW.weights,ht,List.mem_cons,List.mem_append];exact .inr (.inl (weights_all (List.mem_map.2 ⟨_,List.getElem_mem (by omega),rfl⟩) m hm))))
      exact⟨x,ci,h1,h3,h4⟩
    have hm:len≤140737488355328:=by
      have h1:=hwt _ (by simp only[DataW.weights,ht];exact List.mem_cons_self ..);have h2:reachBytes≤140737488355328:=by decide
      have h3:=Nat.le_mul_of_pos_right ((elems.map (·.1)).length+(rest.map (·.1)).length) hb;simp only[List.length_map]at h1 h3;omega
    refine⟨xs,⟨?_,rfl⟩,by omega,fun x hm=> ?_⟩
    · simp only[AV.cells,VRs];refine⟨_,_,rfl, ?_,rfl⟩;simp only[VR];refine⟨some a,cap,by rw[List.length_map,hxl],by rw[List.length_map,hxl];exact hlc,fun q=>by simp at q, ?_⟩;rcases Nat.eq_zero_or_pos len with hz | hz
      · refine .inl ⟨?_,(fun q=>nomatch q),fun x hx hc=> ?_⟩
        · rw[List.map_eq_nil_iff];exact List.eq_nil_of_length_eq_zero (by omega)
        · cases hx;obtain⟨q1,q2⟩:=hrs rfl;have q3:=q2 0 (by omega);rw[List.getElem?_eq_getElem (by omega)]at q3;simp only[Option.bind_eq_some_iff]at q3;obtain⟨c0,hc0,_⟩:=q3;rw[hw,hz]at hc0;exact spot_none h0 hc0
      · right;obtain⟨c0,hc0,_,_⟩:=hx 0 (by omega);obtain⟨hl0,hcell0⟩:=cells_at hc0;have hq:=hcell0 0 h0;have e00:(a.add (0*w)).add 0=a:=by simp[Addr.add]
        rw[e00,List.getElem?_eq_getElem (by omega)]at hq;obtain⟨b,o,s⟩:=a;have hblk:∃c ty fz,W.heap[b]?=some (.cells c ty fz)∧s=none:=by
          simp only[World.cell?]at hq;split at hq
          · rename_i c ty fz hh;split at hq
            · cases hq
            · rename_i hs;exact⟨c,ty,fz,hh,by cases s<;>simp_all⟩
          · cases hq
        obtain⟨c,ty,fz,hh,rfl⟩:=hblk;refine⟨b,o,c,rfl,by simp only[fz0,hh], ?_⟩;have cell:∀k,W.cell? ⟨b,k,none⟩=c[k]?:=fun k=>by simp[World.cell?,hh]
        have adds:∀k,(⟨b,o,none⟩:Addr).add k=⟨b,o+k,none⟩:=fun k=>by
          unfold Addr.add;split
          · subst_vars;rfl
          · rfl
        have all:∀(i:Nat)(hi:i<xs.length),∃u,VR N (fz0 W) (e xs[i]) u∧(e xs[i]).cells.length=w∧0<w∧∀j,j<w→c[o+i*w+j]?=u.cells[j]?:=fun i hi=>by
          obtain⟨ci,h1,h2,_⟩:=hx i hi;obtain⟨h3,h4⟩:=cells_at h1;obtain⟨u,h5,h6⟩:=h2.val (by rw[hl];exact h0);refine⟨u,h5,hl _,h0,fun j hj=> ?_⟩;have:=h4 j hj;rw[adds]at this;have e2:(⟨b,o+i*w,none⟩:Addr).add j=⟨b,o+i*w+j,none⟩:=by
            unfold Addr.add;split
            · subst_vars;rfl
            · rfl
          rw[e2,cell]at this;rw[this,←h6];simp
        have gen:∀(ys:List α)(k:Nat),(∀(i:Nat)(hi:i<ys.length),∃u,VR N (fz0 W) (e ys[i]) u∧(e ys[i]).cells.length=w∧0<w∧∀j,j<w→c[k+i*w+j]?=u.cells[j]?)→VRe N (fz0 W) w (ys.map e) c k:=by
          intro ys
          induction ys with
          | nil=>intro k _;simp only[List.map_nil,VRe]
          | cons y ys ih=>
            intro k hk;simp only[List.map_cons,VRe];refine⟨?_,ih (k+w) fun i hi=> ?_⟩
            · obtain⟨u,h1,h2,h3,h4⟩:=hk 0 (by simp);exact⟨u,h1,h2,h3,fun j hj=>by have:=h4 j hj;simpa using this⟩
            · obtain⟨u,h1,h2,h3,h4⟩:=hk (i+1) (by simpa using hi);refine⟨u,by simpa using h1,by simpa using h2,h3,fun j hj=> ?_⟩;have:=h4 j hj;rw[←this];congr 1;rw[Nat.add_mul];omega
        exact gen xs o all
    · obtain⟨i,hi,rfl⟩:=List.getElem_of_mem hm;obtain⟨_,_,_,h⟩:=hx i hi;exact h
theorem rd_slice{α:Type}{t e':TypeId}{w:Nat}{e:α→AV}{bd:α→Prop}(ht:P.underlying t=some (.slice e'))(hw:P.cellsOf e'=w)(h0:0<w)(hl:∀x,(e x).cells.length=w)(hb:0<P.bytesOf e')
    (he:Rd enc N P W e' e bd):Rd enc N P W t (fun xs:List α=>.lst w (xs.map e) false) (fun xs=>xs.length≤140737488355328∧∀x∈xs,bd x):=fun fuel cs d h hwt=>
  rd_sliceB (m0:=fuel) ht hw h0 hl hb (fun k _=>he k) fuel (by omega) cs d h hwt
theorem Rd.up{α:Type}{m0:Nat}{t:TypeId}{e:α→AV}{bd:α→Prop}(h:Rd enc N P W t e bd):RdB enc N P W m0 t e bd:=fun k _=>h k
theorem RdB.dn{α:Type}{m0 m1:Nat}{t:TypeId}{e:α→AV}{bd:α→Prop}(h:RdB enc N P W m0 t e bd)(hm:m1≤m0):RdB enc N P W m1 t e bd:=fun k hk=>h k (by omega)
theorem RdB.all{α:Type}{t:TypeId}{e:α→AV}{bd:α→Prop}(h:∀m,RdB enc N P W m t e bd):Rd enc N P W t e bd:=fun k=>h (k+1) k (by omega)
def RdA{α:Type}(N:Nums)(W:World)(e:α→AV)(bd:α→Prop)(v:Value):Prop:=∃x,VR N (fz0 W) (e x) v∧bd x
end
section
variable {H:Type} {enc:TypeId×Value→H} {P:Program} {W W':World}
theorem args_stay(hl:laidOutB P=true)(hb:RowKit.Below W.heap.size W W'){sp:Nat→Bool}:∀{ts:List TypeId}{vs:List Value}{ds:List (DataW H)}{ps:List MemPlace},
    (∀t∈ts,P.readableRec t=true∧t<P.types.size)→DataW.TrodAll enc P W 0 (fun _=>true) true ts vs ds ps→(∀p∈ps,sp p.block=true)→DataW.TrodAll enc P W' 0 sp true ts vs ds ps
  |[],vs,ds,ps,_,h,_=>by
    obtain⟨rfl,rfl,rfl⟩:=ChangeShapes.trodAll_nil h;exact ChangeShapes.trodAll_mk0
  | t::ts,vs,ds,ps,ht,h,hs=>by
    obtain⟨v,vs',d,ds',p,q,rfl,rfl,rfl,h1,h2⟩:=ChangeShapes.trodAll_cons h;obtain⟨r1,r2⟩:=ht t (by simp);have hlt:∀x∈p,x.block<W.heap.size:=fun x hx=>(ChangeShapes.trodAll_mk1 h1).lt x (by simpa using hx);exact⟨p,q,WideElems.Trod_stays hl r1 r2 h1 (fun x hx=>hb.same (hlt x hx)) (fun x hx=>hs x (by simp[hx])),args_stay hl hb (fun t ht'=>ht t (by simp[ht'])) h2 (fun x hx=>hs x (by simp[hx])),rfl⟩
theorem law_post{f:Func}{s:ChangeSpec}{args:Array Value}{ds gs:List (DataW H)}{before:List MemPlace}{tb:TypeId}(hsv:s.vars=[])
    (hW:DataW.Whole enc P f.params.toList s.vars false W args.toList ds gs before) (hl:laidOutB P=true) (hrow:∀t∈f.params.toList,P.readableRec t=true∧t<P.types.size)
    (hr:f.resultTypes= #[tb]) (htb:P.underlying tb=some .bool) (hs:(s.fn H ds).results=[.lit (.bool true)]∧(s.fn H ds).args=ds∧(s.fn H ds).vars=[]) (hb:RowKit.Below W.heap.size W W'):
    s.post enc P f false true false false W args (.bool true) W':=by
  have hW':=hW;have hlt:∀p∈before,p.block<W.heap.size:=fun p hp=>hW.lt p hp;obtain⟨pa,q,hA,hV,rfl,hz,hn⟩:=hW;rw[hsv]at hV;obtain⟨rfl,rfl⟩:=ChangeShapes.trodVars_none hV;have hres:∀(b:Nat)(sp:Nat→Bool)(hd:Bool),DataW.TrodAll enc P W' b sp hd f.resultTypes.toList ((Value.bool true).resultList f.resultTypes.size) (s.fn H (ds++[])).results []:=fun b sp hd=>by
    rw[hr,List.append_nil,hs.1];exact ChangeShapes.trodAll_mk1 (RowKit.shut_bool htb true)
  have hargs:∀sp:Nat→Bool,(∀p∈pa++[],sp p.block=true)→DataW.TrodAll enc P W' 0 sp true f.params.toList args.toList (s.fn H (ds++[])).args pa:=fun sp hsp=>by
    rw[List.append_nil,hs.2.1];exact args_stay hl hb hrow hA (by simpa using hsp)
  have hvars:∀sp:Nat→Bool,DataW.TrodVars enc P W' sp s.vars (s.fn H (ds++[])).vars []:=fun sp=>by
    rw[hsv,List.append_nil,hs.2.2];rfl
  have hold:∀p∈pa++[],(fun b=>decide (b<W.heap.size)) p.block=true:=fun p hp=>by simpa using hlt p hp
  refine⟨ds,[],pa++[],[],pa,[],hW',hres _ _ _,hargs _ hold,hvars _,World.keptBut_mono (fun p hp=>⟨hp,by simpa using hp⟩) (hb.frame (· ∈pa++[])),fun _=> ?_⟩;refine⟨RowKit.ok_one hr rfl (RowKit.okWide_bool_mk htb true),_,_,([]++pa)++[],⟨[]++pa,[],ChangeShapes.trodAll_append (hargs _ (fun _ _=>rfl)) (hres _ _ _),hvars _,rfl,fun b off hp=> ?_,fun ha=>by cases ha⟩,fun p hp _=>by simpa using hp⟩;have hin:MemPlace.cell b off∈pa++[]:=by simpa using hp
  rw[hb.frozen (hlt _ hin)];exact hz b off hin
theorem law_liftedX{X:World→Array Value→Prop}(hX:∀(w w':World)(args:Array Value),w.heap=w'.heap→X w args→X w' args){C:Checked}{os:Os}(started:os.Started){f:FuncId}{fn:Func}{s:ChangeSpec}{tb:TypeId}(own:ownKnob C.prog.godebug=none)(noInit:C.prog.inits.idxOf? f=none)(hfn:C.prog.funcs[f]?=some fn)
    (witness:∃(w:World)(tape:Tape)(i:Input),w.os=os∧(w.forCall tape i).Shaped C.prog∧i.vars=[]∧Input.okWide C.prog (w.forCall tape i) .any w.heap.size f i∧
      ((s.pre enc C.prog fn [] false (w.forCall tape i).memory i.args∧X (w.forCall tape i).memory i.args)∧sizedMet enc C.prog fn (OpenSpec.ofChange s) false (w.forCall tape i).memory i.args)∧({}:Assume).holds C.prog (lone (Frame.enter C.prog f i.args .normal) [] (w.forCall tape i)))
    (hl:laidOutB C.prog=true) (hrow:∀t∈fn.params.toList,C.prog.readableRec t=true∧t<C.prog.types.size) (hsv:s.vars=[]) (hr:fn.resultTypes= #[tb]) (htb:C.prog.underlying tb=some .bool)
    (hs:∀ds:List (DataW H),ds.length=fn.params.size→(s.fn H ds).results=[.lit (.bool true)]∧(s.fn H ds).args=ds∧(s.fn H ds).vars=[])
    (core:∀(W:World)(base:Nat)(args:Array Value)(ds:List (DataW H))(ps:List MemPlace),(∀(j:Nat) t v,fn.params[j]?=some t→args[j]?=some v→Value.okWide C.prog W .any base t v)→
      DataW.TrodAll enc C.prog W 0 (fun _=>true) true fn.params.toList args.toList ds ps→(∀n∈DataW.weightsEach C.prog fn.params.toList ds,n≤reachBytes)→X W args→
      Calls C.prog f args W fun e W'=>e=.returned (.bool true)∧RowKit.Below W.heap.size W W'):
    ReturnsInHanded {} C os f .any (fun w args=>(s.pre enc C.prog fn [] false w args∧X w args)∧sizedMet enc C.prog fn (OpenSpec.ofChange s) false w args) (s.post enc C.prog fn false true false false):=by
  refine returnsInHanded_of_change_and hX own started noInit hfn witness ?_;intro W base args ds gs before hval hW _ hwt hx _;have hW':=hW;obtain⟨p,q,hA,hV,rfl,_,_⟩:=hW;rw[hsv]at hV;obtain⟨rfl,rfl⟩:=ChangeShapes.trodVars_none hV;have hlen:ds.length=fn.params.size:=by
    have key:∀{ts:List TypeId}{vs:List Value}{ds:List (DataW H)}{ps:List MemPlace},DataW.TrodAll enc C.prog W 0 (fun _=>true) true ts vs ds ps→ds.length=ts.length:=by
      intro ts
      induction ts with
      | nil=>intro vs ds ps h;obtain⟨_,rfl,_⟩:=ChangeShapes.trodAll_nil h;rfl
      | cons t ts ih=>
        intro vs ds ps h;obtain⟨v,vs',d,ds',p,q,rfl,rfl,rfl,_,h2⟩:=ChangeShapes.trodAll_cons h;simp[ih h2]
    simpa using key hA
  have hw:∀n∈DataW.weightsEach C.prog fn.params.toList ds,n≤reachBytes:=by
    have hv0:s.plain.varTypes C.prog=[]:=by
      have:s.plain.vars=[]:=hsv;simp[DataSpec.varTypes,this]
    rw[hv0,List.append_nil,List.append_nil]at hwt;intro n hn;simpa using List.all_eq_true.1 hwt n hn
  refine(core W base args ds p hval hA hw hx).mono ?_;rintro e W' ⟨rfl,hb⟩;exact⟨_,rfl,law_post hsv hW' hl hrow hr htb (hs ds hlen) hb⟩
end
end Go.Ab
