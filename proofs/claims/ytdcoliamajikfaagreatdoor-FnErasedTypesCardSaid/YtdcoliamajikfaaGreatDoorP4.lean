/- Texts AbL .. AbO: the abstract machine, its laws and contracts of functions: lemmas for the statement. No condition. -/
import Derived.Attr
import Derived.IntWalk
import Derived.KernelRfl
import Derived.Test.YtdcoliamajikfaaGreatDoorP0
set_option linter.unusedSimpArgs false
set_option linter.unusedVariables false
namespace Go.Ab
open Go
variable {Γ:Nat→Option AFn}
theorem Ex.le{k:Nat}{j:Job}{r:Out}(h:Ex Γ k j r):∀{k'},k≤k'→Ex Γ k' j r:=by
  induction h with
  | nil=>exact fun _=>.nil
  | skip hw _ ih=>exact fun hk=>.skip hw (ih hk)
  | step hw hs hc _ ih=>exact fun hk=>.step hw hs hc (ih hk)
  | call hw he _ hc _ ih1 ih2=>exact fun hk=>.call hw he (ih1 hk) hc (ih2 hk)
  | callP hw he _ ih=>exact fun hk=>.callP hw he (ih hk)
  | panic hw he hv=>exact fun _=>.panic hw he hv
  | cskip=>exact fun _=>.cskip
  | reg _ hp ih=>exact fun hk=>.reg (ih hk) hp
  | seqN _ _ ih1 ih2=>exact fun hk=>.seqN (ih1 hk) (ih2 hk)
  | seqX _ he ih=>exact fun hk=>.seqX (ih hk) he
  | cond hc _ ih=>exact fun hk=>.cond hc (ih hk)
  | blk _ ih=>exact fun hk=>.blk (ih hk)
  | loopN _ _ ih1 ih2=>exact fun hk=>.loopN (ih1 hk) (ih2 hk)
  | loopX _ he ih=>exact fun hk=>.loopX (ih hk) he
  | exit=>exact fun _=>.exit
  | ret=>exact fun _=>.ret
  | rng hx hn _ ih=>exact fun hk=>.rng hx hn (ih hk)
  | rnd0=>exact fun _=>.rnd0
  | rndS _ _ _ ih1 ih2 ih3=>exact fun hk=>.rndS (ih1 hk) (ih2 hk) (ih3 hk)
  | @fn k g F as h st e vs hg hn _ he hr ih=>
    intro k' hk;cases k' with
    | zero=>omega
    | succ k'=>exact .fn hg hn (ih (by omega)) he hr
  | @fnP k g F as h st v hg hn _ ih=>
    intro k' hk;cases k' with
    | zero=>omega
    | succ k'=>exact .fnP hg hn (ih (by omega))
  | tryX hg hn _ _ _ _ hr i0 i1 i2 i3=>
    intro k' hk;cases k' with
    | zero=>omega
    | succ k'=>exact .tryX hg hn (i0 (by omega)) (i1 (by omega)) (i2 (by omega)) (i3 (by omega)) hr
  | tryV hg hn _ _ _ _ hc _ _ _ hx _ he hr i0 i1 i2 i3 i4 i5 i6 i7=>
    intro k' hk;cases k' with
    | zero=>omega
    | succ k'=>exact .tryV hg hn (i0 (by omega)) (i1 (by omega)) (i2 (by omega)) (i3 (by omega)) hc (i4 (by omega)) (i5 (by omega)) (i6 (by omega)) hx (i7 (by omega)) he hr
  | tryP hg hn _ _ _ _ hc _ _ _ hr i0 i1 i2 i3 i4 i5 i6=>
    intro k' hk;cases k' with
    | zero=>omega
    | succ k'=>exact .tryP hg hn (i0 (by omega)) (i1 (by omega)) (i2 (by omega)) (i3 (by omega)) hc (i4 (by omega)) (i5 (by omega)) (i6 (by omega)) hr
  | tryF hg hn _ _ _ _ hc _ _ _ hx _ _ hr i0 i1 i2 i3 i4 i5 i6 i7 i8=>
    intro k' hk;cases k' with
    | zero=>omega
    | succ k'=>exact .tryF hg hn (i0 (by omega)) (i1 (by omega)) (i2 (by omega)) (i3 (by omega)) hc (i4 (by omega)) (i5 (by omega)) (i6 (by omega)) hx (i7 (by omega)) (i8 (by omega)) hr
  | ext hg hr=>exact fun _=>.ext hg hr
  | frz K hf _ ih=>exact fun hk=>.frz K hf (ih hk)
  | cvh K id w el el' rw' hK hid ho hl hc _ ih=>exact fun hk=>.cvh K id w el el' rw' hK hid ho hl hc (ih hk)
  | frzA K hK hl hc _ ih=>exact fun hk=>.frzA K hK hl hc (ih hk)
  | frzR K hK hc _ ih=>exact fun hk=>.frzR K hK hc (ih hk)
  | brw K hK hl hc ht _ ih=>exact fun hk=>.brw K hK hl hc ht (ih hk)
  | nilc id hid hh1 hh2 ht _ _ ih1 ih2=>exact fun hk=>.nilc id hid hh1 hh2 ht (ih1 hk) (ih2 hk)
  | brn K S hK hl hc hv hn _ ih=>exact fun hk=>.brn K S hK hl hc hv hn (ih hk)
  | drop hh ht _ ih=>exact fun hk=>.drop hh ht (ih hk)
  | trim n ho _ ih=>exact fun hk=>.trim n ho (ih hk)
def AC(Γ:Nat→Option AFn)(c:ACode)(st:St)(Q:AExit→St→Prop):Prop:=∃k e st',Ex Γ k (.code c st) (.st e st')∧Q e st'
def AO(Γ:Nat→Option AFn)(l:List AOper)(st:St)(Q:AExit→St→Prop):Prop:=∃k e st',Ex Γ k (.ops l st) (.st e st')∧Q e st'
def AK(Γ:Nat→Option AFn)(g:Nat)(as:List AV)(h:AH)(Q:CRes→AH→Prop):Prop:=∃k r h',Ex Γ k (.call g as h) (.res r h')∧Q r h'
section
variable {st:St} {Q:AExit→St→Prop}
theorem AC.mono{c:ACode}{Q':AExit→St→Prop}(h:AC Γ c st Q)(hq:∀e s,Q e s→Q' e s):AC Γ c st Q':=
  let ⟨k,e,s,h1,h2⟩:=h;⟨k,e,s,h1,hq e s h2⟩
theorem AK.mono{g:Nat}{as:List AV}{h:AH}{Q Q':CRes→AH→Prop}(hk:AK Γ g as h Q)(hq:∀r h,Q r h→Q' r h):AK Γ g as h Q':=
  let ⟨k,r,h',h1,h2⟩:=hk;⟨k,r,h',h1,hq r h' h2⟩
theorem AC.skip(h:Q .nrm st):AC Γ .skip st Q:=⟨0,_,_,.cskip,h⟩
theorem AC.exit{n:Nat}(h:Q (.exit n) st):AC Γ (.exit n) st Q:=⟨0,_,_,.exit,h⟩
theorem AC.ret(h:Q .ret st):AC Γ .ret st Q:=⟨0,_,_,.ret,h⟩
def onN(K:St→Prop)(Q:AExit→St→Prop):AExit→St→Prop
  |.nrm,s=>K s
  | e,s=>Q e s
theorem AC.seq{a b:ACode}(h:AC Γ a st (onN (fun s=>AC Γ b s Q) Q)):AC Γ (.seq a b) st Q:=by
  obtain⟨k,e,s,h1,h2⟩:=h;cases e with
  | nrm=>
    obtain⟨k',e',s',h3,h4⟩:=h2;exact⟨max k k',e',s',.seqN (h1.le (Nat.le_max_left _ _)) (h3.le (Nat.le_max_right _ _)),h4⟩
  | exit n=>exact⟨k,_,s,.seqX h1 (by simp),h2⟩
  | ret=>exact⟨k,_,s,.seqX h1 (by simp),h2⟩
  | pan v=>exact⟨k,_,s,.seqX h1 (by simp),h2⟩
theorem AC.cond{c:Ao}{a b:ACode}{t:Bool}(hc:ev st.s c=some (.bool t))(h:AC Γ (if t then a else b) st Q):AC Γ (.cond c a b) st Q:=
  let ⟨k,e,s,h1,h2⟩:=h;⟨k,e,s,.cond hc h1,h2⟩
theorem AC.blk{n:Nat}{a:ACode}(h:AC Γ a st (fun e s=>Q (blkExit n e) s)):AC Γ (.blk n a) st Q:=
  let ⟨k,_e,s,h1,h2⟩:=h;⟨k,_,s,.blk h1,h2⟩
theorem AC.loop{a:ACode}(I:St→Nat→Prop){n:Nat}(h0:I st n)(h:∀s n,I s n→AC Γ a s (onN (fun s'=>∃n',n'<n∧I s' n') Q)):AC Γ (.loop a) st Q:=by
  induction n using Nat.strongRecOn generalizing st with
  | _ n ih=>
    obtain⟨k,e,s,h1,h2⟩:=h st n h0;cases e with
    | nrm=>
      obtain⟨n',hn,hI⟩:=h2;obtain⟨k',e',s',h3,h4⟩:=ih n' hn hI;exact⟨max k k',e',s',.loopN (h1.le (Nat.le_max_left _ _)) (h3.le (Nat.le_max_right _ _)),h4⟩
    | exit n=>exact⟨k,_,s,.loopX h1 (by simp),h2⟩
    | ret=>exact⟨k,_,s,.loopX h1 (by simp),h2⟩
    | pan v=>exact⟨k,_,s,.loopX h1 (by simp),h2⟩
theorem AC.reg{l:List AOper}(h:AO Γ l st (onN (fun s=>Q .nrm s) fun _ _=>False)){pan:Bool}:AC Γ (.reg pan l) st Q:=by
  obtain⟨k,e,s,h1,h2⟩:=h;cases e with
  | nrm=>exact⟨k,_,s,.reg h1 (.inr rfl),h2⟩
  | exit n=>exact h2.elim
  | ret=>exact h2.elim
  | pan v=>exact h2.elim
end
end Go.Ab
namespace Go.Ab
open Go
abbrev LEnv:=List (Nat×AV)
def get:LEnv→Nat→Option AV
  |[],_=>none
  | (k,v)::r,n=>if k=n then some v else get r n
def toE(s:LEnv):Env:=fun n=>get s n
structure VSt where
  s:LEnv
  l:LEnv
  h:List AObj
def toH(h:List AObj):AH:=⟨fun i=>h[i]?,fun _=>false,h.length,fun _i hi=>⟨List.getElem?_eq_none hi,rfl⟩⟩
abbrev Ren:=Nat→Option (Option Nat)
mutual
def RelV(ρ:Ren):AV→AV→Prop
  |.ptr id i j,r=>∃id',ρ id=some (some id')∧r=.ptr id' i j
  |.slice w id off len clip,r=>(∃id',ρ id=some (some id')∧r=.slice w id' off len clip)∨(ρ id=some none∧off=0∧len=0∧(r=.nils∨r=.lst w [] true))
  |.lst w xs clip,r=>(∃ys c,r=.lst w ys c∧(clip=true→c=true)∧RelVs ρ xs ys)∨(xs=[]∧r=.nils)
  |.ept x j,r=>∃y,r=.ept y j∧RelV ρ x y
  |.map id,r=>∃id',ρ id=some (some id')∧r=.map id'
  |.fn g cs,r=>∃ds,r=.fn g ds∧RelVs ρ cs ds
  |.iface t x,r=>∃y,r=.iface t y∧RelV ρ x y
  |.agg cs,r=>∃ds,r=.agg ds∧RelVs ρ cs ds
  |.tup cs,r=>∃ds,r=.tup ds∧RelVs ρ cs ds
  |.bool b,r=>r=.bool b
  |.int k n,r=>r=.int k n
  |.str s,r=>r=.str s
  |.nilp,r=>r=.nilp
  |.nils,r=>r=.nils
  |.nilm,r=>r=.nilm
  |.nilf,r=>r=.nilf
  |.nili,r=>r=.nili
  |.any,r=>r=.any
def RelVs(ρ:Ren):List AV→List AV→Prop
  |[],r=>r=[]
  | a::as,r=>∃b bs,r=b::bs∧RelV ρ a b∧RelVs ρ as bs
end
def Ren.le(ρ ρ':Ren):Prop:=∀i a,ρ i=some a→ρ' i=some a
section
variable {ρ ρ':Ren}
theorem RelVs.length:∀{as bs:List AV},RelVs ρ as bs→bs.length=as.length
  |[],_,h=>by simp only[RelVs]at h;simp[h]
  | a::as,_,h=>by
    simp only[RelVs]at h;obtain⟨b,bs,rfl,_,h3⟩:=h;simp[RelVs.length h3]
theorem RelVs.iff:∀{as bs:List AV},RelVs ρ as bs↔bs.length=as.length∧∀(i:Nat)(a b:AV),as[i]?=some a→bs[i]?=some b→RelV ρ a b
  |[],bs=>by
    simp only[RelVs];constructor
    · rintro rfl;exact⟨rfl,fun i a v h=>by simp at h⟩
    · rintro⟨h,_⟩;exact List.eq_nil_of_length_eq_zero (by simpa using h)
  | a::as,bs=>by
    simp only[RelVs];constructor
    · rintro⟨u,us,rfl,h2,h3⟩;have:=(RelVs.iff).1 h3;refine⟨by simp[this.1],fun i x y hx hy=> ?_⟩;cases i with
      | zero=>simp at hx hy;subst hx hy;exact h2
      | succ i=>exact this.2 i x y (by simpa using hx) (by simpa using hy)
    · rintro⟨h1,h2⟩;cases bs with
      | nil=>simp at h1
      | cons u us=>
        refine⟨u,us,rfl,h2 0 a u rfl rfl,(RelVs.iff).2 ⟨by simpa using h1,fun i x y hx hy=>h2 (i+1) x y (by simpa using hx) (by simpa using hy)⟩⟩
theorem RelVs.get{as bs:List AV}(h:RelVs ρ as bs){i:Nat}{a:AV}(ha:as[i]?=some a):∃b,bs[i]?=some b∧RelV ρ a b:=by
  rw[RelVs.iff]at h;have hi:i<bs.length:=by rw[h.1];exact(List.getElem?_eq_some_iff.1 ha).1
  exact⟨bs[i],List.getElem?_eq_getElem hi,h.2 i a _ ha (List.getElem?_eq_getElem hi)⟩
theorem RelVs.append{as bs us vs:List AV}(h:RelVs ρ as us)(k:RelVs ρ bs vs):RelVs ρ (as++bs) (us++vs):=by
  induction as generalizing us with
  | nil=>simp only[RelVs]at h;subst h;simpa using k
  | cons a as ih=>
    simp only[RelVs]at h;obtain⟨u,us,rfl,h2,h3⟩:=h;simp only[List.cons_append,RelVs];exact⟨u,us++vs,rfl,h2,ih h3⟩
theorem RelVs.take{as us:List AV}(h:RelVs ρ as us)(n:Nat):RelVs ρ (as.take n) (us.take n):=by
  rw[RelVs.iff]at h⊢;refine⟨by simp[h.1],fun i a v ha hv=> ?_⟩;rw[List.getElem?_take]at ha hv;split at ha
  · rename_i hi;rw[if_pos hi]at hv;exact h.2 i a v ha hv
  · cases ha
theorem RelVs.drop{as us:List AV}(h:RelVs ρ as us)(n:Nat):RelVs ρ (as.drop n) (us.drop n):=by
  rw[RelVs.iff]at h⊢;refine⟨by simp[h.1],fun i a v ha hv=> ?_⟩;rw[List.getElem?_drop]at ha hv;exact h.2 _ a v ha hv
theorem RelVs.set{as us:List AV}{x y:AV}(h:RelVs ρ as us)(n:Nat)(hx:RelV ρ x y):RelVs ρ (as.set n x) (us.set n y):=by
  rw[RelVs.iff]at h⊢;refine⟨by simp[h.1],fun i a v ha hv=> ?_⟩;rw[List.getElem?_set]at ha hv;split at ha
  · rename_i hi;rw[if_pos hi]at hv;subst hi;rw[h.1]at hv;split at ha
    · rename_i hl;rw[if_pos hl]at hv;cases ha;cases hv;exact hx
    · cases ha
  · rename_i hi;rw[if_neg hi]at hv;exact h.2 i a v ha hv
theorem RelVs.one{x y:AV}(h:RelV ρ x y):RelVs ρ [x] [y]:=by simp only[RelVs];exact⟨y,[],rfl,h,rfl⟩
theorem RelVs.replicate{x y:AV}(h:RelV ρ x y)(n:Nat):RelVs ρ (List.replicate n x) (List.replicate n y):=by
  rw[RelVs.iff];refine⟨by simp,fun i a v ha hv=> ?_⟩;rw[List.getElem?_replicate]at ha hv;split at ha
  · rename_i hi;rw[if_pos hi]at hv;cases ha;cases hv;exact h
  · cases ha
mutual
theorem RelV.mono(hρ:∀i a,ρ i=some a→ρ' i=some a):∀(a b:AV),RelV ρ a b→RelV ρ' a b
  |.bool _,_,h=>by simpa only [RelV]using h
  |.int _ _,_,h=>by simpa only [RelV]using h
  |.str _,_,h=>by simpa only [RelV]using h
  |.nilp,_,h=>by simpa only [RelV]using h
  |.nils,_,h=>by simpa only [RelV]using h
  |.nilm,_,h=>by simpa only [RelV]using h
  |.nilf,_,h=>by simpa only [RelV]using h
  |.nili,_,h=>by simpa only [RelV]using h
  |.any,_,h=>by simpa only [RelV]using h
  |.ptr _ _ _,_,h=>by
    simp only[RelV]at h⊢;obtain⟨p,h1,h2⟩:=h;exact⟨p,hρ _ _ h1,h2⟩
  |.map _,_,h=>by
    simp only[RelV]at h⊢;obtain⟨p,h1,h2⟩:=h;exact⟨p,hρ _ _ h1,h2⟩
  |.slice _ _ _ _ _,_,h=>by
    simp only[RelV]at h⊢;rcases h with⟨p,h1,h2⟩ | ⟨h1,h2⟩
    · exact .inl ⟨p,hρ _ _ h1,h2⟩
    · exact .inr ⟨hρ _ _ h1,h2⟩
  |.lst w xs _,_,h=>by
    simp only[RelV]at h⊢;rcases h with⟨ys,c,h1,h2,h3⟩ | h
    · exact .inl ⟨ys,c,h1,h2,RelVs.mono hρ xs ys h3⟩
    · exact .inr h
  |.ept x _,_,h=>by
    simp only[RelV]at h⊢;obtain⟨y,h1,h2⟩:=h;exact⟨y,h1,RelV.mono hρ x y h2⟩
  |.fn _ cs,_,h=>by
    simp only[RelV]at h⊢;obtain⟨ds,h1,h2⟩:=h;exact⟨ds,h1,RelVs.mono hρ cs _ h2⟩
  |.iface _ x,_,h=>by
    simp only[RelV]at h⊢;obtain⟨u,h1,h2⟩:=h;exact⟨u,h1,RelV.mono hρ x u h2⟩
  |.agg cs,_,h=>by
    simp only[RelV]at h⊢;obtain⟨ds,h1,h2⟩:=h;exact⟨ds,h1,RelVs.mono hρ cs _ h2⟩
  |.tup cs,_,h=>by
    simp only[RelV]at h⊢;obtain⟨ds,h1,h2⟩:=h;exact⟨ds,h1,RelVs.mono hρ cs _ h2⟩
theorem RelVs.mono(hρ:∀i a,ρ i=some a→ρ' i=some a):∀(as bs:List AV),RelVs ρ as bs→RelVs ρ' as bs
  |[],_,h=>by simpa only [RelVs]using h
  | a::as,bs,h=>by
    simp only[RelVs]at h⊢;obtain⟨b,bs,h1,h2,h3⟩:=h;exact⟨b,bs,h1,RelV.mono hρ a b h2,RelVs.mono hρ as bs h3⟩
end
mutual
theorem tree_rel:∀(a:AV),a.tree=true→RelV ρ a a
  |.bool _,_ |.int _ _,_ |.str _,_ |.nilp,_ |.nils,_ |.nilm,_ |.nilf,_ |.nili,_=>by simp only[RelV]
  |.any,h=>by simp[AV.tree]at h
  |.ptr _ _ _,h=>by simp[AV.tree]at h
  |.map _,h=>by simp[AV.tree]at h
  |.slice _ _ _ _ _,h=>by simp[AV.tree]at h
  |.lst w xs c,h=>by simp only[RelV];simp only[AV.tree]at h;exact .inl ⟨xs,c,rfl,id,trees_rel xs h⟩
  |.ept x _,h=>by simp only[RelV];simp only[AV.tree]at h;exact⟨x,rfl,tree_rel x h⟩
  |.iface _ x,h=>by simp only[RelV];simp only[AV.tree]at h;exact⟨x,rfl,tree_rel x h⟩
  |.fn _ cs,h=>by simp only[RelV];simp only[AV.tree]at h;exact⟨cs,rfl,trees_rel cs h⟩
  |.agg cs,h=>by simp only[RelV];simp only[AV.tree]at h;exact⟨cs,rfl,trees_rel cs h⟩
  |.tup cs,h=>by simp only[RelV];simp only[AV.tree]at h;exact⟨cs,rfl,trees_rel cs h⟩
theorem trees_rel:∀(as:List AV),AV.trees as=true→RelVs ρ as as
  |[],_=>by simp only[RelVs]
  | a::as,h=>by
    simp only[RelVs];simp only[AV.trees,Bool.and_eq_true]at h;exact⟨a,as,rfl,tree_rel a h.1,trees_rel as h.2⟩
end
theorem RelV.cells{a b:AV}(h:RelV ρ a b):RelVs ρ a.cells b.cells:=by
  cases a
  case agg cs=>simp only[RelV]at h;obtain⟨ds,rfl,h⟩:=h;exact h
  case tup cs=>simp only[RelV]at h;obtain⟨ds,rfl,h⟩:=h;simp only[AV.cells,RelVs]
  case any=>simp only[RelV]at h;subst h;simp only[AV.cells,RelVs]
  all_goals
    have hh:=h;simp only[RelV]at hh
    first
      | (subst hh;exact RelVs.one h)
      | (rcases hh with⟨_,_,rfl⟩ | ⟨_,_,_,rfl | rfl⟩;exact RelVs.one h;exact RelVs.one h;exact RelVs.one h)
      | (rcases hh with⟨_,_,rfl,_⟩ | ⟨_,rfl⟩;exact RelVs.one h;exact RelVs.one h)
      | (obtain⟨_,_,rfl⟩:=hh;exact RelVs.one h)
      | (obtain⟨_,rfl,_⟩:=hh;exact RelVs.one h)
theorem RelV.cellsLen{a b:AV}(h:RelV ρ a b):b.cells.length=a.cells.length:=h.cells.length
theorem RelV.part{a b x:AV}{j:Nat}{sh:Option Nat}(h:RelV ρ a b)(hp:a.part j sh=some x):∃y,b.part j sh=some y∧RelV ρ x y:=by
  have hc:=h.cells;cases sh with
  | none=>
    simp only[AV.part]at hp⊢;exact hc.get hp
  | some k=>
    simp only[AV.part]at hp⊢;split at hp
    · rename_i hk;cases hp;rw[if_pos (by rw[hc.length];exact hk)];refine⟨_,rfl, ?_⟩;simp only[RelV];exact⟨_,rfl,(hc.drop j).take k⟩
    · cases hp
theorem RelV.put{a b x y a':AV}{j:Nat}(h:RelV ρ a b)(hx:RelV ρ x y)(hp:a.put j x=some a'):∃b',b.put j y=some b'∧RelV ρ a' b':=by
  have hcl:=hx.cellsLen;by_cases hag:∃cs,a=.agg cs
  · obtain⟨cs,rfl⟩:=hag;simp only[RelV]at h;obtain⟨ds,rfl,h⟩:=h;simp only[AV.put]at hp⊢;split at hp
    · rename_i hk;cases hp;rw[if_pos (by rw[hcl,h.length];exact hk)];refine⟨_,rfl, ?_⟩;simp only[RelV];refine⟨_,rfl,(h.take j).append (hx.cells.append ?_)⟩;rw[hcl];exact h.drop _
    · cases hp
  · have ha:a.put j x=if j=0∧a.cells.length=1 then(match x.cells with |[y]=>some y | _=>none)else none:=by
      cases a<;>first | rfl | exact absurd ⟨_,rfl⟩ hag
    have hb:b.put j y=if j=0∧b.cells.length=1 then(match y.cells with |[y]=>some y | _=>none)else none:=by
      have:¬∃ds,b=.agg ds:=by
        rintro⟨ds,rfl⟩;cases a<;>simp[RelV]at h;exact hag ⟨_,rfl⟩
      cases b<;>first | rfl | exact absurd ⟨_,rfl⟩ this
    rw[ha]at hp;rw[hb,h.cellsLen];split at hp
    · rename_i hk;rw[if_pos hk];have hxc:=hx.cells;split at hp
      · rename_i z hz;cases hp;rw[hz]at hxc;simp only[RelVs]at hxc;obtain⟨b',bs,q1,q2,rfl⟩:=hxc;rw[q1];exact⟨b',rfl,q2⟩
      · cases hp
    · cases hp
end
end Go.Ab
namespace Go.Ab
open Go
def RelEs(ρ:Ren)(es es':List (AV×AV)):Prop:=RelVs ρ (es.map (·.1)) (es'.map (·.1))∧RelVs ρ (es.map (·.2)) (es'.map (·.2))
def RelO(ρ:Ren)(i:Nat)(hr:AH):AObj→Prop
  |.dead=>True
  |.row w el rw=>(ρ i=some none∧el=[]∧rw=true)∨∃i' el',ρ i=some (some i')∧hr i'=some (.row w el' rw)∧RelVs ρ el el'
  |.map es=>∃i' es',ρ i=some (some i')∧hr i'=some (.map es')∧RelEs ρ es es'
structure RelH(ρ:Ren)(h:List AObj)(hr:AH):Prop where
  obj:∀i o,h[i]?=some o→RelO ρ i hr o
  inj:∀i j a o o',ρ i=some (some a)→ρ j=some (some a)→h[i]?=some o→h[j]?=some o'→o≠.dead→o'≠.dead→i=j
  out:∀i,h.length≤i→ρ i=none
  is:∀i a,ρ i=some (some a)→∃o,hr a=some o
def RelE(ρ:Ren)(s:LEnv)(e:Env):Prop:=∀n v,get s n=some v→∃r,lk e n=some r∧RelV ρ v r
structure RelS(ρ:Ren)(st:VSt)(sr:St):Prop where
  s:RelE ρ st.s sr.s
  l:RelE ρ st.l sr.l
  h:RelH ρ st.h sr.h
def Ao.ok:Ao→Bool
  |.c v=>v.tree
  | _=>true
def Ao.ok?:Option Ao→Bool
  | some x=>x.ok
  | none=>true
def AOp.ok:AOp→Bool
  |.mov x |.nilchk x |.isnil _ _ x |.not x |.neg x |.conv _ x |.s2b x |.b2s x |.faddr _ x |.fld _ _ x |.ext x _ |.len x |.slen x |.cap x |.mlen x |.panic x |.mkif _ x |.mkmapr x |.load _ x |.lbox _ x |.hbox _ x |.lstore _ _ _ x=>x.ok
  |.pick a b c=>a.ok&&b.ok&&c.ok
  |.lalloc z |.halloc _ z=>z.tree
  |.build z ps=>z.tree&&ps.all fun p=>p.2.2.ok
  |.bslice _ z _ ps=>z.tree&&ps.all fun p=>p.2.ok
  |.lload _ _ _ |.nop _ |.mkmap=>true
  |.store _ x y |.bin _ x y |.shft _ x y |.sop _ x y |.beq _ x y |.seq _ _ x y |.peq _ x y |.iaddr _ x y |.aaddr _ _ x y |.sidx x y |.aidx _ _ _ x y |.app _ x y |.appx _ x y |.max x y |.min x y |.copy _ x y=>x.ok&&y.ok
  |.mksl _ z x y |.appz _ z x y=>z.tree&&x.ok&&y.ok
  |.slc _ x a b c=>x.ok&&Ao.ok? a&&Ao.ok? b&&Ao.ok? c
  |.sslc x a b |.slcx _ x a b=>x.ok&&Ao.ok? a&&Ao.ok? b
  |.slcm _ x a b c=>x.ok&&a.ok&&b.ok&&c.ok
  |.mkfn _ xs=>xs.all Ao.ok
  |.call _ xs=>xs.all Ao.ok
  |.callv x xs=>x.ok&&xs.all Ao.ok
  |.clear _ z x=>z.tree&&x.ok
  |.look z x y _=>z.tree&&x.ok&&y.ok
  |.mupd x y z=>x.ok&&y.ok&&z.ok
  |.ment z x y=>z.tree&&x.ok&&y.ok
  |.mest x y z=>x.ok&&y.ok&&z.ok
section
variable {ρ:Ren} {s l:LEnv} {h:List AObj} {es el:Env} {hr:AH}
theorem ev_rel(hs:RelE ρ s es){x:Ao}(hx:x.ok=true){v:AV}(hv:ev (toE s) x=some v):∃r,ev es x=some r∧RelV ρ v r:=by
  cases x with
  | t n=>exact hs n v hv
  | c c=>cases hv;exact⟨_,rfl,tree_rel _ hx⟩
  | f g=>cases hv;exact⟨_,rfl,by simp only[RelV];exact⟨[],rfl,by simp only[RelVs]⟩⟩
theorem evs_rel(hs:RelE ρ s es):∀{xs:List Ao},xs.all Ao.ok=true→∀{vs:List AV},evs (toE s) xs=some vs→∃rs,evs es xs=some rs∧RelVs ρ vs rs
  |[],_,vs,hv=>by cases hv;exact⟨[],rfl,by simp only[RelVs]⟩
  | x::xs,hx,vs,hv=>by
    simp only[List.all_cons,Bool.and_eq_true]at hx;simp only[evs]at hv;split at hv
    · rename_i v vs' h1 h2;cases hv;obtain⟨r,q1,q2⟩:=ev_rel hs hx.1 h1;obtain⟨rs,q3,q4⟩:=evs_rel hs hx.2 h2;refine⟨r::rs,by simp only[evs,q1,q3], ?_⟩;simp only[RelVs];exact⟨r,rs,rfl,q2,q4⟩
    · cases hv
theorem ev_int(hs:RelE ρ s es){x:Ao}(hx:x.ok=true){k:IntKind}{n:Int}(hv:ev (toE s) x=some (.int k n)):ev es x=some (.int k n):=by
  obtain⟨r,h1,h2⟩:=ev_rel hs hx hv;simp only[RelV]at h2;rw[h1,h2]
theorem ev_bool(hs:RelE ρ s es){x:Ao}(hx:x.ok=true){b:Bool}(hv:ev (toE s) x=some (.bool b)):ev es x=some (.bool b):=by
  obtain⟨r,h1,h2⟩:=ev_rel hs hx hv;simp only[RelV]at h2;rw[h1,h2]
theorem ev_str(hs:RelE ρ s es){x:Ao}(hx:x.ok=true){b:List UInt8}(hv:ev (toE s) x=some (.str b)):ev es x=some (.str b):=by
  obtain⟨r,h1,h2⟩:=ev_rel hs hx hv;simp only[RelV]at h2;rw[h1,h2]
theorem bnd_rel(hs:RelE ρ s es){x:Option Ao}(hx:Ao.ok? x=true){a b c n:Nat}(hv:bnd (toE s) x a b c=some n):bnd es x a b c=some n:=by
  cases x with
  | none=>exact hv
  | some x=>
    simp only[bnd]at hv⊢;split at hv
    · rename_i k m hk;rw[ev_int hs hx hk];exact hv
    · cases hv
theorem entries_rel(hh:RelH ρ h hr){v r:AV}(hv:RelV ρ v r){xs:List (AV×AV)}(he:entries (toH h) v=some xs):∃ys,entries hr r=some ys∧RelEs ρ xs ys:=by
  cases v<;>simp only[entries,reduceCtorEq]at he
  case nilm=>simp only[RelV]at hv;subst hv;cases he;exact⟨[],rfl,by simp[RelEs,RelVs]⟩
  case map id=>
    simp only[RelV]at hv;obtain⟨id',h1,rfl⟩:=hv;simp only[entries];split at he
    · rename_i es ho;cases he;obtain⟨i',es',q1,q2,q3⟩:=hh.obj _ _ ho;rw[h1]at q1;cases q1;rw[q2];exact⟨es',rfl,q3⟩
    · cases he
theorem keyEq_rel{a b a' b':AV}{t:Bool}(hk:keyEq a b=some t)(ha:RelV ρ a a')(hb:RelV ρ b b'):keyEq a' b'=some t:=by
  cases a<;>cases b<;>simp only[keyEq,reduceCtorEq]at hk<;>simp only[RelV]at ha hb<;>subst ha hb<;>exact hk
theorem findKey_rel{k k':AV}(hk:RelV ρ k k'):∀{xs ys:List (AV×AV)}{n:Nat}{r:Option (Nat×AV)},RelEs ρ xs ys→findKey k xs n=some r→
    (r=none∧findKey k' ys n=some none)∨∃i v v',r=some (i,v)∧findKey k' ys n=some (some (i,v'))∧RelV ρ v v'
  |[],ys,n,r,h,hf=>by
    obtain⟨h1,_⟩:=h;have:ys=[]:=by simpa using h1.length
    subst this;simp only[findKey]at hf;split at hf
    · cases hf;simp only[RelV]at hk;subst hk;exact .inl ⟨rfl,rfl⟩
    · cases hf
  | (a,v)::xs,ys,n,r,h,hf=>by
    obtain⟨h1,h2⟩:=h;cases ys with
    | nil=>have:=h1.length;simp at this
    | cons y ys=>
      obtain⟨a',v'⟩:=y;simp only[List.map_cons,RelVs,List.cons.injEq]at h1 h2;obtain⟨_,_,⟨rfl,rfl⟩,q1,q2⟩:=h1;obtain⟨_,_,⟨rfl,rfl⟩,q3,q4⟩:=h2;simp only[findKey]at hf⊢;split at hf
      · rename_i hq;cases hf;rw[keyEq_rel hq hk q1];exact .inr ⟨n,v,v',rfl,rfl,q3⟩
      · rename_i hq;rw[keyEq_rel hq hk q1];exact findKey_rel hk ⟨q2,q4⟩ hf
      · cases hf
theorem elems_rel(hh:RelH ρ h hr){v r:AV}(hv:RelV ρ v r){xs:List AV}(he:elemsOf (toH h) v=some xs):∃ys,elemsOf hr r=some ys∧RelVs ρ xs ys:=by
  cases v<;>simp only[elemsOf,reduceCtorEq]at he
  case nils=>simp only[RelV]at hv;subst hv;cases he;exact⟨[],rfl,by simp only[RelVs]⟩
  case str a=>simp only[RelV]at hv;subst hv;cases he;exact⟨_,rfl,trees_rel _ (by induction a with | nil=>rfl | cons x a ih=>simpa[AV.trees,AV.tree]using ih)⟩
  case lst w xs c=>
    cases he;simp only[RelV]at hv;rcases hv with⟨ys,c',rfl,_,h2⟩ | ⟨rfl,rfl⟩
    · exact⟨ys,rfl,h2⟩
    · exact⟨[],rfl,by simp only[RelVs]⟩
  case slice w id off len clip=>
    simp only[RelV]at hv;split at he
    · rename_i h0;cases he;subst h0;rcases hv with⟨id',h1,rfl⟩ | ⟨h1,rfl,_,rfl | rfl⟩<;>exact⟨[],by simp[elemsOf],by simp only[RelVs]⟩
    split at he
    · rename_i w' el rw' ho;split at he
      · rename_i hl;cases he;rcases hv with⟨id',h1,rfl⟩ | ⟨h1,rfl,rfl,rfl | rfl⟩
        · rcases hh.obj _ _ ho with⟨q,_⟩ | ⟨i',el',q1,q2,q3⟩
          · rw[q]at h1;cases h1
          · rw[h1]at q1;cases q1;rw[elemsOf_row q2 (by rw[q3.length];exact hl)];exact⟨_,rfl,(q3.drop off).take len⟩
        · exact⟨[],rfl,by simp[RelVs]⟩
        · exact⟨[],rfl,by simp[RelVs]⟩
      · cases he
    · cases he
theorem build_rel(hs:RelE ρ s es):∀{ps:List (Nat×Nat×Ao)},(ps.all fun p=>p.2.2.ok)=true→∀{z z' v:AV},RelV ρ z z'→buildAV (toE s) z ps=some v→∃r,buildAV es z' ps=some r∧RelV ρ v r
  |[],_,z,z',v,hz,hb=>by cases hb;exact⟨z',rfl,hz⟩
  | (off,sz,x)::ps,hp,z,z',v,hz,hb=>by
    simp only[List.all_cons,Bool.and_eq_true]at hp;simp only[buildAV]at hb;split at hb
    · rename_i a ha;obtain⟨a',h1,h2⟩:=ev_rel hs hp.1 ha;split at hb
      · rename_i hl;split at hb
        · rename_i z2 hz2;obtain⟨z2',h3,h4⟩:=hz.put h2 hz2;obtain⟨r,h5,h6⟩:=build_rel hs hp.2 h4 hb;refine⟨r, ?_,h6⟩;simp only[buildAV,h1];rw[if_pos (by rw[h2.cellsLen];exact hl),h3];exact h5
        · cases hb
      · cases hb
    · cases hb
theorem fill_rel(hs:RelE ρ s es){w:Nat}:∀{ps:List (Nat×Ao)},(ps.all fun p=>p.2.ok)=true→∀{z z' v:List AV},RelVs ρ z z'→fillAV (toE s) w z ps=some v→∃r,fillAV es w z' ps=some r∧RelVs ρ v r
  |[],_,z,z',v,hz,hb=>by cases hb;exact⟨z',rfl,hz⟩
  | (i,x)::ps,hp,z,z',v,hz,hb=>by
    simp only[List.all_cons,Bool.and_eq_true]at hp;simp only[fillAV]at hb;split at hb
    · rename_i a ha;obtain⟨a',h1,h2⟩:=ev_rel hs hp.1 ha;split at hb
      · rename_i hl;obtain⟨r,h5,h6⟩:=fill_rel hs hp.2 (hz.set i h2) hb;refine⟨r, ?_,h6⟩;simp only[fillAV,h1];rw[if_pos (by rw[h2.cellsLen,hz.length];exact hl)];exact h5
      · cases hb
    · cases hb
end
end Go.Ab
namespace Go.Ab
open Go
def xval(o:AOp)(st:VSt):Option AV:=match o with
  |.isnil 1 n x=>(match ev (toE st.s) x with
    | some (.lst _ (_::_) _)=>some (.bool n)
    | some .nils=>some (.bool !n)
    | _=>none)
  |.slcx _ _ _ _=>none
  |.slcm _ _ _ _ _=>none
  | o=>val o (toE st.s) (toE st.l) (toH st.h)
section
variable {ρ:Ren} {st:VSt} {sr:St}
theorem xval_eq{st:VSt}{o:AOp}(h:∀n x,o≠.isnil 1 n x)(h2:∀w x a b,o≠.slcx w x a b:=by intros;nofun)(h3:∀w x a b c,o≠.slcm w x a b c:=by intros;nofun):xval o st=val o (toE st.s) (toE st.l) (toH st.h):=by
  unfold xval;split
  · exact absurd rfl (h _ _)
  · exact absurd rfl (h2 _ _ _ _)
  · exact absurd rfl (h3 _ _ _ _ _)
  · rfl
theorem load_rel(hh:RelH ρ st.h sr.h){id i j:Nat}{sh:Option Nat}{r v:AV}(hp:RelV ρ (.ptr id i j) r)
    (hv:(match (toH st.h) id with | some (.row _ el _)=>(el[i]?).bind (·.part j sh) | _=>none)=some v):
    ∃id' y,r=.ptr id' i j∧(match sr.h id' with | some (.row _ el _)=>(el[i]?).bind (·.part j sh) | _=>none)=some y∧RelV ρ v y:=by
  simp only[RelV]at hp;obtain⟨id',h1,rfl⟩:=hp;split at hv
  · rename_i w el rw' ho;simp only[Option.bind_eq_some_iff]at hv;obtain⟨x,hx,hp⟩:=hv;rcases hh.obj _ _ ho with⟨q,_⟩ | ⟨i',el',q1,q2,q3⟩
    · rw[q]at h1;cases h1
    · rw[h1]at q1;cases q1;obtain⟨y,g1,g2⟩:=q3.get hx;obtain⟨z,g3,g4⟩:=g2.part hp;exact⟨id',z,rfl,by rw[q2];simp only[g1,Option.bind_some,g3],g4⟩
  · cases hv
theorem dig_rel:∀{as bs:List AV},RelVs ρ as bs→bs.map dig=as.map dig
  |[],_,h=>by simp only[RelVs]at h;subst h;rfl
  | a::as,_,h=>by
    simp only[RelVs]at h;obtain⟨b,bs,rfl,h1,h2⟩:=h;simp only[List.map_cons,dig_rel h2,List.cons.injEq,and_true];cases a<;>simp only[RelV]at h1<;>first
      | (subst h1;rfl)
      | (rcases h1 with⟨_,_,rfl⟩ | ⟨_,_,_,rfl | rfl⟩;rfl;rfl;rfl)
      | (rcases h1 with⟨_,_,rfl,_⟩ | ⟨_,rfl⟩;rfl;rfl)
      | (obtain⟨_,_,rfl⟩:=h1;rfl)
      | (obtain⟨_,rfl,_⟩:=h1;rfl)
theorem sclEq_rel{a b a' b':AV}{t:Bool}(hk:sclEq a b=some t)(ha:RelV ρ a a')(hb:RelV ρ b b'):sclEq a' b'=some t:=by
  cases a<;>cases b<;>simp only[sclEq,reduceCtorEq]at hk<;>simp only[RelV]at ha hb<;>subst ha hb<;>exact hk
theorem cellsEq_rel:∀{cs ds rs qs:List AV}{b:Bool},RelVs ρ cs rs→RelVs ρ ds qs→cellsEq cs ds=some b→cellsEq rs qs=some b∧True
  |[],[],rs,qs,b,h,k,hb=>by simp only[RelVs]at h k;subst h k;exact⟨hb,trivial⟩
  | a::as,c::cs,rs,qs,b,h,k,hb=>by
    simp only[RelVs]at h k;obtain⟨r,rs,rfl,h1,h2⟩:=h;obtain⟨q,qs,rfl,k1,k2⟩:=k;simp only[cellsEq]at hb⊢;split at hb
    · rename_i hq;rw[sclEq_rel hq h1 k1];exact cellsEq_rel h2 k2 hb
    · rename_i hq;rw[sclEq_rel hq h1 k1];exact⟨hb,trivial⟩
    · cases hb
  |[],_::_,_,_,_,_,_,hb=>by simp[cellsEq]at hb
  | _::_,[],_,_,_,_,_,hb=>by simp[cellsEq]at hb
theorem xval_rel(hS:RelS ρ st sr){o:AOp}(ho:o.ok=true){v:AV}(hv:xval o st=some v):∃r,val o sr.s sr.l sr.h=some r∧RelV ρ v r:=by
  have hs:=hS.s;cases o
  case isnil tag neg x=>
    simp only[AOp.ok]at ho;by_cases ht:tag=1
    · subst ht;simp only[xval]at hv;split at hv
      · rename_i w y ys c h1;cases hv;obtain⟨r,h3,h4⟩:=ev_rel hs ho h1;simp only[RelV,RelVs]at h4;rcases h4 with⟨_,c',rfl,_,b,bs,rfl,_⟩ | ⟨h4,_⟩
        · exact⟨.bool neg,by simp only[val,h3,Option.bind_some,AV.isNil,Option.map_some];cases neg<;>rfl,by simp only[RelV]⟩
        · cases h4
      · rename_i h1;cases hv;obtain⟨r,h3,h4⟩:=ev_rel hs ho h1;simp only[RelV]at h4;subst h4;exact⟨.bool !neg,by simp only[val,h3,Option.bind_some,AV.isNil,Option.map_some];cases neg<;>rfl,by simp only[RelV]⟩
      · cases hv
    · have hv:val (.isnil tag neg x) (toE st.s) (toE st.l) (toH st.h)=some v:=by
        unfold xval at hv;split at hv
        · rename_i heq;cases heq;exact absurd rfl ht
        · rename_i heq;cases heq
        · rename_i heq;cases heq
        · exact hv
      simp only[val,Option.map_eq_some_iff,Option.bind_eq_some_iff]at hv⊢;obtain⟨b,⟨a,h1,h2⟩,rfl⟩:=hv;obtain⟨r,h3,h4⟩:=ev_rel hs ho h1;refine⟨_,⟨b,⟨r,h3, ?_⟩,rfl⟩,by simp only[RelV]⟩;unfold AV.isNil at h2;split at h2
      all_goals
        first
          | (cases h2;done)
          | (exact absurd rfl ht)
          | (cases h2;simp only[RelV]at h4
             first
               | (subst h4;rfl)
               | (obtain⟨_,_,rfl⟩:=h4;rfl)
               | (obtain⟨_,rfl,_⟩:=h4;rfl))
  case slcx=>cases hv
  case slcm=>cases hv
  all_goals (rw[xval_eq (by intro _ _ h;cases h) (by intro _ _ _ _ h;cases h) (by intro _ _ _ _ _ h;cases h)]at hv)
  case mov x=>exact ev_rel hs ho hv
  case pick c a b=>
    simp only[AOp.ok,Bool.and_eq_true]at ho;simp only[val]at hv⊢;split at hv
    · rename_i hc;rw[ev_bool hs ho.1.1 hc];exact ev_rel hs ho.1.2 hv
    · rename_i hc;rw[ev_bool hs ho.1.1 hc];exact ev_rel hs ho.2 hv
    · cases hv
  case build z ps=>
    simp only[AOp.ok,Bool.and_eq_true]at ho;exact build_rel hs ho.2 (tree_rel z ho.1) hv
  case lload t off sh=>
    simp only[val,Option.bind_eq_some_iff]at hv⊢;obtain⟨c,h1,h2⟩:=hv;obtain⟨r,h3,h4⟩:=hS.l t c h1;obtain⟨y,h5,h6⟩:=h4.part h2;exact⟨y,⟨r,h3,h5⟩,h6⟩
  case load sh p=>
    simp only[val]at hv⊢;split at hv
    · rename_i id i j hp;obtain⟨r,h3,h4⟩:=ev_rel hs ho hp;obtain⟨id',y,rfl,h5,h6⟩:=load_rel hS.h h4 hv;rw[h3];exact⟨y,h5,h6⟩
    · rename_i x j hp;obtain⟨r,h3,h4⟩:=ev_rel hs ho hp;simp only[RelV]at h4;obtain⟨y,rfl,h4⟩:=h4;rw[h3];exact h4.part hv
    · cases hv
  case nilchk x=>
    simp only[val]at hv⊢;split at hv
    all_goals
      first
        | (cases hv;done)
        | (rename_i hx
           cases hv;obtain⟨r,h3,h4⟩:=ev_rel hs ho hx;have h5:=h4;simp only[RelV]at h4
           first
             | (obtain⟨_,_,rfl⟩:=h4;rw[h3];exact⟨_,rfl,h5⟩)
             | (obtain⟨_,rfl,_⟩:=h4;rw[h3];exact⟨_,rfl,h5⟩))
  case bin op x y=>
    simp only[AOp.ok,Bool.and_eq_true]at ho;simp only[val]at hv⊢;split at hv
    · rename_i k a k' b hx hy;rw[ev_int hs ho.1 hx,ev_int hs ho.2 hy];simp only;split at hv
      · rename_i hk;rw[if_pos hk];refine⟨v,hv,tree_rel _ ?_⟩;unfold intOp at hv;split at hv<;>first
          | (cases hv;done)
          | (cases hv;rfl)
          | (split at hv<;>cases hv<;>rfl)
      · cases hv
    · cases hv
  case shft op x y=>
    simp only[AOp.ok,Bool.and_eq_true]at ho;simp only[val]at hv⊢;split at hv
    · rename_i k a k' b hx hy;rw[ev_int hs ho.1 hx,ev_int hs ho.2 hy];refine⟨v,hv,tree_rel _ ?_⟩;unfold shOp at hv;split at hv
      · cases hv
      · split at hv<;>first
          | (cases hv;done)
          | (cases hv;rfl)
    · cases hv
  case sop op x y=>
    simp only[AOp.ok,Bool.and_eq_true]at ho;simp only[val]at hv⊢;split at hv
    · rename_i a b hx hy;rw[ev_str hs ho.1 hx,ev_str hs ho.2 hy];refine⟨v,hv,tree_rel _ ?_⟩;unfold strOp at hv;split at hv<;>first
        | (cases hv;done)
        | (cases hv;rfl)
        | (split at hv<;>cases hv<;>rfl)
    · cases hv
  case beq neg x y=>
    simp only[AOp.ok,Bool.and_eq_true]at ho;simp only[val]at hv⊢;split at hv
    · rename_i a b hx hy;rw[ev_bool hs ho.1 hx,ev_bool hs ho.2 hy];cases hv;exact⟨_,rfl,by simp only[RelV]⟩
    · cases hv
  case seq neg k x y=>
    simp only[AOp.ok,Bool.and_eq_true]at ho;simp only[val]at hv⊢;split at hv
    · rename_i cs ds hx hy;obtain⟨r,h3,h4⟩:=ev_rel hs ho.1 hx;obtain⟨q,h5,h6⟩:=ev_rel hs ho.2 hy;simp only[RelV]at h4 h6;obtain⟨rs,rfl,h4⟩:=h4;obtain⟨qs,rfl,h6⟩:=h6;rw[h3,h5];split at hv
      · rename_i hk;simp only[Option.map_eq_some_iff]at hv;obtain⟨b,hb,rfl⟩:=hv;obtain⟨e1,e2⟩:=cellsEq_rel h4 h6 hb;have e3:rs.map dig=cs.map dig:=dig_rel h4;have e4:qs.map dig=ds.map dig:=dig_rel h6;simp only[e3,e4,if_pos hk,e1,Option.map_some];exact⟨_,rfl,by simp only[RelV]⟩
      · cases hv
    · cases hv
  case not x=>
    simp only[val]at hv⊢;split at hv
    · rename_i a hx;rw[ev_bool hs ho hx];cases hv;exact⟨_,rfl,by simp only[RelV]⟩
    · cases hv
  case neg x=>
    simp only[val]at hv⊢;split at hv
    · rename_i a n hx;rw[ev_int hs ho hx];cases hv;exact⟨_,rfl,by simp only[RelV]⟩
    · cases hv
  case conv k x=>
    simp only[val]at hv⊢;split at hv
    · rename_i a n hx;rw[ev_int hs ho hx];cases hv;exact⟨_,rfl,by simp only[RelV]⟩
    · cases hv
  case slc w x lo hi mx=>
    simp only[AOp.ok,Bool.and_eq_true]at ho;obtain⟨⟨⟨o1,o2⟩,o3⟩,o4⟩:=ho;simp only[val]at hv⊢;split at hv
    · rename_i hx;obtain⟨r,h3,h4⟩:=ev_rel hs o1 hx;simp only[RelV]at h4;subst h4;rw[h3];split at hv
      · rename_i n0 n1 n2 q0 q1 q2;cases hv;cases mx with
        | none=>
          simp only[bnd_rel hs o3 q1,bnd_rel hs o2 q2];exact⟨_,rfl,by simp only[RelV]⟩
        | some m=>
          simp only at q0;simp only[bnd_rel hs o4 q0,bnd_rel hs o3 q1,bnd_rel hs o2 q2];exact⟨_,rfl,by simp only[RelV]⟩
      · cases hv
    · rename_i w' id off len clip hx;obtain⟨r,h3,h4⟩:=ev_rel hs o1 hx;simp only[RelV]at h4;split at hv
      · rename_i b hb;split at hv
        · rename_i a ha;have hb':=bnd_rel hs o3 hb;have ha':=bnd_rel hs o2 ha;rcases h4 with⟨id',h5,rfl⟩ | ⟨h5,rfl,rfl,h6⟩
          · rw[h3];simp only[hb',ha'];split at hv
            · split at hv
              · rename_i hw;cases hv;simp only[if_pos hw];refine⟨_,rfl, ?_⟩;simp only[RelV];exact .inl ⟨id',h5,rfl⟩
              · cases hv
            · rename_i m;split at hv
              · rename_i M hM;split at hv
                · rename_i hw;cases hv;simp only[bnd_rel hs o4 hM,if_pos hw];refine⟨_,rfl, ?_⟩;simp only[RelV];exact .inl ⟨id',h5,rfl⟩
                · cases hv
              · cases hv
          · rw[h3];have hb0:b=0:=by
              cases hi with
              | none=>simp only[bnd]at hb;cases hb;rfl
              | some y=>
                simp only[bnd]at hb;split at hb
                · split at hb
                  · cases hb;omega
                  · cases hb
                · cases hb
            subst hb0;have ha0:a=0:=by
              cases lo with
              | none=>simp only[bnd]at ha;cases ha;rfl
              | some y=>
                simp only[bnd]at ha;split at ha
                · split at ha
                  · cases ha;omega
                  · cases ha
                · cases ha
            subst ha0;rcases h6 with rfl | rfl
            · simp only[hb',ha'];split at hv
              · split at hv
                · cases hv;refine⟨_,rfl, ?_⟩;simp[RelV,h5]
                · cases hv
              · rename_i m;split at hv
                · rename_i M hM;split at hv
                  · cases hv;simp only[bnd_rel hs o4 hM];refine⟨_,rfl, ?_⟩;simp[RelV,h5]
                  · cases hv
                · cases hv
            · simp only[List.length_nil,hb',ha'];split at hv
              · split at hv
                · rename_i hw;cases hv;refine⟨.lst w [] true, ?_, ?_⟩
                  · simp[hw.1]
                  · simp[RelV,h5]
                · cases hv
              · rename_i m;split at hv
                · rename_i M hM;split at hv
                  · rename_i hw;cases hv;simp only[bnd_rel hs o4 hM,if_pos hw];refine⟨_,rfl, ?_⟩;simp[RelV,h5]
                  · cases hv
                · cases hv
        · cases hv
      · cases hv
    · rename_i w' xs clip hx;obtain⟨r,h3,h4⟩:=ev_rel hs o1 hx;simp only[RelV]at h4;split at hv
      · rename_i b hb;split at hv
        · rename_i a ha;have hb':=bnd_rel hs o3 hb;have ha':=bnd_rel hs o2 ha;rcases h4 with⟨ys,c',rfl,hcc,h5⟩ | ⟨rfl,rfl⟩
          · rw[h3];simp only[h5.length,hb',ha'];split at hv
            · split at hv
              · rename_i hw;cases hv;simp only[if_pos hw];refine⟨_,rfl, ?_⟩;simp only[RelV];refine .inl ⟨_,_,rfl,fun hq=> ?_,(h5.drop a).take (b-a)⟩;simp only[Bool.and_eq_true]at hq⊢;exact⟨hcc hq.1,hq.2⟩
              · cases hv
            · rename_i m;split at hv
              · rename_i M hM;split at hv
                · rename_i hw;cases hv;simp only[bnd_rel hs o4 hM,if_pos hw];refine⟨_,rfl, ?_⟩;simp only[RelV];exact .inl ⟨_,_,rfl,fun _=>rfl,(h5.drop a).take (b-a)⟩
                · cases hv
              · cases hv
          · rw[h3];have hb0:b=0:=by
              cases hi with
              | none=>simp only[bnd,List.length_nil]at hb;cases hb;rfl
              | some y=>
                simp only[bnd,List.length_nil]at hb;split at hb
                · split at hb
                  · cases hb;omega
                  · cases hb
                · cases hb
            subst hb0;have ha0:a=0:=by
              cases lo with
              | none=>simp only[bnd]at ha;cases ha;rfl
              | some y=>
                simp only[bnd]at ha;split at ha
                · split at ha
                  · cases ha;omega
                  · cases ha
                · cases ha
            subst ha0;simp only[List.length_nil]at hb';simp only[hb',ha'];split at hv
            · split at hv
              · cases hv;refine⟨_,rfl, ?_⟩;simp[RelV]
              · cases hv
            · rename_i m;split at hv
              · rename_i M hM;split at hv
                · cases hv;simp only[bnd_rel hs o4 hM];refine⟨_,rfl, ?_⟩;simp[RelV]
                · cases hv
              · cases hv
        · cases hv
      · cases hv
    · cases hv
  case sslc x lo hi=>
    simp only[AOp.ok,Bool.and_eq_true]at ho;obtain⟨⟨o1,o2⟩,o3⟩:=ho;simp only[val]at hv⊢;split at hv
    · rename_i a hx;rw[ev_str hs o1 hx];split at hv
      · rename_i e he;split at hv
        · rename_i b hb;cases hv;simp only[bnd_rel hs o3 he,bnd_rel hs o2 hb];exact⟨_,rfl,by simp only[RelV]⟩
        · cases hv
      · cases hv
    · cases hv
  case faddr off x=>
    simp only[val]at hv⊢;split at hv
    · rename_i id i j hx;cases hv;obtain⟨r,h3,h4⟩:=ev_rel hs ho hx;simp only[RelV]at h4;obtain⟨id',h5,rfl⟩:=h4;rw[h3];refine⟨_,rfl, ?_⟩;simp only[RelV];exact⟨id',h5,rfl⟩
    · rename_i y j hx;cases hv;obtain⟨r,h3,h4⟩:=ev_rel hs ho hx;simp only[RelV]at h4;obtain⟨y',rfl,h5⟩:=h4;rw[h3];refine⟨_,rfl, ?_⟩;simp only[RelV];exact⟨y',rfl,h5⟩
    · cases hv
  case fld off sh x=>
    simp only[val]at hv⊢;split at hv
    · rename_i cs hx;obtain⟨r,h3,h4⟩:=ev_rel hs ho hx;have h5:=h4;simp only[RelV]at h4;obtain⟨ds,rfl,h6⟩:=h4;rw[h3];exact h5.part hv
    · cases hv
  case iaddr w x i=>
    simp only[AOp.ok,Bool.and_eq_true]at ho;simp only[val]at hv⊢;split at hv
    · rename_i w' id off len cl k n hx hi;obtain⟨r,h3,h4⟩:=ev_rel hs ho.1 hx;rw[h3,ev_int hs ho.2 hi];simp only[RelV]at h4;split at hv
      · rename_i hc;cases hv;rcases h4 with⟨id',h5,rfl⟩ | ⟨_,_,rfl,_⟩
        · simp only[if_pos hc];refine⟨_,rfl, ?_⟩;simp only[RelV];exact⟨id',h5,rfl⟩
        · omega
      · cases hv
    · rename_i w' xs cl k n hx hi;obtain⟨r,h3,h4⟩:=ev_rel hs ho.1 hx;rw[h3,ev_int hs ho.2 hi];simp only[RelV]at h4;split at hv
      · rename_i hc;simp only[Option.map_eq_some_iff]at hv;obtain⟨y,h6,rfl⟩:=hv;rcases h4 with⟨ys,c',rfl,_,h5⟩ | ⟨rfl,rfl⟩
        · obtain⟨z,h7,h8⟩:=h5.get h6;simp only[if_pos hc,h7,Option.map_some];refine⟨_,rfl, ?_⟩;simp only[RelV];exact⟨z,rfl,h8⟩
        · simp at h6
      · cases hv
    · cases hv
  case aaddr n w x i=>
    simp only[AOp.ok,Bool.and_eq_true]at ho;simp only[val]at hv⊢;split at hv
    · rename_i id k1 j k m hx hi;obtain⟨r,h3,h4⟩:=ev_rel hs ho.1 hx;rw[h3,ev_int hs ho.2 hi];simp only[RelV]at h4;obtain⟨id',h5,rfl⟩:=h4;simp only;split at hv
      · rename_i hc;cases hv;rw[if_pos hc];refine⟨_,rfl, ?_⟩;simp only[RelV];exact⟨id',h5,rfl⟩
      · cases hv
    · rename_i y j k m hx hi;obtain⟨r,h3,h4⟩:=ev_rel hs ho.1 hx;rw[h3,ev_int hs ho.2 hi];simp only[RelV]at h4;obtain⟨y',rfl,h5⟩:=h4;simp only;split at hv
      · rename_i hc;cases hv;rw[if_pos hc];refine⟨_,rfl, ?_⟩;simp only[RelV];exact⟨y',rfl,h5⟩
      · cases hv
    · cases hv
  case sidx x i=>
    simp only[AOp.ok,Bool.and_eq_true]at ho;simp only[val]at hv⊢;split at hv
    · rename_i a k n hx hi;rw[ev_str hs ho.1 hx,ev_int hs ho.2 hi];refine⟨v,hv,tree_rel _ ?_⟩;split at hv
      · simp only[Option.map_eq_some_iff]at hv;obtain⟨b,_,rfl⟩:=hv;rfl
      · cases hv
    · cases hv
  case aidx n w sh x i=>
    simp only[AOp.ok,Bool.and_eq_true]at ho;simp only[val]at hv⊢;split at hv
    · rename_i cs k m hx hi;obtain⟨r,h3,h4⟩:=ev_rel hs ho.1 hx;rw[h3,ev_int hs ho.2 hi];have h5:=h4;simp only[RelV]at h4;obtain⟨ds,rfl,h6⟩:=h4;simp only;split at hv
      · rename_i hc;rw[if_pos hc];exact h5.part hv
      · cases hv
    · cases hv
  case ext x i=>
    simp only[val]at hv⊢;split at hv
    · rename_i vs hx;obtain⟨r,h3,h4⟩:=ev_rel hs ho hx;simp only[RelV]at h4;obtain⟨ds,rfl,h6⟩:=h4;rw[h3];exact h6.get hv
    · cases hv
  case mkfn g caps=>
    simp only[val,Option.map_eq_some_iff]at hv⊢;obtain⟨vs,h1,rfl⟩:=hv;obtain⟨rs,h2,h3⟩:=evs_rel hs ho h1;refine⟨_,⟨rs,h2,rfl⟩, ?_⟩;simp only[RelV];exact⟨rs,rfl,h3⟩
  case len x=>
    simp only[val]at hv⊢;split at hv
    · rename_i hx;cases hv;obtain⟨r,h3,h4⟩:=ev_rel hs ho hx;simp only[RelV]at h4;subst h4;rw[h3];exact⟨_,rfl,by simp only[RelV]⟩
    · rename_i w id off len c hx;cases hv;obtain⟨r,h3,h4⟩:=ev_rel hs ho hx;simp only[RelV]at h4;rw[h3];rcases h4 with⟨id',h5,rfl⟩ | ⟨_,_,rfl,rfl | rfl⟩
      · exact⟨_,rfl,by simp only[RelV]⟩
      · exact⟨_,rfl,by simp only[RelV];rfl⟩
      · exact⟨_,rfl,by simp only[RelV];rfl⟩
    · rename_i w xs c hx;cases hv;obtain⟨r,h3,h4⟩:=ev_rel hs ho hx;simp only[RelV]at h4;rw[h3];rcases h4 with⟨ys,c',rfl,_,h5⟩ | ⟨rfl,rfl⟩
      · exact⟨_,rfl,by simp only[RelV,h5.length]⟩
      · exact⟨_,rfl,by simp only[RelV];rfl⟩
    · cases hv
  case slen x=>
    simp only[val]at hv⊢;split at hv
    · rename_i a hx;rw[ev_str hs ho hx];cases hv;exact⟨_,rfl,by simp only[RelV]⟩
    · cases hv
  case cap x=>
    simp only[val]at hv⊢;split at hv
    · rename_i hx;obtain⟨r,h3,h4⟩:=ev_rel hs ho hx;simp only[RelV]at h4;subst h4;rw[h3];cases hv;exact⟨_,rfl,by simp only[RelV]⟩
    · cases hv
  case mlen x=>
    simp only[val,Option.map_eq_some_iff,Option.bind_eq_some_iff]at hv⊢;obtain⟨es,⟨a,h1,h2⟩,rfl⟩:=hv;obtain⟨r,h3,h4⟩:=ev_rel hs ho h1;obtain⟨ys,h5,h6⟩:=entries_rel hS.h h4 h2;refine⟨_,⟨ys,⟨r,h3,h5⟩,rfl⟩, ?_⟩;have:=h6.1.length;simp only[List.length_map]at this;simp only[RelV,this]
  case max x y=>
    simp only[AOp.ok,Bool.and_eq_true]at ho;simp only[val]at hv⊢;split at hv
    · rename_i k a k' b hx hy;rw[ev_int hs ho.1 hx,ev_int hs ho.2 hy];simp only;split at hv
      · rename_i hk;rw[if_pos hk];cases hv;exact⟨_,rfl,by simp only[RelV]⟩
      · cases hv
    · cases hv
  case min x y=>
    simp only[AOp.ok,Bool.and_eq_true]at ho;simp only[val]at hv⊢;split at hv
    · rename_i k a k' b hx hy;rw[ev_int hs ho.1 hx,ev_int hs ho.2 hy];simp only;split at hv
      · rename_i hk;rw[if_pos hk];cases hv;exact⟨_,rfl,by simp only[RelV]⟩
      · cases hv
    · cases hv
  case mkif t x=>
    simp only[val,Option.map_eq_some_iff]at hv⊢;obtain⟨a,h1,rfl⟩:=hv;obtain⟨r,h3,h4⟩:=ev_rel hs ho h1;refine⟨_,⟨r,h3,rfl⟩, ?_⟩;simp only[RelV];exact⟨r,rfl,h4⟩
  case look z m k ok=>
    simp only[AOp.ok,Bool.and_eq_true]at ho;obtain⟨⟨o1,o2⟩,o3⟩:=ho;simp only[val]at hv⊢;split at hv
    · rename_i mv kv hm hk;obtain⟨r,h3,h4⟩:=ev_rel hs o2 hm;obtain⟨kr,h5,h6⟩:=ev_rel hs o3 hk;rw[h3,h5];split at hv
      · rename_i es he;obtain⟨ys,g1,g2⟩:=entries_rel hS.h h4 he;simp only[g1];split at hv
        · rename_i i v1 hf;rcases findKey_rel h6 g2 hf with⟨q,_⟩ | ⟨i',v2,v3,q1,q2,q3⟩
          · cases q
          · cases q1;rw[q2];simp only;refine⟨_,rfl, ?_⟩;cases hv;cases ok
            · exact q3
            · simp only[if_true,RelV];refine⟨_,rfl, ?_⟩;simp only[RelVs];exact⟨_,_,rfl,q3,_,_,rfl,by simp only[RelV],rfl⟩
        · rename_i hf;rcases findKey_rel h6 g2 hf with⟨_,q⟩ | ⟨i',v2,v3,q1,_⟩
          · rw[q];simp only;refine⟨_,rfl, ?_⟩;cases hv;cases ok
            · exact tree_rel z o1
            · simp only[if_true,RelV];refine⟨_,rfl, ?_⟩;simp only[RelVs];exact⟨_,_,rfl,tree_rel z o1,_,_,rfl,by simp only[RelV],rfl⟩
          · cases q1
        · cases hv
      · cases hv
    · cases hv
  case nop t=>
    simp only[val,Option.map_eq_some_iff]at hv⊢;obtain⟨c,h1,rfl⟩:=hv;obtain⟨r,h3,_⟩:=hS.l t c h1;exact⟨_,⟨r,h3,rfl⟩,by simp only[RelV]⟩
  all_goals (simp only[val,reduceCtorEq]at hv)
end
end Go.Ab
namespace Go.Ab
open Go
structure Fm(b:Nat)(ρ:Ren)(hr:AH)(ρ':Ren)(hr':AH):Prop where
  pres:∀a o,hr a=some o→(∀i,ρ i≠some (some a))→hr' a=some o
  new:∀i a,ρ' i=some (some a)→(∃j,ρ j=some (some a))∨hr.fr a
  fr:∀a,hr'.fr a→hr.fr a
  base:∀i,i<b→ρ' i=ρ i
theorem Fm.refl(b:Nat)(ρ:Ren)(hr:AH):Fm b ρ hr ρ hr:=⟨fun _ _ h _=>h,fun i _ h=>.inl ⟨i,h⟩,fun _ h=>h,fun _ _=>rfl⟩
theorem Fm.trans{b:Nat}{ρ ρ' ρ'':Ren}{hr hr' hr'':AH}(x:Fm b ρ hr ρ' hr')(y:Fm b ρ' hr' ρ'' hr''):Fm b ρ hr ρ'' hr'' where
  pres:=fun a o h1 h2=>y.pres a o (x.pres a o h1 h2) fun i hi=>by
    rcases x.new i a hi with⟨j,hj⟩ | hf
    · exact h2 j hj
    · rw[hf.1]at h1;cases h1
  new:=fun i a hi=>by
    rcases y.new i a hi with⟨j,hj⟩ | hf
    · exact x.new j a hj
    · exact .inr (x.fr a hf)
  fr:=fun a h=>x.fr a (y.fr a h)
  base:=fun i hi=>(y.base i hi).trans (x.base i hi)
def Ren.ext(ρ:Ren)(n:Nat)(x:Option Nat):Ren:=fun i=>if i=n then some x else ρ i
theorem Ren.ext_le{ρ:Ren}{n:Nat}{x:Option Nat}(h:ρ n=none):ρ.le (ρ.ext n x):=fun i a hi=>by
  unfold Ren.ext;rw[if_neg (by rintro rfl;rw[h]at hi;cases hi)];exact hi
theorem Ren.ext_same(ρ:Ren)(n:Nat)(x:Option Nat):ρ.ext n x n=some x:=by simp[Ren.ext]
theorem Ren.ext_ne(ρ:Ren){n i:Nat}(x:Option Nat)(h:i≠n):ρ.ext n x i=ρ i:=by simp[Ren.ext,h]
section
variable {ρ ρ':Ren} {h:List AObj} {hr hr':AH}
theorem RelEs.mono(hρ:ρ.le ρ'){es es':List (AV×AV)}(k:RelEs ρ es es'):RelEs ρ' es es':=⟨RelVs.mono hρ _ _ k.1,RelVs.mono hρ _ _ k.2⟩
theorem RelO.mono{i:Nat}(hρ:ρ.le ρ')(hh:∀a o,ρ i=some (some a)→hr a=some o→hr' a=some o):∀{o:AObj},RelO ρ i hr o→RelO ρ' i hr' o
  |.dead,_=>trivial
  |.row _ _ _,k=>by
    rcases k with⟨q1,q2⟩ | ⟨i',el',q1,q2,q3⟩
    · exact .inl ⟨hρ _ _ q1,q2⟩
    · exact .inr ⟨i',el',hρ _ _ q1,hh _ _ q1 q2,RelVs.mono hρ _ _ q3⟩
  |.map _,⟨i',es',q1,q2,q3⟩=>⟨i',es',hρ _ _ q1,hh _ _ q1 q2,q3.mono hρ⟩
theorem RelE.mono(hρ:ρ.le ρ'){s:LEnv}{e:Env}(k:RelE ρ s e):RelE ρ' s e:=fun n v hv=>let ⟨r,q1,q2⟩:=k n v hv;⟨r,q1,RelV.mono hρ _ _ q2⟩
theorem get_cons{s:LEnv}{d n:Nat}{v:AV}:get ((d,v)::s) n=if d=n then some v else get s n:=rfl
theorem RelE.cons{s:LEnv}{e:Env}(k:RelE ρ s e){d:Nat}{v r:AV}(hv:RelV ρ v r):RelE ρ ((d,v)::s) (e.set d r):=fun n x hx=>by
  rw[get_cons]at hx;rw[lk_set];split at hx
  · rename_i hd;rw[if_pos hd];cases hx;exact⟨r,rfl,hv⟩
  · rename_i hd;rw[if_neg hd];exact k n x hx
def vputS(s:LEnv)(d:Option Nat)(v:AV):LEnv:=match d with
  | some d=>(d,v)::s
  | none=>s
theorem RelE.put{s:LEnv}{e:Env}(k:RelE ρ s e){d:Option Nat}{v r:AV}(hv:RelV ρ v r):RelE ρ (vputS s d v) (putS e d r):=by
  cases d with
  | none=>exact k
  | some d=>exact k.cons hv
theorem lt_of_some{h:List AObj}{i:Nat}{o:AObj}(k:h[i]?=some o):i<h.length:=(List.getElem?_eq_some_iff.1 k).1
theorem RelH.none_at(hh:RelH ρ h hr):ρ h.length=none:=hh.out _ (Nat.le_refl _)
theorem RelH.new(hh:RelH ρ h hr){a:Nat}(ha:hr.fr a){o o':AObj}(ho:RelO (ρ.ext h.length (some a)) h.length (hr.upd a o') o):RelH (ρ.ext h.length (some a)) (h++[o]) (hr.upd a o') where
  obj:=fun i x hx=>by
    by_cases hi:i=h.length
    · subst hi;rw[List.getElem?_append_right (Nat.le_refl _),Nat.sub_self]at hx;simp only[List.getElem?_cons_zero,Option.some.injEq]at hx;subst hx;exact ho
    · have hlt:i<h.length:=by
        have:=lt_of_some hx;simp only[List.length_append,List.length_cons,List.length_nil]at this;omega
      rw[List.getElem?_append_left hlt]at hx;refine(hh.obj i x hx).mono (Ren.ext_le hh.none_at) fun a' o'' _ h2=> ?_;exact AH.get_upd ha.1 h2
  inj:=fun i j x o1 o2 h1 h2 hi hj d1 d2=>by
    have key:∀i o1,(h++[o])[i]?=some o1→i≠h.length→h[i]?=some o1:=fun i o1 hi hn=>by
      have:=lt_of_some hi;simp only[List.length_append,List.length_cons,List.length_nil]at this;rwa[List.getElem?_append_left (by omega)]at hi
    by_cases e1:i=h.length<;>by_cases e2:j=h.length
    · rw[e1,e2]
    · subst e1;rw[Ren.ext_same]at h1;rw[Ren.ext_ne _ _ e2]at h2;cases h1;obtain⟨q,hq⟩:=hh.is j _ h2;rw[ha.1]at hq;cases hq
    · subst e2;rw[Ren.ext_same]at h2;rw[Ren.ext_ne _ _ e1]at h1;cases h2;obtain⟨q,hq⟩:=hh.is i _ h1;rw[ha.1]at hq;cases hq
    · rw[Ren.ext_ne _ _ e1]at h1;rw[Ren.ext_ne _ _ e2]at h2;exact hh.inj i j x _ _ h1 h2 (key _ _ hi e1) (key _ _ hj e2) d1 d2
  out:=fun i hi=>by
    simp only[List.length_append,List.length_cons,List.length_nil]at hi;rw[Ren.ext_ne _ _ (by omega)];exact hh.out i (by omega)
  is:=fun i x hx=>by
    by_cases e:i=h.length
    · subst e;rw[Ren.ext_same]at hx;cases hx;exact⟨o',AH.upd_same _ _ _⟩
    · rw[Ren.ext_ne _ _ e]at hx;obtain⟨q,hq⟩:=hh.is i x hx;exact⟨q,AH.get_upd ha.1 hq⟩
theorem Fm.mkNew{b:Nat}(_hh:RelH ρ h hr)(hb:b≤h.length){a:Nat}(ha:hr.fr a){o':AObj}:Fm b ρ hr (ρ.ext h.length (some a)) (hr.upd a o') where
  pres:=fun x o h1 _=>AH.get_upd ha.1 h1
  new:=fun i x hx=>by
    by_cases e:i=h.length
    · subst e;rw[Ren.ext_same]at hx;cases hx;exact .inr ha
    · rw[Ren.ext_ne _ _ e]at hx;exact .inl ⟨i,hx⟩
  fr:=fun x hx=>AH.fr_of hx
  base:=fun i hi=>Ren.ext_ne _ _ (by omega)
theorem RelH.nil(hh:RelH ρ h hr){w:Nat}:RelH (ρ.ext h.length none) (h++[.row w [] true]) hr where
  obj:=fun i x hx=>by
    by_cases hi:i=h.length
    · subst hi;rw[List.getElem?_append_right (Nat.le_refl _),Nat.sub_self]at hx;simp only[List.getElem?_cons_zero,Option.some.injEq]at hx;subst hx;exact .inl ⟨Ren.ext_same _ _ _,rfl,rfl⟩
    · have hlt:i<h.length:=by
        have:=lt_of_some hx;simp only[List.length_append,List.length_cons,List.length_nil]at this;omega
      rw[List.getElem?_append_left hlt]at hx;exact(hh.obj i x hx).mono (Ren.ext_le hh.none_at) fun a' o'' _ h2=>h2
  inj:=fun i j x o1 o2 h1 h2 hi hj d1 d2=>by
    have key:∀i o1,(h++[AObj.row w [] true])[i]?=some o1→i≠h.length→h[i]?=some o1:=fun i o1 hi hn=>by
      have:=lt_of_some hi;simp only[List.length_append,List.length_cons,List.length_nil]at this;rwa[List.getElem?_append_left (by omega)]at hi
    by_cases e1:i=h.length
    · subst e1;rw[Ren.ext_same]at h1;cases h1
    by_cases e2:j=h.length
    · subst e2;rw[Ren.ext_same]at h2;cases h2
    rw[Ren.ext_ne _ _ e1]at h1;rw[Ren.ext_ne _ _ e2]at h2;exact hh.inj i j x _ _ h1 h2 (key _ _ hi e1) (key _ _ hj e2) d1 d2
  out:=fun i hi=>by
    simp only[List.length_append,List.length_cons,List.length_nil]at hi;rw[Ren.ext_ne _ _ (by omega)];exact hh.out i (by omega)
  is:=fun i x hx=>by
    by_cases e:i=h.length
    · subst e;rw[Ren.ext_same]at hx;cases hx
    · rw[Ren.ext_ne _ _ e]at hx;exact hh.is i x hx
theorem Fm.mkNil{b:Nat}(_hh:RelH ρ h hr)(hb:b≤h.length):Fm b ρ hr (ρ.ext h.length none) hr where
  pres:=fun x o h1 _=>h1
  new:=fun i x hx=>by
    by_cases e:i=h.length
    · subst e;rw[Ren.ext_same]at hx;cases hx
    · rw[Ren.ext_ne _ _ e]at hx;exact .inl ⟨i,hx⟩
  fr:=fun x hx=>hx
  base:=fun i hi=>Ren.ext_ne _ _ (by omega)
theorem set_at{h:List AObj}{id i:Nat}{o o':AObj}(k:(h.set id o')[i]?=some o):(i=id∧o=o'∧id<h.length)∨(i≠id∧h[i]?=some o):=by
  rw[List.getElem?_set]at k;split at k
  · rename_i e;split at k
    · rename_i hl;cases k;exact .inl ⟨e.symm,rfl,hl⟩
    · cases k
  · rename_i e;exact .inr ⟨fun q=>e q.symm,k⟩
theorem RelH.giveUp(hh:RelH ρ h hr)(id:Nat):RelH ρ (h.set id .dead) hr where
  obj:=fun i x hx=>by
    rcases set_at hx with⟨_,rfl,_⟩ | ⟨_,hx⟩
    · trivial
    · exact hh.obj i x hx
  inj:=fun i j x o1 o2 h1 h2 hi hj d1 d2=>by
    rcases set_at hi with⟨_,rfl,_⟩ | ⟨_,hi⟩
    · exact absurd rfl d1
    rcases set_at hj with⟨_,rfl,_⟩ | ⟨_,hj⟩
    · exact absurd rfl d2
    exact hh.inj i j x _ _ h1 h2 hi hj d1 d2
  out:=fun i hi=>hh.out i (by simpa using hi)
  is:=hh.is
theorem RelH.write(hh:RelH ρ h hr){id a:Nat}{o o1 o':AObj}(hid:ρ id=some (some a))(ho:h[id]?=some o)(hd:o≠.dead)(hn:RelO ρ id (hr.upd a o') o1):RelH ρ (h.set id o1) (hr.upd a o') where
  obj:=fun i x hx=>by
    rcases set_at hx with⟨rfl,rfl,_⟩ | ⟨hne,hx⟩
    · exact hn
    · by_cases hxd:x=.dead
      · subst hxd;trivial
      refine(hh.obj i x hx).mono (fun _ _ q=>q) fun a' o'' q1 q2=> ?_;rw[AH.upd_ne _ _ (fun e=>hne ?_)]
      · exact q2
      · subst e;exact hh.inj i id a' _ _ q1 hid hx ho hxd hd
  inj:=fun i j x o2 o3 h1 h2 hi hj d1 d2=>by
    have key:∀i o2,(h.set id o1)[i]?=some o2→o2≠AObj.dead→∃o3,h[i]?=some o3∧o3≠AObj.dead:=fun i o2 hi hd2=>by
      rcases set_at hi with⟨rfl,rfl,_⟩ | ⟨_,hi⟩
      · exact⟨o,ho,hd⟩
      · exact⟨o2,hi,hd2⟩
    obtain⟨p1,q1,q2⟩:=key i o2 hi d1;obtain⟨p2,q3,q4⟩:=key j o3 hj d2;exact hh.inj i j x _ _ h1 h2 q1 q3 q2 q4
  out:=fun i hi=>hh.out i (by simpa using hi)
  is:=fun i x hx=>by
    by_cases e:x=a
    · subst e;exact⟨o',AH.upd_same _ _ _⟩
    · obtain⟨q,hq⟩:=hh.is i x hx;exact⟨q,by rw[AH.upd_ne _ _ e];exact hq⟩
theorem Fm.write{b:Nat}(_hh:RelH ρ h hr){id a:Nat}{o':AObj}(hid:ρ id=some (some a)):Fm b ρ hr ρ (hr.upd a o') where
  pres:=fun x o h1 h2=>by
    rw[AH.upd_ne _ _ (by rintro rfl;exact h2 id hid)];exact h1
  new:=fun i x hx=>.inl ⟨i,hx⟩
  fr:=fun x hx=>AH.fr_of hx
  base:=fun _ _=>rfl
theorem RelH.move(hh:RelH ρ h hr){id a:Nat}{o:AObj}(hid:ρ id=some (some a))(ho:h[id]?=some o)(hd:o≠.dead):RelH (ρ.ext h.length (some a)) (h.set id .dead++[o]) hr where
  obj:=fun i x hx=>by
    by_cases hi:i=h.length
    · subst hi;rw[List.getElem?_append_right (by simp)]at hx;simp only[List.length_set,Nat.sub_self,List.getElem?_cons_zero,Option.some.injEq]at hx;subst hx;have hk:=(hh.obj id o ho).mono (Ren.ext_le (x:=some a) hh.none_at) fun a' o'' _ h2=>h2;have e:ρ.ext h.length (some a) id=some (some a):=by rw[Ren.ext_ne _ _ (Nat.ne_of_lt (lt_of_some ho))];exact hid
      cases o with
      | dead=>trivial
      | row w el rw'=>
        rcases hk with⟨q,_⟩ | ⟨i',el',q1,q2,q3⟩
        · rw[e]at q;cases q
        · rw[e]at q1;cases q1;exact .inr ⟨a,el',Ren.ext_same _ _ _,q2,q3⟩
      | map es=>
        obtain⟨i',es',q1,q2,q3⟩:=hk;rw[e]at q1;cases q1;exact⟨a,es',Ren.ext_same _ _ _,q2,q3⟩
    · have hlt:i<(h.set id .dead).length:=by
        have:=lt_of_some hx;simp only[List.length_append,List.length_cons,List.length_nil,List.length_set]at this⊢;omega
      rw[List.getElem?_append_left hlt]at hx;exact((hh.giveUp id).obj i x hx).mono (Ren.ext_le hh.none_at) fun a' o'' _ h2=>h2
  inj:=fun i j x o1 o2 h1 h2 hi hj d1 d2=>by
    have key:∀i o1,(h.set id AObj.dead++[o])[i]?=some o1→i≠h.length→o1≠AObj.dead→h[i]?=some o1∧i≠id:=fun i o1 hi hn hd1=>by
      have:=lt_of_some hi;simp only[List.length_append,List.length_cons,List.length_nil,List.length_set]at this;rw[List.getElem?_append_left (by simp;omega)]at hi;rcases set_at hi with⟨_,rfl,_⟩ | ⟨q1,q2⟩
      · exact absurd rfl hd1
      · exact⟨q2,q1⟩
    by_cases e1:i=h.length<;>by_cases e2:j=h.length
    · rw[e1,e2]
    · subst e1;obtain⟨q1,q2⟩:=key _ _ hj e2 d2;rw[Ren.ext_same]at h1;rw[Ren.ext_ne _ _ e2]at h2;cases h1;exact absurd (hh.inj j id a _ _ h2 hid q1 ho d2 hd) q2
    · subst e2;obtain⟨q1,q2⟩:=key _ _ hi e1 d1;rw[Ren.ext_same]at h2;rw[Ren.ext_ne _ _ e1]at h1;cases h2;exact absurd (hh.inj i id a _ _ h1 hid q1 ho d1 hd) q2
    · rw[Ren.ext_ne _ _ e1]at h1;rw[Ren.ext_ne _ _ e2]at h2;exact hh.inj i j x _ _ h1 h2 (key _ _ hi e1 d1).1 (key _ _ hj e2 d2).1 d1 d2
  out:=fun i hi=>by
    simp only[List.length_append,List.length_cons,List.length_nil,List.length_set]at hi;rw[Ren.ext_ne _ _ (by omega)];exact hh.out i (by omega)
  is:=fun i x hx=>by
    by_cases e:i=h.length
    · subst e;rw[Ren.ext_same]at hx;cases hx;exact hh.is id _ hid
    · rw[Ren.ext_ne _ _ e]at hx;exact hh.is i x hx
theorem Fm.move{b:Nat}(_hh:RelH ρ h hr)(hb:b≤h.length){id a:Nat}(hid:ρ id=some (some a)):Fm b ρ hr (ρ.ext h.length (some a)) hr where
  pres:=fun x o h1 _=>h1
  new:=fun i x hx=>by
    by_cases e:i=h.length
    · subst e;rw[Ren.ext_same]at hx;cases hx;exact .inl ⟨id,hid⟩
    · rw[Ren.ext_ne _ _ e]at hx;exact .inl ⟨i,hx⟩
  fr:=fun x hx=>hx
  base:=fun i hi=>Ren.ext_ne _ _ (by omega)
end
end Go.Ab
namespace Go.Ab
open Go
def VSt.put(st:VSt)(d:Option Nat)(v:AV):VSt:={st with s:=vputS st.s d v}
def vnew(st:VSt)(d:Option Nat)(o:AObj)(v:AV)(K:VSt→Prop):Prop:=K {s:=vputS st.s d v,l:=st.l,h:=st.h++[o]}
def xapp(w:Nat)(a:AV)(ys:List AV)(d:Option Nat)(st:VSt)(K:VSt→Prop):Prop:=
  match a with
  |.nils=>ys.length≤LIM∧vnew st d (.row w ys true) (.slice w st.h.length 0 ys.length false) K
  |.slice w' id off len clip=>w'=w∧len+ys.length≤LIM∧
    (match st.h[id]? with
    | some (.row w2 el true)=>w2=w∧off+len≤el.length∧
      ((off=0∧clip=false∧el.length=len∧vnew {st with h:=st.h.set id .dead} d (.row w (el++ys) true) (.slice w st.h.length 0 (len+ys.length) false) K)∨
       (0<ys.length∧clip=false∧vnew {st with h:=st.h.set id .dead} d (.row w ((el.drop off).take len++ys) true) (.slice w st.h.length 0 (len+ys.length) false) K)∨
       (0<ys.length∧clip=true∧vnew st d (.row w ((el.drop off).take len++ys) true) (.slice w st.h.length 0 (len+ys.length) false) K)∨
       (ys.length=0∧K (st.put d a)))
    | _=>False)
  |.lst w' xs clip=>w'=w∧((xs=[]∧clip=true∧ys.length≤LIM∧vnew st d (.row w ys true) (.slice w st.h.length 0 ys.length false) K)∨
      if ys.length=0 then K (st.put d a)else xs.length+ys.length≤LIM∧clip=true∧vnew st d (.row w (xs++ys) true) (.slice w st.h.length 0 (xs.length+ys.length) false) K)
  | _=>False
def xstep(o:AOp)(d:Option Nat)(st:VSt)(K:VSt→Prop):Prop:=
  match o with
  |.lalloc z=>match d with
    | some t=>K {st with l:=(t,z)::st.l}
    | none=>False
  |.lbox k x=>match d,ev (toE st.s) x with
    | some t,some v=>v.cells.length=k∧K {st with l:=(t,v)::st.l}
    | _,_=>False
  |.lstore t off k x=>match get st.l t,ev (toE st.s) x with
    | some c,some v=>v.cells.length=k∧(match c.put off v with
      | some c'=>K {st with l:=(t,c')::st.l}
      | none=>False)
    | _,_=>False
  |.halloc w z=>vnew st d (.row w [z] true) (.ptr st.h.length 0 0) K
  |.hbox w x=>match ev (toE st.s) x with
    | some v=>v.cells.length=w∧vnew st d (.row w [v] true) (.ptr st.h.length 0 0) K
    | none=>False
  |.bslice w z n ps=>match fillAV (toE st.s) w (List.replicate n z) ps with
    | some el=>vnew st d (.row w el true) (.slice w st.h.length 0 n false) K
    | none=>False
  |.mksl w z l c=>match ev (toE st.s) l,ev (toE st.s) c with
    | some (.int _ n),some (.int _ m)=>0≤n∧n≤m∧m≤(LIM:Int)∧vnew st d (.row w (List.replicate n.toNat z) true) (.slice w st.h.length 0 n.toNat false) K
    | _,_=>False
  |.appz w z x l=>match ev (toE st.s) x,ev (toE st.s) l with
    | some .nils,some (.int _ n)=>0<n∧n≤(LIM:Int)∧vnew st d (.row w (List.replicate n.toNat z) true) (.slice w st.h.length 0 n.toNat false) K
    | _,_=>False
  |.s2b x=>match ev (toE st.s) x with
    | some (.str a)=>a.length≤LIM∧vnew st d (.row 1 (a.map fun b=>.int .u8 b.toNat) true) (.slice 1 st.h.length 0 a.length false) K
    | _=>False
  |.b2s x=>match ev (toE st.s) x with
    | some v=>(v=.nils∨wOf v=some 1)∧(match elemsOf (toH st.h) v with
      | some el=>∃a:List UInt8,el=(a.map fun b:UInt8=>AV.int .u8 b.toNat)∧K (st.put d (.str a))
      | none=>False)
    | none=>False
  |.store k p x=>match ev (toE st.s) p,ev (toE st.s) x with
    | some (.ptr id i j),some v=>v.cells.length=k∧(match st.h[id]? with
      | some (.row w el true)=>(match el[i]? with
        | some e=>(match e.put j v with
          | some e'=>K {st with h:=st.h.set id (.row w (el.set i e') true)}
          | none=>False)
        | none=>False)
      | _=>False)
    | _,_=>False
  |.app w x y=>match ev (toE st.s) x,ev (toE st.s) y with
    | some a,some b=>srcW w b∧(match elemsOf (toH st.h) b with
      | some ys=>xapp w a ys d st K
      | none=>False)
    | _,_=>False
  |.copy w x y=>match ev (toE st.s) x,ev (toE st.s) y with
    | some (.slice w' id off len _),some b=>w'=w∧srcW w b∧(match elemsOf (toH st.h) b with
      | some ys=>(match st.h[id]? with
        | some (.row w2 el true)=>w2=w∧off+len≤el.length∧K {s:=vputS st.s d (.int .i64 (min len ys.length:Nat)),l:=st.l,h:=st.h.set id (.row w (el.take off++(ys.take (min len ys.length)++el.drop (off+min len ys.length))) true)}
        | _=>False)
      | none=>False)
    | _,_=>False
  |.appx w x y=>match ev (toE st.s) x,ev (toE st.s) y with
    | some (.slice w' id off len false),some b=>w'=w∧srcW w b∧(match elemsOf (toH st.h) b with
      | some ys=>(match st.h[id]? with
        | some (.row w2 el true)=>w2=w∧off+len+ys.length≤el.length∧0<el.length∧
            vnew {st with h:=st.h.set id .dead} d (.row w ((el.drop off).take len++(ys++el.drop (off+len+ys.length))) true) (.slice w st.h.length 0 (len+ys.length) false) K
        | _=>False)
      | none=>False)
    | _,_=>False
  |.slcx w x lo hi=>match ev (toE st.s) x with
    | some (.slice w' id off len false)=>(match st.h[id]? with
      | some (.row _ el _)=>0<el.length∧(match bnd (toE st.s) hi len 0 (el.length-off)with
        | some b=>(match bnd (toE st.s) lo 0 0 b with
          | some a=>w'=w∧K (st.put d (.slice w id (off+a) (b-a) false))
          | none=>False)
        | none=>False)
      | _=>False)
    | _=>False
  |.slcm w x lo hi mx=>match ev (toE st.s) x with
    | some (.slice w' id _ len _)=>(match st.h[id]? with
      | some (.row _ el _)=>0<el.length∧(match bnd (toE st.s) (some mx) 0 0 len with
        | some c=>(match bnd (toE st.s) (some hi) 0 0 c with
          | some b=>(match bnd (toE st.s) (some lo) 0 0 b with
            | some _=>w'=w∧K (st.put d .any)
            | none=>False)
          | none=>False)
        | none=>False)
      | _=>False)
    | _=>False
  |.clear w z x=>match ev (toE st.s) x with
    | some (.slice w' id off len _)=>w'=w∧(match st.h[id]? with
      | some (.row w2 el true)=>w2=w∧off+len≤el.length∧0<el.length∧K {st with h:=st.h.set id (.row w (el.take off++(List.replicate len z++el.drop (off+len))) true)}
      | _=>False)
    | _=>False
  |.mkmap=>vnew st d (.map []) (.map st.h.length) K
  |.mkmapr r=>match ev (toE st.s) r with
    | some (.int _ _)=>vnew st d (.map []) (.map st.h.length) K
    | _=>False
  |.mupd m k v=>match ev (toE st.s) m,ev (toE st.s) k,ev (toE st.s) v with
    | some (.map id),some k',some v'=>(match st.h[id]? with
      | some (.map es)=>(match findKey k' es 0 with
        | some (some (i,_))=>K {st with h:=st.h.set id (.map (es.set i (k',v')))}
        | some none=>K {st with h:=st.h.set id (.map (es++[(k',v')]))}
        | none=>False)
      | _=>False)
    | _,_,_=>False
  |.call _ _ |.callv _ _ |.panic _ |.ment _ _ _ |.mest _ _ _=>False
  | o=>match xval o st with
    | some v=>K (st.put d v)
    | none=>False
section
variable {ρ:Ren} {st:VSt} {sr:St} {b:Nat}
theorem Step.of_val{o:AOp}{d:Option Nat}{st:St}{v:AV}(hv:val o st.s st.l st.h=some v):Step o d st (st.put d v):=by
  cases o<;>first
    | (simp only[val,reduceCtorEq]at hv;done)
    | exact⟨v,hv,rfl⟩
theorem srcW_rel{w:Nat}{v r:AV}(h:RelV ρ v r)(k:srcW w v):srcW w r:=by
  cases v<;>simp only[RelV]at h
  case slice=>rcases h with⟨_,_,rfl⟩ | ⟨_,_,_,rfl | rfl⟩;exact k;trivial;exact k
  case lst=>rcases h with⟨_,_,rfl,_⟩ | ⟨_,rfl⟩;exact k;trivial
  all_goals first
    | (subst h;exact k)
    | (obtain⟨_,_,rfl⟩:=h;trivial)
    | (obtain⟨_,rfl,_⟩:=h;trivial)
theorem str_of_rel{a:List UInt8}{el:List AV}(h:RelVs ρ (a.map fun b:UInt8=>AV.int .u8 b.toNat) el):el=(a.map fun b:UInt8=>AV.int .u8 b.toNat):=by
  induction a generalizing el with
  | nil=>simpa only [List.map_nil,RelVs]using h
  | cons x a ih=>
    simp only[List.map_cons,RelVs]at h;obtain⟨c,cs,rfl,h1,h2⟩:=h;simp only[RelV]at h1;rw[h1,ih h2];rfl
theorem vnew_sound{d:Option Nat}{o o':AObj}{v:AV}{v':Nat→AV}{K:VSt→Prop}(hS:RelS ρ st sr)(hb:b≤st.h.length)(hk:vnew st d o v K)
    (ho:∀a,RelO (ρ.ext st.h.length (some a)) st.h.length (sr.h.upd a o') o) (hv:∀a,RelV (ρ.ext st.h.length (some a)) v (v' a)):
    ∃sr' ρ' st',New sr d o' v' sr'∧K st'∧RelS ρ' st' sr'∧Fm b ρ sr.h ρ' sr'.h∧b≤st'.h.length:=by
  obtain⟨a,ha⟩:=sr.h.fresh;refine⟨_,ρ.ext st.h.length (some a),_,⟨a,ha,rfl⟩,hk,⟨?_, ?_, ?_⟩,Fm.mkNew hS.h hb ha, ?_⟩
  · exact(hS.s.mono (Ren.ext_le hS.h.none_at)).put (hv a)
  · exact hS.l.mono (Ren.ext_le hS.h.none_at)
  · exact hS.h.new ha (ho a)
  · simp only[List.length_append];omega
theorem row_rel{w a:Nat}{el el':List AV}(hS:RelH ρ st.h sr.h)(h:RelVs ρ el el'):RelO (ρ.ext st.h.length (some a)) st.h.length (sr.h.upd a (.row w el' true)) (.row w el true):=
  .inr ⟨a,el',Ren.ext_same _ _ _,AH.upd_same _ _ _,RelVs.mono (Ren.ext_le hS.none_at) _ _ h⟩
theorem sl_rel{ρ:Ren}{n a w off len:Nat}{cl:Bool}:RelV (ρ.ext n (some a)) (.slice w n off len cl) (.slice w a off len cl):=by
  simp only[RelV];exact .inl ⟨a,Ren.ext_same _ _ _,rfl⟩
theorem pt_rel{ρ:Ren}{n a:Nat}:RelV (ρ.ext n (some a)) (.ptr n 0 0) (.ptr a 0 0):=by
  simp only[RelV];exact⟨a,Ren.ext_same _ _ _,rfl⟩
def Stepped(b:Nat)(ρ:Ren)(sr:St)(o:AOp)(d:Option Nat)(K:VSt→Prop):Prop:=
  ∃sr' ρ' st',Step o d sr sr'∧K st'∧RelS ρ' st' sr'∧Fm b ρ sr.h ρ' sr'.h∧b≤st'.h.length
theorem nil_app{w:Nat}{y c:AV}{ys zs:List AV}{d:Option Nat}{K:VSt→Prop}(hS:RelS ρ st sr)(hb:b≤st.h.length)(hc:c=.nils∨c=.lst w [] true)(hy:elemsOf sr.h y=some zs)(hw:srcW w y)
    (hyz:RelVs ρ ys zs) (h1:ys.length≤LIM) (h2:vnew st d (.row w ys true) (.slice w st.h.length 0 ys.length false) K):
    ∃sr' ρ' st',App w c y sr d sr'∧K st'∧RelS ρ' st' sr'∧Fm b ρ sr.h ρ' sr'.h∧b≤st'.h.length:=by
  have hlen:=hyz.length;by_cases h0:ys.length=0
  · have:ys=[]:=List.eq_nil_of_length_eq_zero h0;subst this;refine⟨sr.put d c,ρ.ext st.h.length none,_,⟨zs,hy,hw, ?_⟩,h2,⟨?_, ?_, ?_⟩,Fm.mkNil hS.h hb, ?_⟩
    · rcases hc with rfl | rfl
      · simp only[hlen,List.length_nil,if_true]
      · simp only[hlen,List.length_nil,if_true,and_self]
    · refine(hS.s.mono (Ren.ext_le hS.h.none_at)).put ?_;simp[RelV,Ren.ext_same,hc]
    · exact hS.l.mono (Ren.ext_le hS.h.none_at)
    · exact hS.h.nil
    · simp only[List.length_append];omega
  · obtain⟨sr',ρ',st',q1,q2⟩:=vnew_sound (o':=.row w zs true) (v':=fun id=>.slice w id 0 zs.length false) hS hb h2 (fun a=>row_rel hS.h hyz) (fun a=>by rw[hlen];exact sl_rel);refine⟨sr',ρ',st',⟨zs,hy,hw, ?_⟩,q2⟩;rw[hlen]at q1⊢;rcases hc with rfl | rfl
    · simp only[];rw[if_neg h0];exact⟨h1,q1⟩
    · simp only[List.nil_append,List.length_nil,Nat.zero_add,true_and];rw[if_neg h0];exact⟨h1,q1⟩
theorem xapp_sound{w:Nat}{y:AV}{a c:AV}{ys zs:List AV}{d:Option Nat}{K:VSt→Prop}(hS:RelS ρ st sr)(hb:b≤st.h.length)(ha:RelV ρ a c)(hy:elemsOf sr.h y=some zs)(hw:srcW w y)
    (hyz:RelVs ρ ys zs) (hk:xapp w a ys d st K):∃sr' ρ' st',App w c y sr d sr'∧K st'∧RelS ρ' st' sr'∧Fm b ρ sr.h ρ' sr'.h∧b≤st'.h.length:=by
  have hlen:=hyz.length;unfold xapp at hk;split at hk
  · --nil
    simp only[RelV]at ha;subst ha;exact nil_app hS hb (.inl rfl) hy hw hyz hk.1 hk.2
  · --a row
    rename_i w' id off len clip;obtain⟨rfl,hlim,hk⟩:=hk;split at hk
    · rename_i w2 el hid;obtain⟨rfl,hoff,hk⟩:=hk;have hra:=ha;simp only[RelV]at ha;have hob:=hS.h.obj _ _ hid;have hS1:RelS ρ {st with h:=st.h.set id .dead} sr:=⟨hS.s,hS.l,hS.h.giveUp id⟩;have hb1:b≤(st.h.set id AObj.dead).length:=by rw[List.length_set];exact hb
      rcases ha with⟨a',ha,rfl⟩ | ⟨ha,rfl,rfl,hc0⟩
      · rcases hob with⟨q,_⟩ | ⟨i',el',q1,q2,q3⟩
        · rw[ha]at q;cases q
        rw[ha]at q1;cases q1;have hel:elemsOf sr.h (.slice w2 a' off len clip)=some ((el'.drop off).take len):=by
          exact elemsOf_row q2 (by rw[q3.length];exact hoff)
        have hS2:RelS ρ {st with h:=st.h.set id .dead} {sr with h:=sr.h.upd a' .dead}:=⟨hS.s,hS.l,hS.h.write ha hid (by simp) trivial⟩;have hel2:RelVs ρ ((el.drop off).take len++ys) ((el'.drop off).take len++zs):=((q3.drop off).take len).append hyz;have grow:ys.length≠0→clip=false→vnew {st with h:=st.h.set id .dead} d (.row w2 ((el.drop off).take len++ys) true) (.slice w2 st.h.length 0 (len+ys.length) false) K→
            ∃sr' ρ' st',App w2 (.slice w2 a' off len clip) y sr d sr'∧K st'∧RelS ρ' st' sr'∧Fm b ρ sr.h ρ' sr'.h∧b≤st'.h.length:=by
          clear hk;intro h0 hc hk;subst hc;have e:st.h.length=(st.h.set id AObj.dead).length:=by rw[List.length_set]
          rw[e]at hk;obtain⟨sr',ρ',st',g1,g2,g3,g4,g5⟩:=vnew_sound (b:=b) (o':=.row w2 ((el'.drop off).take len++zs) true) (v':=fun id=>.slice w2 id 0 (len+zs.length) false) hS2 hb1 hk
            (fun a=>row_rel hS2.h hel2) (fun a=>by rw[hlen];exact sl_rel)
          refine⟨sr',ρ',st',⟨zs,hy,hw,rfl, ?_⟩,g2,g3,(Fm.write hS.h ha).trans g4,g5⟩;rw[hlen]at g1⊢;rw[if_neg h0];refine⟨hlim,_,hel, ?_⟩;simp only[Bool.false_eq_true,if_false];exact⟨⟨_,q2⟩,g1⟩
        rcases hk with⟨rfl,rfl,hl,hk⟩ | ⟨h0,rfl,hk⟩ | ⟨h0,rfl,hk⟩ | ⟨h0,hk⟩
        · by_cases h0:ys.length=0
          · have hys:ys=[]:=List.eq_nil_of_length_eq_zero h0;subst hys;refine⟨sr.put d (.slice w2 a' 0 len false),ρ.ext st.h.length (some a'),_,⟨zs,hy,hw,rfl, ?_⟩,hk,⟨?_, ?_, ?_⟩,Fm.move hS.h hb ha, ?_⟩
            · simp only[hlen,List.length_nil,if_true]
            · refine(hS.s.mono (Ren.ext_le hS.h.none_at)).put ?_;simp only[List.length_nil,Nat.add_zero];exact sl_rel
            · exact hS.l.mono (Ren.ext_le hS.h.none_at)
            · have:=hS.h.move ha hid (by simp);rw[←List.append_nil el]at this;exact this
            · simp only[List.length_append,List.length_set];omega
          · refine grow h0 rfl ?_;have:(el.drop 0).take len=el:=by rw[List.drop_zero,←hl,List.take_length]
            rw[this];exact hk
        · exact grow (by omega) rfl hk
        · obtain⟨sr',ρ',st',g1,g2,g3,g4,g5⟩:=vnew_sound (b:=b) (o':=.row w2 ((el'.drop off).take len++zs) true) (v':=fun id=>.slice w2 id 0 (len+zs.length) false) hS hb hk
            (fun a=>row_rel hS.h hel2) (fun a=>by rw[hlen];exact sl_rel)
          refine⟨sr',ρ',st',⟨zs,hy,hw,rfl, ?_⟩,g2,g3,g4,g5⟩;rw[hlen]at g1⊢;rw[if_neg (by omega)];refine⟨hlim,_,hel, ?_⟩;simp only[if_true];exact g1
        · refine⟨sr.put d (.slice w2 a' off len clip),ρ,_,⟨zs,hy,hw,rfl, ?_⟩,hk,⟨hS.s.put hra,hS.l,hS.h⟩,Fm.refl _ _ _,hb⟩;rw[hlen,if_pos h0]
      · have hel:el=[]:=by
          rcases hob with⟨_,q,_⟩ | ⟨i',el',q1,q2,q3⟩
          · exact q
          · rw[ha]at q1;cases q1
        subst hel;have e:st.h.length=(st.h.set id AObj.dead).length:=by rw[List.length_set]
        simp only[List.drop_nil,List.take_nil,List.nil_append,Nat.zero_add]at hk hlim;rcases hk with⟨_,rfl,hl,hk⟩ | ⟨h0,rfl,hk⟩ | ⟨h0,rfl,hk⟩ | ⟨h0,hk⟩
        · rw[e]at hk;exact nil_app hS1 hb1 hc0 hy hw hyz hlim hk
        · rw[e]at hk;exact nil_app hS1 hb1 hc0 hy hw hyz hlim hk
        · exact nil_app hS hb hc0 hy hw hyz hlim hk
        · refine⟨sr.put d c,ρ,_,⟨zs,hy,hw, ?_⟩,hk,⟨hS.s.put hra,hS.l,hS.h⟩,Fm.refl _ _ _,hb⟩;rcases hc0 with rfl | rfl
          · simp only[hlen,h0,if_true]
          · simp only[hlen,h0,if_true,and_self]
    · exact hk.elim
  · rename_i w' xs clip;obtain⟨rfl,hk⟩:=hk;have hra:=ha;simp only[RelV]at ha;rcases hk with⟨rfl,rfl,hlim,hk⟩ | hk
    · refine nil_app hS hb ?_ hy hw hyz hlim hk;rcases ha with⟨xs',c',rfl,hc,hx⟩ | ⟨_,rfl⟩
      · simp only[RelVs]at hx;subst hx;rw[hc rfl];exact .inr rfl
      · exact .inl rfl
    split at hk
    · rename_i h0;rcases ha with⟨xs',c',rfl,hc,hx⟩ | ⟨rfl,rfl⟩
      · refine⟨sr.put d (.lst w' xs' c'),ρ,_,⟨zs,hy,hw,rfl, ?_⟩,hk,⟨hS.s.put hra,hS.l,hS.h⟩,Fm.refl _ _ _,hb⟩;rw[hlen,if_pos h0]
      · refine⟨sr.put d .nils,ρ,_,⟨zs,hy,hw, ?_⟩,hk,⟨hS.s.put hra,hS.l,hS.h⟩,Fm.refl _ _ _,hb⟩;simp only[hlen,h0,if_true]
    · rename_i h0;obtain⟨hlim,rfl,hk⟩:=hk;rcases ha with⟨xs',c',rfl,hc,hx⟩ | ⟨rfl,rfl⟩
      · obtain⟨sr',ρ',st',g1,g2,g3,g4,g5⟩:=vnew_sound (b:=b) (o':=.row w' (xs'++zs) true) (v':=fun id=>.slice w' id 0 (xs'.length+zs.length) false) hS hb hk
          (fun a=>row_rel hS.h (hx.append hyz)) (fun a=>by rw[hlen,hx.length];exact sl_rel)
        refine⟨sr',ρ',st',⟨zs,hy,hw,rfl, ?_⟩,g2,g3,g4,g5⟩;rw[hlen,hx.length]at g1⊢;rw[if_neg h0];exact⟨hlim,hc rfl,g1⟩
      · simp only[List.nil_append,List.length_nil,Nat.zero_add]at hk hlim;exact nil_app hS hb (.inl rfl) hy hw hyz hlim hk
  · exact hk.elim
theorem xstep_sound{o:AOp}{d:Option Nat}{K:VSt→Prop}(hS:RelS ρ st sr)(hb:b≤st.h.length)(ho:o.ok=true)(hk:xstep o d st K):Stepped b ρ sr o d K:=by
  have valc:(match xval o st with | some v=>K (st.put d v) | none=>False)→Stepped b ρ sr o d K:=by
    intro hk;split at hk
    · rename_i v hv;obtain⟨r,h1,h2⟩:=xval_rel hS ho hv;exact⟨sr.put d r,ρ,_,Step.of_val h1,hk,⟨hS.s.put h2,hS.l,hS.h⟩,Fm.refl _ _ _,hb⟩
    · exact hk.elim
  have hs:=hS.s;unfold xstep at hk;split at hk
  · rename_i z;split at hk
    · rename_i t;exact⟨_,ρ,_,⟨t,rfl,rfl⟩,hk,⟨hS.s,hS.l.cons (tree_rel z ho),hS.h⟩,Fm.refl _ _ _,hb⟩
    · exact hk.elim
  · rename_i k x;split at hk
    · rename_i t v hv;obtain⟨r,h1,h2⟩:=ev_rel hs ho hv;exact⟨_,ρ,_,⟨t,r,rfl,h1,by rw[h2.cellsLen];exact hk.1,rfl⟩,hk.2,⟨hS.s,hS.l.cons h2,hS.h⟩,Fm.refl _ _ _,hb⟩
    · exact hk.elim
  · rename_i t off k x;split at hk
    · rename_i c v hc hv;obtain⟨h0,hk⟩:=hk;obtain⟨r,h1,h2⟩:=ev_rel hs ho hv;obtain⟨cr,h3,h4⟩:=hS.l t c hc;split at hk
      · rename_i c' hp;obtain⟨cr',h5,h6⟩:=h4.put h2 hp;exact⟨_,ρ,_,⟨cr,r,cr',h3,h1,by rw[h2.cellsLen];exact h0,h5,rfl⟩,hk,⟨hS.s,hS.l.cons h6,hS.h⟩,Fm.refl _ _ _,hb⟩
      · exact hk.elim
    · exact hk.elim
  · rename_i w z;exact vnew_sound hS hb hk (fun a=>row_rel hS.h (RelVs.one (tree_rel z ho))) (fun a=>pt_rel)
  · rename_i w x;split at hk
    · rename_i v hv;obtain⟨r,h1,h2⟩:=ev_rel hs ho hv;obtain⟨sr',ρ',st',g1,g2⟩:=vnew_sound (o':=.row w [r] true) (v':=fun id=>.ptr id 0 0) hS hb hk.2 (fun a=>row_rel hS.h (RelVs.one h2)) (fun a=>pt_rel);exact⟨sr',ρ',st',⟨r,h1,by rw[h2.cellsLen];exact hk.1,g1⟩,g2⟩
    · exact hk.elim
  · rename_i w z n ps;simp only[AOp.ok,Bool.and_eq_true]at ho;split at hk
    · rename_i el hel;obtain⟨el',h1,h2⟩:=fill_rel hs ho.2 (RelVs.replicate (tree_rel z ho.1) n) hel;obtain⟨sr',ρ',st',g1,g2⟩:=vnew_sound (o':=.row w el' true) (v':=fun id=>.slice w id 0 n false) hS hb hk (fun a=>row_rel hS.h h2) (fun a=>sl_rel);exact⟨sr',ρ',st',⟨el',h1,g1⟩,g2⟩
    · exact hk.elim
  · rename_i w z l c;simp only[AOp.ok,Bool.and_eq_true]at ho;split at hk
    · rename_i k n k' m hl hc;obtain⟨q1,q2,q3,hk⟩:=hk;obtain⟨sr',ρ',st',g1,g2⟩:=vnew_sound (o':=.row w (List.replicate n.toNat z) true) (v':=fun id=>.slice w id 0 n.toNat false) hS hb hk (fun a=>row_rel hS.h (RelVs.replicate (tree_rel z ho.1.1) _)) (fun a=>sl_rel);exact⟨sr',ρ',st',⟨k,k',n,m,ev_int hs ho.1.2 hl,ev_int hs ho.2 hc,q1,q2,q3,g1⟩,g2⟩
    · exact hk.elim
  · rename_i w z x l;simp only[AOp.ok,Bool.and_eq_true]at ho;split at hk
    · rename_i k n hx hl;obtain⟨q1,q2,hk⟩:=hk;obtain⟨r,h3,h4⟩:=ev_rel hs ho.1.2 hx;simp only[RelV]at h4;subst h4;obtain⟨sr',ρ',st',g1,g2⟩:=vnew_sound (o':=.row w (List.replicate n.toNat z) true) (v':=fun id=>.slice w id 0 n.toNat false) hS hb hk (fun a=>row_rel hS.h (RelVs.replicate (tree_rel z ho.1.1) _)) (fun a=>sl_rel);exact⟨sr',ρ',st',⟨k,n,h3,ev_int hs ho.2 hl,q1,q2,g1⟩,g2⟩
    · exact hk.elim
  · rename_i x;split at hk
    · rename_i a ha;have ht:∀a:List UInt8,AV.trees (a.map fun b=>AV.int .u8 b.toNat)=true:=fun a=>by induction a with | nil=>rfl | cons x a ih=>simpa[AV.trees,AV.tree]using ih
      obtain⟨sr',ρ',st',g1,g2⟩:=vnew_sound (o':=.row 1 (a.map fun b=>.int .u8 b.toNat) true) (v':=fun id=>.slice 1 id 0 a.length false) hS hb hk.2 (fun _=>row_rel hS.h (trees_rel _ (ht a))) (fun _=>sl_rel);exact⟨sr',ρ',st',⟨a,ev_str hs ho ha,hk.1,g1⟩,g2⟩
    · exact hk.elim
  · rename_i x;split at hk
    · rename_i v hv;obtain⟨r,h1,h2⟩:=ev_rel hs ho hv;obtain⟨hw,hk⟩:=hk;split at hk
      · rename_i el hel;obtain⟨a,rfl,hk⟩:=hk;obtain⟨el',h3,h4⟩:=elems_rel hS.h h2 hel;have:=str_of_rel h4;subst this;refine⟨sr.put d (.str a),ρ,_,⟨r,_,a,h1, ?_,h3,rfl,rfl⟩,hk,⟨hS.s.put (by simp only[RelV]),hS.l,hS.h⟩,Fm.refl _ _ _,hb⟩;rcases hw with rfl | hw
        · simp only[RelV]at h2;exact .inl h2
        · cases v<;>simp only[wOf,reduceCtorEq]at hw
          · simp only[RelV]at h2;rcases h2 with⟨_,_,rfl⟩ | ⟨_,_,_,rfl | rfl⟩
            · exact .inr hw
            · exact .inl rfl
            · exact .inr hw
          · simp only[RelV]at h2;rcases h2 with⟨_,_,rfl,_⟩ | ⟨_,rfl⟩
            · exact .inr hw
            · exact .inl rfl
      · exact hk.elim
    · exact hk.elim
  · rename_i k p x;simp only[AOp.ok,Bool.and_eq_true]at ho;split at hk
    · rename_i id i j v hp hv;obtain⟨h0,hk⟩:=hk;obtain⟨pr,h1,h2⟩:=ev_rel hs ho.1 hp;obtain⟨r,h3,h4⟩:=ev_rel hs ho.2 hv;simp only[RelV]at h2;obtain⟨a,ha,rfl⟩:=h2;split at hk
      · rename_i w el hid;split at hk
        · rename_i e he;split at hk
          · rename_i e' hp';rcases hS.h.obj _ _ hid with⟨q,_⟩ | ⟨i',el',q1,q2,q3⟩
            · rw[ha]at q;cases q
            rw[ha]at q1;cases q1;obtain⟨er,g1,g2⟩:=q3.get he;obtain⟨er',g3,g4⟩:=g2.put h4 hp';refine⟨{sr with h:=sr.h.upd a (.row w (el'.set i er') true)},ρ,_,⟨a,i,j,r,w,el',er,er',h1,h3,by rw[h4.cellsLen];exact h0,q2,g1,g3,rfl⟩,hk,⟨hS.s,hS.l, ?_⟩,Fm.write hS.h ha, ?_⟩
            · exact hS.h.write ha hid (by simp) (.inr ⟨a,_,ha,AH.upd_same _ _ _,q3.set i g4⟩)
            · rw[List.length_set];exact hb
          · exact hk.elim
        · exact hk.elim
      · exact hk.elim
    · exact hk.elim
  · rename_i w x y;simp only[AOp.ok,Bool.and_eq_true]at ho;split at hk
    · rename_i a c ha hc;obtain⟨ar,h1,h2⟩:=ev_rel hs ho.1 ha;obtain⟨cr,h3,h4⟩:=ev_rel hs ho.2 hc;obtain⟨hw,hk⟩:=hk;split at hk
      · rename_i ys hys;obtain⟨zs,h5,h6⟩:=elems_rel hS.h h4 hys;obtain⟨sr',ρ',st',g1,g2⟩:=xapp_sound hS hb h2 h5 (srcW_rel h4 hw) h6 hk;exact⟨sr',ρ',st',⟨ar,cr,h1,h3,g1⟩,g2⟩
      · exact hk.elim
    · exact hk.elim
  · rename_i w x y;simp only[AOp.ok,Bool.and_eq_true]at ho;split at hk
    · rename_i w' id off len cl c ha hc;obtain⟨ar,h1,h2⟩:=ev_rel hs ho.1 ha;obtain⟨cr,h3,h4⟩:=ev_rel hs ho.2 hc;obtain⟨rfl,hw,hk⟩:=hk;split at hk
      · rename_i ys hys;obtain⟨zs,h5,h6⟩:=elems_rel hS.h h4 hys;split at hk
        · rename_i w2 el hid;obtain⟨rfl,hoff,hk⟩:=hk;simp only[RelV]at h2;have hob:=hS.h.obj _ _ hid;rcases h2 with⟨a,ha',rfl⟩ | ⟨ha',rfl,rfl,hc0⟩
          · rcases hob with⟨q,_⟩ | ⟨i',el',q1,q2,q3⟩
            · rw[ha']at q;cases q
            rw[ha']at q1;cases q1;have hel:elemsOf sr.h (.slice w2 a off len cl)=some ((el'.drop off).take len):=by
              exact elemsOf_row q2 (by rw[q3.length];exact hoff)
            refine⟨{s:=putS sr.s d (.int .i64 (min len zs.length:Nat)),l:=sr.l,h:=sr.h.upd a (.row w2 (el'.take off++(zs.take (min len zs.length)++el'.drop (off+min len zs.length))) true)},ρ,_,
              ⟨_,cr,_,zs,h1,h3,hel,h5,srcW_rel h4 hw,rfl,el',q2,rfl⟩,hk,⟨hS.s.put ?_,hS.l, ?_⟩,Fm.write hS.h ha', ?_⟩
            · rw[h6.length];simp only[RelV]
            · refine hS.h.write ha' hid (by simp) (.inr ⟨a,_,ha',AH.upd_same _ _ _, ?_⟩);rw[h6.length];exact(q3.take off).append ((h6.take _).append (q3.drop _))
            · rw[List.length_set];exact hb
          · have hel:el=[]:=by
              rcases hob with⟨_,q,_⟩ | ⟨i',el',q1,q2,q3⟩
              · exact q
              · rw[ha']at q1;cases q1
            subst hel;have e:st.h.set id (.row w2 ([].take 0++(ys.take (min 0 ys.length)++[].drop (0+min 0 ys.length))) true)=st.h:=by
              simp only[Nat.zero_min,List.take_zero,List.drop_nil,List.append_nil,List.take_nil];exact List.ext_getElem? fun i=>by
                rw[List.getElem?_set];split
                · rename_i e;subst e;split
                  · rw[hid]
                  · rename_i hn;rw[List.getElem?_eq_none (by omega)]
                · rfl
            rw[e]at hk;rcases hc0 with rfl | rfl
            · refine⟨sr.put d (.int .i64 0),ρ,_,⟨.nils,cr,[],zs,h1,h3,rfl,h5,srcW_rel h4 hw,rfl⟩,hk,⟨hS.s.put ?_,hS.l,hS.h⟩,Fm.refl _ _ _,hb⟩;simp[RelV]
            · refine⟨sr.put d (.int .i64 0),ρ,_,⟨.lst w2 [] true,cr,[],zs,h1,h3,rfl,h5,srcW_rel h4 hw,rfl⟩,hk,⟨hS.s.put ?_,hS.l,hS.h⟩,Fm.refl _ _ _,hb⟩;simp[RelV]
        · exact hk.elim
      · exact hk.elim
    · exact hk.elim
  · rename_i w x y;simp only[AOp.ok,Bool.and_eq_true]at ho;split at hk
    · rename_i w' id off len c ha hc;obtain⟨ar,h1,h2⟩:=ev_rel hs ho.1 ha;obtain⟨cr,h3,h4⟩:=ev_rel hs ho.2 hc;obtain⟨rfl,hw,hk⟩:=hk;split at hk
      · rename_i ys hys;obtain⟨zs,h5,h6⟩:=elems_rel hS.h h4 hys;split at hk
        · rename_i w2 el hid;obtain⟨rfl,hoff,hpos,hk⟩:=hk;simp only[RelV]at h2;have hob:=hS.h.obj _ _ hid;rcases h2 with⟨a,ha',rfl⟩ | ⟨ha',_⟩
          · rcases hob with⟨q,_⟩ | ⟨i',el',q1,q2,q3⟩
            · rw[ha']at q;cases q
            rw[ha']at q1;cases q1;have hlen:=h6.length;have hS2:RelS ρ {st with h:=st.h.set id .dead} {sr with h:=sr.h.upd a .dead}:=⟨hS.s,hS.l,hS.h.write ha' hid (by simp) trivial⟩;have hb1:b≤(st.h.set id AObj.dead).length:=by rw[List.length_set];exact hb
            have e:st.h.length=(st.h.set id AObj.dead).length:=by rw[List.length_set]
            rw[e]at hk;have hel2:RelVs ρ ((el.drop off).take len++(ys++el.drop (off+len+ys.length))) ((el'.drop off).take len++(zs++el'.drop (off+len+zs.length))):=by
              rw[hlen];exact((q3.drop off).take len).append (h6.append (q3.drop _))
            obtain⟨sr',ρ',st',g1,g2,g3,g4,g5⟩:=vnew_sound (b:=b) (o':=.row w2 ((el'.drop off).take len++(zs++el'.drop (off+len+zs.length))) true) (v':=fun id=>.slice w2 id 0 (len+zs.length) false) hS2 hb1 hk
              (fun a=>row_rel hS2.h hel2) (fun a=>by rw[hlen];exact sl_rel)
            exact⟨sr',ρ',st',⟨_,cr,h1,h3,zs,a,off,len,el',h5,srcW_rel h4 hw,rfl,q2,by rw[hlen,q3.length];exact hoff,g1⟩,g2,g3,(Fm.write hS.h ha').trans g4,g5⟩
          · rcases hob with⟨_,q,_⟩ | ⟨i',el',q1,q2,q3⟩
            · subst q;simp at hpos
            · rw[ha']at q1;cases q1
        · exact hk.elim
      · exact hk.elim
    · exact hk.elim
  · rename_i w x lo hi;simp only[AOp.ok,Bool.and_eq_true]at ho;split at hk
    · rename_i w' id off len ha;obtain⟨ar,h1,h2⟩:=ev_rel hs ho.1.1 ha;split at hk
      · rename_i w2 el rw' hid;obtain⟨hpos,hk⟩:=hk;split at hk
        · rename_i n2 hb2;split at hk
          · rename_i n1 hb1;obtain⟨rfl,hk⟩:=hk;simp only[RelV]at h2;have hob:=hS.h.obj _ _ hid;rcases h2 with⟨a,ha',rfl⟩ | ⟨ha',_⟩
            · rcases hob with⟨q,_⟩ | ⟨i',el',q1,q2,q3⟩
              · rw[ha']at q;cases q
              rw[ha']at q1;cases q1;have hb2':=bnd_rel hs ho.2 hb2;have hb1':=bnd_rel hs ho.1.2 hb1;rw[←q3.length]at hb2';refine⟨sr.put d (.slice w' a (off+n1) (n2-n1) false),ρ,_,Step.of_val (by simp only[val,h1,q2,hb2',hb1',if_true]),hk,⟨hS.s.put ?_,hS.l,hS.h⟩,Fm.refl _ _ _,hb⟩;simp only[RelV];exact .inl ⟨a,ha',rfl⟩
            · rcases hob with⟨_,q,_⟩ | ⟨i',el',q1,q2,q3⟩
              · subst q;simp at hpos
              · rw[ha']at q1;cases q1
          · exact hk.elim
        · exact hk.elim
      · exact hk.elim
    · exact hk.elim
  · rename_i w x lo hi mx;simp only[AOp.ok,Bool.and_eq_true]at ho;split at hk
    · rename_i w' id off len cl ha;obtain⟨ar,h1,h2⟩:=ev_rel hs ho.1.1.1 ha;split at hk
      · rename_i w2 el rw' hid;obtain⟨hpos,hk⟩:=hk;split at hk
        · rename_i n3 hb3;split at hk
          · rename_i n2 hb2;split at hk
            · rename_i n1 hb1;obtain⟨rfl,hk⟩:=hk;simp only[RelV]at h2;have hob:=hS.h.obj _ _ hid;rcases h2 with⟨a,ha',rfl⟩ | ⟨ha',_⟩
              · have hb3':=bnd_rel (x:=some mx) hs ho.2 hb3;have hb2':=bnd_rel (x:=some hi) hs ho.1.2 hb2;have hb1':=bnd_rel (x:=some lo) hs ho.1.1.2 hb1;exact⟨sr.put d .any,ρ,_,Step.of_val (by simp only[val,h1,hb3',hb2',hb1',if_true]),hk,⟨hS.s.put (by simp only[RelV]),hS.l,hS.h⟩,Fm.refl _ _ _,hb⟩
              · rcases hob with⟨_,q,_⟩ | ⟨i',el',q1,q2,q3⟩
                · subst q;simp at hpos
                · rw[ha']at q1;cases q1
            · exact hk.elim
          · exact hk.elim
        · exact hk.elim
      · exact hk.elim
    · exact hk.elim
  · rename_i w z x;simp only[AOp.ok,Bool.and_eq_true]at ho;split at hk
    · rename_i w' id off len cl ha;obtain⟨ar,h1,h2⟩:=ev_rel hs ho.2 ha;obtain⟨rfl,hk⟩:=hk;split at hk
      · rename_i w2 el hid;obtain⟨rfl,hoff,hpos,hk⟩:=hk;simp only[RelV]at h2;have hob:=hS.h.obj _ _ hid;rcases h2 with⟨a,ha',rfl⟩ | ⟨ha',_⟩
        · rcases hob with⟨q,_⟩ | ⟨i',el',q1,q2,q3⟩
          · rw[ha']at q;cases q
          rw[ha']at q1;cases q1;have hel:elemsOf sr.h (.slice w2 a off len cl)=some ((el'.drop off).take len):=elemsOf_row q2 (by rw[q3.length];exact hoff);refine⟨{sr with h:=sr.h.upd a (.row w2 (el'.take off++(List.replicate len z++el'.drop (off+len))) true)},ρ,_,⟨_,_,h1,hel,rfl,el',q2,rfl⟩,hk,⟨hS.s,hS.l, ?_⟩,Fm.write hS.h ha', ?_⟩
          · exact hS.h.write ha' hid (by simp) (.inr ⟨a,_,ha',AH.upd_same _ _ _,(q3.take off).append ((RelVs.replicate (tree_rel z ho.1) len).append (q3.drop _))⟩)
          · rw[List.length_set];exact hb
        · rcases hob with⟨_,q,_⟩ | ⟨i',el',q1,q2,q3⟩
          · subst q;simp at hpos
          · rw[ha']at q1;cases q1
      · exact hk.elim
    · exact hk.elim
  · exact vnew_sound (o':=.map []) (v':=.map) hS hb hk (fun a=>⟨a,[],Ren.ext_same _ _ _,AH.upd_same _ _ _,by simp[RelEs,RelVs]⟩) (fun a=>by simp only[RelV];exact⟨a,Ren.ext_same _ _ _,rfl⟩)
  · split at hk
    · rename_i k n hr;obtain⟨sr',ρ',st',g1,g2⟩:=vnew_sound (o':=.map []) (v':=.map) hS hb hk (fun a=>⟨a,[],Ren.ext_same _ _ _,AH.upd_same _ _ _,by simp[RelEs,RelVs]⟩) (fun a=>by simp only[RelV];exact⟨a,Ren.ext_same _ _ _,rfl⟩);exact⟨sr',ρ',st',⟨k,n,ev_int hs ho hr,g1⟩,g2⟩
    · exact hk.elim
  · rename_i m k v;simp only[AOp.ok,Bool.and_eq_true]at ho;split at hk
    · rename_i id k' v' hm hkk hv;obtain⟨mr,h1,h2⟩:=ev_rel hs ho.1.1 hm;obtain⟨kr,h3,h4⟩:=ev_rel hs ho.1.2 hkk;obtain⟨vr,h5,h6⟩:=ev_rel hs ho.2 hv;simp only[RelV]at h2;obtain⟨a,ha,rfl⟩:=h2;split at hk
      · rename_i es hid;obtain⟨i',es',q1,q2,q3⟩:=hS.h.obj _ _ hid;rw[ha]at q1;cases q1;split at hk
        · rename_i i v0 hf;rcases findKey_rel h4 q3 hf with⟨q,_⟩ | ⟨i2,v2,v3,g1,g2,g3⟩
          · cases q
          cases g1;refine⟨{sr with h:=sr.h.upd a (.map (es'.set i (kr,vr)))},ρ,_,⟨a,kr,vr,es',h1,h3,h5,q2, ?_⟩,hk,⟨hS.s,hS.l,hS.h.write ha hid (by simp) ⟨a,_,ha,AH.upd_same _ _ _, ?_⟩⟩,Fm.write hS.h ha, ?_⟩
          · rw[g2]
          · constructor
            · rw[List.map_set,List.map_set];exact q3.1.set i h4
            · rw[List.map_set,List.map_set];exact q3.2.set i h6
          · rw[List.length_set];exact hb
        · rename_i hf;rcases findKey_rel h4 q3 hf with⟨_,q⟩ | ⟨i2,v2,v3,g1,_⟩
          · refine⟨{sr with h:=sr.h.upd a (.map (es'++[(kr,vr)]))},ρ,_,⟨a,kr,vr,es',h1,h3,h5,q2, ?_⟩,hk,⟨hS.s,hS.l,hS.h.write ha hid (by simp) ⟨a,_,ha,AH.upd_same _ _ _, ?_⟩⟩,Fm.write hS.h ha, ?_⟩
            · rw[q]
            · constructor
              · rw[List.map_append,List.map_append];exact q3.1.append (RelVs.one h4)
              · rw[List.map_append,List.map_append];exact q3.2.append (RelVs.one h6)
            · rw[List.length_set];exact hb
          · cases g1
        · exact hk.elim
      · exact hk.elim
    · exact hk.elim
  all_goals first
    | exact hk.elim
    | exact valc hk
end
end Go.Ab
namespace Go.Ab
open Go
structure LF where
  d:Nat
  g:Option (Nat×Bool)
  sh:Option Nat
  p:Nat
def onEq:Option Nat→Option Nat→Bool
  | none,none=>true
  | some a,some b=>Nat.beq a b
  | _,_=>false
def gEqX:Option (Nat×Bool)→Option (Nat×Bool)→Bool
  | none,none=>true
  | some (a,true),some (b,true)=>Nat.beq a b
  | some (a,false),some (b,false)=>Nat.beq a b
  | _,_=>false
def LF.eq(a b:LF):Bool:=Nat.beq a.d b.d&&gEqX a.g b.g&&onEq a.sh b.sh&&Nat.beq a.p b.p
theorem onEq_eq{a b:Option Nat}(h:onEq a b=true):a=b:=by
  unfold onEq at h;split at h
  · rfl
  · rw[Nat.eq_of_beq_eq_true h]
  · cases h
theorem gEqX_eq{a b:Option (Nat×Bool)}(h:gEqX a b=true):a=b:=by
  unfold gEqX at h;split at h
  · rfl
  · rw[Nat.eq_of_beq_eq_true h]
  · rw[Nat.eq_of_beq_eq_true h]
  · cases h
theorem LF.eq_eq{a b:LF}(h:a.eq b=true):a=b:=by
  cases a;cases b;simp only[LF.eq,Bool.and_eq_true]at h;obtain⟨⟨⟨h1,h2⟩,h3⟩,h4⟩:=h;rw[Nat.eq_of_beq_eq_true h1,gEqX_eq h2,onEq_eq h3,Nat.eq_of_beq_eq_true h4]
def lfOf(c:AOper):Option LF:=match c.d,c.o with
  | some d,.load sh (.t p)=>some ⟨d,c.g,sh,p⟩
  | _,_=>none
def LF.keeps(f:LF)(d:Option Nat):Bool:=match d with
  | none=>true
  | some d=> !Nat.beq d f.d&& !Nat.beq d f.p&&(match f.g with | some (n,_)=> !Nat.beq d n | none=>true)
def LF.own(f:LF):Bool:= !Nat.beq f.d f.p&&(match f.g with | some (n,_)=> !Nat.beq f.d n | none=>true)
def AOp.isCall:AOp→Bool
  |.call _ _ |.callv _ _ |.panic _=>true
  | _=>false
def AOp.isApp:AOp→Bool
  |.app _ _ _=>true
  | _=>false
def AOp.isLoc:AOp→Bool
  |.lalloc _ |.lbox _ _ |.lstore _ _ _ _=>true
  | _=>false
def AOp.isNew:AOp→Bool
  |.halloc _ _ |.hbox _ _ |.bslice _ _ _ _=>true
  | _=>false
def AOper.apC(c:AOper):Bool:=c.o.isApp&& !c.ck.isEmpty
def AOp.quiet:AOp→Bool
  |.mov _ |.pick _ _ _ |.build _ _ |.lload _ _ _ |.load _ _ |.nilchk _ |.bin _ _ _ |.shft _ _ _ |.sop _ _ _ |.beq _ _ _ |.seq _ _ _ _ |.isnil _ _ _ |.not _ |.neg _ |.conv _ _ |.slc _ _ _ _ _ |.sslc _ _ _
  |.faddr _ _ |.fld _ _ _ |.iaddr _ _ _ |.aaddr _ _ _ _ |.sidx _ _ |.aidx _ _ _ _ _ |.ext _ _ |.mkfn _ _ |.len _ |.slen _ |.cap _ |.mlen _ |.max _ _ |.min _ _ |.mkif _ _ |.look _ _ _ _ |.nop _=>true
  | _=>false
def addF(c:AOper)(F:List LF):List LF:=match lfOf c with
  | some f=>if f.own then f::F else F
  | none=>F
def ckIn(ck:List AOper)(f:LF):Bool:=ck.any fun k=>match lfOf k with | some f'=>LF.eq f' f | none=>false
def ckSt:List LF→List AOper→Bool
  | _,[]=>true
  | F,c::l=>
    let F':=F.filter fun f=>f.keeps c.d
    (c.ck.isEmpty || ((c.o.isCall || c.o.isApp)&&c.ck.all fun k=>match lfOf k with | some f=>F'.any (LF.eq f) | none=>false))&&
      ckSt (if c.o.isCall then(if c.ck.isEmpty then []else F'.filter (ckIn c.ck))else if c.apC then F'.filter (ckIn c.ck)else if c.o.quiet then addF c F' else if c.o.isLoc then F' else if c.o.isNew then F' else []) l
mutual
def ACode.ok:ACode→Bool
  |.skip |.exit _ |.ret=>true
  |.reg p l=>p&&((l.all fun c=>c.o.ok)&&ckSt [] l)
  |.seq a b=>a.ok&&b.ok
  |.cond c a b=>c.ok&&a.ok&&b.ok
  |.blk _ a |.loop a=>a.ok
  |.rng _ _ _ _ a b=>a.ok&&b.ok
end
def SCall(Γ:Nat→Option AFn)(g:Nat)(vs:List AV)(h:List AObj)(K:AV→List AObj→Prop):Prop:=
  ∀ρ hr ar,RelH ρ h hr→RelVs ρ vs ar→∃k r hr' ρ' v h',Ex Γ k (.call g ar hr) (.res (.ok r) hr')∧K v h'∧RelH ρ' h' hr'∧RelV ρ' v r∧Fm h.length ρ hr ρ' hr'∧h.length≤h'.length
def SCallK(Γ:Nat→Option AFn)(g:Nat)(vs:List AV)(h:List AObj)(K:AV→List AObj→Prop):Prop:=
  ∀ρ hr ar,RelH ρ h hr→RelVs ρ vs ar→∃k r hr' ρ' v h',Ex Γ k (.call g ar hr) (.res (.ok r) hr')∧K v h'∧RelH ρ' h' hr'∧RelV ρ' v r∧Fm h.length ρ hr ρ' hr'∧h.length≤h'.length∧∀a o,hr a=some o→hr' a=some o
def SCallP(Γ:Nat→Option AFn)(g:Nat)(vs:List AV)(h:List AObj)(K:AV→Prop):Prop:=
  ∀ρ hr ar,RelH ρ h hr→RelVs ρ vs ar→∃k r hr' v,Ex Γ k (.call g ar hr) (.res (.ok r) hr')∧hr'.f=hr.f∧(∀a,hr'.fr a→hr.fr a)∧K v∧RelV ρ v r
def SCallX(Γ:Nat→Option AFn)(g:Nat)(vs:List AV)(h:List AObj)(K KP:AV→List AObj→Prop):Prop:=
  ∀ρ hr ar,RelH ρ h hr→RelVs ρ vs ar→∃k hr' ρ' h',RelH ρ' h' hr'∧Fm h.length ρ hr ρ' hr'∧h.length≤h'.length∧
    ((∃v r,Ex Γ k (.call g ar hr) (.res (.ok r) hr')∧K v h'∧RelV ρ' v r)∨∃v,Ex Γ k (.call g ar hr) (.res (.pan v) hr')∧v.leaf=true∧KP v h')
theorem SCallX.of{Γ:Nat→Option AFn}{g:Nat}{vs:List AV}{h:List AObj}{K KP:AV→List AObj→Prop}(hs:SCall Γ g vs h K):SCallX Γ g vs h K KP:=fun ρ hr ar hH hv=>by
  obtain⟨k,r,hr',ρ',v,h',q1,q2,q3,q4,q5,q6⟩:=hs ρ hr ar hH hv;exact⟨k,hr',ρ',h',q3,q5,q6,.inl ⟨v,r,q1,q2,q4⟩⟩
inductive Fr1 where
  | code (c:ACode)
  | ops (l:List AOper)
  | blk (n:Nat)
structure Ev where
  Γ:Nat→Option AFn
  b:Nat
  fz:List Nat
  bp:List Nat
def frz1(n:Nat)(st:VSt):VSt:=match get st.s n with
  | some (.ptr id 0 0)=>(match st.h[id]? with
    | some (.row w [v] true)=>if 0<w then{s:=(n,.ept v 0)::st.s,l:=st.l,h:=st.h.set id .dead}else st
    | _=>st)
  | some (.slice w id 0 len c)=>(match st.h[id]? with
    | some (.row w' el true)=>if 0<w∧w'=w∧el.length=len then{s:=(n,.lst w el c)::st.s,l:=st.l,h:=st.h.set id .dead}else st
    | _=>st)
  | _=>st
def frzS:List Nat→VSt→VSt
  |[],st=>st
  | n::r,st=>frzS r (frz1 n st)
mutual
def ACode.sz:ACode→Nat
  |.skip=>1
  |.reg _ l=>2+l.length
  |.seq a b=>1+a.sz+b.sz
  |.cond _ a b=>1+a.sz+b.sz
  |.blk _ a=>2+a.sz
  |.loop _=>1
  |.exit _=>1
  |.ret=>1
  |.rng _ _ _ _ _ _=>1
end
def Fr1.sz:Fr1→Nat
  |.code c=>c.sz
  |.ops l=>1+l.length
  |.blk _=>1
def szF:List Fr1→Nat
  |[]=>0
  | f::r=>f.sz+szF r
def exK:AExit→List Fr1→Option (List Fr1)
  | _,[]=>none
  |.exit m,.blk n::ks=>if m=n then some ks else exK (.exit m) ks
  | e,_::ks=>exK e ks
theorem exK_sz:∀{e:AExit}{ks ks':List Fr1},exK e ks=some ks'→szF ks'<szF ks
  | e,[],ks',h=>by cases e<;>simp[exK]at h
  |.exit m,.blk n::ks,ks',h=>by
    simp only[exK]at h;split at h
    · cases h;simp only[szF,Fr1.sz];omega
    · have:=exK_sz h;simp only[szF,Fr1.sz];omega
  |.exit m,.code c::ks,ks',h=>by have:=exK_sz (e:=.exit m) (ks:=ks) (by simpa only [exK]using h);simp only[szF];omega
  |.exit m,.ops c::ks,ks',h=>by have:=exK_sz (e:=.exit m) (ks:=ks) (by simpa only [exK]using h);simp only[szF];omega
  |.nrm,f::ks,ks',h=>by have:=exK_sz (e:=.nrm) (ks:=ks) (by simpa only [exK]using h);simp only[szF];omega
  |.ret,f::ks,ks',h=>by have:=exK_sz (e:=.ret) (ks:=ks) (by simpa only [exK]using h);simp only[szF];omega
  |.pan v,f::ks,ks',h=>by have:=exK_sz (e:=.pan v) (ks:=ks) (by simpa only [exK]using h);simp only[szF];omega
inductive ExF(Γ:Nat→Option AFn):Nat→List Fr1→St→AExit→St→Prop
  | nil {k s}:ExF Γ k [] s .nrm s
  | code {k c ks s s1 e s2} (h:Ex Γ k (.code c s) (.st .nrm s1)) (h':ExF Γ k ks s1 e s2):ExF Γ k (.code c::ks) s e s2
  | codeX {k c ks ks' s s1 e e1 s2} (h:Ex Γ k (.code c s) (.st e1 s1)) (he:e1≠.nrm) (hx:exK e1 ks=some ks') (h':ExF Γ k ks' s1 e s2):ExF Γ k (.code c::ks) s e s2
  | codeE {k c ks s s1 e1} (h:Ex Γ k (.code c s) (.st e1 s1)) (he:e1≠.nrm) (hx:exK e1 ks=none):ExF Γ k (.code c::ks) s e1 s1
  | ops {k l ks s s1 e s2} (h:Ex Γ k (.ops l s) (.st .nrm s1)) (h':ExF Γ k ks s1 e s2):ExF Γ k (.ops l::ks) s e s2
  | blk {k n ks s e s2} (h':ExF Γ k ks s e s2):ExF Γ k (.blk n::ks) s e s2
  | opsP {k l ks s v s1} (h:Ex Γ k (.ops l s) (.st (.pan v) s1)):ExF Γ k (.ops l::ks) s (.pan v) s1
def Sem(E:Ev)(ks:List Fr1)(st:VSt)(Q:AExit→VSt→Prop):Prop:=
  ∀ρ sr,RelS ρ st sr→E.b≤st.h.length→∃k e sr' ρ' st',ExF E.Γ k ks sr e sr'∧Q e st'∧RelS ρ' st' sr'∧Fm E.b ρ sr.h ρ' sr'.h∧E.b≤st'.h.length
def firstD:List AOper→Nat
  | c::_=>c.d.getD 0
  |[]=>0
def AV.rigid:AV→Prop
  |.ptr _ _ _ |.map _ |.bool _ |.int _ _ |.str _ |.nilp |.nils |.nilm |.nilf |.nili=>True
  |.slice _ _ off len _=>¬(off=0∧len=0)
  | _=>False
def ckV(st:VSt)(k:AOper):Prop:=match lfOf k with
  | some f=>f.g=none∧∃v,get st.s f.d=some v∧xval (.load f.sh (.t f.p)) st=some v∧v.rigid
  | none=>False
def ckVs(st:VSt):List AOper→Prop
  |[]=>True
  | c::l=>ckV st c∧ckVs st l
def xcall(E:Ev)(o:AOp)(ck:List AOper)(d:Option Nat)(st:VSt)(K:VSt→Prop)(KP:AV→VSt→Prop):Prop:=
  match o with
  |.panic x=>(match ev (toE st.s) x with
    | some (.iface t v)=>v.leaf=true∧KP (.iface t v) st
    | _=>False)
  | o=>(match callee (toE st.s) o with
    | some (g,vs)=>match ck with
      |[]=>SCallX E.Γ g vs st.h (fun v h'=>K {s:=vputS st.s d v,l:=st.l,h:=h'}) (fun v h'=>KP v {s:=st.s,l:=st.l,h:=h'})
      | c::l=>SCallK E.Γ g vs st.h (fun v h'=>K {s:=vputS st.s d v,l:=st.l,h:=h'})∨SCallX E.Γ g vs st.h (fun v h'=>ckVs {s:=vputS st.s d v,l:=st.l,h:=h'} (c::l)∧K {s:=vputS st.s d v,l:=st.l,h:=h'}) (fun v h'=>KP v {s:=st.s,l:=st.l,h:=h'})
    | none=>False)
def ckE(s:LEnv)(k:AOper):Bool:=match lfOf k with
  | some f=>(match get s f.p with | some (.ept _ _)=>true | _=>false)
  | none=>false
def xappC(c:AOp)(ck:List AOper)(d:Option Nat)(st:VSt)(K:VSt→Prop):Prop:=match c with
  |.app w x y=>(match ev (toE st.s) x with
    | some (.lst w' [] true)=>w'=w∧xstep (.app w x y) d st K
    | some (.slice _ _ _ _ _)=>(ck.all (ckE st.s))=true∧xstep (.app w x y) d st K
    | _=>False)
  | _=>False
def xrun(E:Ev)(c:AOper)(st:VSt)(K:VSt→Prop)(KP:AV→VSt→Prop):Prop:=if c.o.isCall then xcall E c.o c.ck c.d st K KP else if c.apC then xappC c.o c.ck c.d st K else xstep c.o c.d st K
def xoper(E:Ev)(c:AOper)(st:VSt)(K:VSt→Prop)(KP:AV→VSt→Prop):Prop:=
  match c.g with
  | none=>xrun E c st K KP
  | some (n,t)=>match get st.s n with
    | some (.bool c')=>if c'=t then xrun E c st K KP else K (st.put c.d .undef)
    | some (.tup [])=>K (st.put c.d .undef)
    | _=>False
def R(E:Ev)(ks:List Fr1)(st:VSt)(Q:AExit→VSt→Prop):Prop:=
  match ks with
  |[]=>Q .nrm st
  |.blk _::ks=>R E ks st Q
  |.ops []::ks=>R E ks st Q
  |.ops (c::l)::ks=>xoper E c st (fun st'=>R E (.ops l::ks) st' Q) fun v st'=>Q (.pan v) st'
  |.code .skip::ks=>R E ks st Q
  |.code (.reg p l)::ks=>if E.bp.contains (firstD l)then Sem E (.code (.reg p l)::ks) st Q else R E (.ops l::ks) (frzS E.fz st) Q
  |.code (.seq a b)::ks=>R E (.code a::.code b::ks) st Q
  |.code (.cond c a b)::ks=>match ev (toE st.s) c with
    | some (.bool t)=>if t=true then R E (.code a::ks) st Q else R E (.code b::ks) st Q
    | _=>False
  |.code (.blk n a)::ks=>R E (.code a::.blk n::ks) st Q
  |.code (.loop a)::ks=>Sem E (.code (.loop a)::ks) st Q
  |.code (.exit n)::ks=>(match h:exK (.exit n) ks with
    | some ks'=>R E ks' st Q
    | none=>Q (.exit n) st)
  |.code .ret::ks=>(match h:exK .ret ks with
    | some ks'=>R E ks' st Q
    | none=>Q .ret st)
  |.code (.rng x k p1 p2 a b)::ks=>Sem E (.code (.rng x k p1 p2 a b)::ks) st Q
termination_by szF ks
decreasing_by
  all_goals simp only[szF,Fr1.sz,ACode.sz,List.length_cons,List.length_nil]
  all_goals first
    | omega
    | (have:=exK_sz h;omega)
end Go.Ab
namespace Go.Ab
open Go
theorem ExF.le{Γ:Nat→Option AFn}{k:Nat}{ks:List Fr1}{s s':St}{e:AExit}(h:ExF Γ k ks s e s'):∀{k'},k≤k'→ExF Γ k' ks s e s':=by
  induction h with
  | nil=>exact fun _=>.nil
  | code h _ ih=>exact fun hk=>.code (h.le hk) (ih hk)
  | codeX h he hx _ ih=>exact fun hk=>.codeX (h.le hk) he hx (ih hk)
  | codeE h he hx=>exact fun hk=>.codeE (h.le hk) he hx
  | ops h _ ih=>exact fun hk=>.ops (h.le hk) (ih hk)
  | blk _ ih=>exact fun hk=>.blk (ih hk)
  | opsP h=>exact fun hk=>.opsP (h.le hk)
theorem exK_code{e:AExit}{c:ACode}{ks:List Fr1}:exK e (.code c::ks)=exK e ks:=by cases e<;>rfl
theorem exK_ret:∀ks,exK .ret ks=none
  |[]=>rfl
  |.code _::ks=>by rw[exK_code];exact exK_ret ks
  |.ops _::ks=>exK_ret ks
  |.blk _::ks=>exK_ret ks
theorem ExF.seq{Γ:Nat→Option AFn}{k:Nat}{a b:ACode}{ks:List Fr1}{s s':St}{e:AExit}(h:ExF Γ k (.code a::.code b::ks) s e s'):ExF Γ k (.code (.seq a b)::ks) s e s':=by
  cases h with
  | code ha h'=>
    cases h' with
    | code hb h'=>exact .code (.seqN ha hb) h'
    | codeX hb he hx h'=>exact .codeX (.seqN ha hb) he hx h'
    | codeE hb he hx=>exact .codeE (.seqN ha hb) he hx
  | codeX ha he hx h'=>rw[exK_code]at hx;exact .codeX (.seqX ha he) he hx h'
  | codeE ha he hx=>rw[exK_code]at hx;exact .codeE (.seqX ha he) he hx
theorem ExF.blkC{Γ:Nat→Option AFn}{k n:Nat}{a:ACode}{ks:List Fr1}{s s':St}{e:AExit}(h:ExF Γ k (.code a::.blk n::ks) s e s'):ExF Γ k (.code (.blk n a)::ks) s e s':=by
  cases h with
  | code ha h'=>
    cases h' with
    | blk h'=>exact .code (.blk ha) h'
  | codeX ha he hx h'=>
    rename_i ks' s1 e1;cases e1 with
    | nrm=>exact absurd rfl he
    | exit m=>
      simp only[exK]at hx;split at hx
      · rename_i hm;cases hx;have:=Ex.blk (n:=n) ha;simp only[blkExit,if_pos hm]at this;exact .code this h'
      · rename_i hm;have:=Ex.blk (n:=n) ha;simp only[blkExit,if_neg hm]at this;exact .codeX this (by simp) hx h'
    | ret=>rw[exK_ret]at hx;cases hx
    | pan v=>exact .codeX (.blk ha) (by simp[blkExit]) hx h'
  | codeE ha he hx=>
    cases e with
    | nrm=>exact absurd rfl he
    | exit m=>
      simp only[exK]at hx;split at hx
      · cases hx
      · rename_i hm;have:=Ex.blk (n:=n) ha;simp only[blkExit,if_neg hm]at this;exact .codeE this (by simp) hx
    | ret=>exact .codeE (.blk ha) (by simp[]) (exK_ret _)
    | pan v=>exact .codeE (.blk ha) (by simp[]) hx
def LFok(sr:St)(f:LF):Prop:=Again sr (.mk 0 (some f.d) f.g (.load f.sh (.t f.p)) [])
section
variable {E:Ev} {ρ:Ren} {st:VSt} {sr:St}
theorem lk_putX{s:Env}{d:Option Nat}{v:AV}{n:Nat}(h:∀e,d=some e→e≠n):lk (putS s d v) n=lk s n:=by
  cases d with
  | none=>rfl
  | some e=>show lk (s.set e v) n=_;rw[lk_set,if_neg (h e rfl)]
theorem wants_put{s:Env}{d:Option Nat}{v:AV}{g:Option (Nat×Bool)}(h:∀e,d=some e→∀n t,g=some (n,t)→e≠n):wants (putS s d v) g=wants s g:=by
  cases g with
  | none=>rfl
  | some p=>
    obtain⟨n,t⟩:=p;simp only[wants,lk_putX (v:=v) (s:=s) (fun e he=>h e he n t rfl)]
theorem keeps_ne{f:LF}{d:Option Nat}(h:f.keeps d=true):∀e,d=some e→e≠f.d∧e≠f.p∧∀n t,f.g=some (n,t)→e≠n:=by
  rintro e rfl;simp only[LF.keeps,Bool.and_eq_true,Bool.not_eq_true']at h;obtain⟨⟨h1,h2⟩,h3⟩:=h;have ne:∀{a b:Nat},Nat.beq a b=false→a≠b:=fun{a b} q r=>by subst r;rw[Nat.beq_refl]at q;cases q
  refine⟨ne h1,ne h2,fun n t hg=> ?_⟩;rw[hg]at h3;simp only[Bool.not_eq_true']at h3;exact ne h3
theorem LFok.put{f:LF}{d:Option Nat}{v:AV}(hk:f.keeps d=true)(h:LFok sr f):LFok (sr.put d v) f:=by
  have hn:=keeps_ne hk;unfold LFok Again at h⊢;simp only[AOper.g,AOper.d,AOper.o]at h⊢;have hw:wants (sr.put d v).s f.g=wants sr.s f.g:=wants_put fun e he n t hg=>(hn e he).2.2 n t hg;rw[hw];split at h
  · obtain⟨d',v',h1,h2,h3⟩:=h;refine⟨d',v',h1, ?_, ?_⟩
    · cases h1;show lk (putS sr.s d v) f.d=_;rw[lk_putX fun e he=>(hn e he).1];exact h2
    · rw[←h3];have:ev (sr.put d v).s (.t f.p)=ev sr.s (.t f.p):=lk_putX fun e he=>(hn e he).2.1;simp only[val,this];rfl
  · trivial
  · exact h.elim
theorem LFok.heap{f:LF}{hr':AH}(he:∀a o,sr.h a=some o→hr' a=some o)(h:LFok sr f):LFok {sr with h:=hr'} f:=by
  unfold LFok Again at h⊢;simp only[AOper.g,AOper.d,AOper.o]at h⊢;split at h
  · obtain⟨d',v',h1,h2,h3⟩:=h;refine⟨d',v',h1,h2, ?_⟩;simp only[val]at h3⊢;split at h3
    · rename_i id i j hp;cases hq:sr.h id with
      | none=>simp[hq]at h3
      | some o=>rw[he _ _ hq];simpa[hq]using h3
    · rename_i x j hp;exact h3
    · cases h3
  · trivial
  · exact h.elim
theorem LFok.loc{f:LF}{sr1:St}(e1:sr1.s=sr.s)(e2:sr1.h=sr.h)(h:LFok sr f):LFok sr1 f:=by
  unfold LFok Again at h⊢;simp only[AOper.g,AOper.d,AOper.o,val]at h⊢;rw[e1,e2];exact h
theorem Step.loc{o:AOp}{d:Option Nat}{sr1:St}(hs:Step o d sr sr1)(hl:o.isLoc=true):sr1.s=sr.s∧sr1.h=sr.h:=by
  cases o<;>first
    | (cases hl;done)
    | (obtain⟨_,_,rfl⟩:=hs;exact⟨rfl,rfl⟩)
    | (obtain⟨_,_,_,_,_,rfl⟩:=hs;exact⟨rfl,rfl⟩)
    | (obtain⟨_,_,_,_,_,_,_,rfl⟩:=hs;exact⟨rfl,rfl⟩)
theorem LFok.upd{f:LF}{id:Nat}{o:AObj}(hn:sr.h id=none)(h:LFok sr f):LFok {sr with h:=sr.h.upd id o} f:=by
  unfold LFok Again at h⊢;simp only[AOper.g,AOper.d,AOper.o]at h⊢;split at h
  · obtain⟨d',v',h1,h2,h3⟩:=h;exact⟨d',v',h1,h2,val_up hn h3⟩
  · trivial
  · exact h.elim
theorem LFok.app{f:LF}{w:Nat}{x y:Ao}{d:Option Nat}{sr1:St}{r:AV}(hs:Step (.app w x y) d sr sr1)(hx:ev sr.s x=some r)(hr:RelV ρ (.lst w [] true) r)(hk:f.keeps d=true)(h:LFok sr f):LFok sr1 f:=by
  obtain⟨a,b,h1,h2,ys,h3,h4,h5⟩:=hs;rw[hx]at h1;cases h1;have new:∀{o:AObj}{v:Nat→AV},New sr d o v sr1→LFok sr1 f:=by
    rintro o v ⟨id,hid,rfl⟩;exact LFok.put hk (LFok.upd hid.1 h)
  simp only[RelV,RelVs]at hr;rcases hr with⟨_,c,rfl,_,rfl⟩ | ⟨_,rfl⟩
  · obtain⟨_,h5⟩:=h5;split at h5
    · rw[h5];exact LFok.put hk h
    · exact new h5.2.2
  · replace h5:if ys.length=0 then sr1=sr.put d .nils else ys.length≤LIM∧New sr d (.row w ys true) (fun id=>.slice w id 0 ys.length false) sr1:=h5;split at h5
    · rw[h5];exact LFok.put hk h
    · exact new h5.2
theorem Step.app_s{w:Nat}{x y:Ao}{d:Option Nat}{sr1:St}(hs:Step (.app w x y) d sr sr1):∃v h',sr1={sr with h:=h'}.put d v:=by
  obtain⟨a,b,h1,h2,ys,h3,h4,h5⟩:=hs;have new:∀{o:AObj}{v:Nat→AV}{h0:AH},New {sr with h:=h0} d o v sr1→∃v h',sr1={sr with h:=h'}.put d v:=by
    rintro o v h0 ⟨id,hid,rfl⟩;exact⟨v id,h0.upd id o,rfl⟩
  have stay:∀{v:AV},sr1=sr.put d v→∃v h',sr1={sr with h:=h'}.put d v:=fun{v} e=>⟨v,sr.h,e⟩;split at h5
  · split at h5
    · exact stay h5
    · exact new (h0:=sr.h) h5.2
  · obtain⟨_,h5⟩:=h5;split at h5
    · exact stay h5
    · obtain⟨_,xs,_,h5⟩:=h5;split at h5
      · exact new (h0:=sr.h) h5
      · exact new h5.2
  · obtain⟨_,h5⟩:=h5;split at h5
    · exact stay h5
    · exact new (h0:=sr.h) h5.2.2
  · exact h5.elim
theorem LFok.ept{f:LF}{w:Nat}{x y:Ao}{d:Option Nat}{sr1:St}{v:AV}{j:Nat}(hs:Step (.app w x y) d sr sr1)(hp:lk sr.s f.p=some (.ept v j))(hk:f.keeps d=true)(h:LFok sr f):LFok sr1 f:=by
  obtain⟨u,h',rfl⟩:=hs.app_s;refine LFok.put hk ?_;unfold LFok Again at h⊢;simp only[AOper.g,AOper.d,AOper.o]at h⊢;split at h
  · obtain⟨d',v',h1,h2,h3⟩:=h;refine⟨d',v',h1,h2, ?_⟩;have e:ev sr.s (.t f.p)=some (.ept v j):=hp;simp only[val,e]at h3⊢;exact h3
  · trivial
  · exact h.elim
theorem LFok.newO{o:AOp}{f:LF}{d:Option Nat}{sr1:St}(hs:Step o d sr sr1)(hn:o.isNew=true)(hk:f.keeps d=true)(h:LFok sr f):LFok sr1 f:=by
  have new:∀{o:AObj}{v:Nat→AV},New sr d o v sr1→LFok sr1 f:=by
    rintro o v ⟨id,hid,rfl⟩;exact LFok.put hk (LFok.upd hid.1 h)
  cases o<;>first
    | (simp only[AOp.isNew,Bool.false_eq_true]at hn;done)
    | exact new hs
    | exact new hs.choose_spec.2
    | exact new hs.choose_spec.2.2
theorem LFok.new{c:AOper}{f:LF}{v:AV}(hf:lfOf c=some f)(ho:f.own=true)
    (h:(wants sr.s c.g=some true∧val c.o sr.s sr.l sr.h=some v)∨wants sr.s c.g=some false):LFok (sr.put c.d v) f:=by
  unfold lfOf at hf;split at hf
  · rename_i d sh p hd hc;simp only[Option.some.injEq]at hf;subst hf;simp only[LF.own,Bool.and_eq_true,Bool.not_eq_true']at ho;obtain⟨h1,h2⟩:=ho;have ne:∀{a b:Nat},Nat.beq a b=false→a≠b:=fun{a b} q r=>by subst r;rw[Nat.beq_refl]at q;cases q
    have hw:wants (sr.put c.d v).s c.g=wants sr.s c.g:=wants_put fun e he n t hg=>by
      rw[hd]at he;cases he;rw[hg]at h2;simp only[Bool.not_eq_true']at h2;exact ne h2
    show (match wants (sr.put c.d v).s c.g with
      | some true=>∃d' v',some d=some d'∧lk (sr.put c.d v).s d'=some v'∧val (.load sh (.t p)) (sr.put c.d v).s (sr.put c.d v).l (sr.put c.d v).h=some v'
      | some false=>True
      | none=>False)
    rw[hw];rcases h with⟨h3,h4⟩ | h3
    · rw[h3];refine⟨d,v,rfl, ?_, ?_⟩
      · rw[hd];show lk (sr.s.set d v) d=_;rw[lk_set,if_pos rfl]
      · rw[←h4,hc];have:ev (sr.put c.d v).s (.t p)=ev sr.s (.t p):=lk_putX fun e he=>by rw[hd]at he;cases he;exact ne h1
        simp only[val,this];rfl
    · rw[h3];trivial
  · cases hf
theorem checks_of{F:List LF}(hF:∀f∈F,LFok sr f):∀{ck:List AOper},(ck.all fun k=>match lfOf k with | some f=>F.any (LF.eq f) | none=>false)=true→Checks sr ck
  |[],_=>trivial
  | c::ck,h=>by
    simp only[List.all_cons,Bool.and_eq_true]at h;refine⟨?_,checks_of hF h.2⟩;have h1:=h.1;split at h1
    · rename_i f hf;rw[List.any_eq_true]at h1;obtain⟨f',q1,q2⟩:=h1;have:=LF.eq_eq q2;subst this;have:=hF _ q1;unfold lfOf at hf;split at hf
      · rename_i d sh p hd hc;simp only[Option.some.injEq]at hf;subst hf;unfold LFok Again at this;unfold Again;rw[hd,hc];exact this
      · cases hf
    · cases h1
theorem Step.quiet{o:AOp}{d:Option Nat}{s s':St}(hs:Step o d s s')(hq:o.quiet=true):∃v,val o s.s s.l s.h=some v∧s'=s.put d v:=by
  cases o<;>first
    | (simp only[AOp.quiet,Bool.false_eq_true]at hq;done)
    | exact hs
theorem callee_rel(hS:RelS ρ st sr){o:AOp}(ho:o.ok=true){g:Nat}{vs:List AV}(hc:callee (toE st.s) o=some (g,vs)):∃ar,callee sr.s o=some (g,ar)∧RelVs ρ vs ar:=by
  cases o<;>simp only[callee,reduceCtorEq]at hc
  case call g' args=>
    simp only[Option.map_eq_some_iff,Prod.mk.injEq]at hc;obtain⟨as,h1,rfl,rfl⟩:=hc;obtain⟨rs,h2,h3⟩:=evs_rel hS.s ho h1;exact⟨rs,by simp only[callee,h2,Option.map_some],h3⟩
  case callv x args=>
    simp only[AOp.ok,Bool.and_eq_true]at ho;split at hc
    · rename_i g' cs as h1 h2;cases hc;obtain⟨r,q1,q2⟩:=ev_rel hS.s ho.1 h1;simp only[RelV]at q2;obtain⟨ds,rfl,q2⟩:=q2;obtain⟨rs,q3,q4⟩:=evs_rel hS.s ho.2 h2;exact⟨rs++ds,by simp only[callee,q1,q3],q4.append q2⟩
    · cases hc
theorem RelH.grow{h h':List AObj}{ρ':Ren}{hr hr':AH}(hh:RelH ρ h hr)(hf:Fm h.length ρ hr ρ' hr'):ρ.le ρ':=fun i a hi=>by
  have hlt:i<h.length:=by
    rcases Nat.lt_or_ge i h.length with q | q
    · exact q
    · rw[hh.out i q]at hi;cases hi
  rw[hf.base i hlt];exact hi
theorem AV.rigid.one{ρ:Ren}:∀{v r r':AV},v.rigid→RelV ρ v r→RelV ρ v r'→r=r'
  |.ptr _ _ _,_,_,_,h,h'=>by
    simp only[RelV]at h h';obtain⟨a,h1,rfl⟩:=h;obtain⟨b,h2,rfl⟩:=h';rw[h1]at h2;cases h2;rfl
  |.map _,_,_,_,h,h'=>by
    simp only[RelV]at h h';obtain⟨a,h1,rfl⟩:=h;obtain⟨b,h2,rfl⟩:=h';rw[h1]at h2;cases h2;rfl
  |.slice _ _ _ _ _,_,_,hn,h,h'=>by
    simp only[RelV]at h h';rcases h with⟨a,h1,rfl⟩ | ⟨_,q1,q2,_⟩
    · rcases h' with⟨b,h2,rfl⟩ | ⟨_,q1,q2,_⟩
      · rw[h1]at h2;cases h2;rfl
      · exact absurd ⟨q1,q2⟩ hn
    · exact absurd ⟨q1,q2⟩ hn
  |.bool _,_,_,_,h,h' |.int _ _,_,_,_,h,h' |.str _,_,_,_,h,h' |.nilp,_,_,_,h,h' |.nils,_,_,_,h,h' |.nilm,_,_,_,h,h' |.nilf,_,_,_,h,h' |.nili,_,_,_,h,h'=>by
    simp only[RelV]at h h';rw[h,h']
  |.lst _ _ _,_,_,hn,_,_ |.ept _ _,_,_,hn,_,_ |.fn _ _,_,_,hn,_,_ |.iface _ _,_,_,hn,_,_ |.agg _,_,_,hn,_,_ |.tup _,_,_,hn,_,_ |.any,_,_,hn,_,_=>hn.elim
theorem ckVs.ok{st:VSt}{sr:St}{ρ:Ren}(hS:RelS ρ st sr):∀{ck:List AOper}{f:LF},ckVs st ck→ckIn ck f=true→LFok sr f
  |[],_,_,h=>by cases h
  | k::ck,f,hk,h=>by
    unfold ckIn at h;simp only[List.any_cons,Bool.or_eq_true]at h;rcases h with h | h
    · have h1:=hk.1;unfold ckV at h1;split at h
      · rename_i f' hf';have:=LF.eq_eq h;subst this;rw[hf']at h1;obtain⟨hg,v,q1,q2,q3⟩:=h1;obtain⟨r,a1,a2⟩:=hS.s _ _ q1;obtain⟨r',b1,b2⟩:=xval_rel hS (by rfl) q2;have:=q3.one a2 b2;subst this;unfold LFok Again;simp only[AOper.g,AOper.d,AOper.o,hg,wants];exact⟨_,_,rfl,a1,b1⟩
      · cases h
    · exact ckVs.ok hS hk.2 h
mutual
theorem leaf_eq:∀(a b:AV),a.leaf=true→RelV ρ a b→b=a
  |.bool _,_,_,h |.int _ _,_,_,h |.str _,_,_,h |.nilp,_,_,h |.nils,_,_,h |.nilm,_,_,h |.nilf,_,_,h |.nili,_,_,h=>by simp only[RelV]at h;exact h
  |.any,_,ht,_=>by simp[AV.leaf]at ht
  |.ptr _ _ _,_,ht,_=>by simp[AV.leaf]at ht
  |.map _,_,ht,_=>by simp[AV.leaf]at ht
  |.slice _ _ _ _ _,_,ht,_=>by simp[AV.leaf]at ht
  |.lst _ _ _,_,ht,_=>by simp[AV.leaf]at ht
  |.ept _ _,_,ht,_=>by simp[AV.leaf]at ht
  |.fn _ cs,_,ht,h=>by
    simp only[RelV]at h;simp only[AV.leaf]at ht;obtain⟨ds,rfl,h2⟩:=h;rw[leafs_eq cs _ ht h2]
  |.iface _ x,_,ht,h=>by
    simp only[RelV]at h;simp only[AV.leaf]at ht;obtain⟨u,rfl,h2⟩:=h;rw[leaf_eq x u ht h2]
  |.agg cs,_,ht,h=>by
    simp only[RelV]at h;simp only[AV.leaf]at ht;obtain⟨ds,rfl,h2⟩:=h;rw[leafs_eq cs _ ht h2]
  |.tup cs,_,ht,h=>by
    simp only[RelV]at h;simp only[AV.leaf]at ht;obtain⟨ds,rfl,h2⟩:=h;rw[leafs_eq cs _ ht h2]
theorem leafs_eq:∀(as bs:List AV),AV.leafs as=true→RelVs ρ as bs→bs=as
  |[],_,_,h=>by simpa only [RelVs]using h
  | a::as,bs,ht,h=>by
    simp only[RelVs]at h;simp only[AV.leafs,Bool.and_eq_true]at ht;obtain⟨b,bs,rfl,h2,h3⟩:=h;rw[leaf_eq a b ht.1 h2,leafs_eq as bs ht.2 h3]
end
def xl(E:Ev):List AOper→VSt→(VSt→Prop)→(AV→VSt→Prop)→Prop
  |[],st,K,_=>K st
  | c::l,st,K,KP=>xoper E c st (fun st'=>xl E l st' K KP) KP
def XlR(E:Ev)(b:Nat)(l:List AOper)(ρ:Ren)(sr:St)(K:VSt→Prop)(KP:AV→VSt→Prop):Prop:=
  ∃k sr' ρ' st',RelS ρ' st' sr'∧Fm b ρ sr.h ρ' sr'.h∧b≤st'.h.length∧((Ex E.Γ k (.ops l sr) (.st .nrm sr')∧K st')∨∃v,Ex E.Γ k (.ops l sr) (.st (.pan v) sr')∧KP v st')
theorem XlR.head{b:Nat}{c:AOper}{l:List AOper}{ρ ρ1:Ren}{sr sr1:St}{K:VSt→Prop}{KP:AV→VSt→Prop}(hf:Fm b ρ sr.h ρ1 sr1.h)(h:XlR E b l ρ1 sr1 K KP)
    (hx:∃k0,∀k o,k0≤k→Ex E.Γ k (.ops l sr1) o→Ex E.Γ k (.ops (c::l) sr) o):XlR E b (c::l) ρ sr K KP:=by
  obtain⟨k,sr',ρ',st',g1,g2,g3,g4⟩:=h;obtain⟨k0,hx⟩:=hx;refine⟨max k0 k,sr',ρ',st',g1,hf.trans g2,g3, ?_⟩;rcases g4 with⟨e,q⟩ | ⟨v,e,q⟩
  · exact .inl ⟨hx _ _ (Nat.le_max_left _ _) (e.le (Nat.le_max_right _ _)),q⟩
  · exact .inr ⟨v,hx _ _ (Nat.le_max_left _ _) (e.le (Nat.le_max_right _ _)),q⟩
theorem xl_sound{b:Nat}:∀{l:List AOper}{F:List LF}{ρ:Ren}{st:VSt}{sr:St}{K:VSt→Prop}{KP:AV→VSt→Prop},(l.all fun c=>c.o.ok)=true→ckSt F l=true→(∀f∈F,LFok sr f)→RelS ρ st sr→b≤st.h.length→xl E l st K KP→XlR E b l ρ sr K KP
  |[],F,ρ,st,sr,K,KP,_,_,_,hS,hb,hx=>⟨0,sr,ρ,st,hS,Fm.refl _ _ _,hb,.inl ⟨.nil,hx⟩⟩
  | c::l,F,ρ,st,sr,K,KP,hok,hck,hF,hS,hb,hx=>by
    simp only[List.all_cons,Bool.and_eq_true]at hok;simp only[ckSt,Bool.and_eq_true,Bool.or_eq_true]at hck;obtain⟨hok1,hok2⟩:=hok;obtain⟨hck1,hck2⟩:=hck
    --the guard says no
    have skip:∀{K':VSt→Prop},wants sr.s c.g=some false→K' (st.put c.d .undef)→(∀st',K' st'→xl E l st' K KP)→XlR E b (c::l) ρ sr K KP:=by
      intro K' hw hk hK;have hS1:RelS ρ (st.put c.d .undef) (sr.put c.d .undef):=⟨hS.s.put (by simp[RelV,RelVs]),hS.l,hS.h⟩;have hF1:∀f∈(if c.o.isCall then(if c.ck.isEmpty then []else(F.filter fun f=>f.keeps c.d).filter (ckIn c.ck))else if c.apC then(F.filter (fun f=>f.keeps c.d)).filter (ckIn c.ck)else if c.o.quiet then addF c (F.filter fun f=>f.keeps c.d)else if c.o.isLoc then F.filter (fun f=>f.keeps c.d)else if c.o.isNew then F.filter (fun f=>f.keeps c.d)else []),LFok (sr.put c.d .undef) f:=by
        have h0:∀f∈F.filter (fun f=>f.keeps c.d),LFok (sr.put c.d .undef) f:=fun f hf=>by
          rw[List.mem_filter]at hf;exact(hF f hf.1).put hf.2
        intro f hf;split at hf
        · split at hf
          · cases hf
          · exact h0 f (List.mem_filter.1 hf).1
        · split at hf
          · exact h0 f (List.mem_filter.1 hf).1
          · split at hf
            · unfold addF at hf;split at hf
              · rename_i f1 hf1;split at hf
                · rename_i hown;rcases List.mem_cons.1 hf with rfl | hf
                  · exact LFok.new hf1 hown (.inr hw)
                  · exact h0 f hf
                · exact h0 f hf
              · exact h0 f hf
            · split at hf
              · exact h0 f hf
              · split at hf
                · exact h0 f hf
                · cases hf
      exact XlR.head (sr1:=sr.put c.d .undef) (Fm.refl _ _ _) (xl_sound hok2 hck2 hF1 hS1 hb (hK _ hk)) ⟨0,fun _ _ _ e=>.skip hw e⟩
    --the operation is done
    have run:∀{K':VSt→Prop},wants sr.s c.g=some true→xrun E c st K' KP→(∀st',K' st'→xl E l st' K KP)→XlR E b (c::l) ρ sr K KP:=by
      intro K' hw hk hK;unfold xrun at hk;by_cases hcall:c.o.isCall=true
      · rw[if_pos hcall]at hk hck2;unfold xcall at hk;split at hk
        · rename_i x hco;split at hk
          · rename_i t v hv;rw[hco]at hok1;obtain⟨r,h1,h2⟩:=ev_rel hS.s hok1 hv;have:=leaf_eq (.iface t v) r (by simpa only [AV.leaf]using hk.1) h2;subst this;exact⟨0,sr,ρ,st,hS,Fm.refl _ _ _,hb,.inr ⟨_,.panic hw hco h1,hk.2⟩⟩
          · exact hk.elim
        split at hk
        · rename_i g vs hc;obtain⟨ar,ha1,ha2⟩:=callee_rel hS hok1 hc;by_cases hck0:c.ck.isEmpty=true
          · have hckn0:c.ck=[]:=by simpa using hck0
            rw[hckn0]at hk;simp only at hk;rw[if_pos hck0]at hck2;obtain⟨k,hr',ρ',h',q3,q5,q6,hq⟩:=hk ρ sr.h ar hS.h ha2;have hle:=hS.h.grow (h':=h') q5;have hfm:Fm b ρ sr.h ρ' hr':=⟨q5.pres,q5.new,q5.fr,fun i hi=>q5.base i (by omega)⟩;rcases hq with⟨v,r,q1,q2,q4⟩ | ⟨v,q1,q4,q2⟩
            case inr=>exact⟨k,{sr with h:=hr'},ρ',{s:=st.s,l:=st.l,h:=h'},⟨hS.s.mono hle,hS.l.mono hle,q3⟩,hfm,Nat.le_trans hb q6,.inr ⟨v,.callP hw ha1 q1,q2⟩⟩
            have hS1:RelS ρ' {s:=vputS st.s c.d v,l:=st.l,h:=h'} ({sr with h:=hr'}.put c.d r):=⟨(hS.s.mono hle).put q4,hS.l.mono hle,q3⟩;have hF1:∀f∈([]:List LF),LFok ({sr with h:=hr'}.put c.d r) f:=fun f hf=>by cases hf
            have hckn:c.ck=[]:=by simpa using hck0
            exact XlR.head (sr1:={sr with h:=hr'}.put c.d r) hfm (xl_sound hok2 hck2 hF1 hS1 (Nat.le_trans hb q6) (hK _ q2)) ⟨k,fun k' o hk' e=>.call hw ha1 (q1.le hk') (by rw[hckn];trivial) e⟩
          · have hck0:c.ck.isEmpty=false:=by simpa using hck0
            simp only[hck0,Bool.false_eq_true,if_false]at hck2;have chk:∀{sr1:St},(∀f∈(F.filter fun f=>f.keeps c.d).filter (ckIn c.ck),LFok sr1 f)→Checks sr1 c.ck:=fun{sr1} hF1=>by
              rcases hck1 with q | q
              · rw[hck0]at q;cases q
              · refine checks_of hF1 ?_;have q2:=q.2;rw[List.all_eq_true]at q2⊢;intro k hk;have:=q2 k hk;split at this
                · rename_i f hf
                  try simp only[hf]
                  rw[List.any_eq_true]at this⊢;obtain⟨f',g1,g2⟩:=this;refine⟨f',List.mem_filter.2 ⟨g1, ?_⟩,g2⟩;unfold ckIn;rw[List.any_eq_true];exact⟨k,hk,by rw[hf];exact g2⟩
                · cases this
            have hk2:SCallK E.Γ g vs st.h (fun v h'=>K' {s:=vputS st.s c.d v,l:=st.l,h:=h'})∨SCallX E.Γ g vs st.h (fun v h'=>ckVs {s:=vputS st.s c.d v,l:=st.l,h:=h'} c.ck∧K' {s:=vputS st.s c.d v,l:=st.l,h:=h'}) (fun v h'=>KP v {s:=st.s,l:=st.l,h:=h'}):=by
              cases e:c.ck with
              | nil=>rw[e]at hck0;cases hck0
              | cons a b=>rw[e]at hk;exact hk
            rcases hk2 with hk | hk
            · obtain⟨k,r,hr',ρ',v,h',q1,q2,q3,q4,q5,q6,q7⟩:=hk ρ sr.h ar hS.h ha2;have hle:=hS.h.grow (h':=h') q5;have hS1:RelS ρ' {s:=vputS st.s c.d v,l:=st.l,h:=h'} ({sr with h:=hr'}.put c.d r):=⟨(hS.s.mono hle).put q4,hS.l.mono hle,q3⟩;have hF1:∀f∈(F.filter fun f=>f.keeps c.d).filter (ckIn c.ck),LFok ({sr with h:=hr'}.put c.d r) f:=fun f hf=>by
                rw[List.mem_filter,List.mem_filter]at hf;exact(LFok.heap q7 (hF f hf.1.1)).put hf.1.2
              exact XlR.head (sr1:={sr with h:=hr'}.put c.d r) ⟨q5.pres,q5.new,q5.fr,fun i hi=>q5.base i (by omega)⟩ (xl_sound hok2 hck2 hF1 hS1 (Nat.le_trans hb q6) (hK _ q2)) ⟨k,fun k' o hk' e=>.call hw ha1 (q1.le hk') (chk hF1) e⟩
            · obtain⟨k,hr',ρ',h',q3,q5,q6,hq⟩:=hk ρ sr.h ar hS.h ha2;have hle:=hS.h.grow (h':=h') q5;rcases hq with⟨v,r,q1,⟨qc,q2⟩,q4⟩ | ⟨v,q1,q4,q2⟩
              case inr=>exact⟨k,{sr with h:=hr'},ρ',{s:=st.s,l:=st.l,h:=h'},⟨hS.s.mono hle,hS.l.mono hle,q3⟩,⟨q5.pres,q5.new,q5.fr,fun i hi=>q5.base i (by omega)⟩,Nat.le_trans hb q6,.inr ⟨v,.callP hw ha1 q1,q2⟩⟩
              have hS1:RelS ρ' {s:=vputS st.s c.d v,l:=st.l,h:=h'} ({sr with h:=hr'}.put c.d r):=⟨(hS.s.mono hle).put q4,hS.l.mono hle,q3⟩;have hF1:∀f∈(F.filter fun f=>f.keeps c.d).filter (ckIn c.ck),LFok ({sr with h:=hr'}.put c.d r) f:=fun f hf=>ckVs.ok hS1 qc (List.mem_filter.1 hf).2;exact XlR.head (sr1:={sr with h:=hr'}.put c.d r) ⟨q5.pres,q5.new,q5.fr,fun i hi=>q5.base i (by omega)⟩ (xl_sound hok2 hck2 hF1 hS1 (Nat.le_trans hb q6) (hK _ q2)) ⟨k,fun k' o hk' e=>.call hw ha1 (q1.le hk') (chk hF1) e⟩
        · exact hk.elim
      · rw[if_neg hcall]at hk hck2;by_cases happ:c.apC=true
        · rw[if_pos happ]at hk hck2;simp only[AOper.apC,Bool.and_eq_true,Bool.not_eq_true']at happ;unfold xappC at hk;split at hk
          · rename_i w x y hco;split at hk
            · rename_i w' hx0;obtain⟨rfl,hk⟩:=hk;rw[hco]at hok1;obtain⟨sr1,ρ1,st1,q1,q2,q3,q4,q5⟩:=xstep_sound hS hb hok1 hk;simp only[AOp.ok,Bool.and_eq_true]at hok1;obtain⟨r,g1,g2⟩:=ev_rel hS.s hok1.1 hx0;have hF1:∀f∈F.filter (fun f=>f.keeps c.d),LFok sr1 f:=fun f hf=>by
                rw[List.mem_filter]at hf;exact LFok.app q1 g1 g2 hf.2 (hF f hf.1)
              have hch:Checks sr1 c.ck:=by
                rcases hck1 with q | q
                · rw[happ.2]at q;cases q
                · exact checks_of hF1 q.2
              exact XlR.head q4 (xl_sound hok2 hck2 (fun f hf=>hF1 f (List.mem_filter.1 hf).1) q3 q5 (hK _ q2)) ⟨0,fun _ _ _ e=>.step hw (by rw[hco];exact q1) hch e⟩
            · obtain⟨hke,hk⟩:=hk;rw[hco]at hok1;obtain⟨sr1,ρ1,st1,q1,q2,q3,q4,q5⟩:=xstep_sound hS hb hok1 hk;have hF1:∀f∈(F.filter (fun f=>f.keeps c.d)).filter (ckIn c.ck),LFok sr1 f:=fun f hf=>by
                rw[List.mem_filter,List.mem_filter]at hf;obtain⟨⟨f1,f2⟩,f3⟩:=hf;unfold ckIn at f3;rw[List.any_eq_true]at f3;obtain⟨k,k1,k2⟩:=f3;have k3:=List.all_eq_true.1 hke k k1;unfold ckE at k3;split at k2
                · rename_i f' hf';have:=LF.eq_eq k2;subst this;rw[hf']at k3;simp only at k3;split at k3
                  · rename_i v j hg;obtain⟨r,p1,p2⟩:=hS.s _ _ hg;simp only[RelV]at p2;obtain⟨y,rfl,_⟩:=p2;exact LFok.ept q1 p1 f2 (hF _ f1)
                  · cases k3
                · cases k2
              have hch:Checks sr1 c.ck:=by
                rcases hck1 with q | q
                · rw[happ.2]at q;cases q
                · refine checks_of hF1 ?_;have q2:=q.2;rw[List.all_eq_true]at q2⊢;intro k hk;have:=q2 k hk;split at this
                  · rename_i f hf
                    try simp only[hf]
                    rw[List.any_eq_true]at this⊢;obtain⟨f',g1,g2⟩:=this;refine⟨f',List.mem_filter.2 ⟨g1, ?_⟩,g2⟩;unfold ckIn;rw[List.any_eq_true];exact⟨k,hk,by rw[hf];exact g2⟩
                  · cases this
              exact XlR.head q4 (xl_sound hok2 hck2 hF1 q3 q5 (hK _ q2)) ⟨0,fun _ _ _ e=>.step hw (by rw[hco];exact q1) hch e⟩
            · exact hk.elim
          · exact hk.elim
        rw[if_neg happ]at hk hck2;have hckn:c.ck=[]:=by
          rcases hck1 with q | q
          · simpa using q
          · rcases q.1 with q1 | q1
            · exact absurd q1 hcall
            · simp only[AOper.apC,q1,Bool.true_and]at happ;simpa using happ
        obtain⟨sr1,ρ1,st1,q1,q2,q3,q4,q5⟩:=xstep_sound hS hb hok1 hk;have hF1:∀f∈(if c.o.quiet then addF c (F.filter fun f=>f.keeps c.d)else if c.o.isLoc then F.filter (fun f=>f.keeps c.d)else if c.o.isNew then F.filter (fun f=>f.keeps c.d)else []),LFok sr1 f:=by
          intro f hf;split at hf
          · rename_i hq;obtain⟨v,hv,rfl⟩:=q1.quiet hq;have h0:∀f∈F.filter (fun f=>f.keeps c.d),LFok (sr.put c.d v) f:=fun f hf=>by
              rw[List.mem_filter]at hf;exact(hF f hf.1).put hf.2
            unfold addF at hf;split at hf
            · rename_i f1 hf1;split at hf
              · rename_i hown;rcases List.mem_cons.1 hf with rfl | hf
                · exact LFok.new hf1 hown (.inl ⟨hw,hv⟩)
                · exact h0 f hf
              · exact h0 f hf
            · exact h0 f hf
          · split at hf
            · rename_i hl;rw[List.mem_filter]at hf;obtain⟨e1,e2⟩:=q1.loc hl;exact(hF f hf.1).loc e1 e2
            split at hf
            · rename_i hl;rw[List.mem_filter]at hf;exact LFok.newO q1 hl hf.2 (hF f hf.1)
            · cases hf
        exact XlR.head q4 (xl_sound hok2 hck2 hF1 q3 q5 (hK _ q2)) ⟨0,fun _ _ _ e=>.step hw q1 (by rw[hckn];trivial) e⟩
    unfold xl xoper at hx;split at hx
    · rename_i hg;exact run (by rw[hg];rfl) hx (fun _ h=>h)
    · rename_i n t hg;split at hx
      · rename_i c' hn;obtain⟨r,h1,h2⟩:=hS.s n _ hn;simp only[RelV]at h2;subst h2;have hw:wants sr.s c.g=some (c'==t):=by rw[hg];simp only[wants,h1]
        split at hx
        · rename_i hc;subst hc;exact run (by rw[hw];simp) hx (fun _ h=>h)
        · rename_i hc;refine skip (by rw[hw];simpa using hc) hx (fun _ h=>h)
      · rename_i hn;obtain⟨r,h1,h2⟩:=hS.s n _ hn;simp only[RelV,RelVs]at h2;obtain⟨_,rfl,rfl⟩:=h2;exact skip (by rw[hg];simp only[wants,h1]) hx (fun _ h=>h)
      · exact hx.elim
theorem R_ops{ks:List Fr1}{Q:AExit→VSt→Prop}:∀{l:List AOper}{st:VSt},R E (.ops l::ks) st Q=xl E l st (fun st'=>R E ks st' Q) fun v st'=>Q (.pan v) st'
  |[],st=>by rw[R];rfl
  | c::l,st=>by
    rw[R];simp only[xl];congr 1;funext st';exact R_ops
end
end Go.Ab
namespace Go.Ab
open Go
section
variable {E:Ev} {ρ:Ren} {st:VSt} {sr:St} {ks:List Fr1} {Q:AExit→VSt→Prop}
theorem kill_one(h:AH){a:Nat}{o:AObj}(_ha:h a=some o):h.kill [a]=h.upd a .dead:=by
  apply AH.ext'
  · intro i;rw[AH.kill_at,AH.upd_apply];simp
  · intro i;rfl
theorem frz_slot(hS:RelS ρ st sr){n id a:Nat}{w:Nat}{el el':List AV}{v v':AV}(hid:ρ id=some (some a))(ho:st.h[id]?=some (.row w el true))(hro:sr.h a=some (.row w el' true))
    {v0:AV} (hv0:lk sr.s n=some v0) (hc:Conv sr.h [a] v0 v') (hv:RelV ρ v v'):
    ∃sr',Frz [a] sr sr'∧RelS ρ {s:=(n,v)::st.s,l:=st.l,h:=st.h.set id .dead} sr'∧sr'.h=sr.h.upd a .dead:=by
  refine⟨{s:=sr.s.set n v',l:=sr.l,h:=sr.h.kill [a]},⟨fun i hi=> ?_,fun t x hx=> ?_,fun t x hx=>⟨x,hx,.refl _⟩,rfl⟩,⟨hS.s.cons hv,hS.l, ?_⟩,kill_one _ hro⟩
  · have:i=a:=by simpa using hi
    subst this;exact⟨_,hro,rfl⟩
  · have hx2:lk (sr.s.set n v') t=some x:=hx;rw[lk_set]at hx2;split at hx2
    · rename_i e;simp only[Option.some.injEq]at hx2;rw[←e,←hx2];exact⟨v0,hv0,hc⟩
    · exact⟨x,hx2,.refl _⟩
  · show RelH ρ _ (sr.h.kill [a]);rw[kill_one _ hro];exact hS.h.write hid ho (by simp) trivial
theorem frz1_sound{b:Nat}(hS:RelS ρ st sr)(hb:b≤st.h.length)(n:Nat):∃K sr',Frz K sr sr'∧RelS ρ (frz1 n st) sr'∧Fm b ρ sr.h ρ sr'.h∧b≤(frz1 n st).h.length:=by
  have none:∃K sr',Frz K sr sr'∧RelS ρ st sr'∧Fm b ρ sr.h ρ sr'.h∧b≤st.h.length:=by
    refine⟨[],sr,⟨fun i hi=>by simp at hi,fun t v h=>⟨v,h,.refl _⟩,fun t v h=>⟨v,h,.refl _⟩, ?_⟩,hS,Fm.refl _ _ _,hb⟩;exact AH.ext' (fun i=>by rw[AH.kill_at];simp) (fun i=>rfl)
  unfold frz1;split
  · rename_i id hn;split
    · rename_i w v ho;split
      · rename_i hw;obtain⟨r,h1,h2⟩:=hS.s n _ hn;simp only[RelV]at h2;obtain⟨a,ha,rfl⟩:=h2;rcases hS.h.obj _ _ ho with⟨q,_⟩ | ⟨i',el',q1,q2,q3⟩
        · rw[ha]at q;cases q
        rw[ha]at q1;cases q1;simp only[RelVs]at q3;obtain⟨v',_,rfl,q4,rfl⟩:=q3;obtain⟨sr',g1,g2,g3⟩:=frz_slot hS ha ho q2 h1 (.ptr (j:=0) (by simp) q2 hw (x:=v') rfl (.refl v')) (v:=.ept v 0) (by simp only[RelV];exact⟨v',rfl,q4⟩);exact⟨_,sr',g1,g2,by rw[g3];exact Fm.write hS.h ha,by rw[List.length_set];exact hb⟩
      · exact none
    · exact none
  · rename_i w id len c hn;split
    · rename_i w' el ho;split
      · rename_i hw;obtain⟨hw,rfl,hlen⟩:=hw;obtain⟨r,h1,h2⟩:=hS.s n _ hn;simp only[RelV]at h2;rcases h2 with⟨a,ha,rfl⟩ | ⟨ha,_,rfl,hc0⟩
        · rcases hS.h.obj _ _ ho with⟨q,_⟩ | ⟨i',el',q1,q2,q3⟩
          · rw[ha]at q;cases q
          rw[ha]at q1;cases q1;have hl:=q3.length;have e:(el'.drop 0).take len=el':=by rw[List.drop_zero,←hlen,←hl,List.take_length]
          have hcv:Conv sr.h [a] (.slice w' a 0 len c) (.lst w' el' c):=by
            refine .slc (by simp) q2 (by omega) hw (by rw[e]) ?_;rw[e];intro p hp;have:p.1=p.2:=by
              obtain⟨i,hi,rfl⟩:=List.getElem_of_mem hp;simp
            rw[this];exact .refl _
          obtain⟨sr',g1,g2,g3⟩:=frz_slot hS ha ho q2 h1 hcv (v:=.lst w' el c) (by simp only[RelV];exact .inl ⟨el',c,rfl,fun h=>h,q3⟩);exact⟨_,sr',g1,g2,by rw[g3];exact Fm.write hS.h ha,by rw[List.length_set];exact hb⟩
        · have:el=[]:=List.eq_nil_of_length_eq_zero hlen;subst this;refine⟨[],sr,⟨fun i hi=>by simp at hi,fun t v h=>⟨v,h,.refl _⟩,fun t v h=>⟨v,h,.refl _⟩, ?_⟩,⟨?_,hS.l,hS.h.giveUp id⟩,Fm.refl _ _ _,by rw[List.length_set];exact hb⟩
          · exact AH.ext' (fun i=>by rw[AH.kill_at];simp) (fun i=>rfl)
          · intro t x hx;rw[get_cons]at hx;split at hx
            · rename_i e;subst e;cases hx;refine⟨r,h1, ?_⟩;rcases hc0 with rfl | rfl<;>simp[RelV,RelVs]
            · exact hS.s t x hx
      · exact none
    · exact none
  · exact none
theorem frzS_ex{b:Nat}:∀{fz:List Nat}{st:VSt}{sr:St},RelS ρ st sr→b≤st.h.length→
    ∃sr',(∀Γ k c o,Ex Γ k (.code c sr') o→Ex Γ k (.code c sr) o)∧RelS ρ (frzS fz st) sr'∧Fm b ρ sr.h ρ sr'.h∧b≤(frzS fz st).h.length
  |[],st,sr,hS,hb=>⟨sr,fun _ _ _ _ h=>h,hS,Fm.refl _ _ _,hb⟩
  | n::fz,st,sr,hS,hb=>by
    obtain⟨K,sr1,h1,h2,h3,h4⟩:=frz1_sound hS hb n;obtain⟨sr',g1,g2,g3,g4⟩:=frzS_ex (fz:=fz) h2 h4;exact⟨sr',fun Γ k c o h=>.frz K h1 (g1 Γ k c o h),g2,h3.trans g3,g4⟩
def Fr1.ok:Fr1→Bool
  |.code c=>c.ok
  |.ops l=>(l.all fun c=>c.o.ok)&&ckSt [] l
  |.blk _=>true
theorem exK_ok:∀{e:AExit}{ks ks':List Fr1},exK e ks=some ks'→ks.all Fr1.ok=true→ks'.all Fr1.ok=true
  | e,[],ks',h,_=>by cases e<;>simp[exK]at h
  |.exit m,.blk n::ks,ks',h,hk=>by
    simp only[exK]at h;simp only[List.all_cons,Bool.and_eq_true]at hk;split at h
    · cases h;exact hk.2
    · exact exK_ok h hk.2
  |.exit m,.code c::ks,ks',h,hk=>by simp only[List.all_cons,Bool.and_eq_true]at hk;exact exK_ok (e:=.exit m) (ks:=ks) (by simpa only [exK]using h) hk.2
  |.exit m,.ops c::ks,ks',h,hk=>by simp only[List.all_cons,Bool.and_eq_true]at hk;exact exK_ok (e:=.exit m) (ks:=ks) (by simpa only [exK]using h) hk.2
  |.nrm,f::ks,ks',h,hk=>by simp only[List.all_cons,Bool.and_eq_true]at hk;exact exK_ok (e:=.nrm) (ks:=ks) (by simpa only [exK]using h) hk.2
  |.ret,f::ks,ks',h,hk=>by simp only[List.all_cons,Bool.and_eq_true]at hk;exact exK_ok (e:=.ret) (ks:=ks) (by simpa only [exK]using h) hk.2
  |.pan v,f::ks,ks',h,hk=>by simp only[List.all_cons,Bool.and_eq_true]at hk;exact exK_ok (e:=.pan v) (ks:=ks) (by simpa only [exK]using h) hk.2
theorem exK_pan{v:AV}:∀ks,exK (.pan v) ks=none
  |[]=>rfl
  |.code _::ks=>by rw[exK_code];exact exK_pan ks
  |.ops _::ks=>exK_pan ks
  |.blk _::ks=>exK_pan ks
theorem XlR.sem{b:Nat}{l:List AOper}{K:VSt→Prop}{Q:AExit→VSt→Prop}(hx:XlR E b l ρ sr K fun v st'=>Q (.pan v) st'){f:Fr1}{sr0:St}
    (hf:∀k e s1 s2 e2,Ex E.Γ k (.ops l sr) (.st .nrm s1)→ExF E.Γ k ks s1 e2 s2→e=e2→ExF E.Γ k (f::ks) sr0 e s2) (hp:∀k v s1,Ex E.Γ k (.ops l sr) (.st (.pan v) s1)→ExF E.Γ k (f::ks) sr0 (.pan v) s1)
    (h0:Fm b ρ sr0.h ρ sr.h) (hk:∀st',K st'→∀ρ sr,RelS ρ st' sr→b≤st'.h.length→∃k e sr' ρ' st2,ExF E.Γ k ks sr e sr'∧Q e st2∧RelS ρ' st2 sr'∧Fm b ρ sr.h ρ' sr'.h∧b≤st2.h.length):
    ∃k e sr' ρ' st',ExF E.Γ k (f::ks) sr0 e sr'∧Q e st'∧RelS ρ' st' sr'∧Fm b ρ sr0.h ρ' sr'.h∧b≤st'.h.length:=by
  obtain⟨k,sr1,ρ1,st1,q3,q4,q5,q⟩:=hx;rcases q with⟨q1,q2⟩ | ⟨v,q1,q2⟩
  · obtain⟨k',e,sr',ρ',st',g1,g2,g3,g4,g5⟩:=hk st1 q2 ρ1 sr1 q3 q5;exact⟨max k k',e,sr',ρ',st',hf _ _ _ _ _ (q1.le (Nat.le_max_left _ _)) (g1.le (Nat.le_max_right _ _)) rfl,g2,g3,h0.trans (q4.trans g4),g5⟩
  · exact⟨k,_,sr1,ρ1,st1,hp _ _ _ q1,q2,q3,h0.trans q4,q5⟩
theorem R_sound:∀(n:Nat){ks:List Fr1}{st:VSt},szF ks=n→ks.all Fr1.ok=true→R E ks st Q→Sem E ks st Q:=by
  intro n
  induction n using Nat.strongRecOn with
  | _ n ih=>
  intro ks st hn hok hR;cases ks with
  | nil=>
    rw[R]at hR;exact fun ρ sr hS hb=>⟨0,_,sr,ρ,st,.nil,hR,hS,Fm.refl _ _ _,hb⟩
  | cons f ks=>
  simp only[List.all_cons,Bool.and_eq_true]at hok;obtain⟨hf,hok⟩:=hok;cases f with
  | blk m=>
    rw[R]at hR;have:=ih (szF ks) (by rw[←hn];simp only[szF,Fr1.sz];omega) rfl hok hR;intro ρ sr hS hb;obtain⟨k,e,sr',ρ',st',g1,g2⟩:=this ρ sr hS hb;exact⟨k,e,sr',ρ',st',.blk g1,g2⟩
  | ops l=>
    rw[R_ops]at hR;simp only[Fr1.ok,Bool.and_eq_true]at hf;intro ρ sr hS hb;exact XlR.sem (xl_sound hf.1 hf.2 (fun f hf=>by cases hf) hS hb hR) (fun k e s1 s2 e2 h h' he=>he▸.ops h h') (fun k v s1 h=>.opsP h) (Fm.refl _ _ _)
      (fun st' q=>ih (szF ks) (by rw[←hn];simp only[szF,Fr1.sz];omega) rfl hok q)
  | code c=>
  simp only[Fr1.ok]at hf;cases c with
  | skip=>
    rw[R]at hR;have:=ih (szF ks) (by rw[←hn];simp only[szF,Fr1.sz,ACode.sz];omega) rfl hok hR;intro ρ sr hS hb;obtain⟨k,e,sr',ρ',st',g1,g2⟩:=this ρ sr hS hb;exact⟨k,e,sr',ρ',st',.code .cskip g1,g2⟩
  | reg p l=>
    rw[R]at hR;split at hR
    · exact hR
    · simp only[ACode.ok,Bool.and_eq_true]at hf;rw[R_ops]at hR;intro ρ sr hS hb;obtain⟨sr0,f1,f2,f3,f4⟩:=frzS_ex (fz:=E.fz) hS hb;exact XlR.sem (xl_sound hf.2.1 hf.2.2 (fun f hf=>by cases hf) f2 f4 hR) (fun k e s1 s2 e2 h h' he=>he▸.code (f1 _ _ _ _ (.reg h (.inr rfl))) h') (fun k v s1 h=>.codeE (f1 _ _ _ _ (.reg h (.inl hf.1))) (by simp) (exK_pan _)) f3
        (fun st' q=>ih (szF ks) (by rw[←hn];simp only[szF,Fr1.sz,ACode.sz];omega) rfl hok q)
  | seq a b=>
    rw[R]at hR;simp only[ACode.ok,Bool.and_eq_true]at hf;have:=ih (szF (.code a::.code b::ks)) (by rw[←hn];simp only[szF,Fr1.sz,ACode.sz];omega) rfl (by simp only[List.all_cons,Fr1.ok,hf.1,hf.2,hok,Bool.and_self]) hR;intro ρ sr hS hb;obtain⟨k,e,sr',ρ',st',g1,g2⟩:=this ρ sr hS hb;exact⟨k,e,sr',ρ',st',g1.seq,g2⟩
  | cond c a b=>
    rw[R]at hR;simp only[ACode.ok,Bool.and_eq_true]at hf;split at hR
    · rename_i t hc;have key:Sem E (.code (if t then a else b)::ks) st Q:=by
        cases t
        · exact ih (szF (.code b::ks)) (by rw[←hn];simp only[szF,Fr1.sz,ACode.sz];omega) rfl (by simp only[List.all_cons,Fr1.ok,hok,Bool.and_true];exact hf.2) (by simpa using hR)
        · exact ih (szF (.code a::ks)) (by rw[←hn];simp only[szF,Fr1.sz,ACode.sz];omega) rfl (by simp only[List.all_cons,Fr1.ok,hok,Bool.and_true];exact hf.1.2) (by simpa using hR)
      intro ρ sr hS hb;obtain⟨k,e,sr',ρ',st',g1,g2⟩:=key ρ sr hS hb;have hc':=ev_bool hS.s hf.1.1 hc;refine⟨k,e,sr',ρ',st', ?_,g2⟩;cases g1 with
      | code h h'=>exact .code (.cond hc' h) h'
      | codeX h he hx h'=>exact .codeX (.cond hc' h) he hx h'
      | codeE h he hx=>exact .codeE (.cond hc' h) he hx
    · exact hR.elim
  | blk m a=>
    rw[R]at hR;have:=ih (szF (.code a::.blk m::ks)) (by rw[←hn];simp only[szF,Fr1.sz,ACode.sz];omega) rfl (by simp only[List.all_cons,Fr1.ok,hok,Bool.and_true];exact hf) hR;intro ρ sr hS hb;obtain⟨k,e,sr',ρ',st',g1,g2⟩:=this ρ sr hS hb;exact⟨k,e,sr',ρ',st',g1.blkC,g2⟩
  | rng x k p1 p2 a b=>rw[R]at hR;exact hR
  | loop a=>rw[R]at hR;exact hR
  | exit m=>
    rw[R]at hR;split at hR
    · rename_i ks' hx;have:=ih (szF ks') (by have:=exK_sz hx;rw[←hn];simp only[szF,Fr1.sz,ACode.sz];omega) rfl (exK_ok hx hok) hR;intro ρ sr hS hb;obtain⟨k,e,sr',ρ',st',g1,g2⟩:=this ρ sr hS hb;exact⟨k,e,sr',ρ',st',.codeX .exit (by simp) hx g1,g2⟩
    · rename_i hx;exact fun ρ sr hS hb=>⟨0,_,sr,ρ,st,.codeE .exit (by simp) hx,hR,hS,Fm.refl _ _ _,hb⟩
  | ret=>
    rw[R]at hR;split at hR
    · rename_i ks' hx;rw[exK_ret]at hx;cases hx
    · rename_i hx;exact fun ρ sr hS hb=>⟨0,_,sr,ρ,st,.codeE .ret (by simp) hx,hR,hS,Fm.refl _ _ _,hb⟩
theorem Sem.of{st:VSt}(hok:ks.all Fr1.ok=true)(h:R E ks st Q):Sem E ks st Q:=R_sound _ rfl hok h
def Can(b:Nat)(st st':VSt):Prop:=∀ρ sr,RelS ρ st sr→b≤st.h.length→∃sr' ρ',(∀Γ k c o,Ex Γ k (.code c sr') o→Ex Γ k (.code c sr) o)∧RelS ρ' st' sr'∧Fm b ρ sr.h ρ' sr'.h∧b≤st'.h.length
theorem Can.refl(b:Nat)(st:VSt):Can b st st:=fun ρ sr hS hb=>⟨sr,ρ,fun _ _ _ _ h=>h,hS,Fm.refl _ _ _,hb⟩
theorem Can.trans{b:Nat}{s1 s2 s3:VSt}(h:Can b s1 s2)(k:Can b s2 s3):Can b s1 s3:=fun ρ sr hS hb=>by
  obtain⟨sr1,ρ1,a1,a2,a3,a4⟩:=h ρ sr hS hb;obtain⟨sr2,ρ2,b1,b2,b3,b4⟩:=k ρ1 sr1 a2 a4;exact⟨sr2,ρ2,fun Γ k c o h=>a1 _ _ _ _ (b1 _ _ _ _ h),b2,a3.trans b3,b4⟩
theorem Sem.can{c:ACode}{st st':VSt}(hc:Can E.b st st')(h:Sem E (.code c::ks) st' Q):Sem E (.code c::ks) st Q:=by
  intro ρ sr hS hb;obtain⟨sr1,ρ1,a1,a2,a3,a4⟩:=hc ρ sr hS hb;obtain⟨k,e,sr',ρ',st2,g1,g2,g3,g4,g5⟩:=h ρ1 sr1 a2 a4;refine⟨k,e,sr',ρ',st2, ?_,g2,g3,a3.trans g4,g5⟩;cases g1 with
  | code h h'=>exact .code (a1 _ _ _ _ h) h'
  | codeX h he hx h'=>exact .codeX (a1 _ _ _ _ h) he hx h'
  | codeE h he hx=>exact .codeE (a1 _ _ _ _ h) he hx
theorem Sem.reg{p:Bool}{l:List AOper}{st:VSt}(hok:(Fr1.code (.reg p l)::ks).all Fr1.ok=true)(h:R E (.ops l::ks) (frzS E.fz st) Q):Sem E (.code (.reg p l)::ks) st Q:=by
  simp only[List.all_cons,Bool.and_eq_true,Fr1.ok,ACode.ok]at hok;obtain⟨⟨hp,hf1,hf2⟩,hok⟩:=hok;rw[R_ops]at h;intro ρ sr hS hb;obtain⟨sr0,f1,f2,f3,f4⟩:=frzS_ex (fz:=E.fz) hS hb;exact XlR.sem (xl_sound hf1 hf2 (fun f hf=>by cases hf) f2 f4 h) (fun k e s1 s2 e2 h h' he=>he▸.code (f1 _ _ _ _ (.reg h (.inr rfl))) h') (fun k v s1 h=>.codeE (f1 _ _ _ _ (.reg h (.inl hp))) (by simp) (exK_pan _)) f3
    (fun st' q=>Sem.of hok q)
def loopQ{α:Type}(E:Ev)(I:α→Prop)(stt:α→VSt)(m:α→Nat)(a:α)(ks:List Fr1)(Q:AExit→VSt→Prop):AExit→VSt→Prop
  |.nrm,s=>∃a',I a'∧m a'<m a∧Can E.b s (stt a')
  | e,s=>match exK e ks with
    | some ks'=>R E ks' s Q
    | none=>Q e s
theorem Sem.loop{α:Type}{c:ACode}(I:α→Prop)(stt:α→VSt)(m:α→Nat)(a0:α){st:VSt}(hok:(Fr1.code (.loop c)::ks).all Fr1.ok=true)(hi:I a0)(h0:Can E.b st (stt a0))
    (h:∀a,I a→R E [.code c] (stt a) (loopQ E I stt m a ks Q)):Sem E (.code (.loop c)::ks) st Q:=by
  simp only[List.all_cons,Bool.and_eq_true,Fr1.ok]at hok;have hc:c.ok=true:=by have:=hok.1;simpa only [ACode.ok]using this
  have key:∀n a,m a=n→I a→Sem E (.code (.loop c)::ks) (stt a) Q:=by
    intro n
    induction n using Nat.strongRecOn with
    | _ n ih=>
    intro a hm hia ρ sr hS hb;obtain⟨k,e,sr1,ρ1,st1,g1,g2,g3,g4,g5⟩:=Sem.of (by simpa only [List.all_cons,List.all_nil,Bool.and_true,Fr1.ok]using hc) (h a hia) ρ sr hS hb;have done:∀e1,e1≠.nrm→Ex E.Γ k (.code c sr) (.st e1 sr1)→loopQ E I stt m a ks Q e1 st1→
        ∃k e sr' ρ' st',ExF E.Γ k (.code (.loop c)::ks) sr e sr'∧Q e st'∧RelS ρ' st' sr'∧Fm E.b ρ sr.h ρ' sr'.h∧E.b≤st'.h.length:=by
      intro e1 he hx hq;have hq:(match exK e1 ks with | some ks'=>R E ks' st1 Q | none=>Q e1 st1):=by
        cases e1 with
        | nrm=>exact absurd rfl he
        | _=>exact hq
      split at hq
      · rename_i ks' hk;obtain⟨k2,e2,sr2,ρ2,st2,q1,q2,q3,q4,q5⟩:=Sem.of (exK_ok hk hok.2) hq ρ1 sr1 g3 g5;exact⟨max k k2,e2,sr2,ρ2,st2,.codeX (.loopX (hx.le (Nat.le_max_left _ _)) he) he hk (q1.le (Nat.le_max_right _ _)),q2,q3,g4.trans q4,q5⟩
      · rename_i hk;exact⟨k,e1,sr1,ρ1,st1,.codeE (.loopX hx he) he hk,hq,g3,g4,g5⟩
    cases g1 with
    | code hx h'=>
      cases h';obtain⟨a',hia',hlt,hcan⟩:=g2;obtain⟨sr2,ρ2,a1,a2,a3,a4⟩:=hcan ρ1 sr1 g3 g5;obtain⟨k2,e2,sr3,ρ3,st3,q1,q2,q3,q4,q5⟩:=ih (m a') (by omega) a' rfl hia' ρ2 sr2 a2 a4;refine⟨max k k2,e2,sr3,ρ3,st3, ?_,q2,q3,g4.trans (a3.trans q4),q5⟩;cases q1 with
      | code h h'=>exact .code (.loopN (hx.le (Nat.le_max_left _ _)) (a1 _ _ _ _ (h.le (Nat.le_max_right _ _)))) (h'.le (Nat.le_max_right _ _))
      | codeX h he hx' h'=>exact .codeX (.loopN (hx.le (Nat.le_max_left _ _)) (a1 _ _ _ _ (h.le (Nat.le_max_right _ _)))) he hx' (h'.le (Nat.le_max_right _ _))
      | codeE h he hx'=>exact .codeE (.loopN (hx.le (Nat.le_max_left _ _)) (a1 _ _ _ _ (h.le (Nat.le_max_right _ _)))) he hx'
    | codeX hx he hk h'=>cases h'<;>simp[exK]at hk
    | codeE hx he hk=>exact done _ he hx g2
  exact Sem.can h0 (key _ a0 rfl hi)
end
end Go.Ab
namespace Go.Ab
open Go
def ρ0:Ren:=fun _=>none
section
variable {ρ ρ':Ren}
mutual
theorem tree_any:∀(a b:AV),a.tree=true→RelV ρ a b→RelV ρ' a b
  |.bool _,_,_,h |.int _ _,_,_,h |.str _,_,_,h |.nilp,_,_,h |.nils,_,_,h |.nilm,_,_,h |.nilf,_,_,h |.nili,_,_,h=>by simpa only [RelV]using h
  |.any,_,ht,_=>by simp[AV.tree]at ht
  |.ptr _ _ _,_,ht,_=>by simp[AV.tree]at ht
  |.map _,_,ht,_=>by simp[AV.tree]at ht
  |.slice _ _ _ _ _,_,ht,_=>by simp[AV.tree]at ht
  |.lst w xs _,_,ht,h=>by
    simp only[RelV]at h⊢;simp only[AV.tree]at ht;rcases h with⟨ys,c,h1,h2,h3⟩ | h
    · exact .inl ⟨ys,c,h1,h2,trees_any xs ys ht h3⟩
    · exact .inr h
  |.ept x _,_,ht,h=>by
    simp only[RelV]at h⊢;simp only[AV.tree]at ht;obtain⟨y,h1,h2⟩:=h;exact⟨y,h1,tree_any x y ht h2⟩
  |.fn _ cs,_,ht,h=>by
    simp only[RelV]at h⊢;simp only[AV.tree]at ht;obtain⟨ds,h1,h2⟩:=h;exact⟨ds,h1,trees_any cs _ ht h2⟩
  |.iface _ x,_,ht,h=>by
    simp only[RelV]at h⊢;simp only[AV.tree]at ht;obtain⟨u,h1,h2⟩:=h;exact⟨u,h1,tree_any x u ht h2⟩
  |.agg cs,_,ht,h=>by
    simp only[RelV]at h⊢;simp only[AV.tree]at ht;obtain⟨ds,h1,h2⟩:=h;exact⟨ds,h1,trees_any cs _ ht h2⟩
  |.tup cs,_,ht,h=>by
    simp only[RelV]at h⊢;simp only[AV.tree]at ht;obtain⟨ds,h1,h2⟩:=h;exact⟨ds,h1,trees_any cs _ ht h2⟩
theorem trees_any:∀(as bs:List AV),AV.trees as=true→RelVs ρ as bs→RelVs ρ' as bs
  |[],_,_,h=>by simpa only [RelVs]using h
  | a::as,bs,ht,h=>by
    simp only[RelVs]at h⊢;simp only[AV.trees,Bool.and_eq_true]at ht;obtain⟨b,bs,h1,h2,h3⟩:=h;exact⟨b,bs,h1,tree_any a b ht.1 h2,trees_any as bs ht.2 h3⟩
end
mutual
theorem tree_of:∀(a b:AV),a.tree=true→RelV ρ a b→b.tree=true
  |.bool _,_,_,h |.int _ _,_,_,h |.str _,_,_,h |.nilp,_,_,h |.nils,_,_,h |.nilm,_,_,h |.nilf,_,_,h |.nili,_,_,h=>by simp only[RelV]at h;subst h;rfl
  |.any,_,ht,_=>by simp[AV.tree]at ht
  |.ptr _ _ _,_,ht,_=>by simp[AV.tree]at ht
  |.map _,_,ht,_=>by simp[AV.tree]at ht
  |.slice _ _ _ _ _,_,ht,_=>by simp[AV.tree]at ht
  |.lst w xs _,_,ht,h=>by
    simp only[RelV]at h;simp only[AV.tree]at ht;rcases h with⟨ys,c,rfl,h2,h3⟩ | ⟨_,rfl⟩
    · simp only[AV.tree];exact trees_of xs ys ht h3
    · rfl
  |.ept x _,_,ht,h=>by
    simp only[RelV]at h;simp only[AV.tree]at ht;obtain⟨y,rfl,h2⟩:=h;simp only[AV.tree];exact tree_of x y ht h2
  |.fn _ cs,_,ht,h=>by
    simp only[RelV]at h;simp only[AV.tree]at ht;obtain⟨ds,rfl,h2⟩:=h;simp only[AV.tree];exact trees_of cs _ ht h2
  |.iface _ x,_,ht,h=>by
    simp only[RelV]at h;simp only[AV.tree]at ht;obtain⟨u,rfl,h2⟩:=h;simp only[AV.tree];exact tree_of x u ht h2
  |.agg cs,_,ht,h=>by
    simp only[RelV]at h;simp only[AV.tree]at ht;obtain⟨ds,rfl,h2⟩:=h;simp only[AV.tree];exact trees_of cs _ ht h2
  |.tup cs,_,ht,h=>by
    simp only[RelV]at h;simp only[AV.tree]at ht;obtain⟨ds,rfl,h2⟩:=h;simp only[AV.tree];exact trees_of cs _ ht h2
theorem trees_of:∀(as bs:List AV),AV.trees as=true→RelVs ρ as bs→AV.trees bs=true
  |[],_,_,h=>by simp only[RelVs]at h;subst h;rfl
  | a::as,bs,ht,h=>by
    simp only[RelVs]at h;simp only[AV.trees,Bool.and_eq_true]at ht;obtain⟨b,bs,rfl,h2,h3⟩:=h;simp only[AV.trees,Bool.and_eq_true];exact⟨tree_of a b ht.1 h2,trees_of as bs ht.2 h3⟩
end
inductive Cv(h:List AObj):AV→AV→Prop
  | refl {v} (ht:v.tree=true):Cv h v v
  | nils {w c}:Cv h .nils (.lst w [] c)
  | clip {w}:Cv h (.lst w [] true) (.lst w [] false)
  | slc {w id off len clip el ts} (ho:h[id]?=some (.row w el true)) (hl:off+len≤el.length) (hw:0<w) (hs:((el.drop off).take len).length=ts.length) (hc:∀p∈((el.drop off).take len).zip ts,Cv h p.1 p.2):Cv h (.slice w id off len clip) (.lst w ts false)
  | ptr {id i j w el x t} (ho:h[id]?=some (.row w el true)) (hw:0<w) (he:el[i]?=some x) (hc:Cv h x t):Cv h (.ptr id i j) (.ept t j)
  | agg {cs ds} (hl:cs.length=ds.length) (hc:∀p∈cs.zip ds,Cv h p.1 p.2):Cv h (.agg cs) (.agg ds)
  | fn {g cs ds} (hl:cs.length=ds.length) (hc:∀p∈cs.zip ds,Cv h p.1 p.2):Cv h (.fn g cs) (.fn g ds)
  | tup {cs ds} (hl:cs.length=ds.length) (hc:∀p∈cs.zip ds,Cv h p.1 p.2):Cv h (.tup cs) (.tup ds)
  | sub {x y j sh} (ht:x.tree=true) (hp:x.part j sh=some y) (hy:0<y.cells.length):Cv h (.ept x j) (.ept y 0)
theorem RelVs.zip{as bs:List AV}(h:RelVs ρ as bs){i:Nat}{a b:AV}(ha:as[i]?=some a)(hb:bs[i]?=some b):RelV ρ a b:=(RelVs.iff.1 h).2 i a b ha hb
theorem Cv.conv{h:List AObj}{hr:AH}(hh:RelH ρ h hr){K:List Nat}(hK:∀i a w el,ρ i=some (some a)→h[i]?=some (.row w el true)→K.contains a=true){v t:AV}(hc:Cv h v t):
    ∀{r:AV},RelV ρ v r→∃r',Conv hr K r r'∧RelV ρ0 t r':=by
  have list:∀{cs ds rs:List AV},cs.length=ds.length→(∀p∈cs.zip ds,∀{r:AV},RelV ρ p.1 r→∃r',Conv hr K r r'∧RelV ρ0 p.2 r')→RelVs ρ cs rs→
      ∃rs',rs.length=rs'.length∧(∀p∈rs.zip rs',Conv hr K p.1 p.2)∧RelVs ρ0 ds rs':=by
    intro cs
    induction cs with
    | nil=>
      intro ds rs hl _ hr;have:ds=[]:=List.eq_nil_of_length_eq_zero (by simpa using hl.symm);subst this;simp only[RelVs]at hr;subst hr;exact⟨[],rfl,fun p hp=>by simp at hp,by simp only[RelVs]⟩
    | cons c cs ih=>
      intro ds rs hl hi hr;cases ds with
      | nil=>simp at hl
      | cons d ds=>
        simp only[RelVs]at hr;obtain⟨r,rs,rfl,h1,h2⟩:=hr;obtain⟨r',q1,q2⟩:=hi (c,d) (by simp) h1;obtain⟨rs',q3,q4,q5⟩:=ih (by simpa using hl) (fun p hp=>hi p (by simp only[List.zip_cons_cons];exact List.mem_cons_of_mem _ hp)) h2;refine⟨r'::rs',by simp[q3],fun p hp=> ?_,by simp only[RelVs];exact⟨r',rs',rfl,q2,q5⟩⟩;simp only[List.zip_cons_cons,List.mem_cons]at hp;rcases hp with rfl | hp
        · exact q1
        · exact q4 p hp
  induction hc with
  | refl ht=>exact fun hr=>⟨_,.refl _,tree_any _ _ ht hr⟩
  | @nils w c=>
    intro r hr;simp only[RelV]at hr;subst hr;exact⟨.lst w [] c,.nils,by simp only[RelV];exact .inl ⟨[],c,rfl,fun h=>h,by simp only[RelVs]⟩⟩
  | @clip w=>
    intro r hr;simp only[RelV,RelVs]at hr;rcases hr with⟨ys,c,rfl,_,rfl⟩ | ⟨_,rfl⟩
    · exact⟨_,.refl _,by simp only[RelV];exact .inl ⟨[],c,rfl,by simp,by simp only[RelVs]⟩⟩
    · exact⟨.lst w [] false,.nils,by simp only[RelV];exact .inl ⟨[],false,rfl,fun h=>h,by simp only[RelVs]⟩⟩
  | @slc w id off len clip el ts ho hl hw hs hc ih=>
    intro r hr;simp only[RelV]at hr;rcases hr with⟨a,ha,rfl⟩ | ⟨ha,rfl,rfl,hc0⟩
    · rcases hh.obj _ _ ho with⟨q,_⟩ | ⟨i',el',q1,q2,q3⟩
      · rw[ha]at q;cases q
      rw[ha]at q1;cases q1;obtain⟨rs',g1,g2,g3⟩:=list hs (fun p hp=>ih p hp) ((q3.drop off).take len);refine⟨.lst w rs' clip,.slc (hK _ _ _ _ ha ho) q2 (by rw[q3.length];exact hl) hw g1 g2, ?_⟩;simp only[RelV];exact .inl ⟨rs',clip,rfl,by simp,g3⟩
    · have:ts=[]:=List.eq_nil_of_length_eq_zero (by rw[←hs];simp);subst this;rcases hc0 with rfl | rfl
      · exact⟨.lst w [] false,.nils,by simp only[RelV];exact .inl ⟨[],false,rfl,fun h=>h,by simp only[RelVs]⟩⟩
      · exact⟨.lst w [] true,.refl _,by simp only[RelV];exact .inl ⟨[],true,rfl,fun _=>rfl,by simp only[RelVs]⟩⟩
  | @ptr id i j w el x t ho hw he hc ih=>
    intro r hr;simp only[RelV]at hr;obtain⟨a,ha,rfl⟩:=hr;rcases hh.obj _ _ ho with⟨q,_⟩ | ⟨i',el',q1,q2,q3⟩
    · rw[ha]at q;cases q
    rw[ha]at q1;cases q1;obtain⟨y,g1,g2⟩:=q3.get he;obtain⟨r',g3,g4⟩:=ih g2;exact⟨.ept r' j,.ptr (hK _ _ _ _ ha ho) q2 hw g1 g3,by simp only[RelV];exact⟨r',rfl,g4⟩⟩
  | sub ht hp hy=>
    intro r hr;have hr2:=tree_any (ρ':=ρ0) _ _ (by simpa only [AV.tree]using ht) hr;simp only[RelV]at hr2;obtain⟨y',rfl,hr3⟩:=hr2;obtain⟨z,g1,g2⟩:=hr3.part hp;exact⟨.ept z 0,.sub g1 (by rw[g2.cellsLen];exact hy),by simp only[RelV];exact⟨z,rfl,g2⟩⟩
  | agg hl hc ih=>
    intro r hr;simp only[RelV]at hr;obtain⟨rs,rfl,hr⟩:=hr;obtain⟨rs',g1,g2,g3⟩:=list hl (fun p hp=>ih p hp) hr;exact⟨.agg rs',.agg g1 g2,by simp only[RelV];exact⟨rs',rfl,g3⟩⟩
  | fn hl hc ih=>
    intro r hr;simp only[RelV]at hr;obtain⟨rs,rfl,hr⟩:=hr;obtain⟨rs',g1,g2,g3⟩:=list hl (fun p hp=>ih p hp) hr;exact⟨.fn _ rs',.fn g1 g2,by simp only[RelV];exact⟨rs',rfl,g3⟩⟩
  | tup hl hc ih=>
    intro r hr;simp only[RelV]at hr;obtain⟨rs,rfl,hr⟩:=hr;obtain⟨rs',g1,g2,g3⟩:=list hl (fun p hp=>ih p hp) hr;exact⟨.tup rs',.tup g1 g2,by simp only[RelV];exact⟨rs',rfl,g3⟩⟩
def Cvs(h:List AObj)(as bs:List AV):Prop:=as.length=bs.length∧∀p∈as.zip bs,Cv h p.1 p.2
theorem Cvs.nil{h:List AObj}:Cvs h [] []:=⟨rfl,fun p hp=>by simp at hp⟩
theorem Cvs.cons{h:List AObj}{a b:AV}{as bs:List AV}(x:Cv h a b)(y:Cvs h as bs):Cvs h (a::as) (b::bs):=⟨by simp[y.1],fun p hp=>by
  simp only[List.zip_cons_cons,List.mem_cons]at hp;rcases hp with rfl | hp
  · exact x
  · exact y.2 p hp⟩
theorem Cvs.conv{h:List AObj}{hr:AH}(hh:RelH ρ h hr){K:List Nat}(hK:∀i a w el,ρ i=some (some a)→h[i]?=some (.row w el true)→K.contains a=true){vs ts rs:List AV}(hc:Cvs h vs ts)(hv:RelVs ρ vs rs):
    ∃rs',rs.length=rs'.length∧(∀p∈rs.zip rs',Conv hr K p.1 p.2)∧RelVs ρ0 ts rs':=by
  have:=Cv.conv hh hK (v:=.tup vs) (t:=.tup ts) (.tup hc.1 hc.2) (r:=.tup rs) (by simp only[RelV];exact⟨rs,rfl,hv⟩);obtain⟨r',h1,h2⟩:=this;simp only[RelV]at h2;obtain⟨rs',rfl,h2⟩:=h2;cases h1 with
  | refl _=>exact⟨rs,rfl,fun p hp=>by
      have:p.1=p.2:=by
        obtain⟨i,hi,rfl⟩:=List.getElem_of_mem hp;simp
      rw[this];exact .refl _,h2⟩
  | tup hl hc=>exact⟨rs',hl,hc,h2⟩
def Pure(Γ:Nat→Option AFn)(g:Nat)(as:List AV)(v:AV):Prop:=
  AV.trees as=true∧v.tree=true∧∀hr ar,RelVs ρ0 as ar→∃k r hr',Ex Γ k (.call g ar hr) (.res (.ok r) hr')∧hr'.f=hr.f∧(∀a,hr'.fr a→hr.fr a)∧RelV ρ0 v r
variable {Γ:Nat→Option AFn} {g:Nat} {vs vs':List AV} {h:List AObj}
theorem SCallP.pure{K:AV→Prop}{v:AV}(hp:Pure Γ g vs v)(hk:K v):SCallP Γ g vs h K:=fun ρ hr ar hH hv=>by
  obtain⟨t1,t2,hp⟩:=hp;obtain⟨k,r,hr',h1,h2,h3,h4⟩:=hp hr ar (trees_any _ _ t1 hv);exact⟨k,r,hr',v,h1,h2,h3,hk,tree_any _ _ t2 h4⟩
theorem SCall.ofP{K:AV→List AObj→Prop}(hp:SCallP Γ g vs h fun v=>K v h):SCall Γ g vs h K:=fun ρ hr ar hH hv=>by
  obtain⟨k,r,hr',v,h1,h2,h3,h4,h5⟩:=hp ρ hr ar hH hv;refine⟨k,r,hr',ρ,v,h,h1,h4,⟨fun i o hi=>(hH.obj i o hi).mono (fun _ _ q=>q) (fun a o' _ q=>by rw[h2];exact q),hH.inj,hH.out,fun i a hi=>by rw[h2];exact hH.is i a hi⟩,h5, ?_,Nat.le_refl _⟩;exact⟨fun a o q _=>by rw[h2];exact q,fun i a hi=>.inl ⟨i,hi⟩,h3,fun _ _=>rfl⟩
theorem SCallK.ofP{K:AV→List AObj→Prop}(hp:SCallP Γ g vs h fun v=>K v h):SCallK Γ g vs h K:=fun ρ hr ar hH hv=>by
  obtain⟨k,r,hr',v,h1,h2,h3,h4,h5⟩:=hp ρ hr ar hH hv;refine⟨k,r,hr',ρ,v,h,h1,h4,⟨fun i o hi=>(hH.obj i o hi).mono (fun _ _ q=>q) (fun a o' _ q=>by rw[h2];exact q),hH.inj,hH.out,fun i a hi=>by rw[h2];exact hH.is i a hi⟩,h5, ?_,Nat.le_refl _,fun a o q=>by rw[h2];exact q⟩;exact⟨fun a o q _=>by rw[h2];exact q,fun i a hi=>.inl ⟨i,hi⟩,h3,fun _ _=>rfl⟩
theorem SCall.pure{K:AV→List AObj→Prop}{v:AV}(hp:Pure Γ g vs v)(hk:K v h):SCall Γ g vs h K:=SCall.ofP (SCallP.pure hp hk)
theorem exists_all(hr:AH):∃K,All hr K:=by
  obtain⟨n,hn⟩:=hr.fin;refine⟨(List.range n).filter fun i=>match hr i with | some o=>o.wr | none=>false,fun id=> ?_⟩;rw[List.contains_iff_mem,List.mem_filter,List.mem_range];constructor
  · rintro⟨_,h⟩;split at h
    · rename_i o ho;exact⟨o,ho,h⟩
    · cases h
  · rintro⟨o,ho,hw⟩;refine⟨?_,by rw[ho];exact hw⟩;rcases Nat.lt_or_ge id n with q | q
    · exact q
    · rw[(hn id q).1]at ho;cases ho
theorem SCallP.lend{K:AV→Prop}{v:AV}(hc:Cvs h vs vs')(hp:Pure Γ g vs' v)(hl:v.leaf=true)(hk:K v):SCallP Γ g vs h K:=fun ρ hr ar hH hv=>by
  obtain⟨t1,t2,hp⟩:=hp;obtain⟨KK,hKK⟩:=exists_all hr;have hKr:∀i a w el,ρ i=some (some a)→h[i]?=some (.row w el true)→KK.contains a=true:=fun i a w el ha ho=>by
    rcases hH.obj _ _ ho with⟨q,_⟩ | ⟨i',el',q1,q2,q3⟩
    · rw[ha]at q;cases q
    · rw[ha]at q1;cases q1;exact(hKK a).2 ⟨_,q2,rfl⟩
  obtain⟨rs',g1,g2,g3⟩:=hc.conv hH hKr hv;obtain⟨k,r,hr',h1,h2,h3,h4⟩:=hp (hr.kill KK) rs' g3;have hrv:=leaf_eq _ _ hl h4;subst hrv;refine⟨k,r,hr.tomb hr',r,.brw KK hKK g1 g2 hl h1,rfl,fun a ha=> ?_,hk,tree_any _ _ t2 h4⟩;exact(AH.fr_kill (h3 a (AH.fr_tomb ha))).1
theorem SCall.lend{K:AV→List AObj→Prop}{v:AV}(hc:Cvs h vs vs')(hp:Pure Γ g vs' v)(hl:v.leaf=true)(hk:K v h):SCall Γ g vs h K:=SCall.ofP (SCallP.lend hc hp hl hk)
def only(ids:List Nat)(h:List AObj):List AObj:=h.mapIdx fun i o=>if ids.contains i then o else .dead
def without(ids:List Nat)(h:List AObj):List AObj:=h.mapIdx fun i o=>if ids.contains i then .dead else o
theorem only_at{ids:List Nat}{i:Nat}{o:AObj}(hi:(only ids h)[i]?=some o)(hd:o≠.dead):ids.contains i=true∧h[i]?=some o:=by
  simp only[only,List.getElem?_mapIdx,Option.map_eq_some_iff]at hi;obtain⟨x,h1,h2⟩:=hi;split at h2
  · rename_i hc;subst h2;exact⟨hc,h1⟩
  · exact absurd h2.symm hd
def reals(ρ:Ren)(h:List AObj):List Nat→List Nat
  |[]=>[]
  | i::r=>match ρ i,h[i]? with
    | some (some a),some (.row _ _ true)=>a::reals ρ h r
    | _,_=>reals ρ h r
theorem reals_mem{ρ:Ren}{h:List AObj}{a:Nat}:∀{ids:List Nat},a∈reals ρ h ids↔∃i w el,i∈ids∧ρ i=some (some a)∧h[i]?=some (.row w el true)
  |[]=>by simp[reals]
  | i::r=>by
    have ih:=reals_mem (ρ:=ρ) (h:=h) (a:=a) (ids:=r);simp only[reals];split
    · rename_i b w el h1 h2;simp only[List.mem_cons,ih];constructor
      · rintro(rfl | ⟨j,w,el,q1,q2,q3⟩)
        · exact⟨i,w,el,.inl rfl,h1,h2⟩
        · exact⟨j,w,el,.inr q1,q2,q3⟩
      · rintro⟨j,w',el',rfl | q1,q2,q3⟩
        · rw[h1]at q2;cases q2;exact .inl rfl
        · exact .inr ⟨j,w',el',q1,q2,q3⟩
    · rename_i hn;rw[ih];constructor
      · rintro⟨j,w,el,q1,q2⟩;exact⟨j,w,el,List.mem_cons_of_mem _ q1,q2⟩
      · rintro⟨j,w',el',q1,q2,q3⟩;rcases List.mem_cons.1 q1 with rfl | q1
        · exact(hn a w' el' q2 q3).elim
        · exact⟨j,w',el',q1,q2,q3⟩
theorem RelH.rows{h:List AObj}{hr:AH}(hH:RelH ρ h hr)(ids:List Nat):Rows hr (reals ρ h ids):=fun a ha=>by
  rw[List.contains_iff_mem,reals_mem]at ha;obtain⟨i,w,el,_,q2,q3⟩:=ha;rcases hH.obj _ _ q3 with⟨q,_⟩ | ⟨i',el',g1,g2,g3⟩
  · rw[q2]at q;cases q
  · rw[q2]at g1;cases g1;exact⟨_,g2,rfl⟩
theorem RelH.only{h:List AObj}{hr:AH}(hH:RelH ρ h hr)(ids:List Nat):RelH ρ (Go.Ab.only ids h) hr:=⟨fun i o hi=>by
      by_cases hd:o=.dead
      · subst hd;trivial
      · exact hH.obj i o (only_at hi hd).2,fun i j a o o' h1 h2 hi hj d1 d2=>hH.inj i j a o o' h1 h2 (only_at hi d1).2 (only_at hj d2).2 d1 d2,
    fun i hi=>hH.out i (by simpa[Go.Ab.only]using hi),hH.is⟩
theorem SCallP.conv{K:AV→Prop}{v:AV}(hc:Cvs (only [] h) vs vs')(hp:Pure Γ g vs' v)(hk:K v):SCallP Γ g vs h K:=fun ρ hr ar hH hv=>by
  obtain⟨t1,t2,hp⟩:=hp;obtain⟨rs',g1,g2,g3⟩:=hc.conv (hH.only []) (K:=[]) (fun i a w el ha ho=>by
    obtain⟨q1,_⟩:=only_at ho (by simp);cases q1) hv
  obtain⟨k,r,hr',h1,h2,h3,h4⟩:=hp (hr.kill []) rs' g3;have e:(hr.kill []).f=hr.f:=by funext i;rfl
  exact⟨k,r,hr',v,.frzA [] (fun id hi=>by cases hi) g1 g2 h1,by rw[h2,e],fun a ha=>(AH.fr_kill (h3 a ha)).1,hk,tree_any _ _ t2 h4⟩
def toSt(st:VSt):St:=⟨toE st.s,toE st.l,toH st.h⟩
def finQ(res:List ARes)(v:AV):AExit→VSt→Prop:=fun e st=>(e=.nrm∨e=.ret)∧match resAll (toSt st) res with
  | some vs=>Cv st.h (packed vs) v
  | none=>False
def vparams:Nat→List AV→LEnv
  | _,[]=>[]
  | n,a::as=>(n,a)::vparams (n+1) as
theorem params_rel:∀{as ar:List AV}{n:Nat},RelVs ρ as ar→RelE ρ (vparams n as) (params n ar)
  |[],ar,n,h=>fun i v hi=>by cases hi
  | a::as,ar,n,h=>by
    simp only[RelVs]at h;obtain⟨r,rs,rfl,h1,h2⟩:=h;exact(params_rel h2).cons h1
theorem res_rel{st:VSt}{sr:St}(hS:RelS ρ st sr){x:ARes}{v:AV}(hv:resOf (toSt st) x=some v):∃r,resOf sr x=some r∧RelV ρ v r:=by
  cases x with
  | t n=>exact hS.s n v hv
  | l t sh=>
    simp only[resOf,Option.bind_eq_some_iff]at hv⊢;obtain⟨c,h1,h2⟩:=hv;obtain⟨r,h3,h4⟩:=hS.l t c h1;obtain⟨y,h5,h6⟩:=h4.part h2;exact⟨y,⟨r,h3,h5⟩,h6⟩
  | h t sh=>
    simp only[resOf]at hv⊢;split at hv
    · rename_i id i j hp;obtain⟨r,h3,h4⟩:=hS.s t _ hp;obtain⟨id',y,rfl,h5,h6⟩:=load_rel hS.h h4 hv;rw[h3];exact⟨y,h5,h6⟩
    · cases hv
theorem resAll_rel{st:VSt}{sr:St}(hS:RelS ρ st sr):∀{l:List ARes}{vs:List AV},resAll (toSt st) l=some vs→∃rs,resAll sr l=some rs∧RelVs ρ vs rs
  |[],vs,h=>by cases h;exact⟨[],rfl,by simp only[RelVs]⟩
  | x::l,vs,h=>by
    simp only[resAll]at h;split at h
    · rename_i v vs' h1 h2;cases h;obtain⟨r,q1,q2⟩:=res_rel hS h1;obtain⟨rs,q3,q4⟩:=resAll_rel hS h2;exact⟨r::rs,by simp only[resAll,q1,q3],by simp only[RelVs];exact⟨r,rs,rfl,q2,q4⟩⟩
    · cases h
theorem packed_rel{vs rs:List AV}(h:RelVs ρ vs rs):RelV ρ (packed vs) (packed rs):=by
  cases vs with
  | nil=>simp only[RelVs]at h;subst h;simp[packed,RelV,RelVs]
  | cons a vs=>
    cases vs with
    | nil=>
      simp only[RelVs]at h;obtain⟨r,_,rfl,h1,rfl⟩:=h;exact h1
    | cons b vs=>
      have h':=h;simp only[RelVs]at h;obtain⟨r,_,rfl,h1,s,rs,rfl,h2,h3⟩:=h;simp only[packed,RelV];exact⟨_,rfl,h'⟩
theorem AH.fr_of_tomb{h h':AH}{a:Nat}(k:(h.tomb h').fr a):h.fr a:=by
  obtain⟨h1,h2⟩:=k;have h2':(h.tb a || h'.tb a || ((h'.f a).isSome&&(h.f a).isNone))=false:=h2;simp only[Bool.or_eq_false_iff]at h2';exact⟨h1,h2'.1.1⟩
theorem Pure.intro{F:AFun}{as:List AV}{v:AV}(fz bp:List Nat)(hg:Γ g=some (.fn F))(hok:F.body.ok=true)(hn:as.length=F.np)(ht:AV.trees as=true)(hv:v.tree=true)
    (hR:R ⟨Γ,0,fz,bp⟩ [.code F.body] ⟨vparams 0 as,[],[]⟩ (finQ F.res v)):Pure Γ g as v:=by
  refine⟨ht,hv,fun hr ar har=> ?_⟩;have hS:RelS ρ0 ⟨vparams 0 as,[],[]⟩ {s:=params 0 ar,l:=Env.empty,h:=hr}:=⟨params_rel har,(fun n v h=>by cases h),⟨(fun i o h=>by simp at h),(fun i j a o o' h=>by cases h),(fun _ _=>rfl),(fun i a h=>by cases h)⟩⟩;obtain⟨k,e,sr',ρ',st',g1,⟨he,hq⟩,g3,g4,_⟩:=Sem.of (by simpa only [List.all_cons,List.all_nil,Bool.and_true,Fr1.ok]using hok) hR ρ0 _ hS (Nat.zero_le _);have hb:Ex Γ k (.code F.body {s:=params 0 ar,l:=Env.empty,h:=hr}) (.st e sr'):=by
    cases g1 with
    | code h h'=>cases h';exact h
    | codeX h he' hx h'=>cases e<;>simp[exK]at hx
    | codeE h he' hx=>exact h
  split at hq
  · rename_i vs hvs;obtain⟨rs,q1,q2⟩:=resAll_rel g3 hvs;have hx:=Ex.fn hg (by rw[har.length];exact hn) hb he q1;obtain⟨r',c1,c2⟩:=Cv.conv g3.h (K:=reals ρ' st'.h (List.range st'.h.length)) (fun i a w el ha ho=>by
      rw[List.contains_iff_mem,reals_mem];exact⟨i,w,el,List.mem_range.2 (lt_of_some ho),ha,ho⟩) hq (packed_rel q2)
    have hx2:=Ex.frzR _ (g3.h.rows _) c1 hx;have hold:∀id o,hr id=some o→(sr'.h.kill (reals ρ' st'.h (List.range st'.h.length))) id=some o:=fun id o ho=>by
      rw[AH.kill_at,if_neg]
      · exact g4.pres id o ho (fun i hi=>by cases hi)
      · rw[List.contains_iff_mem,reals_mem];rintro⟨i,w,el,_,p2,_⟩;rcases g4.new i id p2 with⟨j,hj⟩ | hf
        · cases hj
        · have:hr id=none:=hf.1;rw[this]at ho;cases ho
    exact⟨k+1,r',_,.drop hold (tree_of _ _ hv c2) hx2,rfl,fun a ha=>AH.fr_of_tomb ha,c2⟩
  · exact hq.elim
end
attribute [irreducible] Pure
end Go.Ab
namespace Go.Ab
open Go
theorem nr{α:Sort _}{a b:α}(h:a=b):a=b:=h
def Go1(E:Ev)(c:AOper)(l:List AOper)(ks:List Fr1)(st:VSt)(Q:AExit→VSt→Prop):Prop:=xrun E c st (fun st'=>R E (.ops l::ks) st' Q) fun v st'=>Q (.pan v) st'
def Grd(E:Ev)(v:Option AV)(t:Bool)(c:AOper)(l:List AOper)(ks:List Fr1)(st:VSt)(Q:AExit→VSt→Prop):Prop:=match v with
  | some (.bool c')=>if c'=t then Go1 E c l ks st Q else R E (.ops l::ks) (st.put c.d .undef) Q
  | some (.tup [])=>R E (.ops l::ks) (st.put c.d .undef) Q
  | _=>False
def Put(E:Ev)(v:Option AV)(d:Option Nat)(l:List AOper)(ks:List Fr1)(st:VSt)(Q:AExit→VSt→Prop):Prop:=match v with
  | some v=>R E (.ops l::ks) (st.put d v) Q
  | none=>False
def Cnd(E:Ev)(v:Option AV)(a b:ACode)(ks:List Fr1)(st:VSt)(Q:AExit→VSt→Prop):Prop:=match v with
  | some (.bool t)=>if t=true then R E (.code a::ks) st Q else R E (.code b::ks) st Q
  | _=>False
def Call1(E:Ev)(v:Option (Nat×List AV))(ck:List AOper)(d:Option Nat)(l:List AOper)(ks:List Fr1)(st:VSt)(Q:AExit→VSt→Prop):Prop:=match v with
  | some (g,vs)=>match ck with
    |[]=>SCallX E.Γ g vs st.h (fun v h'=>R E (.ops l::ks) {s:=vputS st.s d v,l:=st.l,h:=h'} Q) (fun v h'=>Q (.pan v) {s:=st.s,l:=st.l,h:=h'})
    | c::r=>SCallK E.Γ g vs st.h (fun v h'=>R E (.ops l::ks) {s:=vputS st.s d v,l:=st.l,h:=h'} Q)∨SCallX E.Γ g vs st.h (fun v h'=>ckVs {s:=vputS st.s d v,l:=st.l,h:=h'} (c::r)∧R E (.ops l::ks) {s:=vputS st.s d v,l:=st.l,h:=h'} Q) (fun v h'=>Q (.pan v) {s:=st.s,l:=st.l,h:=h'})
  | none=>False
def Pan1(v:Option AV)(Q:AExit→VSt→Prop)(st:VSt):Prop:=match v with
  | some (.iface t v)=>v.leaf=true∧Q (.pan (.iface t v)) st
  | _=>False
def Exit1(E:Ev)(e:AExit)(k:Option (List Fr1))(st:VSt)(Q:AExit→VSt→Prop):Prop:=match k with
  | some ks=>R E ks st Q
  | none=>Q e st
def New1(E:Ev)(d:Option Nat)(o:AObj)(v:AV)(l:List AOper)(ks:List Fr1)(st:VSt)(Q:AExit→VSt→Prop):Prop:=R E (.ops l::ks) ⟨vputS st.s d v,st.l,st.h++[o]⟩ Q
section
variable {E:Ev} {ks:List Fr1} {s m:LEnv} {h:List AObj} {st:VSt} {Q:AExit→VSt→Prop} {a b:ACode} {c x y z:Ao} {op:BinOp} {l:List AOper} {n t off i:Nat} {d:Option Nat} {sh:Option Nat} {v:AV} {g:Option (Nat×Bool)} {ck:List AOper}
@[go_sem] theorem r_nil:R E [] st Q=Q .nrm st:=by rw[R]
@[go_sem] theorem r_blk:R E (.blk n::ks) st Q=R E ks st Q:=by rw[R]
@[go_sem] theorem r_ops0:R E (.ops []::ks) st Q=R E ks st Q:=by rw[R]
@[go_sem] theorem r_skip:R E (.code .skip::ks) st Q=R E ks st Q:=by rw[R]
@[go_sem] theorem r_seq:R E (.code (.seq a b)::ks) st Q=R E (.code a::.code b::ks) st Q:=by rw[R]
@[go_sem] theorem r_blkc:R E (.code (.blk n a)::ks) st Q=R E (.code a::.blk n::ks) st Q:=by rw[R]
@[go_sem] theorem r_ret:R E (.code .ret::ks) st Q=Q .ret st:=by
  rw[R];split
  · rename_i ks' hx;rw[exK_ret]at hx;cases hx
  · rfl
@[go_sem] theorem r_rng{x p1 p2:Nat}{k:List Nat}{a b:ACode}:R E (.code (.rng x k p1 p2 a b)::ks) st Q=Sem E (.code (.rng x k p1 p2 a b)::ks) st Q:=by rw[R]
@[go_sem] theorem r_exit:R E (.code (.exit n)::ks) st Q=Exit1 E (.exit n) (exK (.exit n) ks) st Q:=by
  rw[R];unfold Exit1;split<;>simp_all
@[go_sem] theorem exit_some{e:AExit}:Exit1 E e (some ks) st Q=R E ks st Q:=nr rfl
@[go_sem] theorem exit_none{e:AExit}:Exit1 E e none st Q=Q e st:=nr rfl
@[go_sem] theorem exK_nil{e:AExit}:exK e []=none:=by cases e<;>rfl
@[go_sem] theorem exK_c{e:AExit}:exK e (.code a::ks)=exK e ks:=exK_code
@[go_sem] theorem exK_b{m:Nat}:exK (.exit m) (.blk n::ks)=if m=n then some ks else exK (.exit m) ks:=nr rfl
@[go_sem] theorem r_loop:R E (.code (.loop a)::ks) st Q=Sem E (.code (.loop a)::ks) st Q:=by rw[R]
theorem r_reg{Γ:Nat→Option AFn}{b:Nat}{fz bp:List Nat}{p:Bool}:R ⟨Γ,b,fz,bp⟩ (.code (.reg p l)::ks) st Q=if bp.contains (firstD l)then Sem ⟨Γ,b,fz,bp⟩ (.code (.reg p l)::ks) st Q else R ⟨Γ,b,fz,bp⟩ (.ops l::ks) (frzS fz st) Q:=by rw[R]
@[go_sem] theorem r_reg0{Γ:Nat→Option AFn}{b:Nat}{p:Bool}:R ⟨Γ,b,[],[]⟩ (.code (.reg p l)::ks) st Q=R ⟨Γ,b,[],[]⟩ (.ops l::ks) st Q:=by rw[r_reg];rfl
@[go_sem] theorem r_reg1{Γ:Nat→Option AFn}{b k:Nat}{fz:List Nat}{p:Bool}:R ⟨Γ,b,k::fz,[]⟩ (.code (.reg p l)::ks) st Q=R ⟨Γ,b,k::fz,[]⟩ (.ops l::ks) (frzS (k::fz) st) Q:=by rw[r_reg];rfl
@[go_sem] theorem r_reg2{Γ:Nat→Option AFn}{b k:Nat}{bp fz:List Nat}{p:Bool}:R ⟨Γ,b,fz,k::bp⟩ (.code (.reg p l)::ks) st Q=if (k::bp).contains (firstD l)then Sem ⟨Γ,b,fz,k::bp⟩ (.code (.reg p l)::ks) st Q else R ⟨Γ,b,fz,k::bp⟩ (.ops l::ks) (frzS fz st) Q:=r_reg
@[go_sem] theorem firstD_c{c:AOper}:firstD (c::l)=c.d.getD 0:=nr rfl
@[go_sem] theorem frzS_nil:frzS [] st=st:=nr rfl
@[go_sem] theorem frzS_cons{fz:List Nat}:frzS (n::fz) st=frzS fz (frz1 n st):=nr rfl
@[go_sem] theorem r_cond:R E (.code (.cond c a b)::ks) ⟨s,m,h⟩ Q=Cnd E (ev (toE s) c) a b ks ⟨s,m,h⟩ Q:=by rw[R];rfl
@[go_sem] theorem cnd_t:Cnd E (some (.bool true)) a b ks st Q=R E (.code a::ks) st Q:=nr rfl
@[go_sem] theorem cnd_f:Cnd E (some (.bool false)) a b ks st Q=R E (.code b::ks) st Q:=nr rfl
theorem cnd_split{t:Bool}(h1:t=true→R E (.code a::ks) st Q)(h2:t=false→R E (.code b::ks) st Q):Cnd E (some (.bool t)) a b ks st Q:=by cases t;exact h2 rfl;exact h1 rfl
theorem grd_split{t u:Bool}{c:AOper}(h1:t=u→Go1 E c l ks st Q)(h2:t=(!u)→R E (.ops l::ks) (st.put c.d .undef) Q):Grd E (some (.bool t)) u c l ks st Q:=by
  unfold Grd;by_cases e:t=u
  · simp only[if_pos e];exact h1 e
  · simp only[if_neg e];exact h2 (by cases t<;>cases u<;>simp_all)
@[go_sem] theorem r_ops1{o:AOp}:R E (.ops (.mk i d none o ck::l)::ks) ⟨s,m,h⟩ Q=Go1 E (.mk i d none o ck) l ks ⟨s,m,h⟩ Q:=by rw[R];rfl
@[go_sem] theorem r_ops2{o:AOp}{t:Bool}:R E (.ops (.mk i d (some (n,t)) o ck::l)::ks) ⟨s,m,h⟩ Q=Grd E (get s n) t (.mk i d (some (n,t)) o ck) l ks ⟨s,m,h⟩ Q:=by rw[R];rfl
@[go_sem] theorem grd_tt{c:AOper}:Grd E (some (.bool true)) true c l ks st Q=Go1 E c l ks st Q:=nr rfl
@[go_sem] theorem grd_ff{c:AOper}:Grd E (some (.bool false)) false c l ks st Q=Go1 E c l ks st Q:=nr rfl
@[go_sem] theorem grd_tf{k:Nat}{o:AOp}:Grd E (some (.bool true)) false (.mk i (some k) g o ck) l ks ⟨s,m,h⟩ Q=R E (.ops l::ks) ⟨(k,.undef)::s,m,h⟩ Q:=nr rfl
@[go_sem] theorem grd_ft{k:Nat}{o:AOp}:Grd E (some (.bool false)) true (.mk i (some k) g o ck) l ks ⟨s,m,h⟩ Q=R E (.ops l::ks) ⟨(k,.undef)::s,m,h⟩ Q:=nr rfl
@[go_sem] theorem grd_u{k:Nat}{o:AOp}{t:Bool}:Grd E (some .undef) t (.mk i (some k) g o ck) l ks ⟨s,m,h⟩ Q=R E (.ops l::ks) ⟨(k,.undef)::s,m,h⟩ Q:=nr rfl
@[go_sem] theorem d_mk{o:AOp}:(AOper.mk i d g o ck).d=d:=nr rfl
@[go_sem] theorem vput_some{k:Nat}:VSt.put ⟨s,m,h⟩ (some k) v=⟨(k,v)::s,m,h⟩:=nr rfl
@[go_sem] theorem vput_none:VSt.put ⟨s,m,h⟩ none v=⟨s,m,h⟩:=nr rfl
@[go_sem] theorem put_some{k:Nat}:Put E (some v) (some k) l ks ⟨s,m,h⟩ Q=R E (.ops l::ks) ⟨(k,v)::s,m,h⟩ Q:=nr rfl
@[go_sem] theorem put_some0:Put E (some v) none l ks ⟨s,m,h⟩ Q=R E (.ops l::ks) ⟨s,m,h⟩ Q:=nr rfl
@[go_sem] theorem new_some{k:Nat}{o:AObj}:New1 E (some k) o v l ks ⟨s,m,h⟩ Q=R E (.ops l::ks) ⟨(k,v)::s,m,h++[o]⟩ Q:=nr rfl
@[go_sem] theorem new_some0{o:AObj}:New1 E none o v l ks ⟨s,m,h⟩ Q=R E (.ops l::ks) ⟨s,m,h++[o]⟩ Q:=nr rfl
theorem opsE{E:Ev}{ks:List Fr1}{st:VSt}{Q:AExit→VSt→Prop}{a b:List AOper}(h:a=b):R E (.ops a::ks) st Q=R E (.ops b::ks) st Q:=by rw[h]
theorem codeE{E:Ev}{ks:List Fr1}{st:VSt}{Q:AExit→VSt→Prop}{a b:ACode}(h:a=b):R E (.code a::ks) st Q=R E (.code b::ks) st Q:=by rw[h]
def oP(i d:Nat)(x:AOp):AOper:=.mk i (some d) none x []
def oM(i d t:Nat):AOper:=.mk i (some d) none (.mov (.t t)) []
def oG(i d k:Nat)(b:Bool)(x:AOp):AOper:=.mk i (some d) (some (k,b)) x []
def oN(i:Nat)(x:AOp):AOper:=.mk i none none x []
@[go_sem] theorem oP_eq{i d:Nat}{x:AOp}:oP i d x=.mk i (some d) none x []:=nr rfl
@[go_sem] theorem oM_eq{i d t:Nat}:oM i d t=.mk i (some d) none (.mov (.t t)) []:=nr rfl
@[go_sem] theorem oG_eq{i d k:Nat}{b:Bool}{x:AOp}:oG i d k b x=.mk i (some d) (some (k,b)) x []:=nr rfl
@[go_sem] theorem oN_eq{i:Nat}{x:AOp}:oN i x=.mk i none none x []:=nr rfl
@[reducible] def OE{a b:List AOper}(_:a=b):Prop:=∀{E:Ev}{ks:List Fr1}{st:VSt}{Q:AExit→VSt→Prop},R E (.ops a::ks) st Q=R E (.ops b::ks) st Q
@[reducible] def CE{a b:ACode}(_:a=b):Prop:=∀{E:Ev}{ks:List Fr1}{st:VSt}{Q:AExit→VSt→Prop},R E (.code a::ks) st Q=R E (.code b::ks) st Q
theorem OEM{a b:List AOper}(h:a=b):OE h:=opsE h
theorem CEM{a b:ACode}(h:a=b):CE h:=codeE h
@[go_sem] theorem get_c{k:Nat}:get ((k,v)::s) n=if k=n then some v else get s n:=nr rfl
@[go_sem] theorem ev_t:ev (toE s) (.t n)=get s n:=nr rfl
@[go_sem] theorem ev_c:ev (toE s) (.c v)=some v:=nr rfl
@[go_sem] theorem ev_f{k:Nat}:ev (toE s) (.f k)=some (.fn k []):=nr rfl
@[go_sem] theorem evs_nil:evs (toE s) []=some []:=nr rfl
def ocons:Option AV→Option (List AV)→Option (List AV)
  | some a,some b=>some (a::b)
  | _,_=>none
@[go_sem] theorem ocons_s{vs:List AV}:ocons (some v) (some vs)=some (v::vs):=nr rfl
@[go_sem] theorem evs_cons{xs:List Ao}:evs (toE s) (x::xs)=ocons (ev (toE s) x) (evs (toE s) xs):=by
  simp only[evs];cases ev (toE s) x<;>cases evs (toE s) xs<;>rfl
theorem go1_val{o:AOp}(hc:o.isCall=false)(hx:∀K,xstep o d ⟨s,m,h⟩ K=match xval o ⟨s,m,h⟩with | some v=>K (VSt.put ⟨s,m,h⟩ d v) | none=>False)(ha:o.isApp=false:=by rfl):Go1 E (.mk i d g o ck) l ks ⟨s,m,h⟩ Q=Put E (xval o ⟨s,m,h⟩) d l ks ⟨s,m,h⟩ Q:=by
  unfold Go1 xrun;simp only[AOper.o,AOper.d,AOper.apC,hc,ha,Bool.false_and,Bool.false_eq_true,if_false,hx];rfl
@[go_sem] theorem go_mov:Go1 E (.mk i d g (.mov x) ck) l ks ⟨s,m,h⟩ Q=Put E (ev (toE s) x) d l ks ⟨s,m,h⟩ Q:=go1_val rfl fun _=>rfl
def isn1:Bool→Option AV→Option AV
  | n,some (.lst _ (_::_) _)=>some (.bool n)
  | n,some .nils=>some (.bool !n)
  | _,_=>none
@[go_sem] theorem isn1_c{n c:Bool}{w:Nat}{x:AV}{xs:List AV}:isn1 n (some (.lst w (x::xs) c))=some (.bool n):=nr rfl
@[go_sem] theorem isn1_n{n:Bool}:isn1 n (some .nils)=some (.bool !n):=nr rfl
@[go_sem] theorem go_isnil1{n:Bool}:Go1 E (.mk i d g (.isnil 1 n x) ck) l ks ⟨s,m,h⟩ Q=Put E (isn1 n (ev (toE s) x)) d l ks ⟨s,m,h⟩ Q:=by
  have e:xval (.isnil 1 n x) ⟨s,m,h⟩=isn1 n (ev (toE s) x):=by
    simp only[xval];generalize ev (toE s) x=o;rcases o with _ | v
    · rfl
    cases v<;>first
      | rfl
      | (rename_i w xs c;cases xs<;>rfl)
  rw[←e];exact go1_val rfl fun _=>rfl
def pick1:Option AV→Option AV→Option AV→Option AV
  | some (.bool true),a,_=>a
  | some (.bool false),_,a=>a
  | _,_,_=>none
@[go_sem] theorem pick_t{a b:Option AV}:pick1 (some (.bool true)) a b=a:=by cases a<;>rfl
@[go_sem] theorem pick_f{a b:Option AV}:pick1 (some (.bool false)) a b=b:=by cases a<;>rfl
@[go_sem] theorem go_pick:Go1 E (.mk i d g (.pick x y z) ck) l ks ⟨s,m,h⟩ Q=Put E (pick1 (ev (toE s) x) (ev (toE s) y) (ev (toE s) z)) d l ks ⟨s,m,h⟩ Q:=by
  rw[go1_val rfl fun _=>rfl];congr 1;simp only[xval,val];unfold pick1;split<;>simp_all
@[go_sem] theorem go_build{ps:List (Nat×Nat×Ao)}:Go1 E (.mk i d g (.build v ps) ck) l ks ⟨s,m,h⟩ Q=Put E (buildAV (toE s) v ps) d l ks ⟨s,m,h⟩ Q:=go1_val rfl fun _=>rfl
@[go_sem] theorem part_int{k:IntKind}{n:Int}:(AV.int k n).part 0 none=some (.int k n):=nr rfl
@[go_sem] theorem part_bool{b:Bool}:(AV.bool b).part 0 none=some (.bool b):=nr rfl
@[go_sem] theorem part_str{b:List UInt8}:(AV.str b).part 0 none=some (.str b):=nr rfl
@[go_sem] theorem part_lst{w:Nat}{xs:List AV}{c:Bool}:(AV.lst w xs c).part 0 none=some (.lst w xs c):=nr rfl
@[go_sem] theorem part_slice{w i j n:Nat}{c:Bool}:(AV.slice w i j n c).part 0 none=some (.slice w i j n c):=nr rfl
@[go_sem] theorem part_ptr{w i j:Nat}:(AV.ptr w i j).part 0 none=some (.ptr w i j):=nr rfl
@[go_sem] theorem part_ept{x:AV}{j:Nat}:(AV.ept x j).part 0 none=some (.ept x j):=nr rfl
@[go_sem] theorem part_nils:AV.nils.part 0 none=some .nils:=nr rfl
@[go_sem] theorem part_nilp:AV.nilp.part 0 none=some .nilp:=nr rfl
@[go_sem] theorem part_agg0{cs:List AV}{j:Nat}:(AV.agg cs).part j none=cs[j]?:=nr rfl
theorem part_aggk{cs:List AV}{j k:Nat}:(AV.agg cs).part j (some k)=if j+k≤cs.length then some (.agg ((cs.drop j).take k))else none:=rfl
def opart(off:Nat)(sh:Option Nat):Option AV→Option AV
  | some v=>v.part off sh
  | none=>none
@[go_sem] theorem opart_s:opart off sh (some v)=v.part off sh:=nr rfl
@[go_sem] theorem go_lload:Go1 E (.mk i d g (.lload t off sh) ck) l ks ⟨s,m,h⟩ Q=Put E (opart off sh (get m t)) d l ks ⟨s,m,h⟩ Q:=by
  rw[go1_val rfl fun _=>rfl];congr 1;show (get m t).bind _=_;cases get m t<;>rfl
def orow(sh:Option Nat)(j i:Nat):Option AObj→Option AV
  | some (.row _ el _)=>opart j sh el[i]?
  | _=>none
@[go_sem] theorem orow_r{j i w:Nat}{el:List AV}{rw':Bool}:orow sh j i (some (.row w el rw'))=opart j sh el[i]?:=nr rfl
def loadp(h:List AObj)(sh:Option Nat):Option AV→Option AV
  | some (.ptr id i j)=>orow sh j i h[id]?
  | some (.ept x j)=>x.part j sh
  | _=>none
@[go_sem] theorem loadp_e{j:Nat}:loadp h sh (some (.ept v j))=v.part j sh:=nr rfl
@[go_sem] theorem loadp_p{id i j:Nat}:loadp h sh (some (.ptr id i j))=orow sh j i h[id]?:=nr rfl
@[go_sem] theorem go_load:Go1 E (.mk i d g (.load sh x) ck) l ks ⟨s,m,h⟩ Q=Put E (loadp h sh (ev (toE s) x)) d l ks ⟨s,m,h⟩ Q:=by
  rw[go1_val rfl fun _=>rfl];congr 1;simp only[xval,val];cases ev (toE s) x with
  | none=>rfl
  | some v=>
    cases v<;>try rfl
    rename_i id i j;show (match h[id]? with | some (.row _ el _)=>(el[i]?).bind (·.part j sh) | _=>none)=orow sh j i h[id]?;cases h[id]? with
    | none=>rfl
    | some o=>
      cases o<;>try rfl
      rename_i w el rw';simp only[orow];cases el[i]?<;>rfl
def nchk:Option AV→Option AV
  | some (.ptr a b c)=>some (.ptr a b c)
  | some (.ept x j)=>some (.ept x j)
  | some (.fn g cs)=>some (.fn g cs)
  | _=>none
@[go_sem] theorem nchk_p{a b c:Nat}:nchk (some (.ptr a b c))=some (.ptr a b c):=nr rfl
@[go_sem] theorem nchk_e{j:Nat}:nchk (some (.ept v j))=some (.ept v j):=nr rfl
@[go_sem] theorem nchk_f{g:Nat}{cs:List AV}:nchk (some (.fn g cs))=some (.fn g cs):=nr rfl
@[go_sem] theorem go_nilchk:Go1 E (.mk i d g (.nilchk x) ck) l ks ⟨s,m,h⟩ Q=Put E (nchk (ev (toE s) x)) d l ks ⟨s,m,h⟩ Q:=by
  rw[go1_val rfl fun _=>rfl];congr 1
def bin2(op:BinOp):Option AV→Option AV→Option AV
  | some (.int k a),some (.int k' b)=>if k=k' then intOp op k a b else none
  | _,_=>none
@[go_sem] theorem bin2_i{k:IntKind}{a b:Int}:bin2 op (some (.int k a)) (some (.int k b))=intOp op k a b:=by simp[bin2]
@[go_sem] theorem go_bin:Go1 E (.mk i d g (.bin op x y) ck) l ks ⟨s,m,h⟩ Q=Put E (bin2 op (ev (toE s) x) (ev (toE s) y)) d l ks ⟨s,m,h⟩ Q:=by
  rw[go1_val rfl fun _=>rfl];congr 1
section
variable {k:IntKind} {a b:Int}
@[go_sem] theorem i_add:intOp .add k a b=some (.int k (k.wrap (a+b))):=nr rfl
@[go_sem] theorem i_sub:intOp .sub k a b=some (.int k (k.wrap (a-b))):=nr rfl
@[go_sem] theorem i_mul:intOp .mul k a b=some (.int k (k.wrap (a*b))):=nr rfl
@[go_sem] theorem i_quo:intOp .quo k a b=if b=0 then none else some (.int k (k.wrap (a.tdiv b))):=nr rfl
@[go_sem] theorem i_rem:intOp .rem k a b=if b=0 then none else some (.int k (a.tmod b)):=nr rfl
@[go_sem] theorem i_eql:intOp .eql k a b=some (.bool (decide (a=b))):=nr rfl
@[go_sem] theorem i_neq:intOp .neq k a b=some (.bool (!decide (a=b))):=nr rfl
@[go_sem] theorem i_lss:intOp .lss k a b=some (.bool (decide (a<b))):=nr rfl
@[go_sem] theorem i_leq:intOp .leq k a b=some (.bool (decide (a≤b))):=nr rfl
@[go_sem] theorem i_gtr:intOp .gtr k a b=some (.bool (decide (b<a))):=nr rfl
@[go_sem] theorem i_geq:intOp .geq k a b=some (.bool (decide (b≤a))):=nr rfl
end
def sop2(op:BinOp):Option AV→Option AV→Option AV
  | some (.str a),some (.str b)=>strOp op a b
  | _,_=>none
@[go_sem] theorem sop2_i{a b:List UInt8}:sop2 op (some (.str a)) (some (.str b))=strOp op a b:=nr rfl
@[go_sem] theorem go_sop:Go1 E (.mk i d g (.sop op x y) ck) l ks ⟨s,m,h⟩ Q=Put E (sop2 op (ev (toE s) x) (ev (toE s) y)) d l ks ⟨s,m,h⟩ Q:=by
  rw[go1_val rfl fun _=>rfl];congr 1
@[go_sem] theorem s_eql{a b:List UInt8}:strOp .eql a b=some (.bool (decide (a=b))):=by
  simp only[strOp];congr 2;rw[Bool.eq_iff_iff];simp
@[go_sem] theorem s_neq{a b:List UInt8}:strOp .neq a b=some (.bool (!decide (a=b))):=by
  simp only[strOp];congr 2;rw[Bool.eq_iff_iff];simp
def beq2(neg:Bool):Option AV→Option AV→Option AV
  | some (.bool a),some (.bool b)=>some (.bool (if neg then !(a==b)else a==b))
  | _,_=>none
@[go_sem] theorem beq2_f{a b:Bool}:beq2 false (some (.bool a)) (some (.bool b))=some (.bool (a==b)):=nr rfl
@[go_sem] theorem beq2_t{a b:Bool}:beq2 true (some (.bool a)) (some (.bool b))=some (.bool (!(a==b))):=nr rfl
@[go_sem] theorem go_beq{neg:Bool}:Go1 E (.mk i d g (.beq neg x y) ck) l ks ⟨s,m,h⟩ Q=Put E (beq2 neg (ev (toE s) x) (ev (toE s) y)) d l ks ⟨s,m,h⟩ Q:=by
  rw[go1_val rfl fun _=>rfl];congr 1
def seq2(neg:Bool)(k:List Nat):Option AV→Option AV→Option AV
  | some (.agg cs),some (.agg ds)=>if cs.map dig=k∧ds.map dig=k then(cellsEq cs ds).map fun b=>.bool (if neg then !b else b)else none
  | _,_=>none
@[go_sem] theorem go_seq{neg:Bool}{k:List Nat}:Go1 E (.mk i d g (.seq neg k x y) ck) l ks ⟨s,m,h⟩ Q=Put E (seq2 neg k (ev (toE s) x) (ev (toE s) y)) d l ks ⟨s,m,h⟩ Q:=by
  rw[go1_val rfl fun _=>rfl];congr 1
def not1:Option AV→Option AV
  | some (.bool a)=>some (.bool !a)
  | _=>none
@[go_sem] theorem not1_b{a:Bool}:not1 (some (.bool a))=some (.bool !a):=nr rfl
@[go_sem] theorem go_not:Go1 E (.mk i d g (.not x) ck) l ks ⟨s,m,h⟩ Q=Put E (not1 (ev (toE s) x)) d l ks ⟨s,m,h⟩ Q:=by
  rw[go1_val rfl fun _=>rfl];congr 1
def neg1:Option AV→Option AV
  | some (.int k n)=>some (.int k (k.wrap (0-n)))
  | _=>none
@[go_sem] theorem neg1_i{k:IntKind}{n:Int}:neg1 (some (.int k n))=some (.int k (k.wrap (0-n))):=nr rfl
@[go_sem] theorem go_neg:Go1 E (.mk i d g (.neg x) ck) l ks ⟨s,m,h⟩ Q=Put E (neg1 (ev (toE s) x)) d l ks ⟨s,m,h⟩ Q:=by
  rw[go1_val rfl fun _=>rfl];congr 1
def conv1(k:IntKind):Option AV→Option AV
  | some (.int _ n)=>some (.int k (k.wrap n))
  | _=>none
@[go_sem] theorem conv1_i{k k':IntKind}{n:Int}:conv1 k (some (.int k' n))=some (.int k (k.wrap n)):=nr rfl
@[go_sem] theorem go_conv{k:IntKind}:Go1 E (.mk i d g (.conv k x) ck) l ks ⟨s,m,h⟩ Q=Put E (conv1 k (ev (toE s) x)) d l ks ⟨s,m,h⟩ Q:=by
  rw[go1_val rfl fun _=>rfl];congr 1
@[go_sem] theorem go_slc{w:Nat}{lo hi mx:Option Ao}:Go1 E (.mk i d g (.slc w x lo hi mx) ck) l ks ⟨s,m,h⟩ Q=Put E (val (.slc w x lo hi mx) (toE s) (toE m) (toH h)) d l ks ⟨s,m,h⟩ Q:=go1_val rfl fun _=>rfl
@[go_sem] theorem go_sslc{lo hi:Option Ao}:Go1 E (.mk i d g (.sslc x lo hi) ck) l ks ⟨s,m,h⟩ Q=Put E (val (.sslc x lo hi) (toE s) (toE m) (toH h)) d l ks ⟨s,m,h⟩ Q:=go1_val rfl fun _=>rfl
def fad(off:Nat):Option AV→Option AV
  | some (.ptr id i j)=>some (.ptr id i (j+off))
  | some (.ept x j)=>some (.ept x (j+off))
  | _=>none
@[go_sem] theorem fad_p{id i j:Nat}:fad off (some (.ptr id i j))=some (.ptr id i (j+off)):=nr rfl
@[go_sem] theorem fad_e{j:Nat}:fad off (some (.ept v j))=some (.ept v (j+off)):=nr rfl
@[go_sem] theorem go_faddr:Go1 E (.mk i d g (.faddr off x) ck) l ks ⟨s,m,h⟩ Q=Put E (fad off (ev (toE s) x)) d l ks ⟨s,m,h⟩ Q:=by
  rw[go1_val rfl fun _=>rfl];congr 1
def fld1(off:Nat)(sh:Option Nat):Option AV→Option AV
  | some (.agg cs)=>(AV.agg cs).part off sh
  | _=>none
@[go_sem] theorem fld1_a{cs:List AV}:fld1 off sh (some (.agg cs))=(AV.agg cs).part off sh:=nr rfl
@[go_sem] theorem go_fld:Go1 E (.mk i d g (.fld off sh x) ck) l ks ⟨s,m,h⟩ Q=Put E (fld1 off sh (ev (toE s) x)) d l ks ⟨s,m,h⟩ Q:=by
  rw[go1_val rfl fun _=>rfl];congr 1
def idx(w:Nat):Option AV→Option AV→Option AV
  | some (.slice w' id off len _),some (.int _ n)=>if w'=w∧0≤n∧n<len then some (.ptr id (off+n.toNat) 0)else none
  | some (.lst w' xs _),some (.int _ n)=>if w'=w∧0≤n then(xs[n.toNat]?).map fun x=>.ept x 0 else none
  | _,_=>none
@[go_sem] theorem idx_l{w:Nat}{xs:List AV}{cl:Bool}{k:IntKind}{n:Nat}:idx w (some (.lst w xs cl)) (some (.int k (n:Int)))=(xs[n]?).map fun x=>.ept x 0:=by
  simp[idx]
@[go_sem] theorem idx_l0{w:Nat}{xs:List AV}{cl:Bool}{k:IntKind}:idx w (some (.lst w xs cl)) (some (.int k 0))=(xs[0]?).map fun x=>.ept x 0:=idx_l (n:=0)
@[go_sem] theorem idx_l1{w:Nat}{xs:List AV}{cl:Bool}{k:IntKind}:idx w (some (.lst w xs cl)) (some (.int k 1))=(xs[1]?).map fun x=>.ept x 0:=idx_l (n:=1)
@[go_sem] theorem idx_l2{w:Nat}{xs:List AV}{cl:Bool}{k:IntKind}:idx w (some (.lst w xs cl)) (some (.int k 2))=(xs[2]?).map fun x=>.ept x 0:=idx_l (n:=2)
@[go_sem] theorem go_iaddr{w:Nat}:Go1 E (.mk i d g (.iaddr w x y) ck) l ks ⟨s,m,h⟩ Q=Put E (idx w (ev (toE s) x) (ev (toE s) y)) d l ks ⟨s,m,h⟩ Q:=by
  rw[go1_val rfl fun _=>rfl];congr 1
@[go_sem] theorem go_aaddr{n w:Nat}:Go1 E (.mk i d g (.aaddr n w x y) ck) l ks ⟨s,m,h⟩ Q=Put E (val (.aaddr n w x y) (toE s) (toE m) (toH h)) d l ks ⟨s,m,h⟩ Q:=go1_val rfl fun _=>rfl
def sidx1:Option AV→Option AV→Option AV
  | some (.str a),some (.int _ n)=>if 0≤n then(a[n.toNat]?).map fun b=>.int .u8 b.toNat else none
  | _,_=>none
@[go_sem] theorem sidx1_i{a:List UInt8}{k:IntKind}{n:Nat}:sidx1 (some (.str a)) (some (.int k (n:Int)))=(a[n]?).map fun b=>.int .u8 b.toNat:=by simp[sidx1]
@[go_sem] theorem go_sidx:Go1 E (.mk i d g (.sidx x y) ck) l ks ⟨s,m,h⟩ Q=Put E (sidx1 (ev (toE s) x) (ev (toE s) y)) d l ks ⟨s,m,h⟩ Q:=by
  rw[go1_val rfl fun _=>rfl];congr 1
@[go_sem] theorem go_aidx{n w:Nat}:Go1 E (.mk i d g (.aidx n w sh x y) ck) l ks ⟨s,m,h⟩ Q=Put E (val (.aidx n w sh x y) (toE s) (toE m) (toH h)) d l ks ⟨s,m,h⟩ Q:=go1_val rfl fun _=>rfl
def ext1(i:Nat):Option AV→Option AV
  | some (.tup vs)=>vs[i]?
  | _=>none
@[go_sem] theorem ext1_t{vs:List AV}:ext1 n (some (.tup vs))=vs[n]?:=nr rfl
@[go_sem] theorem go_ext{j:Nat}:Go1 E (.mk i d g (.ext x j) ck) l ks ⟨s,m,h⟩ Q=Put E (ext1 j (ev (toE s) x)) d l ks ⟨s,m,h⟩ Q:=by
  rw[go1_val rfl fun _=>rfl];congr 1
def mkfn1(k:Nat):Option (List AV)→Option AV
  | some cs=>some (.fn k cs)
  | none=>none
@[go_sem] theorem mkfn1_s{k:Nat}{cs:List AV}:mkfn1 k (some cs)=some (.fn k cs):=nr rfl
@[go_sem] theorem go_mkfn{k:Nat}{cs:List Ao}:Go1 E (.mk i d g (.mkfn k cs) ck) l ks ⟨s,m,h⟩ Q=Put E (mkfn1 k (evs (toE s) cs)) d l ks ⟨s,m,h⟩ Q:=by
  rw[go1_val rfl fun _=>rfl];congr 1;show (evs (toE s) cs).map _=_;cases evs (toE s) cs<;>rfl
def len1:Option AV→Option AV
  | some .nils=>some (.int .i64 0)
  | some (.slice _ _ _ len _)=>some (.int .i64 len)
  | some (.lst _ xs _)=>some (.int .i64 xs.length)
  | _=>none
@[go_sem] theorem len1_n:len1 (some .nils)=some (.int .i64 0):=nr rfl
@[go_sem] theorem len1_s{w id off len:Nat}{cl:Bool}:len1 (some (.slice w id off len cl))=some (.int .i64 len):=nr rfl
@[go_sem] theorem len1_l{w:Nat}{xs:List AV}{cl:Bool}:len1 (some (.lst w xs cl))=some (.int .i64 xs.length):=nr rfl
@[go_sem] theorem go_len:Go1 E (.mk i d g (.len x) ck) l ks ⟨s,m,h⟩ Q=Put E (len1 (ev (toE s) x)) d l ks ⟨s,m,h⟩ Q:=by
  rw[go1_val rfl fun _=>rfl];congr 1
def cap1:Option AV→Option AV
  | some .nils=>some (.int .i64 0)
  | _=>none
@[go_sem] theorem cap1_n:cap1 (some .nils)=some (.int .i64 0):=nr rfl
@[go_sem] theorem go_cap:Go1 E (.mk i d g (.cap x) ck) l ks ⟨s,m,h⟩ Q=Put E (cap1 (ev (toE s) x)) d l ks ⟨s,m,h⟩ Q:=by
  rw[go1_val rfl fun _=>rfl];congr 1
def slen1:Option AV→Option AV
  | some (.str a)=>some (.int .i64 a.length)
  | _=>none
@[go_sem] theorem slen1_s{a:List UInt8}:slen1 (some (.str a))=some (.int .i64 a.length):=nr rfl
@[go_sem] theorem go_slen:Go1 E (.mk i d g (.slen x) ck) l ks ⟨s,m,h⟩ Q=Put E (slen1 (ev (toE s) x)) d l ks ⟨s,m,h⟩ Q:=by
  rw[go1_val rfl fun _=>rfl];congr 1
def max2:Option AV→Option AV→Option AV
  | some (.int k a),some (.int k' b)=>if k=k' then some (.int k (if b>a then b else a))else none
  | _,_=>none
@[go_sem] theorem max2_i{k:IntKind}{a b:Int}:max2 (some (.int k a)) (some (.int k b))=some (.int k (max a b)):=by
  simp only[max2,if_true];congr 2;split<;>omega
@[go_sem] theorem go_max:Go1 E (.mk i d g (.max x y) ck) l ks ⟨s,m,h⟩ Q=Put E (max2 (ev (toE s) x) (ev (toE s) y)) d l ks ⟨s,m,h⟩ Q:=by
  rw[go1_val rfl fun _=>rfl];congr 1
def min2:Option AV→Option AV→Option AV
  | some (.int k a),some (.int k' b)=>if k=k' then some (.int k (if b<a then b else a))else none
  | _,_=>none
@[go_sem] theorem min2_i{k:IntKind}{a b:Int}:min2 (some (.int k a)) (some (.int k b))=some (.int k (min a b)):=by
  simp only[min2,if_true];congr 2;split<;>omega
@[go_sem] theorem go_min:Go1 E (.mk i d g (.min x y) ck) l ks ⟨s,m,h⟩ Q=Put E (min2 (ev (toE s) x) (ev (toE s) y)) d l ks ⟨s,m,h⟩ Q:=by
  rw[go1_val rfl fun _=>rfl];congr 1
def nop1:Option AV→Option AV
  | some _=>some .any
  | none=>none
@[go_sem] theorem nop1_s:nop1 (some v)=some .any:=nr rfl
@[go_sem] theorem go_nop:Go1 E (.mk i d g (.nop t) ck) l ks ⟨s,m,h⟩ Q=Put E (nop1 (get m t)) d l ks ⟨s,m,h⟩ Q:=by
  rw[go1_val rfl fun _=>rfl];congr 1;show (get m t).map _=_;cases get m t<;>rfl
@[go_sem] theorem go_lalloc{k:Nat}:Go1 E (.mk i (some k) g (.lalloc v) ck) l ks ⟨s,m,h⟩ Q=R E (.ops l::ks) ⟨s,(k,v)::m,h⟩ Q:=nr rfl
def Lbox(E:Ev)(k w:Nat)(v:Option AV)(l:List AOper)(ks:List Fr1)(st:VSt)(Q:AExit→VSt→Prop):Prop:=match v with
  | some v=>v.cells.length=w∧R E (.ops l::ks) ⟨st.s,(k,v)::st.l,st.h⟩ Q
  | none=>False
@[go_sem] theorem go_lbox{k w:Nat}:Go1 E (.mk i (some k) g (.lbox w x) ck) l ks ⟨s,m,h⟩ Q=Lbox E k w (ev (toE s) x) l ks ⟨s,m,h⟩ Q:=by
  unfold Go1 xrun xstep Lbox;cases hq:ev (toE s) x<;>simp[AOper.o,AOper.d,AOp.isCall,AOper.apC,AOp.isApp,hq]
theorem lbox_ok{k w:Nat}(hl:v.cells.length=w)(hr:R E (.ops l::ks) ⟨s,(k,v)::m,h⟩ Q):Lbox E k w (some v) l ks ⟨s,m,h⟩ Q:=⟨hl,hr⟩
def Lst(E:Ev)(t off w:Nat)(c v:Option AV)(l:List AOper)(ks:List Fr1)(st:VSt)(Q:AExit→VSt→Prop):Prop:=match c,v with
  | some c,some v=>v.cells.length=w∧(match c.put off v with | some c'=>R E (.ops l::ks) ⟨st.s,(t,c')::st.l,st.h⟩ Q | none=>False)
  | _,_=>False
@[go_sem] theorem go_lstore{w:Nat}:Go1 E (.mk i d g (.lstore t off w x) ck) l ks ⟨s,m,h⟩ Q=Lst E t off w (get m t) (ev (toE s) x) l ks ⟨s,m,h⟩ Q:=by
  unfold Go1 xrun xstep Lst;cases hq:ev (toE s) x<;>cases hp:get m t<;>simp[AOper.o,AOp.isCall,AOper.apC,AOp.isApp,hq,hp]<;>exact fun _=>Iff.rfl
theorem lst_ok{w:Nat}{c c':AV}(hl:v.cells.length=w)(hc:c.put off v=some c')(hr:R E (.ops l::ks) ⟨s,(t,c')::m,h⟩ Q):Lst E t off w (some c) (some v) l ks ⟨s,m,h⟩ Q:=by
  unfold Lst;exact⟨hl,by rw[hc];exact hr⟩
@[go_sem] theorem go_halloc{w:Nat}:Go1 E (.mk i d g (.halloc w v) ck) l ks ⟨s,m,h⟩ Q=New1 E d (.row w [v] true) (.ptr h.length 0 0) l ks ⟨s,m,h⟩ Q:=nr rfl
def Hbox(E:Ev)(d:Option Nat)(w:Nat)(v:Option AV)(l:List AOper)(ks:List Fr1)(st:VSt)(Q:AExit→VSt→Prop):Prop:=match v with
  | some v=>v.cells.length=w∧New1 E d (.row w [v] true) (.ptr st.h.length 0 0) l ks st Q
  | none=>False
@[go_sem] theorem go_hbox{w:Nat}:Go1 E (.mk i d g (.hbox w x) ck) l ks ⟨s,m,h⟩ Q=Hbox E d w (ev (toE s) x) l ks ⟨s,m,h⟩ Q:=by
  unfold Go1 xrun xstep Hbox;cases hq:ev (toE s) x<;>simp[AOper.o,AOper.d,AOp.isCall,AOper.apC,AOp.isApp,hq,New1,vnew]
theorem hbox_ok{w:Nat}(hl:v.cells.length=w)(hr:New1 E d (.row w [v] true) (.ptr h.length 0 0) l ks ⟨s,m,h⟩ Q):Hbox E d w (some v) l ks ⟨s,m,h⟩ Q:=⟨hl,hr⟩
def Bsl(E:Ev)(d:Option Nat)(w n:Nat)(el:Option (List AV))(l:List AOper)(ks:List Fr1)(st:VSt)(Q:AExit→VSt→Prop):Prop:=match el with
  | some el=>New1 E d (.row w el true) (.slice w st.h.length 0 n false) l ks st Q
  | none=>False
@[go_sem] theorem bsl_s{w n:Nat}{el:List AV}:Bsl E d w n (some el) l ks ⟨s,m,h⟩ Q=New1 E d (.row w el true) (.slice w h.length 0 n false) l ks ⟨s,m,h⟩ Q:=nr rfl
@[go_sem] theorem go_bslice{w n:Nat}{ps:List (Nat×Ao)}:Go1 E (.mk i d g (.bslice w v n ps) ck) l ks ⟨s,m,h⟩ Q=Bsl E d w n (fillAV (toE s) w (List.replicate n v) ps) l ks ⟨s,m,h⟩ Q:=by
  unfold Go1 xrun xstep Bsl;cases hq:fillAV (toE s) w (List.replicate n v) ps<;>simp[AOper.o,AOper.d,AOp.isCall,AOper.apC,AOp.isApp,hq,New1,vnew]
def Mks(E:Ev)(d:Option Nat)(w:Nat)(z:AV)(a b:Option AV)(l:List AOper)(ks:List Fr1)(st:VSt)(Q:AExit→VSt→Prop):Prop:=match a,b with
  | some (.int _ n),some (.int _ m)=>0≤n∧n≤m∧m≤(LIM:Int)∧New1 E d (.row w (List.replicate n.toNat z) true) (.slice w st.h.length 0 n.toNat false) l ks st Q
  | _,_=>False
@[go_sem] theorem go_mksl{w:Nat}:Go1 E (.mk i d g (.mksl w v x y) ck) l ks ⟨s,m,h⟩ Q=Mks E d w v (ev (toE s) x) (ev (toE s) y) l ks ⟨s,m,h⟩ Q:=by
  unfold Go1 xrun xstep Mks;simp only[AOper.o,AOper.d,AOp.isCall,AOper.apC,AOp.isApp,Bool.false_and,Bool.false_eq_true,if_false];rfl
def Apz(E:Ev)(d:Option Nat)(w:Nat)(z:AV)(a b:Option AV)(l:List AOper)(ks:List Fr1)(st:VSt)(Q:AExit→VSt→Prop):Prop:=match a,b with
  | some .nils,some (.int _ n)=>0<n∧n≤(LIM:Int)∧New1 E d (.row w (List.replicate n.toNat z) true) (.slice w st.h.length 0 n.toNat false) l ks st Q
  | _,_=>False
@[go_sem] theorem go_appz{w:Nat}:Go1 E (.mk i d g (.appz w v x y) ck) l ks ⟨s,m,h⟩ Q=Apz E d w v (ev (toE s) x) (ev (toE s) y) l ks ⟨s,m,h⟩ Q:=by
  unfold Go1 xrun xstep Apz;simp only[AOper.o,AOper.d,AOp.isCall,AOper.apC,AOp.isApp,Bool.false_and,Bool.false_eq_true,if_false];rfl
@[go_sem] theorem go_call{k:Nat}{as:List Ao}:Go1 E (.mk i d g (.call k as) ck) l ks ⟨s,m,h⟩ Q=Call1 E (callee (toE s) (.call k as)) ck d l ks ⟨s,m,h⟩ Q:=nr rfl
@[go_sem] theorem go_panic:Go1 E (.mk i d g (.panic x) ck) l ks ⟨s,m,h⟩ Q=Pan1 (ev (toE s) x) Q ⟨s,m,h⟩:=nr rfl
@[go_sem] theorem pan1_i:Pan1 (some (.iface n v)) Q st=(v.leaf=true∧Q (.pan (.iface n v)) st):=nr rfl
@[go_sem] theorem go_callv{as:List Ao}:Go1 E (.mk i d g (.callv x as) ck) l ks ⟨s,m,h⟩ Q=Call1 E (callee (toE s) (.callv x as)) ck d l ks ⟨s,m,h⟩ Q:=nr rfl
def cal1(k:Nat):Option (List AV)→Option (Nat×List AV)
  | some as=>some (k,as)
  | none=>none
def cal2:Option AV→Option (List AV)→Option (Nat×List AV)
  | some (.fn g cs),some as=>some (g,as++cs)
  | _,_=>none
@[go_sem] theorem cal1_s{k:Nat}{vs:List AV}:cal1 k (some vs)=some (k,vs):=nr rfl
@[go_sem] theorem cal2_s{k:Nat}{vs cs:List AV}:cal2 (some (.fn k cs)) (some vs)=some (k,vs++cs):=nr rfl
@[go_sem] theorem callee_c{k:Nat}{as:List Ao}:callee (toE s) (.call k as)=cal1 k (evs (toE s) as):=by
  show (evs (toE s) as).map _=_;cases evs (toE s) as<;>rfl
@[go_sem] theorem callee_v{as:List Ao}:callee (toE s) (.callv x as)=cal2 (ev (toE s) x) (evs (toE s) as):=by
  simp only[callee];unfold cal2;split<;>simp_all
@[go_sem] theorem isEmpty_nil':(List.isEmpty ([]:List AOper))=true:=nr rfl
@[go_sem] theorem isEmpty_cons'{c:AOper}:(List.isEmpty (c::ck))=false:=nr rfl
theorem put_all{a v:AV}{k:Nat}(ha:a.cells.length=k)(hv:v.cells.length=k)(hag:(∃cs,a=.agg cs)↔∃cs,v=.agg cs)(hk:0<k):a.put 0 v=some v:=by
  by_cases h:∃cs,a=.agg cs
  · obtain⟨cs,rfl⟩:=h;obtain⟨ds,rfl⟩:=hag.1 ⟨cs,rfl⟩;have ha:cs.length=k:=ha;have hv:ds.length=k:=hv;show (if 0+ds.length≤cs.length then some (AV.agg (List.take 0 cs++(ds++List.drop (0+ds.length) cs)))else none)=_;rw[if_pos (by omega)];simp[ha,hv]
  · have h2:¬∃cs,v=.agg cs:=fun q=>h (hag.2 q);have c1:∀x:AV,(¬∃cs,x=.agg cs)→0<x.cells.length→x.cells=[x]:=fun x hx hl=>by
      cases x<;>first | rfl | exact absurd ⟨_,rfl⟩ hx | (simp[AV.cells]at hl;done)
    have e1:=c1 a h (by omega);have e2:=c1 v h2 (by omega);have:a.put 0 v=if 0=0∧a.cells.length=1 then(match v.cells with |[y]=>some y | _=>none)else none:=by
      cases a<;>first | rfl | exact absurd ⟨_,rfl⟩ h
    rw[this,e1,e2];simp
@[go_sem] theorem len_int{k:IntKind}{n:Int}:(AV.int k n).cells.length=1:=nr rfl
@[go_sem] theorem len_bool{b:Bool}:(AV.bool b).cells.length=1:=nr rfl
@[go_sem] theorem len_str{b:List UInt8}:(AV.str b).cells.length=1:=nr rfl
@[go_sem] theorem len_lst{w:Nat}{xs:List AV}{c:Bool}:(AV.lst w xs c).cells.length=1:=nr rfl
@[go_sem] theorem len_slice{w i j n:Nat}{c:Bool}:(AV.slice w i j n c).cells.length=1:=nr rfl
@[go_sem] theorem len_ptr{w i j:Nat}:(AV.ptr w i j).cells.length=1:=nr rfl
@[go_sem] theorem len_ept{x:AV}{j:Nat}:(AV.ept x j).cells.length=1:=nr rfl
@[go_sem] theorem len_nils:AV.nils.cells.length=1:=nr rfl
@[go_sem] theorem len_nilp:AV.nilp.cells.length=1:=nr rfl
@[go_sem] theorem len_map{i:Nat}:(AV.map i).cells.length=1:=nr rfl
@[go_sem] theorem len_fn{i:Nat}{cs:List AV}:(AV.fn i cs).cells.length=1:=nr rfl
@[go_sem] theorem len_agg{cs:List AV}:(AV.agg cs).cells.length=cs.length:=nr rfl
def one:AV→AV
  |.agg [x]=>x
  | v=>v
@[go_sem] theorem one_int{k:IntKind}{n:Int}:one (.int k n)=.int k n:=nr rfl
@[go_sem] theorem one_bool{b:Bool}:one (.bool b)=.bool b:=nr rfl
@[go_sem] theorem one_str{b:List UInt8}:one (.str b)=.str b:=nr rfl
@[go_sem] theorem one_lst{w:Nat}{xs:List AV}{c:Bool}:one (.lst w xs c)=.lst w xs c:=nr rfl
@[go_sem] theorem one_slice{w i j n:Nat}{c:Bool}:one (.slice w i j n c)=.slice w i j n c:=nr rfl
@[go_sem] theorem one_ptr{w i j:Nat}:one (.ptr w i j)=.ptr w i j:=nr rfl
@[go_sem] theorem one_ept{x:AV}{j:Nat}:one (.ept x j)=.ept x j:=nr rfl
@[go_sem] theorem one_nils:one .nils=.nils:=nr rfl
@[go_sem] theorem one_nilp:one .nilp=.nilp:=nr rfl
@[go_sem] theorem one_map{i:Nat}:one (.map i)=.map i:=nr rfl
@[go_sem] theorem one_fn{i:Nat}{cs:List AV}:one (.fn i cs)=.fn i cs:=nr rfl
@[go_sem] theorem one_agg:one (.agg [v])=v:=nr rfl
theorem one_cells(h:v.cells.length=1):v.cells=[one v]:=by
  cases v<;>first
    | rfl
    | (simp[AV.cells]at h;done)
    | (rename_i cs;match cs,h with |[x],_=>rfl)
def consO(x:AV):Option (List AV)→Option (List AV)
  | some xs=>some (x::xs)
  | none=>none
def setc:List AV→Nat→AV→Option (List AV)
  |[],_,_=>none
  | _::xs,0,v=>some (v::xs)
  | x::xs,n+1,v=>consO x (setc xs n v)
@[go_sem] theorem setc_0{x:AV}{xs:List AV}:setc (x::xs) 0 v=some (v::xs):=nr rfl
@[go_sem] theorem setc_s{x:AV}{xs:List AV}:setc (x::xs) (n+1) v=consO x (setc xs n v):=nr rfl
@[go_sem] theorem consO_s{x:AV}{xs:List AV}:consO x (some xs)=some (x::xs):=nr rfl
theorem setc_put:∀{cs:List AV}{n:Nat}{w:AV},w.cells=[v]→(AV.agg cs).put n w=(setc cs n v).map .agg:=by
  intro cs n w hw;show (if n+w.cells.length≤cs.length then some (AV.agg (cs.take n++(w.cells++cs.drop (n+w.cells.length))))else none)=_;rw[hw];simp only[List.length_cons,List.length_nil,Nat.zero_add]
  induction cs generalizing n with
  | nil=>rw[if_neg (by simp)];rfl
  | cons c cs ih=>
    cases n with
    | zero=>rw[if_pos (by simp)];rfl
    | succ n=>
      have:=ih (n:=n);simp only[setc];cases hq:setc cs n v with
      | none=>
        rw[hq]at this;have hn:¬n+1≤cs.length:=by intro h;rw[if_pos h]at this;cases this
        rw[if_neg (by simp;omega)];rfl
      | some ds=>
        rw[hq]at this;have hn:n+1≤cs.length:=by
          rcases Nat.lt_or_ge cs.length (n+1)with h | h
          · rw[if_neg (by omega)]at this;cases this
          · exact h
        rw[if_pos hn]at this;simp only[Option.map_some,Option.some.injEq,AV.agg.injEq]at this;rw[if_pos (by simp;omega)];simp only[consO,Option.map_some,List.take_succ_cons,List.drop_succ_cons,←this];rfl
def LstP(E:Ev)(t:Nat)(cs:Option (List AV))(l:List AOper)(ks:List Fr1)(st:VSt)(Q:AExit→VSt→Prop):Prop:=match cs with
  | some cs=>R E (.ops l::ks) ⟨st.s,(t,.agg cs)::st.l,st.h⟩ Q
  | none=>False
@[go_sem] theorem lstP_s{cs:List AV}:LstP E t (some cs) l ks ⟨s,m,h⟩ Q=R E (.ops l::ks) ⟨s,(t,.agg cs)::m,h⟩ Q:=nr rfl
theorem lst_one{cs:List AV}(hv:v.cells.length=1):Lst E t off 1 (some (.agg cs)) (some v) l ks ⟨s,m,h⟩ Q=LstP E t (setc cs off (one v)) l ks ⟨s,m,h⟩ Q:=by
  unfold Lst LstP;simp only[hv,true_and,setc_put (one_cells hv)];cases setc cs off (one v)<;>rfl
@[go_sem] theorem lst1_int{cs:List AV}{k:IntKind}{n:Int}:Lst E t off 1 (some (.agg cs)) (some (.int k n)) l ks ⟨s,m,h⟩ Q=LstP E t (setc cs off (.int k n)) l ks ⟨s,m,h⟩ Q:=lst_one rfl
@[go_sem] theorem lst1_bool{cs:List AV}{b:Bool}:Lst E t off 1 (some (.agg cs)) (some (.bool b)) l ks ⟨s,m,h⟩ Q=LstP E t (setc cs off (.bool b)) l ks ⟨s,m,h⟩ Q:=lst_one rfl
@[go_sem] theorem lst1_str{cs:List AV}{b:List UInt8}:Lst E t off 1 (some (.agg cs)) (some (.str b)) l ks ⟨s,m,h⟩ Q=LstP E t (setc cs off (.str b)) l ks ⟨s,m,h⟩ Q:=lst_one rfl
@[go_sem] theorem lst1_lst{cs:List AV}{n:Nat}{xs:List AV}{b:Bool}:Lst E t off 1 (some (.agg cs)) (some (.lst n xs b)) l ks ⟨s,m,h⟩ Q=LstP E t (setc cs off (.lst n xs b)) l ks ⟨s,m,h⟩ Q:=lst_one rfl
@[go_sem] theorem lst1_slice{cs:List AV}{n i j o:Nat}{b:Bool}:Lst E t off 1 (some (.agg cs)) (some (.slice n i j o b)) l ks ⟨s,m,h⟩ Q=LstP E t (setc cs off (.slice n i j o b)) l ks ⟨s,m,h⟩ Q:=lst_one rfl
@[go_sem] theorem lst1_ptr{cs:List AV}{n i j:Nat}:Lst E t off 1 (some (.agg cs)) (some (.ptr n i j)) l ks ⟨s,m,h⟩ Q=LstP E t (setc cs off (.ptr n i j)) l ks ⟨s,m,h⟩ Q:=lst_one rfl
@[go_sem] theorem lst1_ept{cs:List AV}{x:AV}{j:Nat}:Lst E t off 1 (some (.agg cs)) (some (.ept x j)) l ks ⟨s,m,h⟩ Q=LstP E t (setc cs off (.ept x j)) l ks ⟨s,m,h⟩ Q:=lst_one rfl
@[go_sem] theorem lst1_nils{cs:List AV}:Lst E t off 1 (some (.agg cs)) (some .nils) l ks ⟨s,m,h⟩ Q=LstP E t (setc cs off .nils) l ks ⟨s,m,h⟩ Q:=lst_one rfl
@[go_sem] theorem lst1_nilp{cs:List AV}:Lst E t off 1 (some (.agg cs)) (some .nilp) l ks ⟨s,m,h⟩ Q=LstP E t (setc cs off .nilp) l ks ⟨s,m,h⟩ Q:=lst_one rfl
@[go_sem] theorem lst1_map{cs:List AV}{n:Nat}:Lst E t off 1 (some (.agg cs)) (some (.map n)) l ks ⟨s,m,h⟩ Q=LstP E t (setc cs off (.map n)) l ks ⟨s,m,h⟩ Q:=lst_one rfl
@[go_sem] theorem lst1_fn{cs:List AV}{n:Nat}{xs:List AV}:Lst E t off 1 (some (.agg cs)) (some (.fn n xs)) l ks ⟨s,m,h⟩ Q=LstP E t (setc cs off (.fn n xs)) l ks ⟨s,m,h⟩ Q:=lst_one rfl
@[go_sem] theorem lst1_one{cs:List AV}{x:AV}:Lst E t off 1 (some (.agg cs)) (some (.agg [x])) l ks ⟨s,m,h⟩ Q=LstP E t (setc cs off x) l ks ⟨s,m,h⟩ Q:=lst_one rfl
def takeO:List AV→Nat→Option (List AV)
  | _,0=>some []
  | x::xs,n+1=>consO x (takeO xs n)
  |[],_+1=>none
def subO:List AV→Nat→Nat→Option (List AV)
  | xs,0,k=>takeO xs k
  | _::xs,j+1,k=>subO xs j k
  |[],_+1,_=>none
def aggO:Option (List AV)→Option AV
  | some cs=>some (.agg cs)
  | none=>none
@[go_sem] theorem takeO_0{xs:List AV}:takeO xs 0=some []:=by cases xs<;>rfl
@[go_sem] theorem takeO_s{x:AV}{xs:List AV}{k:Nat}:takeO (x::xs) (k+1)=consO x (takeO xs k):=nr rfl
@[go_sem] theorem subO_0{xs:List AV}{k:Nat}:subO xs 0 k=takeO xs k:=by cases xs<;>rfl
@[go_sem] theorem subO_s{x:AV}{xs:List AV}{j k:Nat}:subO (x::xs) (j+1) k=subO xs j k:=nr rfl
@[go_sem] theorem aggO_s{cs:List AV}:aggO (some cs)=some (.agg cs):=nr rfl
theorem takeO_eq:∀{xs:List AV}{k:Nat},takeO xs k=if k≤xs.length then some (xs.take k)else none
  | xs,0=>by rw[takeO_0];simp
  |[],k+1=>rfl
  | x::xs,k+1=>by
    rw[takeO_s,takeO_eq];by_cases h:k≤xs.length
    · rw[if_pos h,if_pos (by simp;omega)];rfl
    · rw[if_neg h,if_neg (by simp;omega)];rfl
theorem subO_eq:∀{xs:List AV}{j k:Nat},aggO (subO xs j k)=(AV.agg xs).part j (some k)
  | xs,0,k=>by
    rw[subO_0,takeO_eq,part_aggk];by_cases h:k≤xs.length
    · rw[if_pos h,if_pos (by omega)];rfl
    · rw[if_neg h,if_neg (by omega)];rfl
  |[],j+1,k=>by rw[part_aggk,if_neg (by simp)];rfl
  | x::xs,j+1,k=>by
    rw[subO_s,subO_eq,part_aggk,part_aggk];by_cases h:j+k≤xs.length
    · rw[if_pos h,if_pos (by simp;omega)];rfl
    · rw[if_neg h,if_neg (by simp;omega)]
@[go_sem] theorem part_aggo{cs:List AV}{j k:Nat}:(AV.agg cs).part j (some k)=aggO (subO cs j k):=subO_eq.symm
theorem lst_all{cs:List AV}{k:Nat}(h1:cs.length=k)(h2:v.cells.length=k)(h3:∃cs,v=.agg cs)(h4:0<k)(hr:R E (.ops l::ks) ⟨s,(t,v)::m,h⟩ Q):Lst E t 0 k (some (.agg cs)) (some v) l ks ⟨s,m,h⟩ Q:=
  lst_ok h2 (put_all h1 h2 ⟨fun _=>h3,fun _=>⟨cs,rfl⟩⟩ h4) hr
def setcs:List AV→Nat→List AV→Option (List AV)
  | cs,_,[]=>some cs
  | cs,off,y::ys=>match setc cs off y with
    | some cs'=>setcs cs' (off+1) ys
    | none=>none
def S2(cs:Option (List AV))(off:Nat)(ys:List AV):Option (List AV):=match cs with
  | some cs=>setcs cs off ys
  | none=>none
@[go_sem] theorem setcs_nil{cs:List AV}:setcs cs n []=some cs:=nr rfl
@[go_sem] theorem setcs_cons{cs ys:List AV}{y:AV}:setcs cs n (y::ys)=S2 (setc cs n y) (n+1) ys:=nr rfl
@[go_sem] theorem S2_s{cs ys:List AV}:S2 (some cs) n ys=setcs cs n ys:=nr rfl
theorem setc_eq:∀{cs:List AV}{n:Nat},setc cs n v=if n<cs.length then some (cs.set n v)else none
  |[],n=>rfl
  | c::cs,0=>by simp[setc]
  | c::cs,n+1=>by
    rw[setc_s,setc_eq];by_cases h:n<cs.length
    · rw[if_pos h,if_pos (by simp;omega)];rfl
    · rw[if_neg h,if_neg (by simp;omega)];rfl
theorem setcs_eq:∀{ys cs:List AV}{off:Nat},ys≠[]→setcs cs off ys=if off+ys.length≤cs.length then some (cs.take off++(ys++cs.drop (off+ys.length)))else none
  |[],_,_,h=>absurd rfl h
  | y::ys,cs,off,_=>by
    rw[setcs_cons,setc_eq];by_cases h:off<cs.length
    · rw[if_pos h,S2_s];cases ys with
      | nil=>
        rw[setcs_nil,if_pos (by simp;omega)];congr 1;rw[List.set_eq_take_append_cons_drop,if_pos h];simp
      | cons z zs=>
        rw[setcs_eq (by simp)];by_cases h2:off+1+(z::zs).length≤cs.length
        · rw[if_pos (by simpa using h2),if_pos (by simp at h2⊢;omega)];congr 1;have e1:(cs.set off y).take (off+1)=cs.take off++[y]:=by
            rw[List.take_succ_eq_append_getElem (by simp;omega),List.take_set_of_le (Nat.le_refl _),List.getElem_set_self]
          have e2:(cs.set off y).drop (off+1+(z::zs).length)=cs.drop (off+(y::z::zs).length):=by
            rw[List.drop_set_of_lt (by simp;omega)];congr 1;simp;omega
          rw[e1,e2];simp
        · rw[if_neg (by simpa using h2),if_neg (by simp at h2⊢;omega)]
    · rw[if_neg h,if_neg (by simp;omega)];rfl
theorem put_setcs{cs:List AV}(hv:v.cells≠[]):(AV.agg cs).put off v=aggO (setcs cs off v.cells):=by
  rw[setcs_eq hv];show (if off+v.cells.length≤cs.length then some (AV.agg (cs.take off++(v.cells++cs.drop (off+v.cells.length))))else none)=_;split<;>rfl
@[go_sem] theorem cs_int{k:IntKind}{n:Int}:(AV.int k n).cells=[.int k n]:=nr rfl
@[go_sem] theorem cs_bool{b:Bool}:(AV.bool b).cells=[.bool b]:=nr rfl
@[go_sem] theorem cs_str{b:List UInt8}:(AV.str b).cells=[.str b]:=nr rfl
@[go_sem] theorem cs_lst{w:Nat}{xs:List AV}{c:Bool}:(AV.lst w xs c).cells=[.lst w xs c]:=nr rfl
@[go_sem] theorem cs_slice{w i j n:Nat}{c:Bool}:(AV.slice w i j n c).cells=[.slice w i j n c]:=nr rfl
@[go_sem] theorem cs_ptr{w i j:Nat}:(AV.ptr w i j).cells=[.ptr w i j]:=nr rfl
@[go_sem] theorem cs_ept{x:AV}{j:Nat}:(AV.ept x j).cells=[.ept x j]:=nr rfl
@[go_sem] theorem cs_nils:AV.nils.cells=[.nils]:=nr rfl
@[go_sem] theorem cs_nilp:AV.nilp.cells=[.nilp]:=nr rfl
@[go_sem] theorem cs_agg{cs:List AV}:(AV.agg cs).cells=cs:=nr rfl
def Bd(s:LEnv)(w:Nat)(v:Option AV)(off:Nat)(cs:List AV)(ps:List (Nat×Nat×Ao)):Option AV:=match v with
  | some v=>if v.cells.length=w then(match setcs cs off v.cells with | some cs'=>buildAV (toE s) (.agg cs') ps | none=>none)else none
  | none=>none
def B2(s:LEnv)(cs:Option (List AV))(ps:List (Nat×Nat×Ao)):Option AV:=match cs with
  | some cs=>buildAV (toE s) (.agg cs) ps
  | none=>none
@[go_sem] theorem build_nil:buildAV (toE s) v []=some v:=nr rfl
@[go_sem] theorem build_cons{w:Nat}{cs:List AV}{ps:List (Nat×Nat×Ao)}:buildAV (toE s) (.agg cs) ((off,w+1,x)::ps)=Bd s (w+1) (ev (toE s) x) off cs ps:=by
  simp only[buildAV,Bd];cases ev (toE s) x with
  | none=>rfl
  | some v=>
    simp only;by_cases h:v.cells.length=w+1
    · rw[if_pos h,if_pos h,put_setcs (by intro q;rw[q]at h;simp at h)];cases setcs cs off v.cells<;>rfl
    · rw[if_neg h,if_neg h]
@[go_sem] theorem Bd_s{w:Nat}{cs:List AV}{ps:List (Nat×Nat×Ao)}:Bd s w (some v) off cs ps=if v.cells.length=w then B2 s (setcs cs off v.cells) ps else none:=by
  simp only[Bd,B2]
@[go_sem] theorem B2_s{cs:List AV}{ps:List (Nat×Nat×Ao)}:B2 s (some cs) ps=buildAV (toE s) (.agg cs) ps:=nr rfl
def Sto(E:Ev)(k:Nat)(a b:Option AV)(l:List AOper)(ks:List Fr1)(st:VSt)(Q:AExit→VSt→Prop):Prop:=match a,b with
  | some (.ptr id i j),some v=>v.cells.length=k∧(match st.h[id]? with
    | some (.row w el true)=>(match el[i]? with
      | some e=>(match e.put j v with
        | some e'=>R E (.ops l::ks) {st with h:=st.h.set id (.row w (el.set i e') true)} Q
        | none=>False)
      | none=>False)
    | _=>False)
  | _,_=>False
@[go_sem] theorem go_store{k:Nat}:Go1 E (.mk i d g (.store k x y) ck) l ks ⟨s,m,h⟩ Q=Sto E k (ev (toE s) x) (ev (toE s) y) l ks ⟨s,m,h⟩ Q:=by
  unfold Go1 xrun xstep Sto;simp only[AOper.o,AOper.d,AOp.isCall,AOper.apC,AOp.isApp,Bool.false_and,Bool.false_eq_true,if_false]
  all_goals rfl
theorem sto_ok{k id i j w:Nat}{el:List AV}{e e':AV}(hl:v.cells.length=k)(ho:h[id]?=some (.row w el true))(he:el[i]?=some e)(hp:e.put j v=some e')
    (hr:R E (.ops l::ks) ⟨s,m,h.set id (.row w (el.set i e') true)⟩ Q):Sto E k (some (.ptr id i j)) (some v) l ks ⟨s,m,h⟩ Q:=by
  refine⟨hl, ?_⟩;simp only[ho,he,hp];exact hr
def App1(E:Ev)(w:Nat)(d:Option Nat)(a b:Option AV)(l:List AOper)(ks:List Fr1)(st:VSt)(Q:AExit→VSt→Prop):Prop:=match a,b with
  | some a,some b=>srcW w b∧(match elemsOf (toH st.h) b with
    | some ys=>xapp w a ys d st fun st'=>R E (.ops l::ks) st' Q
    | none=>False)
  | _,_=>False
@[go_sem] theorem go_app{w:Nat}:Go1 E (.mk i d g (.app w x y) []) l ks ⟨s,m,h⟩ Q=App1 E w d (ev (toE s) x) (ev (toE s) y) l ks ⟨s,m,h⟩ Q:=by
  unfold Go1 xrun xstep App1;simp only[AOper.o,AOper.d,AOper.ck,AOper.apC,AOp.isCall,AOp.isApp,List.isEmpty_nil,Bool.not_true,Bool.and_false,Bool.false_eq_true,if_false]
  all_goals rfl
def AppC(E:Ev)(ck:List AOper)(w:Nat)(d:Option Nat)(a b:Option AV)(l:List AOper)(ks:List Fr1)(st:VSt)(Q:AExit→VSt→Prop):Prop:=match a with
  | some (.lst w' [] true)=>w'=w∧App1 E w d a b l ks st Q
  | some (.slice _ _ _ _ _)=>(ck.all (ckE st.s))=true∧App1 E w d a b l ks st Q
  | _=>False
@[go_sem] theorem go_appc{w:Nat}{c:AOper}{ck:List AOper}:Go1 E (.mk i d g (.app w x y) (c::ck)) l ks ⟨s,m,h⟩ Q=AppC E (c::ck) w d (ev (toE s) x) (ev (toE s) y) l ks ⟨s,m,h⟩ Q:=by
  unfold Go1 xrun xappC AppC xstep App1;simp only[AOper.o,AOper.d,AOper.ck,AOper.apC,AOp.isCall,AOp.isApp,List.isEmpty_cons,Bool.not_false,Bool.and_true,Bool.false_eq_true,if_false,if_true]
  all_goals
    cases hq:ev (toE s) x with
    | none=>rfl
    | some v=>
      cases v<;>first
        | rfl
        | (rename_i w' xs cl;cases xs<;>cases cl<;>rfl)
def Els(h:List AObj)(w:Nat)(b:AV)(ys:List AV):Prop:=srcW w b∧elemsOf (toH h) b=some ys
theorem Els.lst{w:Nat}{xs:List AV}{c:Bool}:Els h w (.lst w xs c) xs:=⟨rfl,rfl⟩
theorem Els.row{w id n:Nat}{el:List AV}{c rw':Bool}(ho:h[id]?=some (.row w el rw'))(hn:el.length=n):Els h w (.slice w id 0 n c) el:=by
  refine⟨rfl, ?_⟩;rw[elemsOf_row (h:=toH h) ho (by omega),List.drop_zero,←hn,List.take_length]
theorem app_nil{w k:Nat}{b:AV}{ys:List AV}(hy:Els h w b ys)(hl:ys.length≤4294967296)(hr:R E (.ops l::ks) ⟨(k,.slice w h.length 0 ys.length false)::s,m,h++[.row w ys true]⟩ Q):App1 E w (some k) (some .nils) (some b) l ks ⟨s,m,h⟩ Q:=by
  refine⟨hy.1, ?_⟩;simp only[hy.2];exact⟨hl,hr⟩
theorem app_row{w k id len:Nat}{b:AV}{ys el:List AV}(hy:Els h w b ys)(ho:h[id]?=some (.row w el true))(he:el.length=len)(hl:len+ys.length≤4294967296)
    (hr:R E (.ops l::ks) ⟨(k,.slice w h.length 0 (len+ys.length) false)::s,m,h.set id .dead++[.row w (el++ys) true]⟩ Q):App1 E w (some k) (some (.slice w id 0 len false)) (some b) l ks ⟨s,m,h⟩ Q:=by
  refine⟨hy.1, ?_⟩;simp only[hy.2];refine⟨rfl,hl, ?_⟩;rw[ho];exact⟨rfl,by omega,.inl ⟨rfl,rfl,he,hr⟩⟩
theorem app_one{w k id id2 len:Nat}{c2:Bool}{x:AV}{el:List AV}(h2:h[id2]?=some (.row w [x] true))(ho:h[id]?=some (.row w el true))(he:el.length=len)(hl:len<4294967296)
    (hr:R E (.ops l::ks) ⟨(k,.slice w h.length 0 (len+1) false)::s,m,h.set id .dead++[.row w (el++[x]) true]⟩ Q):App1 E w (some k) (some (.slice w id 0 len false)) (some (.slice w id2 0 1 c2)) l ks ⟨s,m,h⟩ Q:=
  app_row (Els.row h2 rfl) ho he (by simp;omega) hr
theorem Els.part{w id off n:Nat}{el:List AV}{c rw':Bool}(ho:h[id]?=some (.row w el rw'))(hn:off+n≤el.length):Els h w (.slice w id off n c) ((el.drop off).take n):=
  ⟨rfl,elemsOf_row (h:=toH h) ho hn⟩
def Apx(E:Ev)(w:Nat)(d:Option Nat)(a b:Option AV)(l:List AOper)(ks:List Fr1)(st:VSt)(Q:AExit→VSt→Prop):Prop:=match a,b with
  | some (.slice w' id off len false),some b=>w'=w∧srcW w b∧(match elemsOf (toH st.h) b with
    | some ys=>(match st.h[id]? with
      | some (.row w2 el true)=>w2=w∧off+len+ys.length≤el.length∧0<el.length∧
          vnew {st with h:=st.h.set id .dead} d (.row w ((el.drop off).take len++(ys++el.drop (off+len+ys.length))) true) (.slice w st.h.length 0 (len+ys.length) false) fun st'=>R E (.ops l::ks) st' Q
      | _=>False)
    | none=>False)
  | _,_=>False
@[go_sem] theorem go_appx{w:Nat}:Go1 E (.mk i d g (.appx w x y) ck) l ks ⟨s,m,h⟩ Q=Apx E w d (ev (toE s) x) (ev (toE s) y) l ks ⟨s,m,h⟩ Q:=by
  unfold Go1 xrun xstep Apx;simp only[AOper.o,AOper.d,AOp.isCall,AOper.apC,AOp.isApp,Bool.false_and,Bool.false_eq_true,if_false]
  all_goals rfl
def Slx(E:Ev)(w:Nat)(d:Option Nat)(a:Option AV)(lo hi:Option Ao)(l:List AOper)(ks:List Fr1)(st:VSt)(Q:AExit→VSt→Prop):Prop:=match a with
  | some (.slice w' id off len false)=>(match st.h[id]? with
    | some (.row _ el _)=>0<el.length∧(match bnd (toE st.s) hi len 0 (el.length-off)with
      | some b=>(match bnd (toE st.s) lo 0 0 b with
        | some a=>w'=w∧R E (.ops l::ks) (st.put d (.slice w id (off+a) (b-a) false)) Q
        | none=>False)
      | none=>False)
    | _=>False)
  | _=>False
@[go_sem] theorem go_slcx{w:Nat}{lo hi:Option Ao}:Go1 E (.mk i d g (.slcx w x lo hi) ck) l ks ⟨s,m,h⟩ Q=Slx E w d (ev (toE s) x) lo hi l ks ⟨s,m,h⟩ Q:=by
  unfold Go1 xrun xstep Slx;simp only[AOper.o,AOper.d,AOp.isCall,AOper.apC,AOp.isApp,Bool.false_and,Bool.false_eq_true,if_false]
  all_goals rfl
def Slm(E:Ev)(w:Nat)(d:Option Nat)(a:Option AV)(lo hi mx:Ao)(l:List AOper)(ks:List Fr1)(st:VSt)(Q:AExit→VSt→Prop):Prop:=match a with
  | some (.slice w' id _ len _)=>(match st.h[id]? with
    | some (.row _ el _)=>0<el.length∧(match bnd (toE st.s) (some mx) 0 0 len with
      | some c=>(match bnd (toE st.s) (some hi) 0 0 c with
        | some b=>(match bnd (toE st.s) (some lo) 0 0 b with
          | some _=>w'=w∧R E (.ops l::ks) (st.put d .any) Q
          | none=>False)
        | none=>False)
      | none=>False)
    | _=>False)
  | _=>False
@[go_sem] theorem go_slcm{w:Nat}{lo hi mx:Ao}:Go1 E (.mk i d g (.slcm w x lo hi mx) ck) l ks ⟨s,m,h⟩ Q=Slm E w d (ev (toE s) x) lo hi mx l ks ⟨s,m,h⟩ Q:=by
  unfold Go1 xrun xstep Slm;simp only[AOper.o,AOper.d,AOp.isCall,AOper.apC,AOp.isApp,Bool.false_and,Bool.false_eq_true,if_false]
  all_goals rfl
def Clr(E:Ev)(w:Nat)(z:AV)(a:Option AV)(l:List AOper)(ks:List Fr1)(st:VSt)(Q:AExit→VSt→Prop):Prop:=match a with
  | some (.slice w' id off len _)=>w'=w∧(match st.h[id]? with
    | some (.row w2 el true)=>w2=w∧off+len≤el.length∧0<el.length∧R E (.ops l::ks) {st with h:=st.h.set id (.row w (el.take off++(List.replicate len z++el.drop (off+len))) true)} Q
    | _=>False)
  | _=>False
@[go_sem] theorem go_clear{w:Nat}{z:AV}:Go1 E (.mk i d g (.clear w z x) ck) l ks ⟨s,m,h⟩ Q=Clr E w z (ev (toE s) x) l ks ⟨s,m,h⟩ Q:=by
  unfold Go1 xrun xstep Clr;simp only[AOper.o,AOper.d,AOp.isCall,AOper.apC,AOp.isApp,Bool.false_and,Bool.false_eq_true,if_false]
  all_goals rfl
theorem call_pure{ck:List AOper}{k:Nat}{vs:List AV}{e:Nat}(hp:Pure E.Γ k vs v)(hr:R E (.ops l::ks) ⟨(e,v)::s,m,h⟩ Q):Call1 E (some (k,vs)) ck (some e) l ks ⟨s,m,h⟩ Q:=by
  cases ck
  · exact SCallX.of (SCall.pure hp hr)
  · exact Or.inl (SCallK.ofP (SCallP.pure hp hr))
theorem call_lend{ck:List AOper}{k:Nat}{vs vs':List AV}{e:Nat}(hc:Cvs h vs vs')(hp:Pure E.Γ k vs' v)(hl:v.leaf=true)(hr:R E (.ops l::ks) ⟨(e,v)::s,m,h⟩ Q):Call1 E (some (k,vs)) ck (some e) l ks ⟨s,m,h⟩ Q:=by
  cases ck
  · exact SCallX.of (SCall.lend hc hp hl hr)
  · exact Or.inl (SCallK.ofP (SCallP.lend hc hp hl hr))
def Fin(vs:Option (List AV))(h:List AObj)(v:AV):Prop:=match vs with
  | some vs=>Cv h (packed vs) v
  | none=>False
@[go_sem] theorem fin_ret{res:List ARes}:finQ res v .ret ⟨s,m,h⟩=Fin (resAll (toSt ⟨s,m,h⟩) res) h v:=by
  simp[finQ,Fin];all_goals rfl
@[go_sem] theorem fin_nrm{res:List ARes}:finQ res v .nrm ⟨s,m,h⟩=Fin (resAll (toSt ⟨s,m,h⟩) res) h v:=by
  simp[finQ,Fin];all_goals rfl
@[go_sem] theorem res_nil:resAll (toSt ⟨s,m,h⟩) []=some []:=nr rfl
@[go_sem] theorem res_cons{r:ARes}{res:List ARes}:resAll (toSt ⟨s,m,h⟩) (r::res)=ocons (resOf (toSt ⟨s,m,h⟩) r) (resAll (toSt ⟨s,m,h⟩) res):=by
  simp only[resAll];unfold ocons;cases resOf (toSt ⟨s,m,h⟩) r<;>cases resAll (toSt ⟨s,m,h⟩) res<;>rfl
@[go_sem] theorem resOf_t:resOf (toSt ⟨s,m,h⟩) (.t n)=get s n:=nr rfl
@[go_sem] theorem resOf_l:resOf (toSt ⟨s,m,h⟩) (.l t sh)=opart 0 sh (get m t):=by
  show (get m t).bind _=_;cases get m t<;>rfl
@[go_sem] theorem resOf_h:resOf (toSt ⟨s,m,h⟩) (.h t sh)=(match get s t with | some (.ptr id i j)=>loadp h sh (some (.ptr id i j)) | _=>none):=by
  show (match get s t with | some (.ptr id i j)=>(match h[id]? with | some (.row _ el _)=>(el[i]?).bind (·.part j sh) | _=>none) | _=>none)=_;cases get s t with
  | none=>rfl
  | some v=>
    cases v<;>try rfl
    rename_i id i j;simp only[loadp];cases h[id]? with
    | none=>rfl
    | some o=>
      cases o<;>try rfl
      rename_i w el rw';simp only[orow];cases el[i]?<;>rfl
theorem fin_eq{v':AV}(ht:v.tree=true)(he:v'=v):Fin (some [v']) h v:=by subst he;exact .refl ht
theorem fin_eqs{v' w':AV}{vs:List AV}(ht:v.tree=true)(he:.tup (v'::w'::vs)=v):Fin (some (v'::w'::vs)) h v:=by subst he;exact .refl ht
theorem fin_cv{v':AV}(hc:Cv h v' v):Fin (some [v']) h v:=hc
end
attribute [irreducible] Go1 Grd Put Cnd Call1 New1 Lbox Lst LstP Hbox Bsl Mks Sto App1 AppC Fin
end Go.Ab
namespace Go.Ab
open Go
section
variable {Γ:Nat→Option AFn} {g:Nat} {vs:List AV} {h:List AObj}
def finI(res:List ARes)(K:AV→List AObj→Prop)(e:AExit)(st:VSt):Prop:=(e=.nrm∨e=.ret)∧match resAll (toSt st) res with
  | some vs=>K (packed vs) st.h
  | none=>False
def FinI(vs:Option (List AV))(h:List AObj)(K:AV→List AObj→Prop):Prop:=match vs with
  | some vs=>K (packed vs) h
  | none=>False
@[go_sem] theorem finI_ret{res:List ARes}{s m:LEnv}{K:AV→List AObj→Prop}:finI res K .ret ⟨s,m,h⟩=FinI (resAll (toSt ⟨s,m,h⟩) res) h K:=by
  simp[finI,FinI];all_goals rfl
@[go_sem] theorem finI_nrm{res:List ARes}{s m:LEnv}{K:AV→List AObj→Prop}:finI res K .nrm ⟨s,m,h⟩=FinI (resAll (toSt ⟨s,m,h⟩) res) h K:=by
  simp[finI,FinI];all_goals rfl
@[go_sem] theorem FinI_s{K:AV→List AObj→Prop}:FinI (some vs) h K=K (packed vs) h:=rfl
@[go_sem] theorem packed1{v:AV}:packed [v]=v:=rfl
@[go_sem] theorem packed2{v w:AV}{r:List AV}:packed (v::w::r)=.tup (v::w::r):=rfl
theorem SCall.run{F:AFun}{K:AV→List AObj→Prop}(fz bp:List Nat)(hg:Γ g=some (.fn F))(hok:F.body.ok=true)(hn:vs.length=F.np)
    (hR:R ⟨Γ,h.length,fz,bp⟩ [.code F.body] ⟨vparams 0 vs,[],h⟩ (finI F.res K)):SCall Γ g vs h K:=fun ρ hr ar hH hv=>by
  have hS:RelS ρ ⟨vparams 0 vs,[],h⟩ {s:=params 0 ar,l:=Env.empty,h:=hr}:=⟨params_rel hv,(fun n v h=>by cases h),hH⟩;obtain⟨k,e,sr',ρ',st',g1,⟨he,hq⟩,g3,g4,g5⟩:=Sem.of (by simpa only [List.all_cons,List.all_nil,Bool.and_true,Fr1.ok]using hok) hR ρ _ hS (Nat.le_refl _);have hb:Ex Γ k (.code F.body {s:=params 0 ar,l:=Env.empty,h:=hr}) (.st e sr'):=by
    cases g1 with
    | code h h'=>cases h';exact h
    | codeX h he' hx h'=>cases e<;>simp[exK]at hx
    | codeE h he' hx=>exact h
  split at hq
  · rename_i us hus;obtain⟨rs,q1,q2⟩:=resAll_rel g3 hus;have hx:=Ex.fn hg (by rw[hv.length];exact hn) hb he q1;exact⟨k+1,_,_,ρ',_,st'.h,hx,hq,g3.h,packed_rel q2,g4,g5⟩
  · exact hq.elim
def finX(res:List ARes)(K KP:AV→List AObj→Prop):AExit→VSt→Prop
  |.nrm,st |.ret,st=>(match resAll (toSt st) res with
    | some vs=>K (packed vs) st.h
    | none=>False)
  |.pan v,st=>v.leaf=true∧KP v st.h
  |.exit _,_=>False
@[go_sem] theorem finX_ret{res:List ARes}{s m:LEnv}{K KP:AV→List AObj→Prop}:finX res K KP .ret ⟨s,m,h⟩=FinI (resAll (toSt ⟨s,m,h⟩) res) h K:=by
  simp[finX,FinI];all_goals rfl
@[go_sem] theorem finX_nrm{res:List ARes}{s m:LEnv}{K KP:AV→List AObj→Prop}:finX res K KP .nrm ⟨s,m,h⟩=FinI (resAll (toSt ⟨s,m,h⟩) res) h K:=by
  simp[finX,FinI];all_goals rfl
@[go_sem] theorem finX_pan{res:List ARes}{st:VSt}{v:AV}{K KP:AV→List AObj→Prop}:finX res K KP (.pan v) st=(v.leaf=true∧KP v st.h):=rfl
theorem SCallX.run{F:AFun}{K KP:AV→List AObj→Prop}(fz bp:List Nat)(hg:Γ g=some (.fn F))(hok:F.body.ok=true)(hn:vs.length=F.np)
    (hR:R ⟨Γ,h.length,fz,bp⟩ [.code F.body] ⟨vparams 0 vs,[],h⟩ (finX F.res K KP)):SCallX Γ g vs h K KP:=fun ρ hr ar hH hv=>by
  have hS:RelS ρ ⟨vparams 0 vs,[],h⟩ {s:=params 0 ar,l:=Env.empty,h:=hr}:=⟨params_rel hv,(fun n v h=>by cases h),hH⟩;obtain⟨k,e,sr',ρ',st',g1,hq,g3,g4,g5⟩:=Sem.of (by simpa only [List.all_cons,List.all_nil,Bool.and_true,Fr1.ok]using hok) hR ρ _ hS (Nat.le_refl _);have hb:Ex Γ k (.code F.body {s:=params 0 ar,l:=Env.empty,h:=hr}) (.st e sr'):=by
    cases g1 with
    | code h h'=>cases h';exact h
    | codeX h he' hx h'=>cases e<;>simp[exK]at hx
    | codeE h he' hx=>exact h
  have key:(e=.nrm∨e=.ret)→(match resAll (toSt st') F.res with
    | some vs=>K (packed vs) st'.h
    | none=>False)→∃k hr2 ρ2 h2,RelH ρ2 h2 hr2∧Fm h.length ρ hr ρ2 hr2∧h.length≤h2.length∧((∃v r,Ex Γ k (.call g ar hr) (.res (.ok r) hr2)∧K v h2∧RelV ρ2 v r)∨∃v,Ex Γ k (.call g ar hr) (.res (.pan v) hr2)∧v.leaf=true∧KP v h2):=by
    intro he hq;split at hq
    · rename_i us hus;obtain⟨rs,q1,q2⟩:=resAll_rel g3 hus;have hx:=Ex.fn hg (by rw[hv.length];exact hn) hb he q1;exact⟨k+1,_,ρ',st'.h,g3.h,g4,g5,.inl ⟨_,_,hx,hq,packed_rel q2⟩⟩
    · exact hq.elim
  cases e with
  | nrm=>exact key (.inl rfl) hq
  | ret=>exact key (.inr rfl) hq
  | exit n=>exact hq.elim
  | pan v=>exact⟨k+1,_,ρ',st'.h,g3.h,g4,g5,.inr ⟨v,.fnP hg (by rw[hv.length];exact hn) hb,hq⟩⟩
theorem SCall.cut{K:AV→List AObj→Prop}(id n w:Nat)(hs:SCall Γ g vs h fun v h'=>∃el,h'[id]?=some (.row w el true)∧K v (h'.set id (.row w (el.take n) true))):SCall Γ g vs h K:=fun ρ hr ar hH hv=>by
  obtain⟨k,r,hr',ρ',v,h',hx,⟨el,ho,hk⟩,g1,g2,g3,g4⟩:=hs ρ hr ar hH hv;rcases g1.obj _ _ ho with⟨q1,q2,_⟩ | ⟨a,el',q1,q2,q3⟩
  · subst q2;rw[List.take_nil]at hk;have e:h'.set id (.row w [] true)=h':=List.ext_getElem? fun i=>by
      rw[List.getElem?_set];split
      · rename_i e;subst e;split
        · rw[ho]
        · rename_i hn;rw[List.getElem?_eq_none (by omega)]
      · rfl
    rw[e]at hk;exact⟨k,r,hr',ρ',v,h',hx,hk,g1,g2,g3,g4⟩
  · refine⟨k,r,_,ρ',v,_,.trim n q2 hx,hk,g1.write q1 ho (by simp) (.inr ⟨a,_,q1,AH.upd_same _ _ _,q3.take n⟩),g2,g3.trans (Fm.write g1 q1),by rw[List.length_set];exact g4⟩
end
section
variable {E:Ev} {l:List AOper} {ks:List Fr1} {s m:LEnv} {h:List AObj} {Q:AExit→VSt→Prop} {k e:Nat} {vs:List AV}
theorem put_v{o:Option AV}{v:AV}(ho:o=some v)(hr:R E (.ops l::ks) ⟨(k,v)::s,m,h⟩ Q):Put E o (some k) l ks ⟨s,m,h⟩ Q:=by
  subst ho;rw[put_some];exact hr
theorem call_here(hp:SCall E.Γ k vs h fun v h'=>R E (.ops l::ks) ⟨(e,v)::s,m,h'⟩ Q):Call1 E (some (k,vs)) [] (some e) l ks ⟨s,m,h⟩ Q:=by
  unfold Call1;exact SCallX.of hp
theorem call_hereX(hp:SCallX E.Γ k vs h (fun v h'=>R E (.ops l::ks) ⟨(e,v)::s,m,h'⟩ Q) fun v h'=>Q (.pan v) ⟨s,m,h'⟩):Call1 E (some (k,vs)) [] (some e) l ks ⟨s,m,h⟩ Q:=by
  unfold Call1;exact hp
theorem SCallX.mono{Γ:Nat→Option AFn}{g:Nat}{K K' KP KP':AV→List AObj→Prop}(hs:SCallX Γ g vs h K KP)(hk:∀v h',K v h'→K' v h')(hp:∀v h',KP v h'→KP' v h'):SCallX Γ g vs h K' KP':=fun ρ hr ar hH hv=>by
  obtain⟨k,hr',ρ',h',g1,g2,g3,g⟩:=hs ρ hr ar hH hv;refine⟨k,hr',ρ',h',g1,g2,g3, ?_⟩;rcases g with⟨v,r,q1,q2,q3⟩ | ⟨v,q1,q2,q3⟩
  · exact .inl ⟨v,r,q1,hk _ _ q2,q3⟩
  · exact .inr ⟨v,q1,q2,hp _ _ q3⟩
theorem SCall.mono{Γ:Nat→Option AFn}{g:Nat}{K K':AV→List AObj→Prop}(hs:SCall Γ g vs h K)(hk:∀v h',K v h'→K' v h'):SCall Γ g vs h K':=fun ρ hr ar hH hv=>by
  obtain⟨k,r,hr',ρ',v,h',hx,q,g⟩:=hs ρ hr ar hH hv;exact⟨k,r,hr',ρ',v,h',hx,hk _ _ q,g⟩
end
end Go.Ab
namespace Go.Ab
open Go
section
variable {E:Ev} {ρ:Ren} {st:VSt} {sr:St} {ks:List Fr1} {Q:AExit→VSt→Prop} {s m s' m':LEnv} {h h':List AObj} {b:Nat}
def slotsE(s:LEnv):LEnv→Prop
  |[]=>True
  | (n,v)::r=>get s n=some v∧slotsE s r
theorem slotsE_get:∀{s':LEnv},slotsE s s'→∀n v,get s' n=some v→get s n=some v
  |[],_,n,v,hv=>by cases hv
  | (k,x)::r,hs,n,v,hv=>by
    rw[get_cons]at hv;split at hv
    · rename_i e;subst e;cases hv;exact hs.1
    · exact slotsE_get hs.2 n v hv
theorem Can.sub(h1:slotsE s s')(h2:slotsE m m'):Can b ⟨s,m,h⟩ ⟨s',m',h⟩:=fun ρ sr hS hb=>
  ⟨sr,ρ,fun _ _ _ _ h=>h,⟨fun n v hv=>hS.s n v (slotsE_get h1 n v hv),fun n v hv=>hS.l n v (slotsE_get h2 n v hv),hS.h⟩,Fm.refl _ _ _,hb⟩
inductive VR2(μ:List (Option Nat)):AV→AV→Prop
  | tree {v} (ht:v.tree=true):VR2 μ v v
  | ptr {id id' i j} (hm:μ[id']?=some (some id)):VR2 μ (.ptr id i j) (.ptr id' i j)
  | slice {w id id' off len c} (hm:μ[id']?=some (some id)):VR2 μ (.slice w id off len c) (.slice w id' off len c)
  | map {id id'} (hm:μ[id']?=some (some id)):VR2 μ (.map id) (.map id')
  | ph {w id' c} (hm:μ[id']?=some none):VR2 μ .nils (.slice w id' 0 0 c)
  | ph2 {w id' c} (hm:μ[id']?=some none):VR2 μ (.lst w [] true) (.slice w id' 0 0 c)
  | nilL {w c}:VR2 μ .nils (.lst w [] c)
  | clip {w xs} (ht:AV.trees xs=true):VR2 μ (.lst w xs true) (.lst w xs false)
  | agg {cs ds} (hl:cs.length=ds.length) (hc:∀p∈cs.zip ds,VR2 μ p.1 p.2):VR2 μ (.agg cs) (.agg ds)
  | fn {g cs ds} (hl:cs.length=ds.length) (hc:∀p∈cs.zip ds,VR2 μ p.1 p.2):VR2 μ (.fn g cs) (.fn g ds)
  | tup {cs ds} (hl:cs.length=ds.length) (hc:∀p∈cs.zip ds,VR2 μ p.1 p.2):VR2 μ (.tup cs) (.tup ds)
def VR2s(μ:List (Option Nat))(as bs:List AV):Prop:=as.length=bs.length∧∀p∈as.zip bs,VR2 μ p.1 p.2
theorem VR2s.nil{μ:List (Option Nat)}:VR2s μ [] []:=⟨rfl,fun p hp=>by simp at hp⟩
theorem VR2s.cons{μ:List (Option Nat)}{a b:AV}{as bs:List AV}(x:VR2 μ a b)(y:VR2s μ as bs):VR2s μ (a::as) (b::bs):=⟨by simp[y.1],fun p hp=>by
  simp only[List.zip_cons_cons,List.mem_cons]at hp;rcases hp with rfl | hp
  · exact x
  · exact y.2 p hp⟩
theorem trees_get{as:List AV}(h:AV.trees as=true){a:AV}(ha:a∈as):a.tree=true:=by
  induction as with
  | nil=>cases ha
  | cons x as ih=>
    simp only[AV.trees,Bool.and_eq_true]at h;rcases List.mem_cons.1 ha with rfl | ha
    · exact h.1
    · exact ih h.2 ha
theorem VR2s.trees{μ:List (Option Nat)}{as:List AV}(h:AV.trees as=true):VR2s μ as as:=⟨rfl,fun p hp=>by
  have e:p.1=p.2:=by
    obtain⟨i,hi,rfl⟩:=List.getElem_of_mem hp;simp
  have:p.1∈as:=(List.of_mem_zip hp).1;rw[←e];exact .tree (trees_get h this)⟩
def renum(μ:List (Option Nat))(ρ:Ren):Ren:=fun i=>match μ[i]? with
  | some (some j)=>ρ j
  | some none=>some none
  | none=>none
theorem VR2.rel{μ:List (Option Nat)}{v v':AV}(hv:VR2 μ v v'):∀{r:AV},RelV ρ v r→RelV (renum μ ρ) v' r:=by
  have list:∀{cs ds rs:List AV},cs.length=ds.length→(∀p∈cs.zip ds,∀{r:AV},RelV ρ p.1 r→RelV (renum μ ρ) p.2 r)→RelVs ρ cs rs→RelVs (renum μ ρ) ds rs:=by
    intro cs
    induction cs with
    | nil=>
      intro ds rs hl _ hr;have:ds=[]:=List.eq_nil_of_length_eq_zero (by simpa using hl.symm);subst this;simpa only [RelVs]using hr
    | cons c cs ih=>
      intro ds rs hl hi hr;cases ds with
      | nil=>simp at hl
      | cons d ds=>
        simp only[RelVs]at hr⊢;obtain⟨r,rs,rfl,h1,h2⟩:=hr;exact⟨r,rs,rfl,hi (c,d) (by simp) h1,ih (by simpa using hl) (fun p hp=>hi p (by simp only[List.zip_cons_cons];exact List.mem_cons_of_mem _ hp)) h2⟩
  induction hv with
  | tree ht=>exact fun hr=>tree_any _ _ ht hr
  | ptr hm=>intro r hr;simp only[RelV]at hr⊢;obtain⟨a,h1,rfl⟩:=hr;exact⟨a,by simp only[renum,hm];exact h1,rfl⟩
  | slice hm=>
    intro r hr;simp only[RelV]at hr⊢;rcases hr with⟨a,h1,rfl⟩ | ⟨h1,h2⟩
    · exact .inl ⟨a,by simp only[renum,hm];exact h1,rfl⟩
    · exact .inr ⟨by simp only[renum,hm];exact h1,h2⟩
  | map hm=>intro r hr;simp only[RelV]at hr⊢;obtain⟨a,h1,rfl⟩:=hr;exact⟨a,by simp only[renum,hm];exact h1,rfl⟩
  | ph hm=>intro r hr;simp only[RelV]at hr⊢;subst hr;simp[renum,hm]
  | ph2 hm=>
    intro r hr;simp only[RelV]at hr⊢;rcases hr with⟨ys,c,rfl,hc,h2⟩ | ⟨_,rfl⟩
    · simp only[RelVs]at h2;subst h2;rw[hc trivial];simp[renum,hm]
    · simp[renum,hm]
  | nilL=>intro r hr;simp only[RelV]at hr⊢;subst hr;simp
  | clip ht=>
    intro r hr;simp only[RelV]at hr⊢;rcases hr with⟨ys,c,h1,_,h3⟩ | hr
    · exact .inl ⟨ys,c,h1,by simp,trees_any _ _ ht h3⟩
    · exact .inr hr
  | agg hl hc ih=>intro r hr;simp only[RelV]at hr⊢;obtain⟨rs,rfl,hr⟩:=hr;exact⟨rs,rfl,list hl (fun p hp=>ih p hp) hr⟩
  | fn hl hc ih=>intro r hr;simp only[RelV]at hr⊢;obtain⟨rs,rfl,hr⟩:=hr;exact⟨rs,rfl,list hl (fun p hp=>ih p hp) hr⟩
  | tup hl hc ih=>intro r hr;simp only[RelV]at hr⊢;obtain⟨rs,rfl,hr⟩:=hr;exact⟨rs,rfl,list hl (fun p hp=>ih p hp) hr⟩
theorem VR2s.rel{μ:List (Option Nat)}{as bs rs:List AV}(h:VR2s μ as bs)(hr:RelVs ρ as rs):RelVs (renum μ ρ) bs rs:=by
  have:=(VR2.tup h.1 h.2).rel (ρ:=ρ) (r:=.tup rs) (by simp only[RelV];exact⟨rs,rfl,hr⟩);simp only[RelV]at this;obtain⟨rs',h1,h2⟩:=this;cases h1;exact h2
def slotsC(μ:List (Option Nat))(s:LEnv):LEnv→Prop
  |[]=>True
  | (n,v')::r=>(∃v,get s n=some v∧VR2 μ v v')∧slotsC μ s r
theorem slotsC_rel{μ:List (Option Nat)}{e:Env}(hs:RelE ρ s e):∀{s':LEnv},slotsC μ s s'→RelE (renum μ ρ) s' e
  |[],_,n,v,hv=>by cases hv
  | (k,x)::r,hc,n,v,hv=>by
    rw[get_cons]at hv;split at hv
    · rename_i q;subst q;cases hv;obtain⟨v0,h1,h2⟩:=hc.1;obtain⟨y,h3,h4⟩:=hs _ _ h1;exact⟨y,h3,h2.rel h4⟩
    · exact slotsC_rel hs hc.2 n v hv
inductive OR2(μ:List (Option Nat))(h:List AObj):Option Nat→AObj→Prop
  | dead {j}:OR2 μ h j .dead
  | ph {w}:OR2 μ h none (.row w [] true)
  | row {j w el el' rw'} (ho:h[j]?=some (.row w el rw')) (he:VR2s μ el el'):OR2 μ h (some j) (.row w el' rw')
  | map {j es} (ho:h[j]?=some (.map es)) (hk:AV.trees (es.map (·.1))=true) (hv:AV.trees (es.map (·.2))=true):OR2 μ h (some j) (.map es)
def objsC(μ:List (Option Nat))(h:List AObj):List (Option Nat)→List AObj→Prop
  |[],[]=>True
  | j::r,o::h'=>OR2 μ h j o∧objsC μ h r h'
  | _,_=>False
theorem objsC_len{μ:List (Option Nat)}:∀{r:List (Option Nat)}{h':List AObj},objsC μ h r h'→r.length=h'.length
  |[],[],_=>rfl
  | _::_,_::_,k=>by simp[objsC_len k.2]
  |[],_::_,k=>k.elim
  | _::_,[],k=>k.elim
theorem objsC_at{μ:List (Option Nat)}:∀{r:List (Option Nat)}{h':List AObj},objsC μ h r h'→∀(i:Nat)(o:AObj),h'[i]?=some o→∃j,r[i]?=some j∧OR2 μ h j o
  |[],[],_,i,o,hi=>by simp at hi
  | j::r,o'::h',k,i,o,hi=>by
    cases i with
    | zero=>simp only[List.getElem?_cons_zero,Option.some.injEq]at hi⊢;subst hi;exact⟨j,rfl,k.1⟩
    | succ i=>simp only[List.getElem?_cons_succ]at hi⊢;exact objsC_at k.2 i o hi
  |[],_::_,k,_,_,_=>k.elim
  | _::_,[],k,_,_,_=>k.elim
def dist:List (Option Nat)→Bool
  |[]=>true
  | none::r=>dist r
  | some j::r=>(r.all fun x=>match x with | some k=> !Nat.beq j k | none=>true)&&dist r
theorem dist_ne:∀{μ:List (Option Nat)},dist μ=true→∀(i k j:Nat),μ[i]?=some (some j)→μ[k]?=some (some j)→i=k
  |[],_,i,k,j,hi,_=>by simp at hi
  | none::r,hd,i,k,j,hi,hk=>by
    cases i with
    | zero=>simp at hi
    | succ i=>
      cases k with
      | zero=>simp at hk
      | succ k=>simp only[List.getElem?_cons_succ]at hi hk;rw[dist_ne (by simpa only [dist]using hd) i k j hi hk]
  | some a::r,hd,i,k,j,hi,hk=>by
    simp only[dist,Bool.and_eq_true,List.all_eq_true]at hd;have ne:∀k,r[k]?=some (some a)→False:=fun k hk=>by
      have:=hd.1 _ (List.mem_of_getElem? hk);simp only[Nat.beq_refl,Bool.not_true]at this;cases this
    cases i with
    | zero=>
      simp only[List.getElem?_cons_zero,Option.some.injEq]at hi;subst hi;cases k with
      | zero=>rfl
      | succ k=>simp only[List.getElem?_cons_succ]at hk;exact(ne k hk).elim
    | succ i=>
      simp only[List.getElem?_cons_succ]at hi;cases k with
      | zero=>simp only[List.getElem?_cons_zero,Option.some.injEq]at hk;subst hk;exact(ne i hi).elim
      | succ k=>simp only[List.getElem?_cons_succ]at hk;rw[dist_ne hd.2 i k j hi hk]
theorem renum_ok{μ:List (Option Nat)}{hr:AH}(hd:dist μ=true)(ho:objsC μ h μ h')(hH:RelH ρ h hr):RelH (_root_.Go.Ab.renum μ ρ) h' hr∧Fm 0 ρ hr (_root_.Go.Ab.renum μ ρ) hr:=by
  refine⟨⟨fun i o hi=> ?_,fun i k a o o' q1 q2 hi hk d1 d2=> ?_,fun i hi=> ?_,fun i a q=> ?_⟩,⟨fun a o q _=>q,fun i a q=> ?_,fun _ q=>q,fun i hi=>by omega⟩⟩
  · obtain⟨j,hj,hor⟩:=objsC_at ho i o hi;cases hor with
    | dead=>trivial
    | ph=>exact .inl ⟨by simp only[_root_.Go.Ab.renum,hj],rfl,rfl⟩
    | @row j w el el' rw' ho' he=>
      rcases hH.obj _ _ ho' with⟨q1,rfl,q3⟩ | ⟨i',el2,q1,q2,q3⟩
      · have:el'=[]:=List.eq_nil_of_length_eq_zero (by rw[←he.1];rfl);exact .inl ⟨by simp only[_root_.Go.Ab.renum,hj];exact q1,this,q3⟩
      · exact .inr ⟨i',el2,by simp only[_root_.Go.Ab.renum,hj];exact q1,q2,he.rel q3⟩
    | @map j es ho' hk hv=>
      obtain⟨i',es',q1,q2,q3⟩:=hH.obj _ _ ho';exact⟨i',es',by simp only[_root_.Go.Ab.renum,hj];exact q1,q2,trees_any _ _ hk q3.1,trees_any _ _ hv q3.2⟩
  · obtain⟨j1,hj1,hor1⟩:=objsC_at ho i o hi;obtain⟨j2,hj2,hor2⟩:=objsC_at ho k o' hk;simp only[_root_.Go.Ab.renum,hj1,hj2]at q1 q2;have live:∀{j:Option Nat}{o:AObj},OR2 μ h j o→o≠.dead→∀j',j=some j'→∃o2,h[j']?=some o2∧o2≠.dead:=by
      intro j o hor hd j' hj';subst hj';cases hor with
      | dead=>exact absurd rfl hd
      | row ho' _=>exact⟨_,ho',by simp⟩
      | map ho' _ _=>exact⟨_,ho',by simp⟩
    cases j1 with
    | none=>cases q1
    | some j1=>
      cases j2 with
      | none=>cases q2
      | some j2=>
        obtain⟨o1,e1,n1⟩:=live hor1 d1 j1 rfl;obtain⟨o2,e2,n2⟩:=live hor2 d2 j2 rfl;have:=hH.inj j1 j2 a _ _ q1 q2 e1 e2 n1 n2;subst this;exact dist_ne hd i k j1 hj1 hj2
  · have:=objsC_len ho;have hi:h'.length≤i:=hi;simp only[_root_.Go.Ab.renum,List.getElem?_eq_none (show μ.length≤i by omega)]
  · simp only[_root_.Go.Ab.renum]at q;split at q
    · exact hH.is _ a q
    · cases q
    · cases q
  · simp only[_root_.Go.Ab.renum]at q;split at q
    · exact .inl ⟨_,q⟩
    · cases q
    · cases q
theorem Can.renum(μ:List (Option Nat))(hd:dist μ=true)(ho:objsC μ h μ h')(h1:slotsC μ s s')(h2:slotsC μ m m'):Can 0 ⟨s,m,h⟩ ⟨s',m',h'⟩:=fun ρ sr hS _=>by
  obtain⟨q1,q2⟩:=renum_ok hd ho hS.h;exact⟨sr,_,fun _ _ _ _ h=>h,⟨slotsC_rel hS.s h1,slotsC_rel hS.l h2,q1⟩,q2,Nat.zero_le _⟩
@[go_sem] theorem slotsE_nil:slotsE s []=True:=nr rfl
@[go_sem] theorem slotsE_cons{n:Nat}{v:AV}{r:LEnv}:slotsE s ((n,v)::r)=(get s n=some v∧slotsE s r):=nr rfl
@[go_sem] theorem loopQ_exit{α:Type}{I:α→Prop}{stt:α→VSt}{me:α→Nat}{a:α}{n:Nat}:loopQ E I stt me a ks Q (.exit n) st=Exit1 E (.exit n) (exK (.exit n) ks) st Q:=by
  simp only[loopQ,Exit1];all_goals rfl
@[go_sem] theorem loopQ_ret{α:Type}{I:α→Prop}{stt:α→VSt}{me:α→Nat}{a:α}:loopQ E I stt me a ks Q .ret st=Q .ret st:=by
  simp only[loopQ,exK_ret]
theorem loopQ_nrm{α:Type}{I:α→Prop}{stt:α→VSt}{me:α→Nat}{a:α}(a':α)(h1:I a')(h2:me a'<me a)(h3:Can E.b st (stt a')):loopQ E I stt me a ks Q .nrm st:=⟨a',h1,h2,h3⟩
end
end Go.Ab
namespace Go.Ab
open Go
set_option maxRecDepth 10000
def ctnF(g:Nat):AFun:=⟨2,9,[.t 4],
 .seq (.reg true [⟨0,some 4,none,.mov (.c (.bool false)),[]⟩]) (.seq (.reg true [⟨0,some 5,none,.mov (.t 0),[]⟩,
⟨1,some 6,none,.mov (.t 1),[]⟩,
⟨2,some 7,none,.call g [.t 5,.t 6],[]⟩,
⟨3,some 8,none,.bin .geq (.t 7) (.c (.int .i64 0)),[]⟩,
⟨4,some 4,none,.mov (.t 8),[]⟩]) (.ret))⟩
theorem wrap_small{n:Int}(h: -9223372036854775808≤n)(h':n≤9223372036854775807):IntKind.i64.wrap n=n:=IntWalk.i64_in n ⟨h,h'⟩
theorem wrap_succ{n:Nat}(h:n<4611686018427387904):IntKind.i64.wrap ((n:Int)+1)=((n+1:Nat):Int):=by
  rw[wrap_small (by omega) (by omega)];rfl
structure Sh{α:Type}(enc:α→AV)(w:Nat)(sh:Option Nat):Prop where
  tree:∀x,(enc x).tree=true
  len:∀x,(enc x).cells.length=w
  part:∀x,(enc x).part 0 sh=some (enc x)
  pos:0<w
  agg:∀x,(∃cs,enc x=.agg cs)↔sh≠none
def encS(b:List UInt8):AV:=.str b
theorem shS:Sh encS 1 none:=⟨fun _=>rfl,fun _=>rfl,fun _=>rfl,by decide,fun _=>by simp[encS]⟩
theorem trees_map{α:Type}{enc:α→AV}(h:∀x,(enc x).tree=true)(xs:List α):AV.trees (xs.map enc)=true:=by
  induction xs with
  | nil=>rfl
  | cons x xs ih=>simp[AV.trees,h,ih]
section
variable {Γ:Nat→Option AFn} {α:Type} {enc:α→AV} {w:Nat} {sh:Option Nat} {g gc:Nat}
def idxFrom(p:α→Bool):List α→Nat→Int
  |[],_=> -1
  | x::xs,i=>if p x then i else idxFrom p xs (i+1)
theorem idxFrom_any(p:α→Bool):∀(xs:List α)(i:Nat),decide (0≤idxFrom p xs i)=xs.any p
  |[],i=>by simp[idxFrom]
  | x::xs,i=>by
    simp only[idxFrom,List.any_cons];by_cases h:p x=true
    · simp[h]
    · simp only[h,Bool.false_eq_true,if_false,Bool.false_or];simpa[h]using idxFrom_any p xs (i+1)
def sumN{α:Type}(f:α→Nat):List α→Nat
  |[]=>0
  | x::xs=>f x+sumN f xs
theorem le_sumN{α:Type}{f:α→Nat}:∀{xs:List α}{x:α},x∈xs→f x≤sumN f xs
  | y::ys,x,h=>by
    simp only[sumN];rcases List.mem_cons.1 h with rfl | h
    · omega
    · have:=le_sumN (f:=f) h;omega
theorem Cv.row{h:List AObj}{w id n:Nat}{el:List AV}{c:Bool}(ho:h[id]?=some (.row w el true))(hn:el.length=n)(ht:AV.trees el=true)(hw:0<w):Cv h (.slice w id 0 n c) (.lst w el false):=by
  have e:(el.drop 0).take n=el:=by rw[List.drop_zero,←hn,List.take_length]
  refine .slc ho (by omega) hw (by rw[e]) ?_;rw[e];intro p hp;have q:p.1=p.2:=by
    obtain⟨i,hi,rfl⟩:=List.getElem_of_mem hp;simp
  rw[←q];exact .refl (trees_get ht (List.of_mem_zip hp).1)
end
def lookY(g:Nat)(tt:List (Nat×AFn)):List (Nat×AFun)→Option AFn
  |[]=>lookY0 g tt
  | (k,F)::r=>bif Nat.beq k g then some (.fn F)else lookY g tt r
where lookY0 (g:Nat):List (Nat×AFn)→Option AFn
  |[]=>none
  | (k,F)::r=>bif Nat.beq k g then some F else lookY0 g r
def told1(P:List AV→AV→Prop):List AV→AH→CRes→AH→Prop:=fun as h r h'=>h'=h∧∃v,r=.ok v∧P as v
theorem SCallP.told{Γ:Nat→Option AFn}{g:Nat}{P:List AV→AV→Prop}{vs:List AV}{v:AV}{h:List AObj}(hg:Γ g=some (.ext (told1 P)))(hl:AV.leafs vs=true)(hP:P vs v)(hv:∀ρ,RelV ρ v v):SCallP Γ g vs h fun v'=>v'=v:=fun ρ hr ar _ hva=>by
  have:=leafs_eq _ _ hl hva;subst this;exact⟨0,v,hr,v,.ext hg ⟨rfl,v,rfl,hP⟩,rfl,fun _ q=>q,rfl,hv ρ⟩
theorem Pure.told{Γ:Nat→Option AFn}{g:Nat}{P:List AV→AV→Prop}{vs:List AV}{v:AV}(hg:Γ g=some (.ext (told1 P)))(hl:AV.leafs vs=true)(hP:P vs v)(ht:AV.trees vs=true)(hv:v.tree=true):Pure Γ g vs v:=by
  unfold Pure;refine⟨ht,hv,fun hr ar hva=> ?_⟩;have:=leafs_eq _ _ hl hva;subst this;exact⟨0,v,hr,.ext hg ⟨rfl,v,rfl,hP⟩,rfl,fun _ q=>q,tree_rel _ hv⟩
end Go.Ab
namespace Go.Ab
open Go
def nrmQ(K:VSt→Prop):AExit→VSt→Prop
  |.nrm,st=>K st
  | _,_=>False
@[go_sem] theorem nrmQ_n{K:VSt→Prop}{st:VSt}:nrmQ K .nrm st=K st:=rfl
def panQ(K:AV→VSt→Prop):AExit→VSt→Prop
  |.pan v,st=>K v st
  | _,_=>False
@[go_sem] theorem panQ_p{K:AV→VSt→Prop}{v:AV}{st:VSt}:panQ K (.pan v) st=K v st:=rfl
def capV(l:LEnv):Nat→List Nat→LEnv
  | _,[]=>[]
  | n,c::r=>match get l c with
    | some v=>(n,v)::capV l (n+1) r
    | none=>capV l (n+1) r
def tryH(E:Ev)(t:ATry)(K:AV→List AObj→Prop)(v:AV)(st:VSt):Prop:=match v with
  |.iface T x=>T=t.T∧x.leaf=true∧R E [.code t.hnd] ⟨[(t.nh,x)],capV st.l 0 t.cap,st.h⟩ (nrmQ fun s=>FinI (resAll (toSt s) t.resH) s.h K)
  | _=>False
def tryQ6(E:Ev)(t:ATry)(K:AV→List AObj→Prop)(st:VSt):Prop:=match ev (toE st.s) t.x with
  | some (.bool false)=>R E [.code t.tail] st (finI t.res K)
  | some (.bool true)=>R E [.ops t.l9] st (panQ (tryH E t K))
  | _=>False
def tryQ5(E:Ev)(t:ATry)(K:AV→List AObj→Prop):AExit→VSt→Prop
  |.nrm,st=>R E [.code t.r8] st (nrmQ (tryQ6 E t K))
  |.pan v,st=>tryH E t K v st
  | _,_=>False
def tryQ3(E:Ev)(t:ATry)(K:AV→List AObj→Prop):AExit→VSt→Prop
  |.ret,st=>FinI (resAll (toSt st) t.res) st.h K
  |.nrm,st=>(∀i∈t.cap,get st.l i≠none)∧get st.s t.d5=none∧R E [.code t.mid] st (nrmQ fun st=>R E [.ops t.l7] st (tryQ5 E t K))
  | _,_=>False
def ATry.ok(t:ATry):Bool:=t.p0.ok&&t.p1.ok&&t.p2.ok&&t.p3.ok&&t.mid.ok&&Fr1.ok (.ops t.l7)&&t.r8.ok&&t.x.ok&&Fr1.ok (.ops t.l9)&&t.tail.ok&&t.hnd.ok
theorem capV_get{l:LEnv}:∀{r:List Nat}{n k:Nat}{v:AV},get (capV l n r) k=some v→∃c,r[k-n]?=some c∧n≤k∧get l c=some v
  |[],n,k,v,h=>by cases h
  | c::r,n,k,v,h=>by
    have go:get (capV l (n+1) r) k=some v→∃c',(c::r)[k-n]?=some c'∧n≤k∧get l c'=some v:=fun h=>by
      obtain⟨c',h1,h2,h3⟩:=capV_get h;have:k-n=(k-(n+1))+1:=by omega
      exact⟨c',by rw[this,List.getElem?_cons_succ];exact h1,by omega,h3⟩
    simp only[capV]at h;split at h
    · rename_i x hx;simp only[get]at h;split at h
      · rename_i e;subst e;cases h;exact⟨c,by simp,Nat.le_refl _,hx⟩
      · exact go h
    · exact go h
theorem cap_rel{ρ:Ren}{l:LEnv}{e:Env}(h:RelE ρ l e)(cap:List Nat):RelE ρ (capV l 0 cap) (capL cap e):=fun n v hv=>by
  obtain⟨c,h1,_,h3⟩:=capV_get hv;obtain⟨r,h4,h5⟩:=h c v h3;refine⟨r, ?_,h5⟩;show capL cap e n=_;unfold capL;rw[Nat.sub_zero]at h1;rw[h1];exact h4
mutual
theorem leaf_tree:∀(a:AV),a.leaf=true→a.tree=true
  |.bool _,_ |.int _ _,_ |.str _,_ |.nilp,_ |.nils,_ |.nilm,_ |.nilf,_ |.nili,_=>rfl
  |.any,h |.ptr _ _ _,h |.map _,h |.slice _ _ _ _ _,h |.lst _ _ _,h |.ept _ _,h=>by simp[AV.leaf]at h
  |.fn _ cs,h |.agg cs,h |.tup cs,h=>by
    simp only[AV.leaf]at h;simp only[AV.tree];exact leafs_trees cs h
  |.iface _ x,h=>by
    simp only[AV.leaf]at h;simp only[AV.tree];exact leaf_tree x h
theorem leafs_trees:∀(as:List AV),AV.leafs as=true→AV.trees as=true
  |[],_=>rfl
  | a::as,h=>by
    simp only[AV.leafs,Bool.and_eq_true]at h;simp only[AV.trees,Bool.and_eq_true];exact⟨leaf_tree a h.1,leafs_trees as h.2⟩
end
section
variable {Γ:Nat→Option AFn} {g:Nat} {vs:List AV} {h:List AObj}
theorem nrm_of{E:Ev}{c:ACode}{K:VSt→Prop}{st:VSt}{sr:St}{ρ:Ren}(hok:c.ok=true)(hR:R E [.code c] st (nrmQ K))(hS:RelS ρ st sr)(hb:E.b≤st.h.length):
    ∃k sr' ρ' st',Ex E.Γ k (.code c sr) (.st .nrm sr')∧K st'∧RelS ρ' st' sr'∧Fm E.b ρ sr.h ρ' sr'.h∧E.b≤st'.h.length:=by
  obtain⟨k,e,sr',ρ',st',g1,hq,g3,g4,g5⟩:=Sem.of (by simpa only [List.all_cons,List.all_nil,Bool.and_true,Fr1.ok]using hok) hR ρ _ hS hb;cases e with
  | nrm=>
    cases g1 with
    | code h h'=>cases h';exact⟨k,sr',ρ',st',h,hq,g3,g4,g5⟩
    | codeX h he' hx h'=>simp[exK]at hx
    | codeE h he' hx=>exact absurd rfl he'
  | _=>exact hq.elim
theorem code_of{E:Ev}{c:ACode}{Q:AExit→VSt→Prop}{st:VSt}{sr:St}{ρ:Ren}(hok:c.ok=true)(hR:R E [.code c] st Q)(hS:RelS ρ st sr)(hb:E.b≤st.h.length):
    ∃k e sr' ρ' st',Ex E.Γ k (.code c sr) (.st e sr')∧Q e st'∧RelS ρ' st' sr'∧Fm E.b ρ sr.h ρ' sr'.h∧E.b≤st'.h.length:=by
  obtain⟨k,e,sr',ρ',st',g1,hq,g3,g4,g5⟩:=Sem.of (by simpa only [List.all_cons,List.all_nil,Bool.and_true,Fr1.ok]using hok) hR ρ _ hS hb;cases g1 with
  | code h h'=>cases h';exact⟨k,_,sr',ρ',st',h,hq,g3,g4,g5⟩
  | codeX h he' hx h'=>cases e<;>simp[exK]at hx
  | codeE h he' hx=>exact⟨k,_,sr',ρ',st',h,hq,g3,g4,g5⟩
theorem ops_of{E:Ev}{l:List AOper}{Q:AExit→VSt→Prop}{st:VSt}{sr:St}{ρ:Ren}(hok:Fr1.ok (.ops l)=true)(hR:R E [.ops l] st Q)(hS:RelS ρ st sr)(hb:E.b≤st.h.length):
    ∃k e sr' ρ' st',Ex E.Γ k (.ops l sr) (.st e sr')∧Q e st'∧RelS ρ' st' sr'∧Fm E.b ρ sr.h ρ' sr'.h∧E.b≤st'.h.length:=by
  obtain⟨k,e,sr',ρ',st',g1,hq,g3,g4,g5⟩:=Sem.of (by simpa only [List.all_cons,List.all_nil,Bool.and_true]using hok) hR ρ _ hS hb;cases g1 with
  | ops h h'=>cases h';exact⟨k,_,sr',ρ',st',h,hq,g3,g4,g5⟩
  | opsP h=>exact⟨k,_,sr',ρ',st',h,hq,g3,g4,g5⟩
theorem hnd_of{E:Ev}{t:ATry}{K:AV→List AObj→Prop}{v:AV}{st:VSt}{sr:St}{ρ:Ren}(hok:t.hnd.ok=true)(hR:tryH E t K v st)(hS:RelS ρ st sr)(hb:E.b≤st.h.length):
    ∃x k s7 ρ' us v' h',v=.iface t.T x∧Ex E.Γ k (.code t.hnd {s:=Env.empty.set t.nh x,l:=capL t.cap sr.l,h:=sr.h}) (.st .nrm s7)∧resAll s7 t.resH=some us∧K v' h'∧RelV ρ' v' (packed us)∧RelH ρ' h' s7.h∧Fm E.b ρ sr.h ρ' s7.h∧E.b≤h'.length:=by
  unfold tryH at hR;split at hR
  · rename_i T x;obtain⟨rfl,hl,hR⟩:=hR;have hs1:RelE ρ [(t.nh,x)] (Env.empty.set t.nh x):=fun n v hv=>by
      simp only[get]at hv;split at hv
      · rename_i e;subst e;cases hv;exact⟨x,by rw[lk_set,if_pos rfl],tree_rel _ (leaf_tree _ hl)⟩
      · cases hv
    have hS1:RelS ρ ⟨[(t.nh,x)],capV st.l 0 t.cap,st.h⟩ {s:=Env.empty.set t.nh x,l:=capL t.cap sr.l,h:=sr.h}:=⟨hs1,cap_rel hS.l _,hS.h⟩;obtain⟨k,sr',ρ',st',h1,h2,h3,h4,h5⟩:=nrm_of hok hR hS1 hb;unfold FinI at h2;split at h2
    · rename_i us hus;obtain⟨rs,q1,q2⟩:=resAll_rel h3 hus;exact⟨x,k,sr',ρ',rs,_,_,rfl,h1,q1,h2,packed_rel q2,h3.h,h4,h5⟩
    · exact h2.elim
  · exact hR.elim
theorem SCall.try{t:ATry}{K:AV→List AObj→Prop}(hg:Γ g=some (.try t))(hn:vs.length=t.np)(hok:t.ok=true)
    (hR:R ⟨Γ,h.length,[],[]⟩ [.code t.p0] ⟨vparams 0 vs,[],h⟩ (nrmQ fun st=>R ⟨Γ,h.length,[],[]⟩ [.code t.p1] st (nrmQ fun st=>R ⟨Γ,h.length,[],[]⟩ [.code t.p2] st (nrmQ fun st=>R ⟨Γ,h.length,[],[]⟩ [.code t.p3] st (tryQ3 ⟨Γ,h.length,[],[]⟩ t K))))):
    SCall Γ g vs h K:=fun ρ hr ar hH hv=>by
  have hS:RelS ρ ⟨vparams 0 vs,[],h⟩ {s:=params 0 ar,l:=Env.empty,h:=hr}:=⟨params_rel hv,(fun n v h=>by cases h),hH⟩;simp only[ATry.ok,Bool.and_eq_true]at hok;obtain⟨⟨⟨⟨⟨⟨⟨⟨⟨⟨o0,o1⟩,o2⟩,o3⟩,om⟩,o7⟩,o8⟩,ox⟩,o9⟩,ot⟩,oh⟩:=hok;have hna:ar.length=t.np:=by rw[hv.length];exact hn
  obtain⟨k0,s1,ρ1,st1,x0,r1,e1,m1,b1⟩:=nrm_of o0 hR hS (Nat.le_refl _);obtain⟨k1,s2,ρ2,st2,x1,r2,e2,m2,b2⟩:=nrm_of o1 r1 e1 b1;obtain⟨k2,s3,ρ3,st3,x2,r3,e3,m3,b3⟩:=nrm_of o2 r2 e2 b2;obtain⟨k3,e,s4,ρ4,st4,x3,r4,e4,m4,b4⟩:=code_of o3 r3 e3 b3;have m04:=((m1.trans m2).trans m3).trans m4;cases e with
  | exit n=>exact r4.elim
  | pan v=>exact r4.elim
  | ret=>
    simp only[tryQ3,FinI]at r4;split at r4
    · rename_i us hus;obtain⟨rs,q1,q2⟩:=resAll_rel e4 hus;refine⟨k0+k1+k2+k3+1,_,_,ρ4,_,st4.h,.tryX hg hna (x0.le (by omega)) (x1.le (by omega)) (x2.le (by omega)) (x3.le (by omega)) q1,r4,e4.h,packed_rel q2,m04,b4⟩
    · exact r4.elim
  | nrm=>
    obtain⟨hc,hd,r5⟩:=r4;have hc':∀i∈t.cap,∃c,lk s4.l i=some c:=fun i hi=>by
      cases hg':get st4.l i with
      | none=>exact absurd hg' (hc i hi)
      | some v=>obtain⟨r,q,_⟩:=e4.l i v hg';exact⟨r,q⟩
    have e4s:RelE ρ4 st4.s (s4.s.set t.d5 .any):=fun n v hv=>by
      obtain⟨r,q1,q2⟩:=e4.s n v hv;refine⟨r, ?_,q2⟩;rw[lk_set,if_neg (by rintro rfl;rw[hd]at hv;cases hv)];exact q1
    have e4':RelS ρ4 st4 {s4 with s:=s4.s.set t.d5 .any}:=⟨e4s,e4.l,e4.h⟩;obtain⟨k4,s5,ρ5,st5,x4,r6,e5,m5,b5⟩:=nrm_of om r5 e4' b4;obtain⟨k5,e,s6,ρ6,st6,x5,r7,e6,m6,b6⟩:=ops_of o7 r6 e5 b5;have m06:=(m04.trans m5).trans m6;cases e with
    | exit n=>exact r7.elim
    | ret=>exact r7.elim
    | pan v=>
      obtain⟨x,k6,s7,ρ7,us,v',h',rfl,x6,q1,q2,q3,q4,q5,q6⟩:=hnd_of oh (show tryH _ _ _ _ _ from r7) e6 b6;exact⟨k0+k1+k2+k3+k4+k5+k6+1,_,_,ρ7,v',h',.tryP hg hna (x0.le (by omega)) (x1.le (by omega)) (x2.le (by omega)) (x3.le (by omega)) hc' (x4.le (by omega)) (x5.le (by omega)) (x6.le (by omega)) q1,q2,q4,q3,m06.trans q5,q6⟩
    | nrm=>
      obtain⟨k6,s7,ρ7,st7,x6,r8,e7,m7,b7⟩:=nrm_of o8 (show R _ _ _ _ from r7) e6 b6;unfold tryQ6 at r8;split at r8
      · rename_i hx;obtain⟨k7,e,s8,ρ8,st8,x7,⟨he,r9⟩,e8,m8,b8⟩:=code_of ot r8 e7 b7;split at r9
        · rename_i us hus;obtain⟨rs,q1,q2⟩:=resAll_rel e8 hus;exact⟨k0+k1+k2+k3+k4+k5+k6+k7+1,_,_,ρ8,_,st8.h,.tryV hg hna (x0.le (by omega)) (x1.le (by omega)) (x2.le (by omega)) (x3.le (by omega)) hc' (x4.le (by omega)) (x5.le (by omega)) (x6.le (by omega)) (ev_bool e7.s ox hx) (x7.le (by omega)) he q1,r9,e8.h,packed_rel q2,(m06.trans m7).trans m8,b8⟩
        · exact r9.elim
      · rename_i hx;obtain⟨k7,e,s8,ρ8,st8,x7,r9,e8,m8,b8⟩:=ops_of o9 r8 e7 b7;cases e with
        | pan v=>
          obtain⟨x,k8,s9,ρ9,us,v',h',rfl,x8,q1,q2,q3,q4,q5,q6⟩:=hnd_of oh (show tryH _ _ _ _ _ from r9) e8 b8;exact⟨k0+k1+k2+k3+k4+k5+k6+k7+k8+1,_,_,ρ9,v',h',.tryF hg hna (x0.le (by omega)) (x1.le (by omega)) (x2.le (by omega)) (x3.le (by omega)) hc' (x4.le (by omega)) (x5.le (by omega)) (x6.le (by omega)) (ev_bool e7.s ox hx) (x7.le (by omega)) (x8.le (by omega)) q1,q2,q4,q3,((m06.trans m7).trans m8).trans q5,q6⟩
        | _=>exact r9.elim
      · exact r8.elim
end
end Go.Ab
namespace Go.Ab
open Go
section
variable {E:Ev} {ρ:Ren} {st:VSt} {sr:St}
theorem xstep_quiet{o:AOp}{d:Option Nat}{K:VSt→Prop}(hq:o.quiet=true)(hk:xstep o d st K):∃v,xval o st=some v∧K (st.put d v):=by
  have key:(match xval o st with | some v=>K (st.put d v) | none=>False)→∃v,xval o st=some v∧K (st.put d v):=fun h=>by
    split at h
    · rename_i v hv;exact⟨v,hv,h⟩
    · exact h.elim
  cases o<;>first
    | (simp only[AOp.quiet,Bool.false_eq_true]at hq;done)
    | exact key hk
theorem xl_quiet:∀{l:List AOper}{st:VSt}{sr:St}{K:VSt→Prop}{KP:AV→VSt→Prop},(l.all fun c=>c.o.ok&&(c.o.quiet&&(c.g.isNone&&c.ck.isEmpty)))=true→RelS ρ st sr→xl E l st K KP→∃k sr' st',Ex E.Γ k (.ops l sr) (.st .nrm sr')∧K st'∧RelS ρ st' sr'∧sr'.h=sr.h∧st'.h=st.h
  |[],st,sr,K,KP,_,hS,hx=>⟨0,sr,st,.nil,hx,hS,rfl,rfl⟩
  | c::l,st,sr,K,KP,hl,hS,hx=>by
    simp only[List.all_cons,Bool.and_eq_true]at hl;obtain⟨⟨h1,h2,h3,h4⟩,hl⟩:=hl;obtain⟨i,d,g,o,ck⟩:=c;simp only[AOper.o,AOper.g,AOper.ck]at h1 h2 h3 h4;cases g with
    | some g=>cases h3
    | none=>
      cases ck with
      | cons a b=>cases h4
      | nil=>
        simp only[xl]at hx;have n1:¬o.isCall=true:=by cases o<;>first | (simp[AOp.isCall];done) | cases h2
        have n2:¬AOper.apC (.mk i d none o [])=true:=by simp[AOper.apC,AOper.ck]
        have hx1:xrun E (.mk i d none o []) st (fun st'=>xl E l st' K KP) KP:=hx;unfold xrun at hx1;rw[if_neg (show ¬(AOper.mk i d none o []).o.isCall=true from n1),if_neg n2]at hx1;obtain⟨v,hv,hk⟩:=xstep_quiet h2 hx1;obtain⟨r,q1,q2⟩:=xval_rel hS h1 hv;obtain⟨k,sr',st',g1,g2,g3,g4,g5⟩:=xl_quiet (st:=st.put d v) (sr:=sr.put d r) hl ⟨hS.s.put q2,hS.l,hS.h⟩ hk;exact⟨k,sr',st',.step rfl (Step.of_val q1) trivial g1,g2,g3,g4,g5⟩
end
section
variable {Γ:Nat→Option AFn} {g:Nat} {vs:List AV} {h:List AObj}
theorem SCallP.quiet{F:AFun}{p1 p2:Bool}{l1 l2:List AOper}{v:AV}(hg:Γ g=some (.fn F))(hF:F.body=.seq (.reg p1 l1) (.seq (.reg p2 l2) .ret))(h1:(l1.all fun c=>c.o.ok&&(c.o.quiet&&(c.g.isNone&&c.ck.isEmpty)))=true)(h2:(l2.all fun c=>c.o.ok&&(c.o.quiet&&(c.g.isNone&&c.ck.isEmpty)))=true)
    (hn:vs.length=F.np) (hR:R ⟨Γ,h.length,[],[]⟩ [.code F.body] ⟨vparams 0 vs,[],h⟩ (finI F.res fun v' _=>v'=v)):SCallP Γ g vs h fun v'=>v'=v:=fun ρ hr ar hH hv=>by
  have hS:RelS ρ ⟨vparams 0 vs,[],h⟩ {s:=params 0 ar,l:=Env.empty,h:=hr}:=⟨params_rel hv,(fun n v h=>by cases h),hH⟩;rw[hF]at hR;simp only[r_seq,r_reg0,R_ops,r_ret]at hR;obtain⟨k1,sr1,st1,a1,a2,a3,a4,a5⟩:=xl_quiet h1 hS hR;obtain⟨k2,sr2,st2,b1,b2,b3,b4,b5⟩:=xl_quiet h2 a3 a2;obtain⟨_,hq⟩:=b2;split at hq
  · rename_i us hus;obtain⟨rs,q1,q2⟩:=resAll_rel b3 hus;have hb:Ex Γ (max k1 k2) (.code F.body {s:=params 0 ar,l:=Env.empty,h:=hr}) (.st .ret sr2):=by
      rw[hF];exact .seqN (.reg (a1.le (Nat.le_max_left _ _)) (.inr rfl)) (.seqN (.reg (b1.le (Nat.le_max_right _ _)) (.inr rfl)) .ret)
    have hx:=Ex.fn hg (by rw[hv.length];exact hn) hb (.inr rfl) q1;have eh:sr2.h=hr:=b4.trans a4;rw[eh]at hx;exact⟨_,_,hr,_,hx,rfl,fun _ q=>q,hq,packed_rel q2⟩
  · exact hq.elim
end
section
variable {E:Ev} {l:List AOper} {ks:List Fr1} {s m:LEnv} {h:List AObj} {Q:AExit→VSt→Prop} {k e:Nat} {vs:List AV} {v:AV}
theorem call_look{ck:List AOper}(hp:SCallP E.Γ k vs h fun v'=>v'=v)(hr:R E (.ops l::ks) ⟨(e,v)::s,m,h⟩ Q):Call1 E (some (k,vs)) ck (some e) l ks ⟨s,m,h⟩ Q:=by
  have hp':SCallP E.Γ k vs h fun v'=>R E (.ops l::ks) ⟨(e,v')::s,m,h⟩ Q:=fun ρ hr' ar hH hv=>by
    obtain⟨k,r,hr2,v2,a1,a2,a3,a4,a5⟩:=hp ρ hr' ar hH hv;exact⟨k,r,hr2,v2,a1,a2,a3,a4▸hr,a5⟩
  unfold Call1;cases ck
  · exact SCallX.of (SCall.ofP hp')
  · exact Or.inl (SCallK.ofP hp')
end
end Go.Ab
namespace Go.Ab
open Go
mutual
def lay:AV→Nat→AV×List AObj
  |.lst w xs _,n=>(.slice w n 0 xs.length false,.row w (lays xs (n+1)).1 true::(lays xs (n+1)).2)
  |.agg xs,n=>(.agg (lays xs n).1,(lays xs n).2)
  |.tup xs,n=>(.tup (lays xs n).1,(lays xs n).2)
  | v,_=>(v,[])
def lays:List AV→Nat→List AV×List AObj
  |[],_=>([],[])
  | x::xs,n=>((lay x n).1::(lays xs (n+(lay x n).2.length)).1,(lay x n).2++(lays xs (n+(lay x n).2.length)).2)
end
mutual
def AV.pl:AV→Bool
  |.lst _ xs _ |.agg xs |.tup xs=>AV.pls xs
  |.bool _ |.int _ _ |.str _ |.nilp |.nils |.nilm |.nilf |.nili=>true
  | _=>false
def AV.pls:List AV→Bool
  |[]=>true
  | x::xs=>AV.pl x&&AV.pls xs
end
mutual
def AV.rows:AV→Nat
  |.lst _ xs _=>AV.rowss xs+1
  |.agg xs |.tup xs=>AV.rowss xs
  | _=>0
def AV.rowss:List AV→Nat
  |[]=>0
  | x::xs=>AV.rows x+AV.rowss xs
end
mutual
theorem lay_len:∀(t:AV)(n:Nat),(lay t n).2.length=t.rows
  |.lst _ xs _,n=>by simp only[lay,List.length_cons,AV.rows,lays_len xs]
  |.agg xs,n=>by simp only[lay,AV.rows,lays_len xs]
  |.tup xs,n=>by simp only[lay,AV.rows,lays_len xs]
  |.bool _,_ |.int _ _,_ |.str _,_ |.nilp,_ |.nils,_ |.nilm,_ |.nilf,_ |.nili,_ |.any,_=>rfl
  |.ptr _ _ _,_ |.slice _ _ _ _ _,_ |.map _,_ |.ept _ _,_ |.fn _ _,_ |.iface _ _,_=>rfl
theorem lays_len:∀(xs:List AV)(n:Nat),(lays xs n).2.length=AV.rowss xs
  |[],_=>rfl
  | x::xs,n=>by simp only[lays,List.length_append,lay_len x,lays_len xs,AV.rowss]
end
theorem lays_length:∀(xs:List AV)(n:Nat),(lays xs n).1.length=xs.length
  |[],_=>rfl
  | x::xs,n=>by simp only[lays,List.length_cons,lays_length xs]
theorem lays_app:∀(xs ys:List AV)(n:Nat),lays (xs++ys) n=((lays xs n).1++(lays ys (n+AV.rowss xs)).1,(lays xs n).2++(lays ys (n+AV.rowss xs)).2)
  |[],ys,n=>by simp[lays,AV.rowss]
  | x::xs,ys,n=>by
    simp only[List.cons_append,lays,lays_app xs ys,AV.rowss,lay_len,Nat.add_assoc,List.append_assoc]
theorem rowss_app:∀(xs ys:List AV),AV.rowss (xs++ys)=AV.rowss xs+AV.rowss ys
  |[],ys=>by simp[AV.rowss]
  | x::xs,ys=>by simp only[List.cons_append,AV.rowss,rowss_app xs ys];omega
section
variable {ρ ρ':Ren}
def Sh2(ρ:Ren)(a:Nat)(ρ':Ren)(b n:Nat):Prop:=∀i,i<n→ρ' (b+i)=ρ (a+i)
theorem Sh2.sub{a b n:Nat}(h:Sh2 ρ a ρ' b n)(k m:Nat)(hk:k+m≤n):Sh2 ρ (a+k) ρ' (b+k) m:=fun i hi=>by
  have:=h (k+i) (by omega);rw[show a+k+i=a+(k+i) by omega,show b+k+i=b+(k+i) by omega];exact this
mutual
theorem lay_rel:∀(t:AV)(a b:Nat)(r:AV),t.pl=true→Sh2 ρ a ρ' b t.rows→RelV ρ (lay t a).1 r→RelV ρ' (lay t b).1 r
  |.lst w xs _,a,b,r,_,hs,h=>by
    have h0:=hs 0 (by simp only[AV.rows];omega);simp only[Nat.add_zero]at h0;simp only[lay,RelV]at h⊢;rw[h0];exact h
  |.agg xs,a,b,r,hp,hs,h=>by
    simp only[lay,RelV]at h⊢;obtain⟨ds,h1,h2⟩:=h;exact⟨ds,h1,lays_rel xs a b ds hp hs h2⟩
  |.tup xs,a,b,r,hp,hs,h=>by
    simp only[lay,RelV]at h⊢;obtain⟨ds,h1,h2⟩:=h;exact⟨ds,h1,lays_rel xs a b ds hp hs h2⟩
  |.bool _,_,_,_,_,_,h |.int _ _,_,_,_,_,_,h |.str _,_,_,_,_,_,h |.nilp,_,_,_,_,_,h |.nils,_,_,_,_,_,h |.nilm,_,_,_,_,_,h |.nilf,_,_,_,_,_,h |.nili,_,_,_,_,_,h=>by
    simpa only [lay,RelV]using h
  |.any,_,_,_,hp,_,_ |.ptr _ _ _,_,_,_,hp,_,_ |.slice _ _ _ _ _,_,_,_,hp,_,_ |.map _,_,_,_,hp,_,_ |.ept _ _,_,_,_,hp,_,_ |.fn _ _,_,_,_,hp,_,_ |.iface _ _,_,_,_,hp,_,_=>by cases hp
theorem lays_rel:∀(xs:List AV)(a b:Nat)(rs:List AV),AV.pls xs=true→Sh2 ρ a ρ' b (AV.rowss xs)→RelVs ρ (lays xs a).1 rs→RelVs ρ' (lays xs b).1 rs
  |[],_,_,_,_,_,h=>by simpa only [lays,RelVs]using h
  | x::xs,a,b,rs,hp,hs,h=>by
    simp only[AV.pls,Bool.and_eq_true]at hp;simp only[lays,RelVs,lay_len]at h⊢;obtain⟨u,us,h1,h2,h3⟩:=h;simp only[AV.rowss]at hs;exact⟨u,us,h1,lay_rel x a b u hp.1 (by simpa using hs.sub 0 x.rows (by omega)) h2,lays_rel xs _ _ us hp.2 (hs.sub x.rows (AV.rowss xs) (by omega)) h3⟩
end
def Lies(ρ:Ren)(a:Nat)(os:List AObj)(hr:AH):Prop:=∀i o,os[i]?=some o→RelO ρ (a+i) hr o
theorem Lies.app{a:Nat}{os os':List AObj}{hr:AH}:Lies ρ a (os++os') hr↔Lies ρ a os hr∧Lies ρ (a+os.length) os' hr:=by
  constructor
  · intro h;refine⟨fun i o hi=>h i o ?_,fun i o hi=> ?_⟩
    · rw[List.getElem?_append_left (List.getElem?_eq_some_iff.1 hi).1];exact hi
    · have:=h (os.length+i) o (by rw[List.getElem?_append_right (by omega)];simpa using hi);rw[show a+os.length+i=a+(os.length+i) by omega];exact this
  · rintro⟨h1,h2⟩ i o hi;rcases Nat.lt_or_ge i os.length with q | q
    · rw[List.getElem?_append_left q]at hi;exact h1 i o hi
    · rw[List.getElem?_append_right q]at hi;have:=h2 _ _ hi;rw[show a+os.length+(i-os.length)=a+i by omega]at this;exact this
theorem Lies.cons{a:Nat}{o:AObj}{os:List AObj}{hr:AH}:Lies ρ a (o::os) hr↔RelO ρ a hr o∧Lies ρ (a+1) os hr:=by
  have:=Lies.app (ρ:=ρ) (a:=a) (os:=[o]) (os':=os) (hr:=hr);rw[List.singleton_append]at this;rw[this];constructor
  · rintro⟨h1,h2⟩;exact⟨h1 0 o rfl,h2⟩
  · rintro⟨h1,h2⟩;refine⟨fun i x hi=> ?_,h2⟩;cases i with
    | zero=>simp at hi;subst hi;exact h1
    | succ i=>simp at hi
mutual
theorem lay_lies{hr hr':AH}:∀(t:AV)(a b:Nat),t.pl=true→Sh2 ρ a ρ' b t.rows→(∀i x o,i<t.rows→ρ (a+i)=some (some x)→hr x=some o→hr' x=some o)→Lies ρ a (lay t a).2 hr→Lies ρ' b (lay t b).2 hr'
  |.lst w xs _,a,b,hp,hs,hh,h=>by
    simp only[lay,Lies.cons]at h⊢;simp only[AV.rows]at hs hh;obtain⟨h1,h2⟩:=h;refine⟨?_,lays_lies xs (a+1) (b+1) hp (hs.sub 1 _ (by omega)) (fun i x o hi hx hx2=>hh (1+i) x o (by omega) (by rw[←Nat.add_assoc];exact hx) hx2) h2⟩;have h0:=hs 0 (by omega);simp only[Nat.add_zero]at h0;rcases h1 with⟨q1,q2,q3⟩ | ⟨i',el',q1,q2,q3⟩
    · refine .inl ⟨by rw[h0];exact q1, ?_,q3⟩;have l1:=lays_length xs (a+1);have l2:=lays_length xs (b+1);rw[q2]at l1;exact List.eq_nil_of_length_eq_zero (by rw[l2,←l1];rfl)
    · exact .inr ⟨i',el',by rw[h0];exact q1,hh 0 i' _ (by omega) q1 q2,lays_rel xs _ _ _ hp (hs.sub 1 _ (by omega)) q3⟩
  |.agg xs,a,b,hp,hs,hh,h=>by
    simp only[lay]at h⊢;exact lays_lies xs a b hp hs hh h
  |.tup xs,a,b,hp,hs,hh,h=>by
    simp only[lay]at h⊢;exact lays_lies xs a b hp hs hh h
  |.bool _,_,_,_,_,_,_ |.int _ _,_,_,_,_,_,_ |.str _,_,_,_,_,_,_ |.nilp,_,_,_,_,_,_ |.nils,_,_,_,_,_,_ |.nilm,_,_,_,_,_,_ |.nilf,_,_,_,_,_,_ |.nili,_,_,_,_,_,_=>by
    intro i o hi;simp[lay]at hi
  |.any,_,_,hp,_,_,_ |.ptr _ _ _,_,_,hp,_,_,_ |.slice _ _ _ _ _,_,_,hp,_,_,_ |.map _,_,_,hp,_,_,_ |.ept _ _,_,_,hp,_,_,_ |.fn _ _,_,_,hp,_,_,_ |.iface _ _,_,_,hp,_,_,_=>by cases hp
theorem lays_lies{hr hr':AH}:∀(xs:List AV)(a b:Nat),AV.pls xs=true→Sh2 ρ a ρ' b (AV.rowss xs)→(∀i x o,i<AV.rowss xs→ρ (a+i)=some (some x)→hr x=some o→hr' x=some o)→Lies ρ a (lays xs a).2 hr→Lies ρ' b (lays xs b).2 hr'
  |[],_,_,_,_,_,_=>by intro i o hi;simp[lays]at hi
  | x::xs,a,b,hp,hs,hh,h=>by
    simp only[AV.pls,Bool.and_eq_true]at hp;simp only[AV.rowss]at hs hh;simp only[lays,Lies.app,lay_len]at h⊢;exact⟨lay_lies x a b hp.1 (by simpa using hs.sub 0 x.rows (by omega)) (fun i y o hi=>hh i y o (by omega)) h.1,
      lays_lies xs _ _ hp.2 (hs.sub x.rows _ (by omega)) (fun i y o hi hy=>hh (x.rows+i) y o (by omega) (by rw[←Nat.add_assoc];exact hy)) h.2⟩
end
mutual
theorem lay_rows:∀(t:AV)(a i:Nat)(o:AObj),t.pl=true→(lay t a).2[i]?=some o→∃w xs b,o=.row w (lays xs b).1 true∧AV.pls xs=true
  |.lst w xs _,a,i,o,hp,h=>by
    simp only[lay]at h;cases i with
    | zero=>simp at h;subst h;exact⟨w,xs,a+1,rfl,hp⟩
    | succ i=>exact lays_rows xs (a+1) i o hp (by simpa using h)
  |.agg xs,a,i,o,hp,h=>by simp only[lay]at h;exact lays_rows xs a i o hp h
  |.tup xs,a,i,o,hp,h=>by simp only[lay]at h;exact lays_rows xs a i o hp h
  |.bool _,_,_,_,_,h |.int _ _,_,_,_,_,h |.str _,_,_,_,_,h |.nilp,_,_,_,_,h |.nils,_,_,_,_,h |.nilm,_,_,_,_,h |.nilf,_,_,_,_,h |.nili,_,_,_,_,h=>by
    simp[lay]at h
  |.any,_,_,_,hp,_ |.ptr _ _ _,_,_,_,hp,_ |.slice _ _ _ _ _,_,_,_,hp,_ |.map _,_,_,_,hp,_ |.ept _ _,_,_,_,hp,_ |.fn _ _,_,_,_,hp,_ |.iface _ _,_,_,_,hp,_=>by cases hp
theorem lays_rows:∀(xs:List AV)(a i:Nat)(o:AObj),AV.pls xs=true→(lays xs a).2[i]?=some o→∃w ys b,o=.row w (lays ys b).1 true∧AV.pls ys=true
  |[],_,_,_,_,h=>by simp[lays]at h
  | x::xs,a,i,o,hp,h=>by
    simp only[AV.pls,Bool.and_eq_true]at hp;simp only[lays]at h;rcases Nat.lt_or_ge i (lay x a).2.length with q | q
    · rw[List.getElem?_append_left q]at h;exact lay_rows x a i o hp.1 h
    · rw[List.getElem?_append_right q]at h;exact lays_rows xs _ _ o hp.2 h
end
end
variable {Γ:Nat→Option AFn} {g:Nat} {vs vs' as:List AV} {h:List AObj} {t t':AV}
def Fresh(Γ:Nat→Option AFn)(g:Nat)(as:List AV)(t:AV):Prop:=
  AV.trees as=true∧t.pl=true∧∀hr ar,RelVs ρ0 as ar→∃k r hr' ρ',Ex Γ k (.call g ar hr) (.res (.ok r) hr')∧RelH ρ' (lay t 0).2 hr'∧RelV ρ' (lay t 0).1 r∧Fm 0 ρ0 hr ρ' hr'
def both(ρ:Ren)(n:Nat)(ρ':Ren):Ren:=fun i=>if i<n then ρ i else ρ' (i-n)
theorem embed{ρ ρ':Ren}{hr h1 h2:AH}{r:AV}(hp:t.pl=true)(hH:RelH ρ h hr)(hH':RelH ρ' (lay t 0).2 h1)(hv:RelV ρ' (lay t 0).1 r)
    (hnew:∀i a,ρ' i=some (some a)→hr.fr a) (hold:∀a o,hr a=some o→h2 a=some o) (hsame:∀i a o,ρ' i=some (some a)→h1 a=some o→h2 a=some o) (hfr:∀a,h2.fr a→hr.fr a):
    RelH (both ρ h.length ρ') (h++(lay t h.length).2) h2∧RelV (both ρ h.length ρ') (lay t h.length).1 r∧Fm h.length ρ hr (both ρ h.length ρ') h2:=by
  have sh:Sh2 ρ' 0 (both ρ h.length ρ') h.length t.rows:=fun i hi=>by
    simp only[both,Nat.zero_add];rw[if_neg (by omega),Nat.add_sub_cancel_left]
  have lies:Lies ρ' 0 (lay t 0).2 h1:=fun i o hi=>by rw[Nat.zero_add];exact hH'.obj i o hi
  have lies2:Lies (both ρ h.length ρ') h.length (lay t h.length).2 h2:=lay_lies t 0 h.length hp sh (fun i x o _ hx ho=>hsame _ x o hx ho) lies;have lo:∀i,i<h.length→both ρ h.length ρ' i=ρ i:=fun i hi=>by simp only[both,if_pos hi]
  have hi':∀i,h.length≤i→both ρ h.length ρ' i=ρ' (i-h.length):=fun i hi=>by simp only[both];rw[if_neg (by omega)]
  have le:ρ.le (both ρ h.length ρ'):=fun i a hia=>by
    have:i<h.length:=by
      rcases Nat.lt_or_ge i h.length with q | q
      · exact q
      · rw[hH.out i q]at hia;cases hia
    rw[lo i this];exact hia
  refine⟨⟨fun i o hi=> ?_,fun i j a o o' h1' h2' hi hj d1 d2=> ?_,fun i hi=> ?_,fun i a ha=> ?_⟩,lay_rel t 0 h.length r hp sh hv,⟨fun a o ho _=>hold a o ho,fun i a ha=> ?_,hfr,fun i hi=>lo i hi⟩⟩
  · rcases Nat.lt_or_ge i h.length with q | q
    · rw[List.getElem?_append_left q]at hi;exact(hH.obj i o hi).mono le fun a o' _ ho=>hold a o' ho
    · rw[List.getElem?_append_right q]at hi;have:=lies2 _ _ hi;rwa[show h.length+(i-h.length)=i by omega]at this
  · have get0:∀{i:Nat}{o:AObj},(lay t h.length).2[i]?=some o→∃o2,(lay t 0).2[i]?=some o2∧o2≠.dead:=fun{i o} hio=>by
      have hl:i<(lay t 0).2.length:=by
        have:=(List.getElem?_eq_some_iff.1 hio).1;rw[lay_len]at this⊢;exact this
      refine⟨_,List.getElem?_eq_getElem hl, ?_⟩;obtain⟨w,xs,b,e,_⟩:=lay_rows t 0 i _ hp (List.getElem?_eq_getElem hl);rw[e];simp
    rcases Nat.lt_or_ge i h.length with q1 | q1<;>rcases Nat.lt_or_ge j h.length with q2 | q2
    · rw[lo i q1]at h1';rw[lo j q2]at h2';rw[List.getElem?_append_left q1]at hi;rw[List.getElem?_append_left q2]at hj;exact hH.inj i j a o o' h1' h2' hi hj d1 d2
    · rw[lo i q1]at h1';rw[hi' j q2]at h2';obtain⟨x,hx⟩:=hH.is i a h1';have:=(hnew _ a h2').1;rw[this]at hx;cases hx
    · rw[hi' i q1]at h1';rw[lo j q2]at h2';obtain⟨x,hx⟩:=hH.is j a h2';have:=(hnew _ a h1').1;rw[this]at hx;cases hx
    · rw[hi' i q1]at h1';rw[hi' j q2]at h2';rw[List.getElem?_append_right q1]at hi;rw[List.getElem?_append_right q2]at hj;obtain⟨o2,g1,g2⟩:=get0 hi;obtain⟨o3,g3,g4⟩:=get0 hj;have:=hH'.inj _ _ a o2 o3 h1' h2' g1 g3 g2 g4;omega
  · simp only[List.length_append,lay_len]at hi;rw[hi' i (by omega)];exact hH'.out _ (by rw[lay_len];omega)
  · rcases Nat.lt_or_ge i h.length with q | q
    · rw[lo i q]at ha;obtain⟨o,ho⟩:=hH.is i a ha;exact⟨o,hold a o ho⟩
    · rw[hi' i q]at ha;obtain⟨o,ho⟩:=hH'.is _ a ha;exact⟨o,hsame _ a o ha ho⟩
  · rcases Nat.lt_or_ge i h.length with q | q
    · rw[lo i q]at ha;exact .inl ⟨i,ha⟩
    · rw[hi' i q]at ha;exact .inr (hnew _ a ha)
theorem Fm.new0{ρ':Ren}{hr hr':AH}(h:Fm 0 ρ0 hr ρ' hr'){i a:Nat}(ha:ρ' i=some (some a)):hr.fr a:=by
  rcases h.new i a ha with⟨j,hj⟩ | q
  · cases hj
  · exact q
theorem SCallK.fresh{K:AV→List AObj→Prop}(hp:Fresh Γ g vs t)(hk:K (lay t h.length).1 (h++(lay t h.length).2)):SCallK Γ g vs h K:=fun ρ hr ar hH hv=>by
  unfold Fresh at hp;obtain⟨t1,t2,hp⟩:=hp;obtain⟨k,r,hr',ρ',h1,h2,h3,h4⟩:=hp hr ar (trees_any _ _ t1 hv);obtain⟨q1,q2,q3⟩:=embed (h2:=hr') t2 hH h2 h3 (fun i a ha=>h4.new0 ha) (fun a o ho=>h4.pres a o ho (fun i hi=>by cases hi)) (fun _ _ _ _ ho=>ho) h4.fr;exact⟨k,r,hr',_,_,_,h1,hk,q1,q2,q3,by simp,fun a o ho=>h4.pres a o ho (fun i hi=>by cases hi)⟩
theorem SCall.fresh{K:AV→List AObj→Prop}(hp:Fresh Γ g vs t)(hk:K (lay t h.length).1 (h++(lay t h.length).2)):SCall Γ g vs h K:=fun ρ hr ar hH hv=>by
  unfold Fresh at hp;obtain⟨t1,t2,hp⟩:=hp;obtain⟨k,r,hr',ρ',h1,h2,h3,h4⟩:=hp hr ar (trees_any _ _ t1 hv);obtain⟨q1,q2,q3⟩:=embed (h2:=hr') t2 hH h2 h3 (fun i a ha=>h4.new0 ha) (fun a o ho=>h4.pres a o ho (fun i hi=>by cases hi)) (fun _ _ _ _ ho=>ho) h4.fr;exact⟨k,r,hr',_,_,_,h1,hk,q1,q2,q3,by simp⟩
end Go.Ab
