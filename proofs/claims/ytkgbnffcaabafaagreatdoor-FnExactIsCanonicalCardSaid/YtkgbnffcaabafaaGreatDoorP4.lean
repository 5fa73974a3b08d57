/- Texts AbL .. AbS: the abstract machine, its laws and contracts of functions: lemmas for the statement. No condition. -/
import Derived.Attr
import Derived.IntWalk
import Derived.KernelRfl
import Derived.Test.YtkgbnffcaabafaaGreatDoorP0
set_option linter.unusedSimpArgs false
set_option linter.unusedVariables false
namespace Go.Ab
open Go
variable {Γ:Nat->Option AFn}
theorem Ex.le{k:Nat}{j:Job}{r:Out}(h:Ex Γ k j r):∀{k'},k<=k'->Ex Γ k' j r:=by
 induction h with
 | nil=>exact fun _=>.nil
 | skip hw _ ih=>exact fun hk=>.skip hw (ih hk)
 | step hw hs hc _ ih=>exact fun hk=>.step hw hs hc (ih hk)
 | call hw he _ hc _ ih1 ih2=>exact fun hk=>.call hw he (ih1 hk) hc (ih2 hk)
 | callP hw he _ ih=>exact fun hk=>.callP hw he (ih hk)
 | panic hw he hv=>exact fun _=>.panic hw he hv
 | cskip=>exact fun _=>.cskip
 | reg _ hp ih=>exact fun hk=>.reg (ih hk) hp
 | seqN _ _ ih1 ih2=>exact fun hk=>.seqN (ih1 hk) (ih2 hk)
 | seqX _ he ih=>exact fun hk=>.seqX (ih hk) he
 | cond hc _ ih=>exact fun hk=>.cond hc (ih hk)
 | blk _ ih=>exact fun hk=>.blk (ih hk)
 | loopN _ _ ih1 ih2=>exact fun hk=>.loopN (ih1 hk) (ih2 hk)
 | loopX _ he ih=>exact fun hk=>.loopX (ih hk) he
 | exit=>exact fun _=>.exit
 | ret=>exact fun _=>.ret
 | rng hx hn _ ih=>exact fun hk=>.rng hx hn (ih hk)
 | rnd0=>exact fun _=>.rnd0
 | rndS _ _ _ ih1 ih2 ih3=>exact fun hk=>.rndS (ih1 hk) (ih2 hk) (ih3 hk)
 | @fn k g F as h st e vs hg hn _ he hr ih=>
  intro k' hk;cases k' with
  | zero=>omega
  | succ k'=>exact .fn hg hn (ih (by omega)) he hr
 | @fnP k g F as h st v hg hn _ ih=>
  intro k' hk;cases k' with
  | zero=>omega
  | succ k'=>exact .fnP hg hn (ih (by omega))
 | tryX hg hn _ _ _ _ hr i0 i1 i2 i3=>
  intro k' hk;cases k' with
  | zero=>omega
  | succ k'=>exact .tryX hg hn (i0 (by omega)) (i1 (by omega)) (i2 (by omega)) (i3 (by omega)) hr
 | tryV hg hn _ _ _ _ hc _ _ _ hx _ he hr i0 i1 i2 i3 i4 i5 i6 i7=>
  intro k' hk;cases k' with
  | zero=>omega
  | succ k'=>exact .tryV hg hn (i0 (by omega)) (i1 (by omega)) (i2 (by omega)) (i3 (by omega)) hc (i4 (by omega)) (i5 (by omega)) (i6 (by omega)) hx (i7 (by omega)) he hr
 | tryP hg hn _ _ _ _ hc _ _ _ hr i0 i1 i2 i3 i4 i5 i6=>
  intro k' hk;cases k' with
  | zero=>omega
  | succ k'=>exact .tryP hg hn (i0 (by omega)) (i1 (by omega)) (i2 (by omega)) (i3 (by omega)) hc (i4 (by omega)) (i5 (by omega)) (i6 (by omega)) hr
 | tryF hg hn _ _ _ _ hc _ _ _ hx _ _ hr i0 i1 i2 i3 i4 i5 i6 i7 i8=>
  intro k' hk;cases k' with
  | zero=>omega
  | succ k'=>exact .tryF hg hn (i0 (by omega)) (i1 (by omega)) (i2 (by omega)) (i3 (by omega)) hc (i4 (by omega)) (i5 (by omega)) (i6 (by omega)) hx (i7 (by omega)) (i8 (by omega)) hr
 | ext hg hr=>exact fun _=>.ext hg hr
 | frz K hf _ ih=>exact fun hk=>.frz K hf (ih hk)
 | cvh K id w el el' rw' hK hid ho hl hc _ ih=>exact fun hk=>.cvh K id w el el' rw' hK hid ho hl hc (ih hk)
 | frzA K hK hl hc _ ih=>exact fun hk=>.frzA K hK hl hc (ih hk)
 | frzR K hK hc _ ih=>exact fun hk=>.frzR K hK hc (ih hk)
 | brw K hK hl hc ht _ ih=>exact fun hk=>.brw K hK hl hc ht (ih hk)
 | nilc id hid hh1 hh2 ht _ _ ih1 ih2=>exact fun hk=>.nilc id hid hh1 hh2 ht (ih1 hk) (ih2 hk)
 | brn K S hK hl hc hv hn _ ih=>exact fun hk=>.brn K S hK hl hc hv hn (ih hk)
 | drop hh ht _ ih=>exact fun hk=>.drop hh ht (ih hk)
 | trim n ho _ ih=>exact fun hk=>.trim n ho (ih hk)
section
variable {st:St} {Q:qS->St->Prop}
end
end Go.Ab
namespace Go.Ab
open Go
abbrev qf:=List (Nat×AV)
def get:qf->Nat->Option AV
 |[],_=>none
 | (k,v)::r,n=>if k=n then some v else get r n
def toE(s:qf):Env:=fun n=>get s n
structure VSt where
 s:qf
 l:qf
 h:List qC
def toH(h:List qC):AH:=⟨fun i=>h[i]?,fun _=>false,h.length,fun _i hi=>⟨gEn hi,rfl⟩⟩
theorem qgN(h:List qC)(i:Nat):(toH h) i=h[i]?:=rfl
abbrev Ren:=Nat->Option (Option Nat)
mutual
def RelV(ρ:Ren):AV->AV->Prop
 |.ptr id i j,r=>∃id',ρ id=some (some id')/\r=.ptr id' i j
 |.slice w id off len clip,r=>(∃id',ρ id=some (some id')/\r=.slice w id' off len clip)\/(ρ id=some none/\off=0/\len=0/\(r=.nils\/r=.lst w [] true))
 |.lst w xs clip,r=>(∃ys c,r=.lst w ys c/\(clip=true->c=true)/\RelVs ρ xs ys)\/(xs=[]/\r=.nils)
 |.ept x j,r=>∃y,r=.ept y j/\RelV ρ x y
 |.map id,r=>∃id',ρ id=some (some id')/\r=.map id'
 |.fn g cs,r=>∃ds,r=.fn g ds/\RelVs ρ cs ds
 |.iface t x,r=>∃y,r=.iface t y/\RelV ρ x y
 |.agg cs,r=>∃ds,r=.agg ds/\RelVs ρ cs ds
 |.tup cs,r=>∃ds,r=.tup ds/\RelVs ρ cs ds
 |.bool b,r=>r=.bool b
 |.int k n,r=>r=.int k n
 |.str s,r=>r=.str s
 |.nilp,r=>r=.nilp
 |.nils,r=>r=.nils
 |.nilm,r=>r=.nilm
 |.nilf,r=>r=.nilf
 |.nili,r=>r=.nili
 |.any,r=>r=.any
def RelVs(ρ:Ren):List AV->List AV->Prop
 |[],r=>r=[]
 | a::as,r=>∃b bs,r=b::bs/\RelV ρ a b/\RelVs ρ as bs
end
def Ren.le(ρ ρ':Ren):Prop:=∀i a,ρ i=some a->ρ' i=some a
section
variable {ρ ρ':Ren}
theorem RelVs.length:∀{as bs:List AV},RelVs ρ as bs->bs.length=as.length
 |[],_,h=>by simp only[RelVs]at h;simp[h]
 | a::as,_,h=>by
  simp only[RelVs]at h;obtain⟨b,bs,rfl,_,h3⟩:=h;simp[RelVs.length h3]
theorem RelVs.iff:∀{as bs:List AV},RelVs ρ as bs↔bs.length=as.length/\∀(i:Nat)(a b:AV),as[i]?=some a->bs[i]?=some b->RelV ρ a b
 |[],bs=>by
  simp only[RelVs];constructor
  ·rintro rfl;exact⟨rfl,fun i a v h=>by simp at h⟩
  ·rintro⟨h,_⟩;exact lEz (by simpa using h)
 | a::as,bs=>by
  simp only[RelVs];constructor
  ·rintro⟨u,us,rfl,h2,h3⟩;have:=(RelVs.iff).1 h3;refine⟨by simp[this.1],fun i x y hx hy=> ?_⟩;cases i with
   | zero=>simp at hx hy;subst hx hy;exact h2
   | succ i=>exact this.2 i x y (by simpa using hx) (by simpa using hy)
  ·rintro⟨h1,h2⟩;cases bs with
   | nil=>simp at h1
   | cons u us=>
    refine⟨u,us,rfl,h2 0 a u rfl rfl,(RelVs.iff).2 ⟨by simpa using h1,fun i x y hx hy=>h2 (i+1) x y (by simpa using hx) (by simpa using hy)⟩⟩
theorem RelVs.get{as bs:List AV}(h:RelVs ρ as bs){i:Nat}{a:AV}(ha:as[i]?=some a):∃b,bs[i]?=some b/\RelV ρ a b:=by
 rw[RelVs.iff]at h;have hi:i<bs.length:=by rw[h.1];exact(gSi.1 ha).1
 exact⟨bs[i],gEg hi,h.2 i a _ ha (gEg hi)⟩
theorem RelVs.append{as bs us vs:List AV}(h:RelVs ρ as us)(k:RelVs ρ bs vs):RelVs ρ (as++bs) (us++vs):=by
 induction as generalizing us with
 | nil=>simp only[RelVs]at h;subst h;simpa using k
 | cons a as ih=>
  simp only[RelVs]at h;obtain⟨u,us,rfl,h2,h3⟩:=h;simp only[lCa,RelVs];exact⟨u,us++vs,rfl,h2,ih h3⟩
theorem RelVs.take{as us:List AV}(h:RelVs ρ as us)(n:Nat):RelVs ρ (as.take n) (us.take n):=by
 rw[RelVs.iff]at h|-;refine⟨by simp[h.1],fun i a v ha hv=> ?_⟩;rw[gTk]at ha hv;split at ha
 ·rename_i hi;rw[if_pos hi]at hv;exact h.2 i a v ha hv
 ·cases ha
theorem RelVs.drop{as us:List AV}(h:RelVs ρ as us)(n:Nat):RelVs ρ (as.drop n) (us.drop n):=by
 rw[RelVs.iff]at h|-;refine⟨by simp[h.1],fun i a v ha hv=> ?_⟩;rw[gDr]at ha hv;exact h.2 _ a v ha hv
theorem RelVs.set{as us:List AV}{x y:AV}(h:RelVs ρ as us)(n:Nat)(hx:RelV ρ x y):RelVs ρ (as.set n x) (us.set n y):=by
 rw[RelVs.iff]at h|-;refine⟨by simp[h.1],fun i a v ha hv=> ?_⟩;rw[gSt]at ha hv;split at ha
 ·rename_i hi;rw[if_pos hi]at hv;subst hi;rw[h.1]at hv;split at ha
  ·rename_i hl;rw[if_pos hl]at hv;cases ha;cases hv;exact hx
  ·cases ha
 ·rename_i hi;rw[if_neg hi]at hv;exact h.2 i a v ha hv
theorem RelVs.one{x y:AV}(h:RelV ρ x y):RelVs ρ [x] [y]:=by simp only[RelVs];exact⟨y,[],rfl,h,rfl⟩
theorem RelVs.replicate{x y:AV}(h:RelV ρ x y)(n:Nat):RelVs ρ (List.replicate n x) (List.replicate n y):=by
 rw[RelVs.iff];refine⟨by simp,fun i a v ha hv=> ?_⟩;rw[List.getElem?_replicate]at ha hv;split at ha
 ·rename_i hi;rw[if_pos hi]at hv;cases ha;cases hv;exact h
 ·cases ha
mutual
theorem RelV.mono(hρ:∀i a,ρ i=some a->ρ' i=some a):∀(a b:AV),RelV ρ a b->RelV ρ' a b
 |.bool _,_,h=>by simpa only [RelV]using h
 |.int _ _,_,h=>by simpa only [RelV]using h
 |.str _,_,h=>by simpa only [RelV]using h
 |.nilp,_,h=>by simpa only [RelV]using h
 |.nils,_,h=>by simpa only [RelV]using h
 |.nilm,_,h=>by simpa only [RelV]using h
 |.nilf,_,h=>by simpa only [RelV]using h
 |.nili,_,h=>by simpa only [RelV]using h
 |.any,_,h=>by simpa only [RelV]using h
 |.ptr _ _ _,_,h=>by
  simp only[RelV]at h|-;obtain⟨p,h1,h2⟩:=h;exact⟨p,hρ _ _ h1,h2⟩
 |.map _,_,h=>by
  simp only[RelV]at h|-;obtain⟨p,h1,h2⟩:=h;exact⟨p,hρ _ _ h1,h2⟩
 |.slice _ _ _ _ _,_,h=>by
  simp only[RelV]at h|-;rcases h with⟨p,h1,h2⟩ | ⟨h1,h2⟩
  ·exact .inl ⟨p,hρ _ _ h1,h2⟩
  ·exact .inr ⟨hρ _ _ h1,h2⟩
 |.lst w xs _,_,h=>by
  simp only[RelV]at h|-;rcases h with⟨ys,c,h1,h2,h3⟩ | h
  ·exact .inl ⟨ys,c,h1,h2,RelVs.mono hρ xs ys h3⟩
  ·exact .inr h
 |.ept x _,_,h=>by
  simp only[RelV]at h|-;obtain⟨y,h1,h2⟩:=h;exact⟨y,h1,RelV.mono hρ x y h2⟩
 |.fn _ cs,_,h=>by
  simp only[RelV]at h|-;obtain⟨ds,h1,h2⟩:=h;exact⟨ds,h1,RelVs.mono hρ cs _ h2⟩
 |.iface _ x,_,h=>by
  simp only[RelV]at h|-;obtain⟨u,h1,h2⟩:=h;exact⟨u,h1,RelV.mono hρ x u h2⟩
 |.agg cs,_,h=>by
  simp only[RelV]at h|-;obtain⟨ds,h1,h2⟩:=h;exact⟨ds,h1,RelVs.mono hρ cs _ h2⟩
 |.tup cs,_,h=>by
  simp only[RelV]at h|-;obtain⟨ds,h1,h2⟩:=h;exact⟨ds,h1,RelVs.mono hρ cs _ h2⟩
theorem RelVs.mono(hρ:∀i a,ρ i=some a->ρ' i=some a):∀(as bs:List AV),RelVs ρ as bs->RelVs ρ' as bs
 |[],_,h=>by simpa only [RelVs]using h
 | a::as,bs,h=>by
  simp only[RelVs]at h|-;obtain⟨b,bs,h1,h2,h3⟩:=h;exact⟨b,bs,h1,RelV.mono hρ a b h2,RelVs.mono hρ as bs h3⟩
end
mutual
theorem jq:∀(a:AV),a.tree=true->RelV ρ a a
 |.bool _,_ |.int _ _,_ |.str _,_ |.nilp,_ |.nils,_ |.nilm,_ |.nilf,_ |.nili,_=>by simp only[RelV]
 |.any,h=>by simp[AV.tree]at h
 |.ptr _ _ _,h=>by simp[AV.tree]at h
 |.map _,h=>by simp[AV.tree]at h
 |.slice _ _ _ _ _,h=>by simp[AV.tree]at h
 |.lst w xs c,h=>by simp only[RelV];simp only[AV.tree]at h;exact .inl ⟨xs,c,rfl,id,ZR xs h⟩
 |.ept x _,h=>by simp only[RelV];simp only[AV.tree]at h;exact⟨x,rfl,jq x h⟩
 |.iface _ x,h=>by simp only[RelV];simp only[AV.tree]at h;exact⟨x,rfl,jq x h⟩
 |.fn _ cs,h=>by simp only[RelV];simp only[AV.tree]at h;exact⟨cs,rfl,ZR cs h⟩
 |.agg cs,h=>by simp only[RelV];simp only[AV.tree]at h;exact⟨cs,rfl,ZR cs h⟩
 |.tup cs,h=>by simp only[RelV];simp only[AV.tree]at h;exact⟨cs,rfl,ZR cs h⟩
theorem ZR:∀(as:List AV),AV.trees as=true->RelVs ρ as as
 |[],_=>by simp only[RelVs]
 | a::as,h=>by
  simp only[RelVs];simp only[AV.trees,bAt]at h;exact⟨a,as,rfl,jq a h.1,ZR as h.2⟩
end
theorem RelV.cells{a b:AV}(h:RelV ρ a b):RelVs ρ a.cells b.cells:=by
 cases a
 case agg cs=>simp only[RelV]at h;obtain⟨ds,rfl,h⟩:=h;exact h
 case tup cs=>simp only[RelV]at h;obtain⟨ds,rfl,h⟩:=h;simp only[AV.cells,RelVs]
 case any=>simp only[RelV]at h;subst h;simp only[AV.cells,RelVs]
 all_goals
  have hh:=h;simp only[RelV]at hh
  first
   | (subst hh;exact RelVs.one h)
   | (rcases hh with⟨_,_,rfl⟩ | ⟨_,_,_,rfl | rfl⟩;exact RelVs.one h;exact RelVs.one h;exact RelVs.one h)
   | (rcases hh with⟨_,_,rfl,_⟩ | ⟨_,rfl⟩;exact RelVs.one h;exact RelVs.one h)
   | (obtain⟨_,_,rfl⟩:=hh;exact RelVs.one h)
   | (obtain⟨_,rfl,_⟩:=hh;exact RelVs.one h)
theorem RelV.cellsLen{a b:AV}(h:RelV ρ a b):b.cells.length=a.cells.length:=h.cells.length
theorem RelV.part{a b x:AV}{j:Nat}{sh:Option Nat}(h:RelV ρ a b)(hp:a.part j sh=some x):∃y,b.part j sh=some y/\RelV ρ x y:=by
 have hc:=h.cells;cases sh with
 | none=>
  simp only[AV.part]at hp|-;exact hc.get hp
 | some k=>
  simp only[AV.part]at hp|-;split at hp
  ·rename_i hk;cases hp;rw[if_pos (by rw[hc.length];exact hk)];refine⟨_,rfl, ?_⟩;simp only[RelV];exact⟨_,rfl,(hc.drop j).take k⟩
  ·cases hp
theorem RelV.put{a b x y a':AV}{j:Nat}(h:RelV ρ a b)(hx:RelV ρ x y)(hp:a.put j x=some a'):∃b',b.put j y=some b'/\RelV ρ a' b':=by
 have hcl:=hx.cellsLen;by_cases hag:∃cs,a=.agg cs
 ·obtain⟨cs,rfl⟩:=hag;simp only[RelV]at h;obtain⟨ds,rfl,h⟩:=h;simp only[AV.put]at hp|-;split at hp
  ·rename_i hk;cases hp;rw[if_pos (by rw[hcl,h.length];exact hk)];refine⟨_,rfl, ?_⟩;simp only[RelV];refine⟨_,rfl,(h.take j).append (hx.cells.append ?_)⟩;rw[hcl];exact h.drop _
  ·cases hp
 ·have ha:a.put j x=if j=0/\a.cells.length=1 then(match x.cells with |[y]=>some y | _=>none)else none:=by
   cases a<;>first | rfl | exact absurd ⟨_,rfl⟩ hag
  have hb:b.put j y=if j=0/\b.cells.length=1 then(match y.cells with |[y]=>some y | _=>none)else none:=by
   have:¬∃ds,b=.agg ds:=by
    rintro⟨ds,rfl⟩;cases a<;>simp[RelV]at h;exact hag ⟨_,rfl⟩
   cases b<;>first | rfl | exact absurd ⟨_,rfl⟩ this
  rw[ha]at hp;rw[hb,h.cellsLen];split at hp
  ·rename_i hk;rw[if_pos hk];have hxc:=hx.cells;split at hp
   ·rename_i z hz;cases hp;rw[hz]at hxc;simp only[RelVs]at hxc;obtain⟨b',bs,q1,q2,rfl⟩:=hxc;rw[q1];exact⟨b',rfl,q2⟩
   ·cases hp
  ·cases hp
end
def RelEs(ρ:Ren)(es es':List (AV×AV)):Prop:=RelVs ρ (es.map (·.1)) (es'.map (·.1))/\RelVs ρ (es.map (·.2)) (es'.map (·.2))
def RelO(ρ:Ren)(i:Nat)(hr:AH):qC->Prop
 |.dead=>True
 |.row w el rw=>(ρ i=some none/\el=[]/\rw=true)\/∃i' el',ρ i=some (some i')/\hr i'=some (.row w el' rw)/\RelVs ρ el el'
 |.map es=>∃i' es',ρ i=some (some i')/\hr i'=some (.map es')/\RelEs ρ es es'
structure qw(ρ:Ren)(h:List qC)(hr:AH):Prop where
 obj:∀i o,h[i]?=some o->RelO ρ i hr o
 inj:∀i j a o o',ρ i=some (some a)->ρ j=some (some a)->h[i]?=some o->h[j]?=some o'->o≠.dead->o'≠.dead->i=j
 out:∀i,h.length<=i->ρ i=none
 is:∀i a,ρ i=some (some a)->∃o,hr a=some o
def RelE(ρ:Ren)(s:qf)(e:Env):Prop:=∀n v,get s n=some v->∃r,lk e n=some r/\RelV ρ v r
structure qt(ρ:Ren)(st:VSt)(sr:St):Prop where
 s:RelE ρ st.s sr.s
 l:RelE ρ st.l sr.l
 h:qw ρ st.h sr.h
def Ao.ok:Ao->Bool
 |.c v=>v.tree
 | _=>true
def Ao.ok?:Option Ao->Bool
 | some x=>x.ok
 | none=>true
def AOp.ok:AOp->Bool
 |.mov x |.nilchk x |.isnil _ _ x |.not x |.neg x |.conv _ x |.b2s x |.faddr _ x |.fld _ _ x |.ext x _ |.len x |.slen x |.panic x |.mkif _ x |.load _ x |.lbox _ x |.hbox _ x |.lstore _ _ _ x=>x.ok
 |.pick a b c=>a.ok&&b.ok&&c.ok
 |.lalloc z |.halloc _ z |.hallt _ z=>z.tree
 |.build z ps=>z.tree&&ps.all fun p=>p.2.2.ok
 |.bslice _ z _ ps=>z.tree&&ps.all fun p=>p.2.ok
 |.lload _ _ _ |.nop _ |.mkmap=>true
 |.store2 _ x y z=>x.ok&&(y.ok&&z.ok)
 |.store _ x y |.bin _ x y |.sop _ x y |.beq _ x y |.seq _ _ x y |.iaddr _ x y |.sidx x y |.aidx _ _ _ x y |.app _ x y |.appt _ x y |.max x y |.min x y=>x.ok&&y.ok
 |.mksl _ z x y=>z.tree&&x.ok&&y.ok
 |.slc _ x a b c=>x.ok&&Ao.ok? a&&Ao.ok? b&&Ao.ok? c
 |.sslc x a b=>x.ok&&Ao.ok? a&&Ao.ok? b
 |.mkfn _ xs=>xs.all Ao.ok
 |.call _ xs=>xs.all Ao.ok
 |.callv x xs=>x.ok&&xs.all Ao.ok
 |.looks z x y _=>z.tree&&x.ok&&y.ok
 |.mupds x y z=>x.ok&&y.ok&&z.ok
section
variable {ρ:Ren} {s l:qf} {h:List qC} {es el:Env} {hr:AH}
theorem qv(hs:RelE ρ s es){x:Ao}(hx:x.ok=true){v:AV}(hv:ev (toE s) x=some v):∃r,ev es x=some r/\RelV ρ v r:=by
 cases x with
 | t n=>exact hs n v hv
 | c c=>cases hv;exact⟨_,rfl,jq _ hx⟩
 | f g=>cases hv;exact⟨_,rfl,by simp only[RelV];exact⟨[],rfl,by simp only[RelVs]⟩⟩
theorem Xt(hs:RelE ρ s es):∀{xs:List Ao},xs.all Ao.ok=true->∀{vs:List AV},evs (toE s) xs=some vs->∃rs,evs es xs=some rs/\RelVs ρ vs rs
 |[],_,vs,hv=>by cases hv;exact⟨[],rfl,by simp only[RelVs]⟩
 | x::xs,hx,vs,hv=>by
  simp only[lAc,bAt]at hx;simp only[evs]at hv;split at hv
  ·rename_i v vs' h1 h2;cases hv;obtain⟨r,q1,q2⟩:=qv hs hx.1 h1;obtain⟨rs,q3,q4⟩:=Xt hs hx.2 h2;refine⟨r::rs,by simp only[evs,q1,q3], ?_⟩;simp only[RelVs];exact⟨r,rs,rfl,q2,q4⟩
  ·cases hv
theorem wL(hs:RelE ρ s es){x:Ao}(hx:x.ok=true){k:IntKind}{n:Int}(hv:ev (toE s) x=some (.int k n)):ev es x=some (.int k n):=by
 obtain⟨r,h1,h2⟩:=qv hs hx hv;simp only[RelV]at h2;rw[h1,h2]
theorem QI(hs:RelE ρ s es){x:Ao}(hx:x.ok=true){b:Bool}(hv:ev (toE s) x=some (.bool b)):ev es x=some (.bool b):=by
 obtain⟨r,h1,h2⟩:=qv hs hx hv;simp only[RelV]at h2;rw[h1,h2]
theorem Wa(hs:RelE ρ s es){x:Ao}(hx:x.ok=true){b:List UInt8}(hv:ev (toE s) x=some (.str b)):ev es x=some (.str b):=by
 obtain⟨r,h1,h2⟩:=qv hs hx hv;simp only[RelV]at h2;rw[h1,h2]
theorem jw(hs:RelE ρ s es){x:Option Ao}(hx:Ao.ok? x=true){a b c n:Nat}(hv:bnd (toE s) x a b c=some n):bnd es x a b c=some n:=by
 cases x with
 | none=>exact hv
 | some x=>
  simp only[bnd]at hv|-;split at hv
  ·rename_i k m hk;rw[wL hs hx hk];exact hv
  ·cases hv
theorem qbU(hh:qw ρ h hr){v r:AV}(hv:RelV ρ v r){xs:List (AV×AV)}(he:wK (toH h) v=some xs):∃ys,wK hr r=some ys/\RelEs ρ xs ys:=by
 cases v<;>simp only[wK,reduceCtorEq]at he
 case nilm=>simp only[RelV]at hv;subst hv;cases he;exact⟨[],rfl,by simp[RelEs,RelVs]⟩
 case map id=>
  simp only[RelV]at hv;obtain⟨id',h1,rfl⟩:=hv;simp only[wK];split at he
  ·rename_i es ho;cases he;obtain⟨i',es',q1,q2,q3⟩:=hh.obj _ _ ho;rw[h1]at q1;cases q1;rw[q2];exact⟨es',rfl,q3⟩
  ·cases he
theorem qVB{a b a' b':AV}{t:Bool}(hk:JV a b=some t)(ha:RelV ρ a a')(hb:RelV ρ b b'):JV a' b'=some t:=by
 cases a<;>cases b<;>simp only[JV,reduceCtorEq]at hk<;>simp only[RelV]at ha hb<;>subst ha hb<;>exact hk
theorem Wd{k k':AV}(hk:RelV ρ k k'):∀{xs ys:List (AV×AV)}{n:Nat}{r:Option (Nat×AV)},RelEs ρ xs ys->jB k xs n=some r->
  (r=none/\jB k' ys n=some none)\/∃i v v',r=some (i,v)/\jB k' ys n=some (some (i,v'))/\RelV ρ v v'
 |[],ys,n,r,h,hf=>by
  obtain⟨h1,_⟩:=h;have:ys=[]:=by simpa using h1.length
  subst this;simp only[jB]at hf;split at hf
  ·cases hf;simp only[RelV]at hk;subst hk;exact .inl ⟨rfl,rfl⟩
  ·cases hf
 | (a,v)::xs,ys,n,r,h,hf=>by
  obtain⟨h1,h2⟩:=h;cases ys with
  | nil=>have:=h1.length;simp at this
  | cons y ys=>
   obtain⟨a',v'⟩:=y;simp only[lMc,RelVs,List.cons.injEq]at h1 h2;obtain⟨_,_,⟨rfl,rfl⟩,q1,q2⟩:=h1;obtain⟨_,_,⟨rfl,rfl⟩,q3,q4⟩:=h2;simp only[jB]at hf|-;split at hf
   ·rename_i hq;cases hf;rw[qVB hq hk q1];exact .inr ⟨n,v,v',rfl,rfl,q3⟩
   ·rename_i hq;rw[qVB hq hk q1];exact Wd hk ⟨q2,q4⟩ hf
   ·cases hf
theorem kC(hh:qw ρ h hr){v r:AV}(hv:RelV ρ v r){xs:List AV}(he:zO (toH h) v=some xs):∃ys,zO hr r=some ys/\RelVs ρ xs ys:=by
 cases v<;>simp only[zO,reduceCtorEq]at he
 case nils=>simp only[RelV]at hv;subst hv;cases he;exact⟨[],rfl,by simp only[RelVs]⟩
 case str a=>simp only[RelV]at hv;subst hv;cases he;exact⟨_,rfl,ZR _ (by induction a with | nil=>rfl | cons x a ih=>simpa[AV.trees,AV.tree]using ih)⟩
 case lst w xs c=>
  cases he;simp only[RelV]at hv;rcases hv with⟨ys,c',rfl,_,h2⟩ | ⟨rfl,rfl⟩
  ·exact⟨ys,rfl,h2⟩
  ·exact⟨[],rfl,by simp only[RelVs]⟩
 case slice w id off len clip=>
  simp only[RelV]at hv;split at he
  ·rename_i h0;cases he;subst h0;rcases hv with⟨id',h1,rfl⟩ | ⟨h1,rfl,_,rfl | rfl⟩<;>exact⟨[],by simp[zO],by simp only[RelVs]⟩
  split at he
  ·rename_i w' el rw' ho;split at he
   ·rename_i hl;cases he;rcases hv with⟨id',h1,rfl⟩ | ⟨h1,rfl,rfl,rfl | rfl⟩
    ·rcases hh.obj _ _ ho with⟨q,_⟩ | ⟨i',el',q1,q2,q3⟩
     ·rw[q]at h1;cases h1
     ·rw[h1]at q1;cases q1;rw[Xp q2 (by rw[q3.length];exact hl)];exact⟨_,rfl,(q3.drop off).take len⟩
    ·exact⟨[],rfl,by simp[RelVs]⟩
    ·exact⟨[],rfl,by simp[RelVs]⟩
   ·cases he
  ·cases he
theorem qS7(hs:RelE ρ s es):∀{ps:List (Nat×Nat×Ao)},(ps.all fun p=>p.2.2.ok)=true->∀{z z' v:AV},RelV ρ z z'->jJ (toE s) z ps=some v->∃r,jJ es z' ps=some r/\RelV ρ v r
 |[],_,z,z',v,hz,hb=>by cases hb;exact⟨z',rfl,hz⟩
 | (off,sz,x)::ps,hp,z,z',v,hz,hb=>by
  simp only[lAc,bAt]at hp;simp only[jJ]at hb;split at hb
  ·rename_i a ha;obtain⟨a',h1,h2⟩:=qv hs hp.1 ha;split at hb
   ·rename_i hl;split at hb
    ·rename_i z2 hz2;obtain⟨z2',h3,h4⟩:=hz.put h2 hz2;obtain⟨r,h5,h6⟩:=qS7 hs hp.2 h4 hb;refine⟨r, ?_,h6⟩;simp only[jJ,h1];rw[if_pos (by rw[h2.cellsLen];exact hl),h3];exact h5
    ·cases hb
   ·cases hb
  ·cases hb
theorem qUO(hs:RelE ρ s es){w:Nat}:∀{ps:List (Nat×Ao)},(ps.all fun p=>p.2.ok)=true->∀{z z' v:List AV},RelVs ρ z z'->zH (toE s) w z ps=some v->∃r,zH es w z' ps=some r/\RelVs ρ v r
 |[],_,z,z',v,hz,hb=>by cases hb;exact⟨z',rfl,hz⟩
 | (i,x)::ps,hp,z,z',v,hz,hb=>by
  simp only[lAc,bAt]at hp;simp only[zH]at hb;split at hb
  ·rename_i a ha;obtain⟨a',h1,h2⟩:=qv hs hp.1 ha;split at hb
   ·rename_i hl;obtain⟨r,h5,h6⟩:=qUO hs hp.2 (hz.set i h2) hb;refine⟨r, ?_,h6⟩;simp only[zH,h1];rw[if_pos (by rw[h2.cellsLen,hz.length];exact hl)];exact h5
   ·cases hb
  ·cases hb
end
def wi(o:AOp)(st:VSt):Option AV:=match o with
 |.isnil 1 n x=>(match ev (toE st.s) x with
  | some (.lst _ (_::_) _)=>some (.bool n)
  | some .nils=>some (.bool !n)
  | _=>none)
 | o=>val o (toE st.s) (toE st.l) (toH st.h)
section
variable {ρ:Ren} {st:VSt} {sr:St}
theorem qhD{st:VSt}{o:AOp}(h:∀n x,o≠.isnil 1 n x):wi o st=val o (toE st.s) (toE st.l) (toH st.h):=by
 unfold wi;split
 ·exact absurd rfl (h _ _)
 ·rfl
theorem qVT(hh:qw ρ st.h sr.h){id i j:Nat}{sh:Option Nat}{r v:AV}(hp:RelV ρ (.ptr id i j) r)
  (hv:(match (toH st.h) id with | some (.row _ el _)=>(el[i]?).bind (·.part j sh) | _=>none)=some v):
  ∃id' y,r=.ptr id' i j/\(match sr.h id' with | some (.row _ el _)=>(el[i]?).bind (·.part j sh) | _=>none)=some y/\RelV ρ v y:=by
 simp only[RelV]at hp;obtain⟨id',h1,rfl⟩:=hp;split at hv
 ·rename_i w el rw' ho;simp only[Option.bind_eq_some_iff]at hv;obtain⟨x,hx,hp⟩:=hv;rcases hh.obj _ _ ho with⟨q,_⟩ | ⟨i',el',q1,q2,q3⟩
  ·rw[q]at h1;cases h1
  ·rw[h1]at q1;cases q1;obtain⟨y,g1,g2⟩:=q3.get hx;obtain⟨z,g3,g4⟩:=g2.part hp;exact⟨id',z,rfl,by rw[q2];simp only[g1,oBs,g3],g4⟩
 ·cases hv
theorem K7:∀{as bs:List AV},RelVs ρ as bs->bs.map dig=as.map dig
 |[],_,h=>by simp only[RelVs]at h;subst h;rfl
 | a::as,_,h=>by
  simp only[RelVs]at h;obtain⟨b,bs,rfl,h1,h2⟩:=h;simp only[lMc,K7 h2,List.cons.injEq,and_true];cases a<;>simp only[RelV]at h1<;>first
   | (subst h1;rfl)
   | (rcases h1 with⟨_,_,rfl⟩ | ⟨_,_,_,rfl | rfl⟩;rfl;rfl;rfl)
   | (rcases h1 with⟨_,_,rfl,_⟩ | ⟨_,rfl⟩;rfl;rfl)
   | (obtain⟨_,_,rfl⟩:=h1;rfl)
   | (obtain⟨_,rfl,_⟩:=h1;rfl)
theorem qXZ{a b a' b':AV}{t:Bool}(hk:Z9 a b=some t)(ha:RelV ρ a a')(hb:RelV ρ b b'):Z9 a' b'=some t:=by
 cases a<;>cases b<;>simp only[Z9,reduceCtorEq]at hk<;>simp only[RelV]at ha hb<;>subst ha hb<;>exact hk
theorem qTU:∀{cs ds rs qs:List AV}{b:Bool},RelVs ρ cs rs->RelVs ρ ds qs->Jh cs ds=some b->Jh rs qs=some b/\True
 |[],[],rs,qs,b,h,k,hb=>by simp only[RelVs]at h k;subst h k;exact⟨hb,trivial⟩
 | a::as,c::cs,rs,qs,b,h,k,hb=>by
  simp only[RelVs]at h k;obtain⟨r,rs,rfl,h1,h2⟩:=h;obtain⟨q,qs,rfl,k1,k2⟩:=k;simp only[Jh]at hb|-;split at hb
  ·rename_i hq;rw[qXZ hq h1 k1];exact qTU h2 k2 hb
  ·rename_i hq;rw[qXZ hq h1 k1];exact⟨hb,trivial⟩
  ·cases hb
 |[],_::_,_,_,_,_,_,hb=>by simp[Jh]at hb
 | _::_,[],_,_,_,_,_,hb=>by simp[Jh]at hb
theorem qY2(hS:qt ρ st sr){o:AOp}(ho:o.ok=true){v:AV}(hv:wi o st=some v):∃r,val o sr.s sr.l sr.h=some r/\RelV ρ v r:=by
  have hs:=hS.s;cases o
  case isnil tag neg x=>
    simp only[AOp.ok]at ho;by_cases ht:tag=1
    · subst ht;simp only[wi]at hv;split at hv
      · rename_i w y ys c h1;cases hv;obtain⟨r,h3,h4⟩:=qv hs ho h1;simp only[RelV,RelVs]at h4;rcases h4 with⟨_,c',rfl,_,b,bs,rfl,_⟩ | ⟨h4,_⟩
        · exact⟨.bool neg,by simp only[val,h3,oBs,AV.isNil,oMs];cases neg<;>rfl,by simp only[RelV]⟩
        · cases h4
      · rename_i h1;cases hv;obtain⟨r,h3,h4⟩:=qv hs ho h1;simp only[RelV]at h4;subst h4;exact⟨.bool !neg,by simp only[val,h3,oBs,AV.isNil,oMs];cases neg<;>rfl,by simp only[RelV]⟩
      · cases hv
    · have hv:val (.isnil tag neg x) (toE st.s) (toE st.l) (toH st.h)=some v:=by
        unfold wi at hv;split at hv
        · rename_i heq;cases heq;exact absurd rfl ht
        · exact hv
      simp only[val,oMi,Option.bind_eq_some_iff]at hv|-;obtain⟨b,⟨a,h1,h2⟩,rfl⟩:=hv;obtain⟨r,h3,h4⟩:=qv hs ho h1;refine⟨_,⟨b,⟨r,h3, ?_⟩,rfl⟩,by simp only[RelV]⟩;unfold AV.isNil at h2;split at h2
      all_goals
        first
          | (cases h2;done)
          | (exact absurd rfl ht)
          | (cases h2;simp only[RelV]at h4
             first
               | (subst h4;rfl)
               | (obtain⟨_,_,rfl⟩:=h4;rfl)
               | (obtain⟨_,rfl,_⟩:=h4;rfl))
  all_goals (rw[qhD (by intro _ _ h;cases h)]at hv)
  case mov x=>exact qv hs ho hv
  case pick c a b=>
    simp only[AOp.ok,bAt]at ho;simp only[val]at hv|-;split at hv
    · rename_i hc;rw[QI hs ho.1.1 hc];exact qv hs ho.1.2 hv
    · rename_i hc;rw[QI hs ho.1.1 hc];exact qv hs ho.2 hv
    · cases hv
  case build z ps=>
    simp only[AOp.ok,bAt]at ho;exact qS7 hs ho.2 (jq z ho.1) hv
  case lload t off sh=>
    simp only[val,Option.bind_eq_some_iff]at hv|-;obtain⟨c,h1,h2⟩:=hv;obtain⟨r,h3,h4⟩:=hS.l t c h1;obtain⟨y,h5,h6⟩:=h4.part h2;exact⟨y,⟨r,h3,h5⟩,h6⟩
  case load sh p=>
    simp only[val]at hv|-;split at hv
    · rename_i id i j hp;obtain⟨r,h3,h4⟩:=qv hs ho hp;obtain⟨id',y,rfl,h5,h6⟩:=qVT hS.h h4 hv;rw[h3];exact⟨y,h5,h6⟩
    · rename_i x j hp;obtain⟨r,h3,h4⟩:=qv hs ho hp;simp only[RelV]at h4;obtain⟨y,rfl,h4⟩:=h4;rw[h3];exact h4.part hv
    · cases hv
  case nilchk x=>
    simp only[val]at hv|-;split at hv
    all_goals
      first
        | (cases hv;done)
        | (rename_i hx
           cases hv;obtain⟨r,h3,h4⟩:=qv hs ho hx;have h5:=h4;simp only[RelV]at h4
           first
             | (obtain⟨_,_,rfl⟩:=h4;rw[h3];exact⟨_,rfl,h5⟩)
             | (obtain⟨_,rfl,_⟩:=h4;rw[h3];exact⟨_,rfl,h5⟩))
  case bin op x y=>
    simp only[AOp.ok,bAt]at ho;simp only[val]at hv|-;split at hv
    · rename_i k a k' b hx hy;rw[wL hs ho.1 hx,wL hs ho.2 hy];simp only;split at hv
      · rename_i hk;rw[if_pos hk];refine⟨v,hv,jq _ ?_⟩;unfold jo at hv;split at hv<;>first
          | (cases hv;done)
          | (cases hv;rfl)
          | (split at hv<;>cases hv<;>rfl)
      · cases hv
    · cases hv
  case sop op x y=>
    simp only[AOp.ok,bAt]at ho;simp only[val]at hv|-;split at hv
    · rename_i a b hx hy;rw[Wa hs ho.1 hx,Wa hs ho.2 hy];refine⟨v,hv,jq _ ?_⟩;unfold wh at hv;split at hv<;>first
        | (cases hv;done)
        | (cases hv;rfl)
        | (split at hv<;>cases hv<;>rfl)
    · cases hv
  case beq neg x y=>
    simp only[AOp.ok,bAt]at ho;simp only[val]at hv|-;split at hv
    · rename_i a b hx hy;rw[QI hs ho.1 hx,QI hs ho.2 hy];cases hv;exact⟨_,rfl,by simp only[RelV]⟩
    · cases hv
  case seq neg k x y=>
    simp only[AOp.ok,bAt]at ho;simp only[val]at hv|-;split at hv
    · rename_i cs ds hx hy;obtain⟨r,h3,h4⟩:=qv hs ho.1 hx;obtain⟨q,h5,h6⟩:=qv hs ho.2 hy;simp only[RelV]at h4 h6;obtain⟨rs,rfl,h4⟩:=h4;obtain⟨qs,rfl,h6⟩:=h6;rw[h3,h5];split at hv
      · rename_i hk;simp only[oMi]at hv;obtain⟨b,hb,rfl⟩:=hv;obtain⟨e1,e2⟩:=qTU h4 h6 hb;have e3:rs.map dig=cs.map dig:=K7 h4;have e4:qs.map dig=ds.map dig:=K7 h6;simp only[e3,e4,if_pos hk,e1,oMs];exact⟨_,rfl,by simp only[RelV]⟩
      · cases hv
    · cases hv
  case not x=>
    simp only[val]at hv|-;split at hv
    · rename_i a hx;rw[QI hs ho hx];cases hv;exact⟨_,rfl,by simp only[RelV]⟩
    · cases hv
  case neg x=>
    simp only[val]at hv|-;split at hv
    · rename_i a n hx;rw[wL hs ho hx];cases hv;exact⟨_,rfl,by simp only[RelV]⟩
    · cases hv
  case conv k x=>
    simp only[val]at hv|-;split at hv
    · rename_i a n hx;rw[wL hs ho hx];cases hv;exact⟨_,rfl,by simp only[RelV]⟩
    · cases hv
  case slc w x lo hi mx=>
    simp only[AOp.ok,bAt]at ho;obtain⟨⟨⟨o1,o2⟩,o3⟩,o4⟩:=ho;simp only[val]at hv|-;split at hv
    · rename_i hx;obtain⟨r,h3,h4⟩:=qv hs o1 hx;simp only[RelV]at h4;subst h4;rw[h3];split at hv
      · rename_i n0 n1 n2 q0 q1 q2;cases hv;cases mx with
        | none=>
          simp only[jw hs o3 q1,jw hs o2 q2];exact⟨_,rfl,by simp only[RelV]⟩
        | some m=>
          simp only at q0;simp only[jw hs o4 q0,jw hs o3 q1,jw hs o2 q2];exact⟨_,rfl,by simp only[RelV]⟩
      · cases hv
    · rename_i w' id off len clip hx;obtain⟨r,h3,h4⟩:=qv hs o1 hx;simp only[RelV]at h4;split at hv
      · rename_i b hb;split at hv
        · rename_i a ha;have hb':=jw hs o3 hb;have ha':=jw hs o2 ha;rcases h4 with⟨id',h5,rfl⟩ | ⟨h5,rfl,rfl,h6⟩
          · rw[h3];simp only[hb',ha'];split at hv
            · split at hv
              · rename_i hw;cases hv;simp only[if_pos hw];refine⟨_,rfl, ?_⟩;simp only[RelV];exact .inl ⟨id',h5,rfl⟩
              · cases hv
            · rename_i m;split at hv
              · rename_i M hM;split at hv
                · rename_i hw;cases hv;simp only[jw hs o4 hM,if_pos hw];refine⟨_,rfl, ?_⟩;simp only[RelV];exact .inl ⟨id',h5,rfl⟩
                · cases hv
              · cases hv
          · rw[h3];have hb0:b=0:=by
              cases hi with
              | none=>simp only[bnd]at hb;cases hb;rfl
              | some y=>
                simp only[bnd]at hb;split at hb
                · split at hb
                  · cases hb;omega
                  · cases hb
                · cases hb
            subst hb0;have ha0:a=0:=by
              cases lo with
              | none=>simp only[bnd]at ha;cases ha;rfl
              | some y=>
                simp only[bnd]at ha;split at ha
                · split at ha
                  · cases ha;omega
                  · cases ha
                · cases ha
            subst ha0;rcases h6 with rfl | rfl
            · simp only[hb',ha'];split at hv
              · split at hv
                · cases hv;refine⟨_,rfl, ?_⟩;simp[RelV,h5]
                · cases hv
              · rename_i m;split at hv
                · rename_i M hM;split at hv
                  · cases hv;simp only[jw hs o4 hM];refine⟨_,rfl, ?_⟩;simp[RelV,h5]
                  · cases hv
                · cases hv
            · simp only[lNi,hb',ha'];split at hv
              · split at hv
                · rename_i hw;cases hv;refine⟨.lst w [] true, ?_, ?_⟩
                  · simp[hw.1]
                  · simp[RelV,h5]
                · cases hv
              · rename_i m;split at hv
                · rename_i M hM;split at hv
                  · rename_i hw;cases hv;simp only[jw hs o4 hM,if_pos hw];refine⟨_,rfl, ?_⟩;simp[RelV,h5]
                  · cases hv
                · cases hv
        · cases hv
      · cases hv
    · rename_i w' xs clip hx;obtain⟨r,h3,h4⟩:=qv hs o1 hx;simp only[RelV]at h4;split at hv
      · rename_i b hb;split at hv
        · rename_i a ha;have hb':=jw hs o3 hb;have ha':=jw hs o2 ha;rcases h4 with⟨ys,c',rfl,hcc,h5⟩ | ⟨rfl,rfl⟩
          · rw[h3];simp only[h5.length,hb',ha'];split at hv
            · split at hv
              · rename_i hw;cases hv;simp only[if_pos hw];refine⟨_,rfl, ?_⟩;simp only[RelV];refine .inl ⟨_,_,rfl,fun hq=> ?_,(h5.drop a).take (b-a)⟩;simp only[bAt]at hq|-;exact⟨hcc hq.1,hq.2⟩
              · cases hv
            · rename_i m;split at hv
              · rename_i M hM;split at hv
                · rename_i hw;cases hv;simp only[jw hs o4 hM,if_pos hw];refine⟨_,rfl, ?_⟩;simp only[RelV];exact .inl ⟨_,_,rfl,fun _=>rfl,(h5.drop a).take (b-a)⟩
                · cases hv
              · cases hv
          · rw[h3];have hb0:b=0:=by
              cases hi with
              | none=>simp only[bnd,lNi]at hb;cases hb;rfl
              | some y=>
                simp only[bnd,lNi]at hb;split at hb
                · split at hb
                  · cases hb;omega
                  · cases hb
                · cases hb
            subst hb0;have ha0:a=0:=by
              cases lo with
              | none=>simp only[bnd]at ha;cases ha;rfl
              | some y=>
                simp only[bnd]at ha;split at ha
                · split at ha
                  · cases ha;omega
                  · cases ha
                · cases ha
            subst ha0;simp only[lNi]at hb';simp only[hb',ha'];split at hv
            · split at hv
              · cases hv;refine⟨_,rfl, ?_⟩;simp[RelV]
              · cases hv
            · rename_i m;split at hv
              · rename_i M hM;split at hv
                · cases hv;simp only[jw hs o4 hM];refine⟨_,rfl, ?_⟩;simp[RelV]
                · cases hv
              · cases hv
        · cases hv
      · cases hv
    · cases hv
  case sslc x lo hi=>
    simp only[AOp.ok,bAt]at ho;obtain⟨⟨o1,o2⟩,o3⟩:=ho;simp only[val]at hv|-;split at hv
    · rename_i a hx;rw[Wa hs o1 hx];split at hv
      · rename_i e he;split at hv
        · rename_i b hb;cases hv;simp only[jw hs o3 he,jw hs o2 hb];exact⟨_,rfl,by simp only[RelV]⟩
        · cases hv
      · cases hv
    · cases hv
  case faddr off x=>
    simp only[val]at hv|-;split at hv
    · rename_i id i j hx;cases hv;obtain⟨r,h3,h4⟩:=qv hs ho hx;simp only[RelV]at h4;obtain⟨id',h5,rfl⟩:=h4;rw[h3];refine⟨_,rfl, ?_⟩;simp only[RelV];exact⟨id',h5,rfl⟩
    · rename_i y j hx;cases hv;obtain⟨r,h3,h4⟩:=qv hs ho hx;simp only[RelV]at h4;obtain⟨y',rfl,h5⟩:=h4;rw[h3];refine⟨_,rfl, ?_⟩;simp only[RelV];exact⟨y',rfl,h5⟩
    · cases hv
  case fld off sh x=>
    simp only[val]at hv|-;split at hv
    · rename_i cs hx;obtain⟨r,h3,h4⟩:=qv hs ho hx;have h5:=h4;simp only[RelV]at h4;obtain⟨ds,rfl,h6⟩:=h4;rw[h3];exact h5.part hv
    · cases hv
  case iaddr w x i=>
    simp only[AOp.ok,bAt]at ho;simp only[val]at hv|-;split at hv
    · rename_i w' id off len cl k n hx hi;obtain⟨r,h3,h4⟩:=qv hs ho.1 hx;rw[h3,wL hs ho.2 hi];simp only[RelV]at h4;split at hv
      · rename_i hc;cases hv;rcases h4 with⟨id',h5,rfl⟩ | ⟨_,_,rfl,_⟩
        · simp only[if_pos hc];refine⟨_,rfl, ?_⟩;simp only[RelV];exact⟨id',h5,rfl⟩
        · omega
      · cases hv
    · rename_i w' xs cl k n hx hi;obtain⟨r,h3,h4⟩:=qv hs ho.1 hx;rw[h3,wL hs ho.2 hi];simp only[RelV]at h4;split at hv
      · rename_i hc;simp only[oMi]at hv;obtain⟨y,h6,rfl⟩:=hv;rcases h4 with⟨ys,c',rfl,_,h5⟩ | ⟨rfl,rfl⟩
        · obtain⟨z,h7,h8⟩:=h5.get h6;simp only[if_pos hc,h7,oMs];refine⟨_,rfl, ?_⟩;simp only[RelV];exact⟨z,rfl,h8⟩
        · simp at h6
      · cases hv
    · cases hv
  case sidx x i=>
    simp only[AOp.ok,bAt]at ho;simp only[val]at hv|-;split at hv
    · rename_i a k n hx hi;rw[Wa hs ho.1 hx,wL hs ho.2 hi];refine⟨v,hv,jq _ ?_⟩;split at hv
      · simp only[oMi]at hv;obtain⟨b,_,rfl⟩:=hv;rfl
      · cases hv
    · cases hv
  case aidx n w sh x i=>
    simp only[AOp.ok,bAt]at ho;simp only[val]at hv|-;split at hv
    · rename_i cs k m hx hi;obtain⟨r,h3,h4⟩:=qv hs ho.1 hx;rw[h3,wL hs ho.2 hi];have h5:=h4;simp only[RelV]at h4;obtain⟨ds,rfl,h6⟩:=h4;simp only;split at hv
      · rename_i hc;rw[if_pos hc];exact h5.part hv
      · cases hv
    · cases hv
  case ext x i=>
    simp only[val]at hv|-;split at hv
    · rename_i vs hx;obtain⟨r,h3,h4⟩:=qv hs ho hx;simp only[RelV]at h4;obtain⟨ds,rfl,h6⟩:=h4;rw[h3];exact h6.get hv
    · cases hv
  case mkfn g caps=>
    simp only[val,oMi]at hv|-;obtain⟨vs,h1,rfl⟩:=hv;obtain⟨rs,h2,h3⟩:=Xt hs ho h1;refine⟨_,⟨rs,h2,rfl⟩, ?_⟩;simp only[RelV];exact⟨rs,rfl,h3⟩
  case len x=>
    simp only[val]at hv|-;split at hv
    · rename_i hx;cases hv;obtain⟨r,h3,h4⟩:=qv hs ho hx;simp only[RelV]at h4;subst h4;rw[h3];exact⟨_,rfl,by simp only[RelV]⟩
    · rename_i w id off len c hx;cases hv;obtain⟨r,h3,h4⟩:=qv hs ho hx;simp only[RelV]at h4;rw[h3];rcases h4 with⟨id',h5,rfl⟩ | ⟨_,_,rfl,rfl | rfl⟩
      · exact⟨_,rfl,by simp only[RelV]⟩
      · exact⟨_,rfl,by simp only[RelV];rfl⟩
      · exact⟨_,rfl,by simp only[RelV];rfl⟩
    · rename_i w xs c hx;cases hv;obtain⟨r,h3,h4⟩:=qv hs ho hx;simp only[RelV]at h4;rw[h3];rcases h4 with⟨ys,c',rfl,_,h5⟩ | ⟨rfl,rfl⟩
      · exact⟨_,rfl,by simp only[RelV,h5.length]⟩
      · exact⟨_,rfl,by simp only[RelV];rfl⟩
    · cases hv
  case slen x=>
    simp only[val]at hv|-;split at hv
    · rename_i a hx;rw[Wa hs ho hx];cases hv;exact⟨_,rfl,by simp only[RelV]⟩
    · cases hv
  case max x y=>
    simp only[AOp.ok,bAt]at ho;simp only[val]at hv|-;split at hv
    · rename_i k a k' b hx hy;rw[wL hs ho.1 hx,wL hs ho.2 hy];simp only;split at hv
      · rename_i hk;rw[if_pos hk];cases hv;exact⟨_,rfl,by simp only[RelV]⟩
      · cases hv
    · cases hv
  case min x y=>
    simp only[AOp.ok,bAt]at ho;simp only[val]at hv|-;split at hv
    · rename_i k a k' b hx hy;rw[wL hs ho.1 hx,wL hs ho.2 hy];simp only;split at hv
      · rename_i hk;rw[if_pos hk];cases hv;exact⟨_,rfl,by simp only[RelV]⟩
      · cases hv
    · cases hv
  case mkif t x=>
    simp only[val,oMi]at hv|-;obtain⟨a,h1,rfl⟩:=hv;obtain⟨r,h3,h4⟩:=qv hs ho h1;refine⟨_,⟨r,h3,rfl⟩, ?_⟩;simp only[RelV];exact⟨r,rfl,h4⟩
  case looks z m k ok=>
    simp only[AOp.ok,bAt]at ho;obtain⟨⟨o1,o2⟩,o3⟩:=ho;simp only[val]at hv|-;split at hv
    · rename_i mv kv hm hk;obtain⟨r,h3,h4⟩:=qv hs o2 hm;obtain⟨kr,h5,h6⟩:=qv hs o3 hk;rw[h3,h5];split at hv
      · rename_i es he;obtain⟨ys,g1,g2⟩:=qbU hS.h h4 he;simp only[g1];split at hv
        · rename_i i v1 hf;rcases Wd h6 g2 hf with⟨q,_⟩ | ⟨i',v2,v3,q1,q2,q3⟩
          · cases q
          · cases q1;rw[q2];simp only;refine⟨_,rfl, ?_⟩;cases hv;cases ok
            · exact q3
            · simp only[if_true,RelV];refine⟨_,rfl, ?_⟩;simp only[RelVs];exact⟨_,_,rfl,q3,_,_,rfl,by simp only[RelV],rfl⟩
        · rename_i hf;rcases Wd h6 g2 hf with⟨_,q⟩ | ⟨i',v2,v3,q1,_⟩
          · rw[q];simp only;refine⟨_,rfl, ?_⟩;cases hv;cases ok
            · exact jq z o1
            · simp only[if_true,RelV];refine⟨_,rfl, ?_⟩;simp only[RelVs];exact⟨_,_,rfl,jq z o1,_,_,rfl,by simp only[RelV],rfl⟩
          · cases q1
        · cases hv
      · cases hv
    · cases hv
  case nop t=>
    simp only[val,oMi]at hv|-;obtain⟨c,h1,rfl⟩:=hv;obtain⟨r,h3,_⟩:=hS.l t c h1;exact⟨_,⟨r,h3,rfl⟩,by simp only[RelV]⟩
  all_goals (simp only[val,reduceCtorEq]at hv)
end
structure Fm(b:Nat)(ρ:Ren)(hr:AH)(ρ':Ren)(hr':AH):Prop where
 pres:∀a o,hr a=some o->(∀i,ρ i≠some (some a))->hr' a=some o
 new:∀i a,ρ' i=some (some a)->(∃j,ρ j=some (some a))\/hr.fr a
 fr:∀a,hr'.fr a->hr.fr a
 base:∀i,i<b->ρ' i=ρ i
theorem Fm.refl(b:Nat)(ρ:Ren)(hr:AH):Fm b ρ hr ρ hr:=⟨fun _ _ h _=>h,fun i _ h=>.inl ⟨i,h⟩,fun _ h=>h,fun _ _=>rfl⟩
theorem Fm.trans{b:Nat}{ρ ρ' ρ'':Ren}{hr hr' hr'':AH}(x:Fm b ρ hr ρ' hr')(y:Fm b ρ' hr' ρ'' hr''):Fm b ρ hr ρ'' hr'' where
 pres:=fun a o h1 h2=>y.pres a o (x.pres a o h1 h2) fun i hi=>by
  rcases x.new i a hi with⟨j,hj⟩ | hf
  ·exact h2 j hj
  ·rw[hf.1]at h1;cases h1
 new:=fun i a hi=>by
  rcases y.new i a hi with⟨j,hj⟩ | hf
  ·exact x.new j a hj
  ·exact .inr (x.fr a hf)
 fr:=fun a h=>x.fr a (y.fr a h)
 base:=fun i hi=>(y.base i hi).trans (x.base i hi)
def Ren.ext(ρ:Ren)(n:Nat)(x:Option Nat):Ren:=fun i=>if i=n then some x else ρ i
theorem Ren.ext_le{ρ:Ren}{n:Nat}{x:Option Nat}(h:ρ n=none):ρ.le (ρ.ext n x):=fun i a hi=>by
 unfold Ren.ext;rw[if_neg (by rintro rfl;rw[h]at hi;cases hi)];exact hi
theorem Ren.ext_same(ρ:Ren)(n:Nat)(x:Option Nat):ρ.ext n x n=some x:=by simp[Ren.ext]
theorem Ren.ext_ne(ρ:Ren){n i:Nat}(x:Option Nat)(h:i≠n):ρ.ext n x i=ρ i:=by simp[Ren.ext,h]
section
variable {ρ ρ':Ren} {h:List qC} {hr hr':AH}
theorem RelEs.mono(hρ:ρ.le ρ'){es es':List (AV×AV)}(k:RelEs ρ es es'):RelEs ρ' es es':=⟨RelVs.mono hρ _ _ k.1,RelVs.mono hρ _ _ k.2⟩
theorem RelO.mono{i:Nat}(hρ:ρ.le ρ')(hh:∀a o,ρ i=some (some a)->hr a=some o->hr' a=some o):∀{o:qC},RelO ρ i hr o->RelO ρ' i hr' o
 |.dead,_=>trivial
 |.row _ _ _,k=>by
  rcases k with⟨q1,q2⟩ | ⟨i',el',q1,q2,q3⟩
  ·exact .inl ⟨hρ _ _ q1,q2⟩
  ·exact .inr ⟨i',el',hρ _ _ q1,hh _ _ q1 q2,RelVs.mono hρ _ _ q3⟩
 |.map _,⟨i',es',q1,q2,q3⟩=>⟨i',es',hρ _ _ q1,hh _ _ q1 q2,q3.mono hρ⟩
theorem RelE.mono(hρ:ρ.le ρ'){s:qf}{e:Env}(k:RelE ρ s e):RelE ρ' s e:=fun n v hv=>let ⟨r,q1,q2⟩:=k n v hv;⟨r,q1,RelV.mono hρ _ _ q2⟩
theorem Xz{s:qf}{d n:Nat}{v:AV}:get ((d,v)::s) n=if d=n then some v else get s n:=rfl
theorem RelE.cons{s:qf}{e:Env}(k:RelE ρ s e){d:Nat}{v r:AV}(hv:RelV ρ v r):RelE ρ ((d,v)::s) (e.set d r):=fun n x hx=>by
 rw[Xz]at hx;rw[jD];split at hx
 ·rename_i hd;rw[if_pos hd];cases hx;exact⟨r,rfl,hv⟩
 ·rename_i hd;rw[if_neg hd];exact k n x hx
def jm(s:qf)(d:Option Nat)(v:AV):qf:=match d with
 | some d=>(d,v)::s
 | none=>s
theorem RelE.put{s:qf}{e:Env}(k:RelE ρ s e){d:Option Nat}{v r:AV}(hv:RelV ρ v r):RelE ρ (jm s d v) (jU e d r):=by
 cases d with
 | none=>exact k
 | some d=>exact k.cons hv
theorem QU{h:List qC}{i:Nat}{o:qC}(k:h[i]?=some o):i<h.length:=(gSi.1 k).1
theorem qw.none_at(hh:qw ρ h hr):ρ h.length=none:=hh.out _ (nLr _)
theorem qw.new(hh:qw ρ h hr){a:Nat}(ha:hr.fr a){o o':qC}(ho:RelO (ρ.ext h.length (some a)) h.length (hr.upd a o') o):qw (ρ.ext h.length (some a)) (h++[o]) (hr.upd a o') where
 obj:=fun i x hx=>by
  by_cases hi:i=h.length
  ·subst hi;rw[gAr (nLr _),nSs]at hx;simp only[List.getElem?_cons_zero,oSi]at hx;subst hx;exact ho
  ·have hlt:i<h.length:=by
    have:=QU hx;simp only[lAp,lCo,lNi]at this;omega
   rw[gAl hlt]at hx;refine(hh.obj i x hx).mono (Ren.ext_le hh.none_at) fun a' o'' _ h2=> ?_;exact AH.get_upd ha.1 h2
 inj:=fun i j x o1 o2 h1 h2 hi hj d1 d2=>by
  have key:∀i o1,(h++[o])[i]?=some o1->i≠h.length->h[i]?=some o1:=fun i o1 hi hn=>by
   have:=QU hi;simp only[lAp,lCo,lNi]at this;rwa[gAl (by omega)]at hi
  by_cases e1:i=h.length<;>by_cases e2:j=h.length
  ·rw[e1,e2]
  ·subst e1;rw[Ren.ext_same]at h1;rw[Ren.ext_ne _ _ e2]at h2;cases h1;obtain⟨q,hq⟩:=hh.is j _ h2;rw[ha.1]at hq;cases hq
  ·subst e2;rw[Ren.ext_same]at h2;rw[Ren.ext_ne _ _ e1]at h1;cases h2;obtain⟨q,hq⟩:=hh.is i _ h1;rw[ha.1]at hq;cases hq
  ·rw[Ren.ext_ne _ _ e1]at h1;rw[Ren.ext_ne _ _ e2]at h2;exact hh.inj i j x _ _ h1 h2 (key _ _ hi e1) (key _ _ hj e2) d1 d2
 out:=fun i hi=>by
  simp only[lAp,lCo,lNi]at hi;rw[Ren.ext_ne _ _ (by omega)];exact hh.out i (by omega)
 is:=fun i x hx=>by
  by_cases e:i=h.length
  ·subst e;rw[Ren.ext_same]at hx;cases hx;exact⟨o',AH.upd_same _ _ _⟩
  ·rw[Ren.ext_ne _ _ e]at hx;obtain⟨q,hq⟩:=hh.is i x hx;exact⟨q,AH.get_upd ha.1 hq⟩
theorem Fm.mkNew{b:Nat}(_hh:qw ρ h hr)(hb:b<=h.length){a:Nat}(ha:hr.fr a){o':qC}:Fm b ρ hr (ρ.ext h.length (some a)) (hr.upd a o') where
 pres:=fun x o h1 _=>AH.get_upd ha.1 h1
 new:=fun i x hx=>by
  by_cases e:i=h.length
  ·subst e;rw[Ren.ext_same]at hx;cases hx;exact .inr ha
  ·rw[Ren.ext_ne _ _ e]at hx;exact .inl ⟨i,hx⟩
 fr:=fun x hx=>AH.fr_of hx
 base:=fun i hi=>Ren.ext_ne _ _ (by omega)
theorem qw.nil(hh:qw ρ h hr){w:Nat}:qw (ρ.ext h.length none) (h++[.row w [] true]) hr where
 obj:=fun i x hx=>by
  by_cases hi:i=h.length
  ·subst hi;rw[gAr (nLr _),nSs]at hx;simp only[List.getElem?_cons_zero,oSi]at hx;subst hx;exact .inl ⟨Ren.ext_same _ _ _,rfl,rfl⟩
  ·have hlt:i<h.length:=by
    have:=QU hx;simp only[lAp,lCo,lNi]at this;omega
   rw[gAl hlt]at hx;exact(hh.obj i x hx).mono (Ren.ext_le hh.none_at) fun a' o'' _ h2=>h2
 inj:=fun i j x o1 o2 h1 h2 hi hj d1 d2=>by
  have key:∀i o1,(h++[qC.row w [] true])[i]?=some o1->i≠h.length->h[i]?=some o1:=fun i o1 hi hn=>by
   have:=QU hi;simp only[lAp,lCo,lNi]at this;rwa[gAl (by omega)]at hi
  by_cases e1:i=h.length
  ·subst e1;rw[Ren.ext_same]at h1;cases h1
  by_cases e2:j=h.length
  ·subst e2;rw[Ren.ext_same]at h2;cases h2
  rw[Ren.ext_ne _ _ e1]at h1;rw[Ren.ext_ne _ _ e2]at h2;exact hh.inj i j x _ _ h1 h2 (key _ _ hi e1) (key _ _ hj e2) d1 d2
 out:=fun i hi=>by
  simp only[lAp,lCo,lNi]at hi;rw[Ren.ext_ne _ _ (by omega)];exact hh.out i (by omega)
 is:=fun i x hx=>by
  by_cases e:i=h.length
  ·subst e;rw[Ren.ext_same]at hx;cases hx
  ·rw[Ren.ext_ne _ _ e]at hx;exact hh.is i x hx
theorem Fm.mkNil{b:Nat}(_hh:qw ρ h hr)(hb:b<=h.length):Fm b ρ hr (ρ.ext h.length none) hr where
 pres:=fun x o h1 _=>h1
 new:=fun i x hx=>by
  by_cases e:i=h.length
  ·subst e;rw[Ren.ext_same]at hx;cases hx
  ·rw[Ren.ext_ne _ _ e]at hx;exact .inl ⟨i,hx⟩
 fr:=fun x hx=>hx
 base:=fun i hi=>Ren.ext_ne _ _ (by omega)
theorem WB{h:List qC}{id i:Nat}{o o':qC}(k:(h.set id o')[i]?=some o):(i=id/\o=o'/\id<h.length)\/(i≠id/\h[i]?=some o):=by
 rw[gSt]at k;split at k
 ·rename_i e;split at k
  ·rename_i hl;cases k;exact .inl ⟨e.symm,rfl,hl⟩
  ·cases k
 ·rename_i e;exact .inr ⟨fun q=>e q.symm,k⟩
theorem qw.giveUp(hh:qw ρ h hr)(id:Nat):qw ρ (h.set id .dead) hr where
 obj:=fun i x hx=>by
  rcases WB hx with⟨_,rfl,_⟩ | ⟨_,hx⟩
  ·trivial
  ·exact hh.obj i x hx
 inj:=fun i j x o1 o2 h1 h2 hi hj d1 d2=>by
  rcases WB hi with⟨_,rfl,_⟩ | ⟨_,hi⟩
  ·exact absurd rfl d1
  rcases WB hj with⟨_,rfl,_⟩ | ⟨_,hj⟩
  ·exact absurd rfl d2
  exact hh.inj i j x _ _ h1 h2 hi hj d1 d2
 out:=fun i hi=>hh.out i (by simpa using hi)
 is:=hh.is
theorem qw.write(hh:qw ρ h hr){id a:Nat}{o o1 o':qC}(hid:ρ id=some (some a))(ho:h[id]?=some o)(hd:o≠.dead)(hn:RelO ρ id (hr.upd a o') o1):qw ρ (h.set id o1) (hr.upd a o') where
 obj:=fun i x hx=>by
  rcases WB hx with⟨rfl,rfl,_⟩ | ⟨hne,hx⟩
  ·exact hn
  ·by_cases hxd:x=.dead
   ·subst hxd;trivial
   refine(hh.obj i x hx).mono (fun _ _ q=>q) fun a' o'' q1 q2=> ?_;rw[AH.upd_ne _ _ (fun e=>hne ?_)]
   ·exact q2
   ·subst e;exact hh.inj i id a' _ _ q1 hid hx ho hxd hd
 inj:=fun i j x o2 o3 h1 h2 hi hj d1 d2=>by
  have key:∀i o2,(h.set id o1)[i]?=some o2->o2≠qC.dead->∃o3,h[i]?=some o3/\o3≠qC.dead:=fun i o2 hi hd2=>by
   rcases WB hi with⟨rfl,rfl,_⟩ | ⟨_,hi⟩
   ·exact⟨o,ho,hd⟩
   ·exact⟨o2,hi,hd2⟩
  obtain⟨p1,q1,q2⟩:=key i o2 hi d1;obtain⟨p2,q3,q4⟩:=key j o3 hj d2;exact hh.inj i j x _ _ h1 h2 q1 q3 q2 q4
 out:=fun i hi=>hh.out i (by simpa using hi)
 is:=fun i x hx=>by
  by_cases e:x=a
  ·subst e;exact⟨o',AH.upd_same _ _ _⟩
  ·obtain⟨q,hq⟩:=hh.is i x hx;exact⟨q,by rw[AH.upd_ne _ _ e];exact hq⟩
theorem Fm.write{b:Nat}(_hh:qw ρ h hr){id a:Nat}{o':qC}(hid:ρ id=some (some a)):Fm b ρ hr ρ (hr.upd a o') where
 pres:=fun x o h1 h2=>by
  rw[AH.upd_ne _ _ (by rintro rfl;exact h2 id hid)];exact h1
 new:=fun i x hx=>.inl ⟨i,hx⟩
 fr:=fun x hx=>AH.fr_of hx
 base:=fun _ _=>rfl
theorem qw.move(hh:qw ρ h hr){id a:Nat}{o:qC}(hid:ρ id=some (some a))(ho:h[id]?=some o)(hd:o≠.dead):qw (ρ.ext h.length (some a)) (h.set id .dead++[o]) hr where
 obj:=fun i x hx=>by
  by_cases hi:i=h.length
  ·subst hi;rw[gAr (by simp)]at hx;simp only[lLs,nSs,List.getElem?_cons_zero,oSi]at hx;subst hx;have hk:=(hh.obj id o ho).mono (Ren.ext_le (x:=some a) hh.none_at) fun a' o'' _ h2=>h2;have e:ρ.ext h.length (some a) id=some (some a):=by rw[Ren.ext_ne _ _ (Nat.ne_of_lt (QU ho))];exact hid
   cases o with
   | dead=>trivial
   | row w el rw'=>
    rcases hk with⟨q,_⟩ | ⟨i',el',q1,q2,q3⟩
    ·rw[e]at q;cases q
    ·rw[e]at q1;cases q1;exact .inr ⟨a,el',Ren.ext_same _ _ _,q2,q3⟩
   | map es=>
    obtain⟨i',es',q1,q2,q3⟩:=hk;rw[e]at q1;cases q1;exact⟨a,es',Ren.ext_same _ _ _,q2,q3⟩
  ·have hlt:i<(h.set id .dead).length:=by
    have:=QU hx;simp only[lAp,lCo,lNi,lLs]at this|-;omega
   rw[gAl hlt]at hx;exact((hh.giveUp id).obj i x hx).mono (Ren.ext_le hh.none_at) fun a' o'' _ h2=>h2
 inj:=fun i j x o1 o2 h1 h2 hi hj d1 d2=>by
  have key:∀i o1,(h.set id qC.dead++[o])[i]?=some o1->i≠h.length->o1≠qC.dead->h[i]?=some o1/\i≠id:=fun i o1 hi hn hd1=>by
   have:=QU hi;simp only[lAp,lCo,lNi,lLs]at this;rw[gAl (by simp;omega)]at hi;rcases WB hi with⟨_,rfl,_⟩ | ⟨q1,q2⟩
   ·exact absurd rfl hd1
   ·exact⟨q2,q1⟩
  by_cases e1:i=h.length<;>by_cases e2:j=h.length
  ·rw[e1,e2]
  ·subst e1;obtain⟨q1,q2⟩:=key _ _ hj e2 d2;rw[Ren.ext_same]at h1;rw[Ren.ext_ne _ _ e2]at h2;cases h1;exact absurd (hh.inj j id a _ _ h2 hid q1 ho d2 hd) q2
  ·subst e2;obtain⟨q1,q2⟩:=key _ _ hi e1 d1;rw[Ren.ext_same]at h2;rw[Ren.ext_ne _ _ e1]at h1;cases h2;exact absurd (hh.inj i id a _ _ h1 hid q1 ho d1 hd) q2
  ·rw[Ren.ext_ne _ _ e1]at h1;rw[Ren.ext_ne _ _ e2]at h2;exact hh.inj i j x _ _ h1 h2 (key _ _ hi e1 d1).1 (key _ _ hj e2 d2).1 d1 d2
 out:=fun i hi=>by
  simp only[lAp,lCo,lNi,lLs]at hi;rw[Ren.ext_ne _ _ (by omega)];exact hh.out i (by omega)
 is:=fun i x hx=>by
  by_cases e:i=h.length
  ·subst e;rw[Ren.ext_same]at hx;cases hx;exact hh.is id _ hid
  ·rw[Ren.ext_ne _ _ e]at hx;exact hh.is i x hx
theorem Fm.move{b:Nat}(_hh:qw ρ h hr)(hb:b<=h.length){id a:Nat}(hid:ρ id=some (some a)):Fm b ρ hr (ρ.ext h.length (some a)) hr where
 pres:=fun x o h1 _=>h1
 new:=fun i x hx=>by
  by_cases e:i=h.length
  ·subst e;rw[Ren.ext_same]at hx;cases hx;exact .inl ⟨id,hid⟩
  ·rw[Ren.ext_ne _ _ e]at hx;exact .inl ⟨i,hx⟩
 fr:=fun x hx=>hx
 base:=fun i hi=>Ren.ext_ne _ _ (by omega)
end
def VSt.put(st:VSt)(d:Option Nat)(v:AV):VSt:={st with s:=jm st.s d v}
def jW(st:VSt)(d:Option Nat)(o:qC)(v:AV)(K:VSt->Prop):Prop:=K {s:=jm st.s d v,l:=st.l,h:=st.h++[o]}
def Yu(w:Nat)(a:AV)(ys:List AV)(d:Option Nat)(st:VSt)(K:VSt->Prop):Prop:=
  match a with
  |.nils=>ys.length<=LIM/\jW st d (.row w ys true) (.slice w st.h.length 0 ys.length false) K
  |.slice w' id off len clip=>w'=w/\len+ys.length<=LIM/\
    (match st.h[id]? with
    | some (.row w2 el true)=>w2=w/\off+len<=el.length/\
      ((off=0/\clip=false/\el.length=len/\jW {st with h:=st.h.set id .dead} d (.row w (el++ys) true) (.slice w st.h.length 0 (len+ys.length) false) K)\/
       (0<ys.length/\clip=false/\jW {st with h:=st.h.set id .dead} d (.row w ((el.drop off).take len++ys) true) (.slice w st.h.length 0 (len+ys.length) false) K)\/
       (0<ys.length/\clip=true/\jW st d (.row w ((el.drop off).take len++ys) true) (.slice w st.h.length 0 (len+ys.length) false) K)\/
       (ys.length=0/\K (st.put d a)))
    | _=>False)
  |.lst w' xs clip=>w'=w/\((xs=[]/\clip=true/\ys.length<=LIM/\jW st d (.row w ys true) (.slice w st.h.length 0 ys.length false) K)\/
      if ys.length=0 then K (st.put d a)else xs.length+ys.length<=LIM/\clip=true/\jW st d (.row w (xs++ys) true) (.slice w st.h.length 0 (xs.length+ys.length) false) K)
  | _=>False
def WG(w:Nat)(a:AV)(ys:List AV)(d:Option Nat)(st:VSt)(K:VSt->Prop):Prop:=
 match a with
 |.nils=>if ys.length=0 then K (st.put d .nils)else ys.length<=LIM/\jW st d (.row w ys false) (.slice w st.h.length 0 ys.length false) K
 |.slice w' id 0 len false=>w'=w/\(match st.h[id]? with
  | some (.row w2 el false)=>w2=w/\el.length=len/\(if ys.length=0 then K (st.put d a)else len+ys.length<=LIM/\
   jW {st with h:=st.h.set id .dead} d (.row w (el++ys) false) (.slice w st.h.length 0 (len+ys.length) false) K)
  | _=>False)
 | _=>False
def We:Option qC->Bool
 | some (.row _ _ _)=>true
 | _=>false
def ju(o:AOp)(d:Option Nat)(st:VSt)(K:VSt->Prop):Prop:=
 match o with
 |.lalloc z=>match d with
  | some t=>K {st with l:=(t,z)::st.l}
  | none=>False
 |.lbox k x=>match d,ev (toE st.s) x with
  | some t,some v=>v.cells.length=k/\K {st with l:=(t,v)::st.l}
  | _,_=>False
 |.lstore t off k x=>match get st.l t,ev (toE st.s) x with
  | some c,some v=>v.cells.length=k/\(match c.put off v with
   | some c'=>K {st with l:=(t,c')::st.l}
   | none=>False)
  | _,_=>False
 |.halloc w z=>jW st d (.row w [z] true) (.ptr st.h.length 0 0) K
 |.hallt w z=>jW st d (.row w [z] false) (.ptr st.h.length 0 0) K
 |.hbox w x=>match ev (toE st.s) x with
  | some v=>v.cells.length=w/\jW st d (.row w [v] true) (.ptr st.h.length 0 0) K
  | none=>False
 |.bslice w z n ps=>match zH (toE st.s) w (List.replicate n z) ps with
  | some el=>jW st d (.row w el true) (.slice w st.h.length 0 n false) K
  | none=>False
 |.mksl w z l c=>match ev (toE st.s) l,ev (toE st.s) c with
  | some (.int _ n),some (.int _ m)=>0<=n/\n<=m/\m<=(LIM:Int)/\jW st d (.row w (List.replicate n.toNat z) true) (.slice w st.h.length 0 n.toNat false) K
  | _,_=>False
 |.b2s x=>match ev (toE st.s) x with
  | some v=>(v=.nils\/wOf v=some 1)/\(match zO (toH st.h) v with
   | some el=>∃a:List UInt8,el=(a.map fun b:UInt8=>AV.int .u8 b.toNat)/\K (st.put d (.str a))
   | none=>False)
  | none=>False
 |.store k p x=>match ev (toE st.s) p,ev (toE st.s) x with
  | some (.ptr id i j),some v=>v.cells.length=k/\(match st.h[id]? with
   | some (.row w el rb)=>(match el[i]? with
    | some e=>(match e.put j v with
     | some e'=>K {st with h:=st.h.set id (.row w (el.set i e') rb)}
     | none=>False)
    | none=>False)
   | _=>False)
  | _,_=>False
 |.app w x y=>match ev (toE st.s) x,ev (toE st.s) y with
  | some a,some b=>JH w b/\(match zO (toH st.h) b with
   | some ys=>Yu w a ys d st K
   | none=>False)
  | _,_=>False
 |.mkmap=>jW st d (.map []) (.map st.h.length) K
 |.mupds m k v=>match ev (toE st.s) m,ev (toE st.s) k,ev (toE st.s) v with
  | some (.map id),some k',some v'=>(match st.h[id]? with
   | some (.map es)=>(match jB k' es 0 with
    | some (some (i,_))=>K {st with h:=st.h.set id (.map (es.set i (k',v')))}
    | some none=>K {st with h:=st.h.set id (.map (es++[(k',v')]))}
    | none=>False)
   | _=>False)
  | _,_,_=>False
 |.store2 k p x q=>(match ev (toE st.s) p,ev (toE st.s) q with
  | some (.ptr id _ _),some (.ptr id2 _ _)=>id≠id2/\We st.h[id2]?=true
  | _,_=>False)/\(match ev (toE st.s) p,ev (toE st.s) x with
  | some (.ptr id i j),some v=>v.cells.length=k/\(match st.h[id]? with
   | some (.row w el rb)=>(match el[i]? with
    | some e=>(match e.put j v with
     | some e'=>K {st with h:=st.h.set id (.row w (el.set i e') rb)}
     | none=>False)
    | none=>False)
   | _=>False)
  | _,_=>False)
 |.appt w x y=>match ev (toE st.s) x,ev (toE st.s) y with
  | some a,some b=>JH w b/\(match zO (toH st.h) b with
   | some ys=>WG w a ys d st K
   | none=>False)
  | _,_=>False
 |.call _ _ |.callv _ _ |.panic _=>False
 | o=>match wi o st with
  | some v=>K (st.put d v)
  | none=>False
section
variable {ρ:Ren} {st:VSt} {sr:St} {b:Nat}
theorem Step.of_val{o:AOp}{d:Option Nat}{st:St}{v:AV}(hv:val o st.s st.l st.h=some v):Step o d st (st.put d v):=by
 cases o<;>first
  | (simp only[val,reduceCtorEq]at hv;done)
  | exact⟨v,hv,rfl⟩
theorem qX7{w:Nat}{v r:AV}(h:RelV ρ v r)(k:JH w v):JH w r:=by
 cases v<;>simp only[RelV]at h
 case slice=>rcases h with⟨_,_,rfl⟩ | ⟨_,_,_,rfl | rfl⟩;exact k;trivial;exact k
 case lst=>rcases h with⟨_,_,rfl,_⟩ | ⟨_,rfl⟩;exact k;trivial
 all_goals first
  | (subst h;exact k)
  | (obtain⟨_,_,rfl⟩:=h;trivial)
  | (obtain⟨_,rfl,_⟩:=h;trivial)
theorem qgA{a:List UInt8}{el:List AV}(h:RelVs ρ (a.map fun b:UInt8=>AV.int .u8 b.toNat) el):el=(a.map fun b:UInt8=>AV.int .u8 b.toNat):=by
 induction a generalizing el with
 | nil=>simpa only [List.map_nil,RelVs]using h
 | cons x a ih=>
  simp only[lMc,RelVs]at h;obtain⟨c,cs,rfl,h1,h2⟩:=h;simp only[RelV]at h1;rw[h1,ih h2];rfl
theorem JI{d:Option Nat}{o o':qC}{v:AV}{v':Nat->AV}{K:VSt->Prop}(hS:qt ρ st sr)(hb:b<=st.h.length)(hk:jW st d o v K)
  (ho:∀a,RelO (ρ.ext st.h.length (some a)) st.h.length (sr.h.upd a o') o) (hv:∀a,RelV (ρ.ext st.h.length (some a)) v (v' a)):
  ∃sr' ρ' st',New sr d o' v' sr'/\K st'/\qt ρ' st' sr'/\Fm b ρ sr.h ρ' sr'.h/\b<=st'.h.length:=by
 obtain⟨a,ha⟩:=sr.h.fresh;refine⟨_,ρ.ext st.h.length (some a),_,⟨a,ha,rfl⟩,hk,⟨?_, ?_, ?_⟩,Fm.mkNew hS.h hb ha, ?_⟩
 ·exact(hS.s.mono (Ren.ext_le hS.h.none_at)).put (hv a)
 ·exact hS.l.mono (Ren.ext_le hS.h.none_at)
 ·exact hS.h.new ha (ho a)
 ·simp only[lAp];omega
theorem Ja{w a:Nat}{rb:Bool}{el el':List AV}(hS:qw ρ st.h sr.h)(h:RelVs ρ el el'):RelO (ρ.ext st.h.length (some a)) st.h.length (sr.h.upd a (.row w el' rb)) (.row w el rb):=
 .inr ⟨a,el',Ren.ext_same _ _ _,AH.upd_same _ _ _,RelVs.mono (Ren.ext_le hS.none_at) _ _ h⟩
theorem J7{ρ:Ren}{n a w off len:Nat}{cl:Bool}:RelV (ρ.ext n (some a)) (.slice w n off len cl) (.slice w a off len cl):=by
 simp only[RelV];exact .inl ⟨a,Ren.ext_same _ _ _,rfl⟩
theorem qA2{ρ:Ren}{n a:Nat}:RelV (ρ.ext n (some a)) (.ptr n 0 0) (.ptr a 0 0):=by
 simp only[RelV];exact⟨a,Ren.ext_same _ _ _,rfl⟩
def qSQ(b:Nat)(ρ:Ren)(sr:St)(o:AOp)(d:Option Nat)(K:VSt->Prop):Prop:=
 ∃sr' ρ' st',Step o d sr sr'/\K st'/\qt ρ' st' sr'/\Fm b ρ sr.h ρ' sr'.h/\b<=st'.h.length
theorem Zu{w:Nat}{y c:AV}{ys zs:List AV}{d:Option Nat}{K:VSt->Prop}(hS:qt ρ st sr)(hb:b<=st.h.length)(hc:c=.nils\/c=.lst w [] true)(hy:zO sr.h y=some zs)(hw:JH w y)
  (hyz:RelVs ρ ys zs) (h1:ys.length<=LIM) (h2:jW st d (.row w ys true) (.slice w st.h.length 0 ys.length false) K):
  ∃sr' ρ' st',App w c y sr d sr'/\K st'/\qt ρ' st' sr'/\Fm b ρ sr.h ρ' sr'.h/\b<=st'.h.length:=by
 have hlen:=hyz.length;by_cases h0:ys.length=0
 ·have:ys=[]:=lEz h0;subst this;refine⟨sr.put d c,ρ.ext st.h.length none,_,⟨zs,hy,hw, ?_⟩,h2,⟨?_, ?_, ?_⟩,Fm.mkNil hS.h hb, ?_⟩
  ·rcases hc with rfl | rfl
   ·simp only[hlen,lNi,if_true]
   ·simp only[hlen,lNi,if_true,and_self]
  ·refine(hS.s.mono (Ren.ext_le hS.h.none_at)).put ?_;simp[RelV,Ren.ext_same,hc]
  ·exact hS.l.mono (Ren.ext_le hS.h.none_at)
  ·exact hS.h.nil
  ·simp only[lAp];omega
 ·obtain⟨sr',ρ',st',q1,q2⟩:=JI (o':=.row w zs true) (v':=fun id=>.slice w id 0 zs.length false) hS hb h2 (fun a=>Ja hS.h hyz) (fun a=>by rw[hlen];exact J7);refine⟨sr',ρ',st',⟨zs,hy,hw, ?_⟩,q2⟩;rw[hlen]at q1|-;rcases hc with rfl | rfl
  ·simp only[];rw[if_neg h0];exact⟨h1,q1⟩
  ·simp only[lNa,lNi,nZa,true_and];rw[if_neg h0];exact⟨h1,q1⟩
theorem qhC{w:Nat}{y:AV}{a c:AV}{ys zs:List AV}{d:Option Nat}{K:VSt->Prop}(hS:qt ρ st sr)(hb:b<=st.h.length)(ha:RelV ρ a c)(hy:zO sr.h y=some zs)(hw:JH w y)
  (hyz:RelVs ρ ys zs) (hk:WG w a ys d st K):∃sr' ρ' st',App w c y sr d sr' false/\K st'/\qt ρ' st' sr'/\Fm b ρ sr.h ρ' sr'.h/\b<=st'.h.length:=by
 have hlen:=hyz.length;unfold WG at hk;split at hk
 ·simp only[RelV]at ha;subst ha;by_cases h0:ys.length=0
  ·rw[if_pos h0]at hk;exact⟨sr.put d .nils,ρ,_,⟨zs,hy,hw,by simp[hlen,h0]⟩,hk,⟨hS.s.put (by simp[RelV]),hS.l,hS.h⟩,Fm.refl _ _ _,hb⟩
  ·rw[if_neg h0]at hk;obtain⟨sr',ρ',st',q1,q2⟩:=JI (o':=.row w zs false) (v':=fun id=>.slice w id 0 zs.length false) hS hb hk.2 (fun a=>Ja hS.h hyz) (fun a=>by rw[hlen];exact J7);refine⟨sr',ρ',st',⟨zs,hy,hw, ?_⟩,q2⟩;simp only;rw[hlen]at q1|-;rw[if_neg h0];exact⟨hk.1,q1⟩
 ·rename_i w' id len;obtain⟨rfl,hk⟩:=hk;split at hk
  ·rename_i w2 el hid;obtain⟨rfl,hl,hk⟩:=hk;have hra:=ha;simp only[RelV]at ha;rcases hS.h.obj _ _ hid with⟨_,_,q⟩ | ⟨i',el',q1,q2,q3⟩
   ·cases q
   rcases ha with⟨a',ha,rfl⟩ | ⟨ha,_⟩
   ·rw[ha]at q1;simp only[oSi]at q1;subst q1;by_cases h0:ys.length=0
    ·rw[if_pos h0]at hk;exact⟨sr.put d (.slice w2 a' 0 len false),ρ,_,⟨zs,hy,hw,rfl,by rw[hlen,if_pos h0]⟩,hk,⟨hS.s.put hra,hS.l,hS.h⟩,Fm.refl _ _ _,hb⟩
    ·rw[if_neg h0]at hk;have hS2:qt ρ {st with h:=st.h.set id .dead} {sr with h:=sr.h.upd a' .dead}:=⟨hS.s,hS.l,hS.h.write ha hid (by simp) trivial⟩;have hb1:b<=(st.h.set id qC.dead).length:=by rw[lLs];exact hb
     have hk2:=hk.2;have e:st.h.length=(st.h.set id qC.dead).length:=by rw[lLs]
     rw[e]at hk2;obtain⟨sr',ρ',st',g1,g2,g3,g4,g5⟩:=JI (b:=b) (o':=.row w2 (el'++zs) false) (v':=fun id=>.slice w2 id 0 (len+zs.length) false) hS2 hb1 hk2
      (fun a=>Ja hS2.h (q3.append hyz)) (fun a=>by rw[hlen];exact J7)
     refine⟨sr',ρ',st',⟨zs,hy,hw,rfl, ?_⟩,g2,g3,(Fm.write hS.h ha).trans g4,g5⟩;rw[hlen]at g1|-;rw[if_neg h0];have hel:zO sr.h (.slice w2 a' 0 len false)=some el':=by
      rw[Xp q2 (by rw[q3.length];omega),List.drop_zero,List.take_of_length_le (by rw[q3.length];omega)]
     refine⟨hk.1,_,hel, ?_⟩;simp only[bFt,if_false];exact⟨⟨_,q2,by simp⟩,g1⟩
   ·rw[ha]at q1;cases q1
  ·exact hk.elim
 ·exact hk.elim
theorem qhB{w:Nat}{y:AV}{a c:AV}{ys zs:List AV}{d:Option Nat}{K:VSt->Prop}(hS:qt ρ st sr)(hb:b<=st.h.length)(ha:RelV ρ a c)(hy:zO sr.h y=some zs)(hw:JH w y)
  (hyz:RelVs ρ ys zs) (hk:Yu w a ys d st K):∃sr' ρ' st',App w c y sr d sr'/\K st'/\qt ρ' st' sr'/\Fm b ρ sr.h ρ' sr'.h/\b<=st'.h.length:=by
 have hlen:=hyz.length;unfold Yu at hk;split at hk
 ·--nil
  simp only[RelV]at ha;subst ha;exact Zu hS hb (.inl rfl) hy hw hyz hk.1 hk.2
 ·--a row
  rename_i w' id off len clip;obtain⟨rfl,hlim,hk⟩:=hk;split at hk
  ·rename_i w2 el hid;obtain⟨rfl,hoff,hk⟩:=hk;have hra:=ha;simp only[RelV]at ha;have hob:=hS.h.obj _ _ hid;have hS1:qt ρ {st with h:=st.h.set id .dead} sr:=⟨hS.s,hS.l,hS.h.giveUp id⟩;have hb1:b<=(st.h.set id qC.dead).length:=by rw[lLs];exact hb
   rcases ha with⟨a',ha,rfl⟩ | ⟨ha,rfl,rfl,hc0⟩
   ·rcases hob with⟨q,_⟩ | ⟨i',el',q1,q2,q3⟩
    ·rw[ha]at q;cases q
    rw[ha]at q1;cases q1;have hel:zO sr.h (.slice w2 a' off len clip)=some ((el'.drop off).take len):=by
     exact Xp q2 (by rw[q3.length];exact hoff)
    have hS2:qt ρ {st with h:=st.h.set id .dead} {sr with h:=sr.h.upd a' .dead}:=⟨hS.s,hS.l,hS.h.write ha hid (by simp) trivial⟩;have hel2:RelVs ρ ((el.drop off).take len++ys) ((el'.drop off).take len++zs):=((q3.drop off).take len).append hyz;have grow:ys.length≠0->clip=false->jW {st with h:=st.h.set id .dead} d (.row w2 ((el.drop off).take len++ys) true) (.slice w2 st.h.length 0 (len+ys.length) false) K->
      ∃sr' ρ' st',App w2 (.slice w2 a' off len clip) y sr d sr'/\K st'/\qt ρ' st' sr'/\Fm b ρ sr.h ρ' sr'.h/\b<=st'.h.length:=by
     clear hk;intro h0 hc hk;subst hc;have e:st.h.length=(st.h.set id qC.dead).length:=by rw[lLs]
     rw[e]at hk;obtain⟨sr',ρ',st',g1,g2,g3,g4,g5⟩:=JI (b:=b) (o':=.row w2 ((el'.drop off).take len++zs) true) (v':=fun id=>.slice w2 id 0 (len+zs.length) false) hS2 hb1 hk
      (fun a=>Ja hS2.h hel2) (fun a=>by rw[hlen];exact J7)
     refine⟨sr',ρ',st',⟨zs,hy,hw,rfl, ?_⟩,g2,g3,(Fm.write hS.h ha).trans g4,g5⟩;rw[hlen]at g1|-;rw[if_neg h0];refine⟨hlim,_,hel, ?_⟩;simp only[bFt,if_false];exact⟨⟨_,q2,nofun⟩,g1⟩
    rcases hk with⟨rfl,rfl,hl,hk⟩ | ⟨h0,rfl,hk⟩ | ⟨h0,rfl,hk⟩ | ⟨h0,hk⟩
    ·by_cases h0:ys.length=0
     ·have hys:ys=[]:=lEz h0;subst hys;refine⟨sr.put d (.slice w2 a' 0 len false),ρ.ext st.h.length (some a'),_,⟨zs,hy,hw,rfl, ?_⟩,hk,⟨?_, ?_, ?_⟩,Fm.move hS.h hb ha, ?_⟩
      ·simp only[hlen,lNi,if_true]
      ·refine(hS.s.mono (Ren.ext_le hS.h.none_at)).put ?_;simp only[lNi,nAz];exact J7
      ·exact hS.l.mono (Ren.ext_le hS.h.none_at)
      ·have:=hS.h.move ha hid (by simp);rw[<-lAn el]at this;exact this
      ·simp only[lAp,lLs];omega
     ·refine grow h0 rfl ?_;have:(el.drop 0).take len=el:=by rw[List.drop_zero,<-hl,lTl]
      rw[this];exact hk
    ·exact grow (by omega) rfl hk
    ·obtain⟨sr',ρ',st',g1,g2,g3,g4,g5⟩:=JI (b:=b) (o':=.row w2 ((el'.drop off).take len++zs) true) (v':=fun id=>.slice w2 id 0 (len+zs.length) false) hS hb hk
      (fun a=>Ja hS.h hel2) (fun a=>by rw[hlen];exact J7)
     refine⟨sr',ρ',st',⟨zs,hy,hw,rfl, ?_⟩,g2,g3,g4,g5⟩;rw[hlen]at g1|-;rw[if_neg (by omega)];refine⟨hlim,_,hel, ?_⟩;simp only[if_true];exact g1
    ·refine⟨sr.put d (.slice w2 a' off len clip),ρ,_,⟨zs,hy,hw,rfl, ?_⟩,hk,⟨hS.s.put hra,hS.l,hS.h⟩,Fm.refl _ _ _,hb⟩;rw[hlen,if_pos h0]
   ·have hel:el=[]:=by
     rcases hob with⟨_,q,_⟩ | ⟨i',el',q1,q2,q3⟩
     ·exact q
     ·rw[ha]at q1;cases q1
    subst hel;have e:st.h.length=(st.h.set id qC.dead).length:=by rw[lLs]
    simp only[List.drop_nil,List.take_nil,lNa,nZa]at hk hlim;rcases hk with⟨_,rfl,hl,hk⟩ | ⟨h0,rfl,hk⟩ | ⟨h0,rfl,hk⟩ | ⟨h0,hk⟩
    ·rw[e]at hk;exact Zu hS1 hb1 hc0 hy hw hyz hlim hk
    ·rw[e]at hk;exact Zu hS1 hb1 hc0 hy hw hyz hlim hk
    ·exact Zu hS hb hc0 hy hw hyz hlim hk
    ·refine⟨sr.put d c,ρ,_,⟨zs,hy,hw, ?_⟩,hk,⟨hS.s.put hra,hS.l,hS.h⟩,Fm.refl _ _ _,hb⟩;rcases hc0 with rfl | rfl
     ·simp only[hlen,h0,if_true]
     ·simp only[hlen,h0,if_true,and_self]
  ·exact hk.elim
 ·rename_i w' xs clip;obtain⟨rfl,hk⟩:=hk;have hra:=ha;simp only[RelV]at ha;rcases hk with⟨rfl,rfl,hlim,hk⟩ | hk
  ·refine Zu hS hb ?_ hy hw hyz hlim hk;rcases ha with⟨xs',c',rfl,hc,hx⟩ | ⟨_,rfl⟩
   ·simp only[RelVs]at hx;subst hx;rw[hc rfl];exact .inr rfl
   ·exact .inl rfl
  split at hk
  ·rename_i h0;rcases ha with⟨xs',c',rfl,hc,hx⟩ | ⟨rfl,rfl⟩
   ·refine⟨sr.put d (.lst w' xs' c'),ρ,_,⟨zs,hy,hw,rfl, ?_⟩,hk,⟨hS.s.put hra,hS.l,hS.h⟩,Fm.refl _ _ _,hb⟩;rw[hlen,if_pos h0]
   ·refine⟨sr.put d .nils,ρ,_,⟨zs,hy,hw, ?_⟩,hk,⟨hS.s.put hra,hS.l,hS.h⟩,Fm.refl _ _ _,hb⟩;simp only[hlen,h0,if_true]
  ·rename_i h0;obtain⟨hlim,rfl,hk⟩:=hk;rcases ha with⟨xs',c',rfl,hc,hx⟩ | ⟨rfl,rfl⟩
   ·obtain⟨sr',ρ',st',g1,g2,g3,g4,g5⟩:=JI (b:=b) (o':=.row w' (xs'++zs) true) (v':=fun id=>.slice w' id 0 (xs'.length+zs.length) false) hS hb hk
     (fun a=>Ja hS.h (hx.append hyz)) (fun a=>by rw[hlen,hx.length];exact J7)
    refine⟨sr',ρ',st',⟨zs,hy,hw,rfl, ?_⟩,g2,g3,g4,g5⟩;rw[hlen,hx.length]at g1|-;rw[if_neg h0];exact⟨hlim,hc rfl,g1⟩
   ·simp only[lNa,lNi,nZa]at hk hlim;exact Zu hS hb (.inl rfl) hy hw hyz hlim hk
 ·exact hk.elim
theorem qBS{o:AOp}{d:Option Nat}{K:VSt->Prop}(hS:qt ρ st sr)(hb:b<=st.h.length)(ho:o.ok=true)(hk:ju o d st K):qSQ b ρ sr o d K:=by
 have valc:(match wi o st with | some v=>K (st.put d v) | none=>False)->qSQ b ρ sr o d K:=by
  intro hk;split at hk
  ·rename_i v hv;obtain⟨r,h1,h2⟩:=qY2 hS ho hv;exact⟨sr.put d r,ρ,_,Step.of_val h1,hk,⟨hS.s.put h2,hS.l,hS.h⟩,Fm.refl _ _ _,hb⟩
  ·exact hk.elim
 have hs:=hS.s;unfold ju at hk;split at hk
 ·rename_i z;split at hk
  ·rename_i t;exact⟨_,ρ,_,⟨t,rfl,rfl⟩,hk,⟨hS.s,hS.l.cons (jq z ho),hS.h⟩,Fm.refl _ _ _,hb⟩
  ·exact hk.elim
 ·rename_i k x;split at hk
  ·rename_i t v hv;obtain⟨r,h1,h2⟩:=qv hs ho hv;exact⟨_,ρ,_,⟨t,r,rfl,h1,by rw[h2.cellsLen];exact hk.1,rfl⟩,hk.2,⟨hS.s,hS.l.cons h2,hS.h⟩,Fm.refl _ _ _,hb⟩
  ·exact hk.elim
 ·rename_i t off k x;split at hk
  ·rename_i c v hc hv;obtain⟨h0,hk⟩:=hk;obtain⟨r,h1,h2⟩:=qv hs ho hv;obtain⟨cr,h3,h4⟩:=hS.l t c hc;split at hk
   ·rename_i c' hp;obtain⟨cr',h5,h6⟩:=h4.put h2 hp;exact⟨_,ρ,_,⟨cr,r,cr',h3,h1,by rw[h2.cellsLen];exact h0,h5,rfl⟩,hk,⟨hS.s,hS.l.cons h6,hS.h⟩,Fm.refl _ _ _,hb⟩
   ·exact hk.elim
  ·exact hk.elim
 ·rename_i w z;exact JI hS hb hk (fun a=>Ja hS.h (RelVs.one (jq z ho))) (fun a=>qA2)
 ·rename_i w z;exact JI hS hb hk (fun a=>Ja hS.h (RelVs.one (jq z ho))) (fun a=>qA2)
 ·rename_i w x;split at hk
  ·rename_i v hv;obtain⟨r,h1,h2⟩:=qv hs ho hv;obtain⟨sr',ρ',st',g1,g2⟩:=JI (o':=.row w [r] true) (v':=fun id=>.ptr id 0 0) hS hb hk.2 (fun a=>Ja hS.h (RelVs.one h2)) (fun a=>qA2);exact⟨sr',ρ',st',⟨r,h1,by rw[h2.cellsLen];exact hk.1,g1⟩,g2⟩
  ·exact hk.elim
 ·rename_i w z n ps;simp only[AOp.ok,bAt]at ho;split at hk
  ·rename_i el hel;obtain⟨el',h1,h2⟩:=qUO hs ho.2 (RelVs.replicate (jq z ho.1) n) hel;obtain⟨sr',ρ',st',g1,g2⟩:=JI (o':=.row w el' true) (v':=fun id=>.slice w id 0 n false) hS hb hk (fun a=>Ja hS.h h2) (fun a=>J7);exact⟨sr',ρ',st',⟨el',h1,g1⟩,g2⟩
  ·exact hk.elim
 ·rename_i w z l c;simp only[AOp.ok,bAt]at ho;split at hk
  ·rename_i k n k' m hl hc;obtain⟨q1,q2,q3,hk⟩:=hk;obtain⟨sr',ρ',st',g1,g2⟩:=JI (o':=.row w (List.replicate n.toNat z) true) (v':=fun id=>.slice w id 0 n.toNat false) hS hb hk (fun a=>Ja hS.h (RelVs.replicate (jq z ho.1.1) _)) (fun a=>J7);exact⟨sr',ρ',st',⟨k,k',n,m,wL hs ho.1.2 hl,wL hs ho.2 hc,q1,q2,q3,g1⟩,g2⟩
  ·exact hk.elim
 ·rename_i x;split at hk
  ·rename_i v hv;obtain⟨r,h1,h2⟩:=qv hs ho hv;obtain⟨hw,hk⟩:=hk;split at hk
   ·rename_i el hel;obtain⟨a,rfl,hk⟩:=hk;obtain⟨el',h3,h4⟩:=kC hS.h h2 hel;have:=qgA h4;subst this;refine⟨sr.put d (.str a),ρ,_,⟨r,_,a,h1, ?_,h3,rfl,rfl⟩,hk,⟨hS.s.put (by simp only[RelV]),hS.l,hS.h⟩,Fm.refl _ _ _,hb⟩;rcases hw with rfl | hw
    ·simp only[RelV]at h2;exact .inl h2
    ·cases v<;>simp only[wOf,reduceCtorEq]at hw
     ·simp only[RelV]at h2;rcases h2 with⟨_,_,rfl⟩ | ⟨_,_,_,rfl | rfl⟩
      ·exact .inr hw
      ·exact .inl rfl
      ·exact .inr hw
     ·simp only[RelV]at h2;rcases h2 with⟨_,_,rfl,_⟩ | ⟨_,rfl⟩
      ·exact .inr hw
      ·exact .inl rfl
   ·exact hk.elim
  ·exact hk.elim
 ·rename_i k p x;simp only[AOp.ok,bAt]at ho;split at hk
  ·rename_i id i j v hp hv;obtain⟨h0,hk⟩:=hk;obtain⟨pr,h1,h2⟩:=qv hs ho.1 hp;obtain⟨r,h3,h4⟩:=qv hs ho.2 hv;simp only[RelV]at h2;obtain⟨a,ha,rfl⟩:=h2;split at hk
   ·rename_i w el rb hid;split at hk
    ·rename_i e he;split at hk
     ·rename_i e' hp';rcases hS.h.obj _ _ hid with⟨q,_⟩ | ⟨i',el',q1,q2,q3⟩
      ·rw[ha]at q;cases q
      rw[ha]at q1;cases q1;obtain⟨er,g1,g2⟩:=q3.get he;obtain⟨er',g3,g4⟩:=g2.put h4 hp';refine⟨{sr with h:=sr.h.upd a (.row w (el'.set i er') rb)},ρ,_,⟨a,i,j,r,w,el',er,er',rb,h1,h3,by rw[h4.cellsLen];exact h0,q2,g1,g3,rfl⟩,hk,⟨hS.s,hS.l, ?_⟩,Fm.write hS.h ha, ?_⟩
      ·exact hS.h.write ha hid (by simp) (.inr ⟨a,_,ha,AH.upd_same _ _ _,q3.set i g4⟩)
      ·rw[lLs];exact hb
     ·exact hk.elim
    ·exact hk.elim
   ·exact hk.elim
  ·exact hk.elim
 ·rename_i w x y;simp only[AOp.ok,bAt]at ho;split at hk
  ·rename_i a c ha hc;obtain⟨ar,h1,h2⟩:=qv hs ho.1 ha;obtain⟨cr,h3,h4⟩:=qv hs ho.2 hc;obtain⟨hw,hk⟩:=hk;split at hk
   ·rename_i ys hys;obtain⟨zs,h5,h6⟩:=kC hS.h h4 hys;obtain⟨sr',ρ',st',g1,g2⟩:=qhB hS hb h2 h5 (qX7 h4 hw) h6 hk;exact⟨sr',ρ',st',⟨ar,cr,h1,h3,g1⟩,g2⟩
   ·exact hk.elim
  ·exact hk.elim
 ·exact JI (o':=.map []) (v':=.map) hS hb hk (fun a=>⟨a,[],Ren.ext_same _ _ _,AH.upd_same _ _ _,by simp[RelEs,RelVs]⟩) (fun a=>by simp only[RelV];exact⟨a,Ren.ext_same _ _ _,rfl⟩)
 ·rename_i m k v;simp only[AOp.ok,bAt]at ho;split at hk
  ·rename_i id k' v' hm hkk hv;obtain⟨mr,h1,h2⟩:=qv hs ho.1.1 hm;obtain⟨kr,h3,h4⟩:=qv hs ho.1.2 hkk;obtain⟨vr,h5,h6⟩:=qv hs ho.2 hv;simp only[RelV]at h2;obtain⟨a,ha,rfl⟩:=h2;split at hk
   ·rename_i es hid;obtain⟨i',es',q1,q2,q3⟩:=hS.h.obj _ _ hid;rw[ha]at q1;cases q1;split at hk
    ·rename_i i v0 hf;rcases Wd h4 q3 hf with⟨q,_⟩ | ⟨i2,v2,v3,g1,g2,g3⟩
     ·cases q
     cases g1;refine⟨{sr with h:=sr.h.upd a (.map (es'.set i (kr,vr)))},ρ,_,⟨a,kr,vr,es',h1,h3,h5,q2, ?_⟩,hk,⟨hS.s,hS.l,hS.h.write ha hid (by simp) ⟨a,_,ha,AH.upd_same _ _ _, ?_⟩⟩,Fm.write hS.h ha, ?_⟩
     ·rw[g2]
     ·constructor
      ·rw[List.map_set,List.map_set];exact q3.1.set i h4
      ·rw[List.map_set,List.map_set];exact q3.2.set i h6
     ·rw[lLs];exact hb
    ·rename_i hf;rcases Wd h4 q3 hf with⟨_,q⟩ | ⟨i2,v2,v3,g1,_⟩
     ·refine⟨{sr with h:=sr.h.upd a (.map (es'++[(kr,vr)]))},ρ,_,⟨a,kr,vr,es',h1,h3,h5,q2, ?_⟩,hk,⟨hS.s,hS.l,hS.h.write ha hid (by simp) ⟨a,_,ha,AH.upd_same _ _ _, ?_⟩⟩,Fm.write hS.h ha, ?_⟩
      ·rw[q]
      ·constructor
       ·rw[lMa,lMa];exact q3.1.append (RelVs.one h4)
       ·rw[lMa,lMa];exact q3.2.append (RelVs.one h6)
      ·rw[lLs];exact hb
     ·cases g1
    ·exact hk.elim
   ·exact hk.elim
  ·exact hk.elim
 ·rename_i k p x q;simp only[AOp.ok,bAt]at ho;obtain⟨hk0,hk⟩:=hk;split at hk
  ·rename_i id i j v hp hv;obtain⟨h0,hk⟩:=hk;obtain⟨pr,h1,h2⟩:=qv hs ho.1 hp;obtain⟨r,h3,h4⟩:=qv hs ho.2.1 hv;simp only[RelV]at h2;obtain⟨a,ha,rfl⟩:=h2;rw[hp]at hk0;split at hk0
   case h_2=>exact hk0.elim
   rename_i id0 _ _ id2 i2 j2 e0 hq;cases e0;obtain⟨hne,hr2⟩:=hk0;obtain⟨qr,h5,h6⟩:=qv hs ho.2.2 hq;simp only[RelV]at h6;obtain⟨a2,ha2,rfl⟩:=h6;split at hk
   ·rename_i w el rb hid;have hn2:a≠a2:=by
     rintro rfl;cases e2:st.h[id2]? with
     | none=>rw[e2]at hr2;cases hr2
     | some o2=>
      rw[e2]at hr2;exact hne (hS.h.inj id id2 a _ _ ha ha2 hid e2 (by simp) (by rintro rfl;cases hr2))
    split at hk
    ·rename_i e he;split at hk
     ·rename_i e' hp';rcases hS.h.obj _ _ hid with⟨q,_⟩ | ⟨i',el',q1,q2,q3⟩
      ·rw[ha]at q;cases q
      rw[ha]at q1;cases q1;obtain⟨er,g1,g2⟩:=q3.get he;obtain⟨er',g3,g4⟩:=g2.put h4 hp';refine⟨{sr with h:=sr.h.upd a (.row w (el'.set i er') rb)},ρ,_,⟨a,i,j,r,w,el',er,er',rb,h1,h3,by rw[h4.cellsLen];exact h0,q2,g1,g3,⟨a2,i2,j2,h5,hn2⟩,rfl⟩,hk,⟨hS.s,hS.l, ?_⟩,Fm.write hS.h ha, ?_⟩
      ·exact hS.h.write ha hid (by simp) (.inr ⟨a,_,ha,AH.upd_same _ _ _,q3.set i g4⟩)
      ·rw[lLs];exact hb
     ·exact hk.elim
    ·exact hk.elim
   ·exact hk.elim
  ·exact hk.elim
 ·rename_i w x y;simp only[AOp.ok,bAt]at ho;split at hk
  ·rename_i a c ha hc;obtain⟨ar,h1,h2⟩:=qv hs ho.1 ha;obtain⟨cr,h3,h4⟩:=qv hs ho.2 hc;obtain⟨hw,hk⟩:=hk;split at hk
   ·rename_i ys hys;obtain⟨zs,h5,h6⟩:=kC hS.h h4 hys;obtain⟨sr',ρ',st',g1,g2⟩:=qhC hS hb h2 h5 (qX7 h4 hw) h6 hk;exact⟨sr',ρ',st',⟨ar,cr,h1,h3,g1⟩,g2⟩
   ·exact hk.elim
  ·exact hk.elim
 all_goals first
  | exact hk.elim
  | exact valc hk
end
structure LF where
 d:Nat
 g:Option (Nat×Bool)
 sh:Option Nat
 p:Nat
def onEq:Option Nat->Option Nat->Bool
 | none,none=>true
 | some a,some b=>Nat.beq a b
 | _,_=>false
def kM:Option (Nat×Bool)->Option (Nat×Bool)->Bool
 | none,none=>true
 | some (a,true),some (b,true)=>Nat.beq a b
 | some (a,false),some (b,false)=>Nat.beq a b
 | _,_=>false
def LF.eq(a b:LF):Bool:=Nat.beq a.d b.d&&kM a.g b.g&&onEq a.sh b.sh&&Nat.beq a.p b.p
theorem qeR{a b:Option Nat}(h:onEq a b=true):a=b:=by
 unfold onEq at h;split at h
 ·rfl
 ·rw[Nat.eq_of_beq_eq_true h]
 ·cases h
theorem qcD{a b:Option (Nat×Bool)}(h:kM a b=true):a=b:=by
 unfold kM at h;split at h
 ·rfl
 ·rw[Nat.eq_of_beq_eq_true h]
 ·rw[Nat.eq_of_beq_eq_true h]
 ·cases h
theorem LF.eq_eq{a b:LF}(h:a.eq b=true):a=b:=by
 cases a;cases b;simp only[LF.eq,bAt]at h;obtain⟨⟨⟨h1,h2⟩,h3⟩,h4⟩:=h;rw[Nat.eq_of_beq_eq_true h1,qcD h2,qeR h3,Nat.eq_of_beq_eq_true h4]
def Jz(c:qA):Option LF:=match c.d,c.o with
 | some d,.load sh (.t p)=>some ⟨d,c.g,sh,p⟩
 | _,_=>none
def LF.keeps(f:LF)(d:Option Nat):Bool:=match d with
 | none=>true
 | some d=> !Nat.beq d f.d&& !Nat.beq d f.p&&(match f.g with | some (n,_)=> !Nat.beq d n | none=>true)
def LF.own(f:LF):Bool:= !Nat.beq f.d f.p&&(match f.g with | some (n,_)=> !Nat.beq f.d n | none=>true)
def AOp.isCall:AOp->Bool
 |.call _ _ |.callv _ _ |.panic _=>true
 | _=>false
def AOp.isApp:AOp->Bool
 |.app _ _ _=>true
 | _=>false
def AOp.isLoc:AOp->Bool
 |.lalloc _ |.lbox _ _ |.lstore _ _ _ _=>true
 | _=>false
def AOp.isNew:AOp->Bool
 |.halloc _ _ |.hallt _ _ |.hbox _ _ |.bslice _ _ _ _=>true
 | _=>false
def qA.apC(c:qA):Bool:=c.o.isApp&& !c.ck.isEmpty
def AOp.quiet:AOp->Bool
 |.mov _ |.pick _ _ _ |.build _ _ |.lload _ _ _ |.load _ _ |.nilchk _ |.bin _ _ _ |.sop _ _ _ |.beq _ _ _ |.seq _ _ _ _ |.isnil _ _ _ |.not _ |.neg _ |.conv _ _ |.slc _ _ _ _ _ |.sslc _ _ _ |.faddr _ _ |.fld _ _ _ |.iaddr _ _ _ |.sidx _ _ |.aidx _ _ _ _ _ |.ext _ _ |.mkfn _ _ |.len _ |.slen _ |.max _ _ |.min _ _ |.mkif _ _ |.looks _ _ _ _ |.nop _=>true
 | _=>false
def WO(c:qA)(F:List LF):List LF:=match Jz c with
 | some f=>if f.own then f::F else F
 | none=>F
def wq(ck:List qA)(f:LF):Bool:=ck.any fun k=>match Jz k with | some f'=>LF.eq f' f | none=>false
def WU:List LF->List qA->Bool
 | _,[]=>true
 | F,c::l=>
  let F':=F.filter fun f=>f.keeps c.d
  (c.ck.isEmpty || ((c.o.isCall || c.o.isApp)&&c.ck.all fun k=>match Jz k with | some f=>F'.any (LF.eq f) | none=>false))&&
   WU (if c.o.isCall then(if c.ck.isEmpty then []else F'.filter (wq c.ck))else if c.apC then F'.filter (wq c.ck)else if c.o.quiet then WO c F' else if c.o.isLoc then F' else if c.o.isNew then F' else []) l
mutual
def qG.ok:qG->Bool
 |.skip |.exit _ |.ret=>true
 |.reg p l=>p&&((l.all fun c=>c.o.ok)&&WU [] l)
 |.seq a b=>a.ok&&b.ok
 |.cond c a b=>c.ok&&a.ok&&b.ok
 |.blk _ a |.loop a=>a.ok
 |.rng _ _ _ _ a b=>a.ok&&b.ok
end
def SCall(Γ:Nat->Option AFn)(g:Nat)(vs:List AV)(h:List qC)(K:AV->List qC->Prop):Prop:=
 ∀ρ hr ar,qw ρ h hr->RelVs ρ vs ar->∃k r hr' ρ' v h',Ex Γ k (.call g ar hr) (.res (.ok r) hr')/\K v h'/\qw ρ' h' hr'/\RelV ρ' v r/\Fm h.length ρ hr ρ' hr'/\h.length<=h'.length
def SCallK(Γ:Nat->Option AFn)(g:Nat)(vs:List AV)(h:List qC)(K:AV->List qC->Prop):Prop:=
 ∀ρ hr ar,qw ρ h hr->RelVs ρ vs ar->∃k r hr' ρ' v h',Ex Γ k (.call g ar hr) (.res (.ok r) hr')/\K v h'/\qw ρ' h' hr'/\RelV ρ' v r/\Fm h.length ρ hr ρ' hr'/\h.length<=h'.length/\∀a o,hr a=some o->hr' a=some o
def SCallP(Γ:Nat->Option AFn)(g:Nat)(vs:List AV)(h:List qC)(K:AV->Prop):Prop:=
 ∀ρ hr ar,qw ρ h hr->RelVs ρ vs ar->∃k r hr' v,Ex Γ k (.call g ar hr) (.res (.ok r) hr')/\hr'.f=hr.f/\(∀a,hr'.fr a->hr.fr a)/\K v/\RelV ρ v r
def SCallX(Γ:Nat->Option AFn)(g:Nat)(vs:List AV)(h:List qC)(K KP:AV->List qC->Prop):Prop:=
 ∀ρ hr ar,qw ρ h hr->RelVs ρ vs ar->∃k hr' ρ' h',qw ρ' h' hr'/\Fm h.length ρ hr ρ' hr'/\h.length<=h'.length/\
  ((∃v r,Ex Γ k (.call g ar hr) (.res (.ok r) hr')/\K v h'/\RelV ρ' v r)\/∃v,Ex Γ k (.call g ar hr) (.res (.pan v) hr')/\v.leaf=true/\KP v h')
theorem SCallX.of{Γ:Nat->Option AFn}{g:Nat}{vs:List AV}{h:List qC}{K KP:AV->List qC->Prop}(hs:SCall Γ g vs h K):SCallX Γ g vs h K KP:=fun ρ hr ar hH hv=>by
 obtain⟨k,r,hr',ρ',v,h',q1,q2,q3,q4,q5,q6⟩:=hs ρ hr ar hH hv;exact⟨k,hr',ρ',h',q3,q5,q6,.inl ⟨v,r,q1,q2,q4⟩⟩
inductive Fr1 where
 | code (c:qG)
 | ops (l:List qA)
 | blk (n:Nat)
structure Ev where
 Γ:Nat->Option AFn
 b:Nat
 fz:List Nat
 bp:List Nat
def Jw(n:Nat)(st:VSt):VSt:=match get st.s n with
 | some (.ptr id 0 0)=>(match st.h[id]? with
  | some (.row w [v] true)=>if 0<w then{s:=(n,.ept v 0)::st.s,l:=st.l,h:=st.h.set id .dead}else st
  | _=>st)
 | some (.slice w id 0 len c)=>(match st.h[id]? with
  | some (.row w' el true)=>if 0<w/\w'=w/\el.length=len then{s:=(n,.lst w el c)::st.s,l:=st.l,h:=st.h.set id .dead}else st
  | _=>st)
 | _=>st
def Jx:List Nat->VSt->VSt
 |[],st=>st
 | n::r,st=>Jx r (Jw n st)
mutual
def qG.sz:qG->Nat
 |.skip=>1
 |.reg _ l=>2+l.length
 |.seq a b=>1+a.sz+b.sz
 |.cond _ a b=>1+a.sz+b.sz
 |.blk _ a=>2+a.sz
 |.loop _=>1
 |.exit _=>1
 |.ret=>1
 |.rng _ _ _ _ _ _=>1
end
def Fr1.sz:Fr1->Nat
 |.code c=>c.sz
 |.ops l=>1+l.length
 |.blk _=>1
def szF:List Fr1->Nat
 |[]=>0
 | f::r=>f.sz+szF r
def exK:qS->List Fr1->Option (List Fr1)
 | _,[]=>none
 |.exit m,.blk n::ks=>if m=n then some ks else exK (.exit m) ks
 | e,_::ks=>exK e ks
theorem QL:∀{e:qS}{ks ks':List Fr1},exK e ks=some ks'->szF ks'<szF ks
 | e,[],ks',h=>by cases e<;>simp[exK]at h
 |.exit m,.blk n::ks,ks',h=>by
  simp only[exK]at h;split at h
  ·cases h;simp only[szF,Fr1.sz];omega
  ·have:=QL h;simp only[szF,Fr1.sz];omega
 |.exit m,.code c::ks,ks',h=>by have:=QL (e:=.exit m) (ks:=ks) (by simpa only [exK]using h);simp only[szF];omega
 |.exit m,.ops c::ks,ks',h=>by have:=QL (e:=.exit m) (ks:=ks) (by simpa only [exK]using h);simp only[szF];omega
 |.nrm,f::ks,ks',h=>by have:=QL (e:=.nrm) (ks:=ks) (by simpa only [exK]using h);simp only[szF];omega
 |.ret,f::ks,ks',h=>by have:=QL (e:=.ret) (ks:=ks) (by simpa only [exK]using h);simp only[szF];omega
 |.pan v,f::ks,ks',h=>by have:=QL (e:=.pan v) (ks:=ks) (by simpa only [exK]using h);simp only[szF];omega
inductive ExF(Γ:Nat->Option AFn):Nat->List Fr1->St->qS->St->Prop
 | nil {k s}:ExF Γ k [] s .nrm s
 | code {k c ks s s1 e s2} (h:Ex Γ k (.code c s) (.st .nrm s1)) (h':ExF Γ k ks s1 e s2):ExF Γ k (.code c::ks) s e s2
 | codeX {k c ks ks' s s1 e e1 s2} (h:Ex Γ k (.code c s) (.st e1 s1)) (he:e1≠.nrm) (hx:exK e1 ks=some ks') (h':ExF Γ k ks' s1 e s2):ExF Γ k (.code c::ks) s e s2
 | codeE {k c ks s s1 e1} (h:Ex Γ k (.code c s) (.st e1 s1)) (he:e1≠.nrm) (hx:exK e1 ks=none):ExF Γ k (.code c::ks) s e1 s1
 | ops {k l ks s s1 e s2} (h:Ex Γ k (.ops l s) (.st .nrm s1)) (h':ExF Γ k ks s1 e s2):ExF Γ k (.ops l::ks) s e s2
 | blk {k n ks s e s2} (h':ExF Γ k ks s e s2):ExF Γ k (.blk n::ks) s e s2
 | opsP {k l ks s v s1} (h:Ex Γ k (.ops l s) (.st (.pan v) s1)):ExF Γ k (.ops l::ks) s (.pan v) s1
def Sem(E:Ev)(ks:List Fr1)(st:VSt)(Q:qS->VSt->Prop):Prop:=
 ∀ρ sr,qt ρ st sr->E.b<=st.h.length->∃k e sr' ρ' st',ExF E.Γ k ks sr e sr'/\Q e st'/\qt ρ' st' sr'/\Fm E.b ρ sr.h ρ' sr'.h/\E.b<=st'.h.length
def qUR:List qA->Nat
 | c::_=>c.d.getD 0
 |[]=>0
def AV.rigid:AV->Prop
 |.ptr _ _ _ |.map _ |.bool _ |.int _ _ |.str _ |.nilp |.nils |.nilm |.nilf |.nili=>True
 |.slice _ _ off len _=>¬(off=0/\len=0)
 | _=>False
def ckV(st:VSt)(k:qA):Prop:=match Jz k with
 | some f=>f.g=none/\∃v,get st.s f.d=some v/\wi (.load f.sh (.t f.p)) st=some v/\v.rigid
 | none=>False
def ckVs(st:VSt):List qA->Prop
 |[]=>True
 | c::l=>ckV st c/\ckVs st l
def qY0(E:Ev)(o:AOp)(ck:List qA)(d:Option Nat)(st:VSt)(K:VSt->Prop)(KP:AV->VSt->Prop):Prop:=
 match o with
 |.panic x=>(match ev (toE st.s) x with
  | some (.iface t v)=>v.leaf=true/\KP (.iface t v) st
  | _=>False)
 | o=>(match zf (toE st.s) o with
  | some (g,vs)=>match ck with
   |[]=>SCallX E.Γ g vs st.h (fun v h'=>K {s:=jm st.s d v,l:=st.l,h:=h'}) (fun v h'=>KP v {s:=st.s,l:=st.l,h:=h'})
   | c::l=>SCallK E.Γ g vs st.h (fun v h'=>K {s:=jm st.s d v,l:=st.l,h:=h'})\/SCallX E.Γ g vs st.h (fun v h'=>ckVs {s:=jm st.s d v,l:=st.l,h:=h'} (c::l)/\K {s:=jm st.s d v,l:=st.l,h:=h'}) (fun v h'=>KP v {s:=st.s,l:=st.l,h:=h'})
  | none=>False)
def ckE(s:qf)(k:qA):Bool:=match Jz k with
 | some f=>(match get s f.p with | some (.ept _ _)=>true | _=>false)
 | none=>false
def qYZ(c:AOp)(ck:List qA)(d:Option Nat)(st:VSt)(K:VSt->Prop):Prop:=match c with
 |.app w x y=>(match ev (toE st.s) x with
  | some (.lst w' [] true)=>w'=w/\ju (.app w x y) d st K
  | some (.slice _ _ _ _ _)=>(ck.all (ckE st.s))=true/\ju (.app w x y) d st K
  | _=>False)
 | _=>False
def jt(E:Ev)(c:qA)(st:VSt)(K:VSt->Prop)(KP:AV->VSt->Prop):Prop:=if c.o.isCall then qY0 E c.o c.ck c.d st K KP else if c.apC then qYZ c.o c.ck c.d st K else ju c.o c.d st K
def qBR(E:Ev)(c:qA)(st:VSt)(K:VSt->Prop)(KP:AV->VSt->Prop):Prop:=
 match c.g with
 | none=>jt E c st K KP
 | some (n,t)=>match get st.s n with
  | some (.bool c')=>if c'=t then jt E c st K KP else K (st.put c.d .undef)
  | some (.tup [])=>K (st.put c.d .undef)
  | _=>False
def R(E:Ev)(ks:List Fr1)(st:VSt)(Q:qS->VSt->Prop):Prop:=
 match ks with
 |[]=>Q .nrm st
 |.blk _::ks=>R E ks st Q
 |.ops []::ks=>R E ks st Q
 |.ops (c::l)::ks=>qBR E c st (fun st'=>R E (.ops l::ks) st' Q) fun v st'=>Q (.pan v) st'
 |.code .skip::ks=>R E ks st Q
 |.code (.reg p l)::ks=>if E.bp.contains (qUR l)then Sem E (.code (.reg p l)::ks) st Q else R E (.ops l::ks) (Jx E.fz st) Q
 |.code (.seq a b)::ks=>R E (.code a::.code b::ks) st Q
 |.code (.cond c a b)::ks=>match ev (toE st.s) c with
  | some (.bool t)=>if t=true then R E (.code a::ks) st Q else R E (.code b::ks) st Q
  | _=>False
 |.code (.blk n a)::ks=>R E (.code a::.blk n::ks) st Q
 |.code (.loop a)::ks=>Sem E (.code (.loop a)::ks) st Q
 |.code (.exit n)::ks=>(match h:exK (.exit n) ks with
  | some ks'=>R E ks' st Q
  | none=>Q (.exit n) st)
 |.code .ret::ks=>(match h:exK .ret ks with
  | some ks'=>R E ks' st Q
  | none=>Q .ret st)
 |.code (.rng x k p1 p2 a b)::ks=>Sem E (.code (.rng x k p1 p2 a b)::ks) st Q
termination_by szF ks
decreasing_by
 all_goals simp only[szF,Fr1.sz,qG.sz,lCo,lNi]
 all_goals first
  | omega
  | (have:=QL h;omega)
theorem ExF.le{Γ:Nat->Option AFn}{k:Nat}{ks:List Fr1}{s s':St}{e:qS}(h:ExF Γ k ks s e s'):∀{k'},k<=k'->ExF Γ k' ks s e s':=by
 induction h with
 | nil=>exact fun _=>.nil
 | code h _ ih=>exact fun hk=>.code (h.le hk) (ih hk)
 | codeX h he hx _ ih=>exact fun hk=>.codeX (h.le hk) he hx (ih hk)
 | codeE h he hx=>exact fun hk=>.codeE (h.le hk) he hx
 | ops h _ ih=>exact fun hk=>.ops (h.le hk) (ih hk)
 | blk _ ih=>exact fun hk=>.blk (ih hk)
 | opsP h=>exact fun hk=>.opsP (h.le hk)
theorem Wb{e:qS}{c:qG}{ks:List Fr1}:exK e (.code c::ks)=exK e ks:=by cases e<;>rfl
theorem QK:∀ks,exK .ret ks=none
 |[]=>rfl
 |.code _::ks=>by rw[Wb];exact QK ks
 |.ops _::ks=>QK ks
 |.blk _::ks=>QK ks
theorem ExF.seq{Γ:Nat->Option AFn}{k:Nat}{a b:qG}{ks:List Fr1}{s s':St}{e:qS}(h:ExF Γ k (.code a::.code b::ks) s e s'):ExF Γ k (.code (.seq a b)::ks) s e s':=by
 cases h with
 | code ha h'=>
  cases h' with
  | code hb h'=>exact .code (.seqN ha hb) h'
  | codeX hb he hx h'=>exact .codeX (.seqN ha hb) he hx h'
  | codeE hb he hx=>exact .codeE (.seqN ha hb) he hx
 | codeX ha he hx h'=>rw[Wb]at hx;exact .codeX (.seqX ha he) he hx h'
 | codeE ha he hx=>rw[Wb]at hx;exact .codeE (.seqX ha he) he hx
theorem ExF.blkC{Γ:Nat->Option AFn}{k n:Nat}{a:qG}{ks:List Fr1}{s s':St}{e:qS}(h:ExF Γ k (.code a::.blk n::ks) s e s'):ExF Γ k (.code (.blk n a)::ks) s e s':=by
 cases h with
 | code ha h'=>
  cases h' with
  | blk h'=>exact .code (.blk ha) h'
 | codeX ha he hx h'=>
  rename_i ks' s1 e1;cases e1 with
  | nrm=>exact absurd rfl he
  | exit m=>
   simp only[exK]at hx;split at hx
   ·rename_i hm;cases hx;have:=Ex.blk (n:=n) ha;simp only[Qv,if_pos hm]at this;exact .code this h'
   ·rename_i hm;have:=Ex.blk (n:=n) ha;simp only[Qv,if_neg hm]at this;exact .codeX this (by simp) hx h'
  | ret=>rw[QK]at hx;cases hx
  | pan v=>exact .codeX (.blk ha) (by simp[Qv]) hx h'
 | codeE ha he hx=>
  cases e with
  | nrm=>exact absurd rfl he
  | exit m=>
   simp only[exK]at hx;split at hx
   ·cases hx
   ·rename_i hm;have:=Ex.blk (n:=n) ha;simp only[Qv,if_neg hm]at this;exact .codeE this (by simp) hx
  | ret=>exact .codeE (.blk ha) (by simp[]) (QK _)
  | pan v=>exact .codeE (.blk ha) (by simp[]) hx
def LFok(sr:St)(f:LF):Prop:=Again sr (.mk 0 (some f.d) f.g (.load f.sh (.t f.p)) [])
section
variable {E:Ev} {ρ:Ren} {st:VSt} {sr:St}
theorem X8{s:Env}{d:Option Nat}{v:AV}{n:Nat}(h:∀e,d=some e->e≠n):lk (jU s d v) n=lk s n:=by
 cases d with
 | none=>rfl
 | some e=>show lk (s.set e v) n=_;rw[jD,if_neg (h e rfl)]
theorem qYX{s:Env}{d:Option Nat}{v:AV}{g:Option (Nat×Bool)}(h:∀e,d=some e->∀n t,g=some (n,t)->e≠n):zB (jU s d v) g=zB s g:=by
 cases g with
 | none=>rfl
 | some p=>
  obtain⟨n,t⟩:=p;simp only[zB,X8 (v:=v) (s:=s) (fun e he=>h e he n t rfl)]
theorem qdB{f:LF}{d:Option Nat}(h:f.keeps d=true):∀e,d=some e->e≠f.d/\e≠f.p/\∀n t,f.g=some (n,t)->e≠n:=by
 rintro e rfl;simp only[LF.keeps,bAt,bNt]at h;obtain⟨⟨h1,h2⟩,h3⟩:=h;have ne:∀{a b:Nat},Nat.beq a b=false->a≠b:=fun{a b} q r=>by subst r;rw[Nat.beq_refl]at q;cases q
 refine⟨ne h1,ne h2,fun n t hg=> ?_⟩;rw[hg]at h3;simp only[bNt]at h3;exact ne h3
theorem LFok.put{f:LF}{d:Option Nat}{v:AV}(hk:f.keeps d=true)(h:LFok sr f):LFok (sr.put d v) f:=by
 have hn:=qdB hk;unfold LFok Again at h|-;simp only[qA.g,qA.d,qA.o]at h|-;have hw:zB (sr.put d v).s f.g=zB sr.s f.g:=qYX fun e he n t hg=>(hn e he).2.2 n t hg;rw[hw];split at h
 ·obtain⟨d',v',h1,h2,h3⟩:=h;refine⟨d',v',h1, ?_, ?_⟩
  ·cases h1;show lk (jU sr.s d v) f.d=_;rw[X8 fun e he=>(hn e he).1];exact h2
  ·rw[<-h3];have:ev (sr.put d v).s (.t f.p)=ev sr.s (.t f.p):=X8 fun e he=>(hn e he).2.1;simp only[val,this];rfl
 ·trivial
 ·exact h.elim
theorem LFok.heap{f:LF}{hr':AH}(he:∀a o,sr.h a=some o->hr' a=some o)(h:LFok sr f):LFok {sr with h:=hr'} f:=by
 unfold LFok Again at h|-;simp only[qA.g,qA.d,qA.o]at h|-;split at h
 ·obtain⟨d',v',h1,h2,h3⟩:=h;refine⟨d',v',h1,h2, ?_⟩;simp only[val]at h3|-;split at h3
  ·rename_i id i j hp;cases hq:sr.h id with
   | none=>simp[hq]at h3
   | some o=>rw[he _ _ hq];simpa[hq]using h3
  ·rename_i x j hp;exact h3
  ·cases h3
 ·trivial
 ·exact h.elim
theorem LFok.loc{f:LF}{sr1:St}(e1:sr1.s=sr.s)(e2:sr1.h=sr.h)(h:LFok sr f):LFok sr1 f:=by
 unfold LFok Again at h|-;simp only[qA.g,qA.d,qA.o,val]at h|-;rw[e1,e2];exact h
theorem Step.loc{o:AOp}{d:Option Nat}{sr1:St}(hs:Step o d sr sr1)(hl:o.isLoc=true):sr1.s=sr.s/\sr1.h=sr.h:=by
 cases o<;>first
  | (cases hl;done)
  | (obtain⟨_,_,rfl⟩:=hs;exact⟨rfl,rfl⟩)
  | (obtain⟨_,_,_,_,_,rfl⟩:=hs;exact⟨rfl,rfl⟩)
  | (obtain⟨_,_,_,_,_,_,_,rfl⟩:=hs;exact⟨rfl,rfl⟩)
theorem LFok.upd{f:LF}{id:Nat}{o:qC}(hn:sr.h id=none)(h:LFok sr f):LFok {sr with h:=sr.h.upd id o} f:=by
 unfold LFok Again at h|-;simp only[qA.g,qA.d,qA.o]at h|-;split at h
 ·obtain⟨d',v',h1,h2,h3⟩:=h;exact⟨d',v',h1,h2,XE hn h3⟩
 ·trivial
 ·exact h.elim
theorem LFok.app{f:LF}{w:Nat}{x y:Ao}{d:Option Nat}{sr1:St}{r:AV}(hs:Step (.app w x y) d sr sr1)(hx:ev sr.s x=some r)(hr:RelV ρ (.lst w [] true) r)(hk:f.keeps d=true)(h:LFok sr f):LFok sr1 f:=by
 obtain⟨a,b,h1,h2,ys,h3,h4,h5⟩:=hs;rw[hx]at h1;cases h1;have new:∀{o:qC}{v:Nat->AV},New sr d o v sr1->LFok sr1 f:=by
  rintro o v ⟨id,hid,rfl⟩;exact LFok.put hk (LFok.upd hid.1 h)
 simp only[RelV,RelVs]at hr;rcases hr with⟨_,c,rfl,_,rfl⟩ | ⟨_,rfl⟩
 ·obtain⟨_,h5⟩:=h5;split at h5
  ·rw[h5];exact LFok.put hk h
  ·exact new h5.2.2
 ·replace h5:if ys.length=0 then sr1=sr.put d .nils else ys.length<=LIM/\New sr d (.row w ys true) (fun id=>.slice w id 0 ys.length false) sr1:=h5;split at h5
  ·rw[h5];exact LFok.put hk h
  ·exact new h5.2
theorem Step.app_s{w:Nat}{x y:Ao}{d:Option Nat}{sr1:St}(hs:Step (.app w x y) d sr sr1):∃v h',sr1={sr with h:=h'}.put d v:=by
 obtain⟨a,b,h1,h2,ys,h3,h4,h5⟩:=hs;have new:∀{o:qC}{v:Nat->AV}{h0:AH},New {sr with h:=h0} d o v sr1->∃v h',sr1={sr with h:=h'}.put d v:=by
  rintro o v h0 ⟨id,hid,rfl⟩;exact⟨v id,h0.upd id o,rfl⟩
 have stay:∀{v:AV},sr1=sr.put d v->∃v h',sr1={sr with h:=h'}.put d v:=fun{v} e=>⟨v,sr.h,e⟩;split at h5
 ·split at h5
  ·exact stay h5
  ·exact new (h0:=sr.h) h5.2
 ·obtain⟨_,h5⟩:=h5;split at h5
  ·exact stay h5
  ·obtain⟨_,xs,_,h5⟩:=h5;split at h5
   ·exact new (h0:=sr.h) h5
   ·exact new h5.2
 ·obtain⟨_,h5⟩:=h5;split at h5
  ·exact stay h5
  ·exact new (h0:=sr.h) h5.2.2
 ·exact h5.elim
theorem LFok.ept{f:LF}{w:Nat}{x y:Ao}{d:Option Nat}{sr1:St}{v:AV}{j:Nat}(hs:Step (.app w x y) d sr sr1)(hp:lk sr.s f.p=some (.ept v j))(hk:f.keeps d=true)(h:LFok sr f):LFok sr1 f:=by
 obtain⟨u,h',rfl⟩:=hs.app_s;refine LFok.put hk ?_;unfold LFok Again at h|-;simp only[qA.g,qA.d,qA.o]at h|-;split at h
 ·obtain⟨d',v',h1,h2,h3⟩:=h;refine⟨d',v',h1,h2, ?_⟩;have e:ev sr.s (.t f.p)=some (.ept v j):=hp;simp only[val,e]at h3|-;exact h3
 ·trivial
 ·exact h.elim
theorem LFok.newO{o:AOp}{f:LF}{d:Option Nat}{sr1:St}(hs:Step o d sr sr1)(hn:o.isNew=true)(hk:f.keeps d=true)(h:LFok sr f):LFok sr1 f:=by
 have new:∀{o:qC}{v:Nat->AV},New sr d o v sr1->LFok sr1 f:=by
  rintro o v ⟨id,hid,rfl⟩;exact LFok.put hk (LFok.upd hid.1 h)
 cases o<;>first
  | (simp only[AOp.isNew,bFt]at hn;done)
  | exact new hs
  | exact new hs.choose_spec.2
  | exact new hs.choose_spec.2.2
theorem LFok.new{c:qA}{f:LF}{v:AV}(hf:Jz c=some f)(ho:f.own=true)
  (h:(zB sr.s c.g=some true/\val c.o sr.s sr.l sr.h=some v)\/zB sr.s c.g=some false):LFok (sr.put c.d v) f:=by
 unfold Jz at hf;split at hf
 ·rename_i d sh p hd hc;simp only[oSi]at hf;subst hf;simp only[LF.own,bAt,bNt]at ho;obtain⟨h1,h2⟩:=ho;have ne:∀{a b:Nat},Nat.beq a b=false->a≠b:=fun{a b} q r=>by subst r;rw[Nat.beq_refl]at q;cases q
  have hw:zB (sr.put c.d v).s c.g=zB sr.s c.g:=qYX fun e he n t hg=>by
   rw[hd]at he;cases he;rw[hg]at h2;simp only[bNt]at h2;exact ne h2
  show (match zB (sr.put c.d v).s c.g with
   | some true=>∃d' v',some d=some d'/\lk (sr.put c.d v).s d'=some v'/\val (.load sh (.t p)) (sr.put c.d v).s (sr.put c.d v).l (sr.put c.d v).h=some v'
   | some false=>True
   | none=>False)
  rw[hw];rcases h with⟨h3,h4⟩ | h3
  ·rw[h3];refine⟨d,v,rfl, ?_, ?_⟩
   ·rw[hd];show lk (sr.s.set d v) d=_;rw[jD,if_pos rfl]
   ·rw[<-h4,hc];have:ev (sr.put c.d v).s (.t p)=ev sr.s (.t p):=X8 fun e he=>by rw[hd]at he;cases he;exact ne h1
    simp only[val,this];rfl
  ·rw[h3];trivial
 ·cases hf
theorem Xg{F:List LF}(hF:∀f∈F,LFok sr f):∀{ck:List qA},(ck.all fun k=>match Jz k with | some f=>F.any (LF.eq f) | none=>false)=true->Checks sr ck
 |[],_=>trivial
 | c::ck,h=>by
  simp only[lAc,bAt]at h;refine⟨?_,Xg hF h.2⟩;have h1:=h.1;split at h1
  ·rename_i f hf;rw[List.any_eq_true]at h1;obtain⟨f',q1,q2⟩:=h1;have:=LF.eq_eq q2;subst this;have:=hF _ q1;unfold Jz at hf;split at hf
   ·rename_i d sh p hd hc;simp only[oSi]at hf;subst hf;unfold LFok Again at this;unfold Again;rw[hd,hc];exact this
   ·cases hf
  ·cases h1
theorem Step.quiet{o:AOp}{d:Option Nat}{s s':St}(hs:Step o d s s')(hq:o.quiet=true):∃v,val o s.s s.l s.h=some v/\s'=s.put d v:=by
 cases o<;>first
  | (simp only[AOp.quiet,bFt]at hq;done)
  | exact hs
theorem qaS(hS:qt ρ st sr){o:AOp}(ho:o.ok=true){g:Nat}{vs:List AV}(hc:zf (toE st.s) o=some (g,vs)):∃ar,zf sr.s o=some (g,ar)/\RelVs ρ vs ar:=by
 cases o<;>simp only[zf,reduceCtorEq]at hc
 case call g' args=>
  simp only[oMi,Prod.mk.injEq]at hc;obtain⟨as,h1,rfl,rfl⟩:=hc;obtain⟨rs,h2,h3⟩:=Xt hS.s ho h1;exact⟨rs,by simp only[zf,h2,oMs],h3⟩
 case callv x args=>
  simp only[AOp.ok,bAt]at ho;split at hc
  ·rename_i g' cs as h1 h2;cases hc;obtain⟨r,q1,q2⟩:=qv hS.s ho.1 h1;simp only[RelV]at q2;obtain⟨ds,rfl,q2⟩:=q2;obtain⟨rs,q3,q4⟩:=Xt hS.s ho.2 h2;exact⟨rs++ds,by simp only[zf,q1,q3],q4.append q2⟩
  ·cases hc
theorem qw.grow{h h':List qC}{ρ':Ren}{hr hr':AH}(hh:qw ρ h hr)(hf:Fm h.length ρ hr ρ' hr'):ρ.le ρ':=fun i a hi=>by
 have hlt:i<h.length:=by
  rcases Nat.lt_or_ge i h.length with q | q
  ·exact q
  ·rw[hh.out i q]at hi;cases hi
 rw[hf.base i hlt];exact hi
theorem AV.rigid.one{ρ:Ren}:∀{v r r':AV},v.rigid->RelV ρ v r->RelV ρ v r'->r=r'
 |.ptr _ _ _,_,_,_,h,h'=>by
  simp only[RelV]at h h';obtain⟨a,h1,rfl⟩:=h;obtain⟨b,h2,rfl⟩:=h';rw[h1]at h2;cases h2;rfl
 |.map _,_,_,_,h,h'=>by
  simp only[RelV]at h h';obtain⟨a,h1,rfl⟩:=h;obtain⟨b,h2,rfl⟩:=h';rw[h1]at h2;cases h2;rfl
 |.slice _ _ _ _ _,_,_,hn,h,h'=>by
  simp only[RelV]at h h';rcases h with⟨a,h1,rfl⟩ | ⟨_,q1,q2,_⟩
  ·rcases h' with⟨b,h2,rfl⟩ | ⟨_,q1,q2,_⟩
   ·rw[h1]at h2;cases h2;rfl
   ·exact absurd ⟨q1,q2⟩ hn
  ·exact absurd ⟨q1,q2⟩ hn
 |.bool _,_,_,_,h,h' |.int _ _,_,_,_,h,h' |.str _,_,_,_,h,h' |.nilp,_,_,_,h,h' |.nils,_,_,_,h,h' |.nilm,_,_,_,h,h' |.nilf,_,_,_,h,h' |.nili,_,_,_,h,h'=>by
  simp only[RelV]at h h';rw[h,h']
 |.lst _ _ _,_,_,hn,_,_ |.ept _ _,_,_,hn,_,_ |.fn _ _,_,_,hn,_,_ |.iface _ _,_,_,hn,_,_ |.agg _,_,_,hn,_,_ |.tup _,_,_,hn,_,_ |.any,_,_,hn,_,_=>hn.elim
theorem ckVs.ok{st:VSt}{sr:St}{ρ:Ren}(hS:qt ρ st sr):∀{ck:List qA}{f:LF},ckVs st ck->wq ck f=true->LFok sr f
 |[],_,_,h=>by cases h
 | k::ck,f,hk,h=>by
  unfold wq at h;simp only[List.any_cons,Bool.or_eq_true]at h;rcases h with h | h
  ·have h1:=hk.1;unfold ckV at h1;split at h
   ·rename_i f' hf';have:=LF.eq_eq h;subst this;rw[hf']at h1;obtain⟨hg,v,q1,q2,q3⟩:=h1;obtain⟨r,a1,a2⟩:=hS.s _ _ q1;obtain⟨r',b1,b2⟩:=qY2 hS (by rfl) q2;have:=q3.one a2 b2;subst this;unfold LFok Again;simp only[qA.g,qA.d,qA.o,hg,zB];exact⟨_,_,rfl,a1,b1⟩
   ·cases h
  ·exact ckVs.ok hS hk.2 h
mutual
theorem Wg:∀(a b:AV),a.leaf=true->RelV ρ a b->b=a
 |.bool _,_,_,h |.int _ _,_,_,h |.str _,_,_,h |.nilp,_,_,h |.nils,_,_,h |.nilm,_,_,h |.nilf,_,_,h |.nili,_,_,h=>by simp only[RelV]at h;exact h
 |.any,_,ht,_=>by simp[AV.leaf]at ht
 |.ptr _ _ _,_,ht,_=>by simp[AV.leaf]at ht
 |.map _,_,ht,_=>by simp[AV.leaf]at ht
 |.slice _ _ _ _ _,_,ht,_=>by simp[AV.leaf]at ht
 |.lst _ _ _,_,ht,_=>by simp[AV.leaf]at ht
 |.ept _ _,_,ht,_=>by simp[AV.leaf]at ht
 |.fn _ cs,_,ht,h=>by
  simp only[RelV]at h;simp only[AV.leaf]at ht;obtain⟨ds,rfl,h2⟩:=h;rw[QT cs _ ht h2]
 |.iface _ x,_,ht,h=>by
  simp only[RelV]at h;simp only[AV.leaf]at ht;obtain⟨u,rfl,h2⟩:=h;rw[Wg x u ht h2]
 |.agg cs,_,ht,h=>by
  simp only[RelV]at h;simp only[AV.leaf]at ht;obtain⟨ds,rfl,h2⟩:=h;rw[QT cs _ ht h2]
 |.tup cs,_,ht,h=>by
  simp only[RelV]at h;simp only[AV.leaf]at ht;obtain⟨ds,rfl,h2⟩:=h;rw[QT cs _ ht h2]
theorem QT:∀(as bs:List AV),AV.leafs as=true->RelVs ρ as bs->bs=as
 |[],_,_,h=>by simpa only [RelVs]using h
 | a::as,bs,ht,h=>by
  simp only[RelVs]at h;simp only[AV.leafs,bAt]at ht;obtain⟨b,bs,rfl,h2,h3⟩:=h;rw[Wg a b ht.1 h2,QT as bs ht.2 h3]
end
def xl(E:Ev):List qA->VSt->(VSt->Prop)->(AV->VSt->Prop)->Prop
 |[],st,K,_=>K st
 | c::l,st,K,KP=>qBR E c st (fun st'=>xl E l st' K KP) KP
def XlR(E:Ev)(b:Nat)(l:List qA)(ρ:Ren)(sr:St)(K:VSt->Prop)(KP:AV->VSt->Prop):Prop:=
 ∃k sr' ρ' st',qt ρ' st' sr'/\Fm b ρ sr.h ρ' sr'.h/\b<=st'.h.length/\((Ex E.Γ k (.ops l sr) (.st .nrm sr')/\K st')\/∃v,Ex E.Γ k (.ops l sr) (.st (.pan v) sr')/\KP v st')
theorem XlR.head{b:Nat}{c:qA}{l:List qA}{ρ ρ1:Ren}{sr sr1:St}{K:VSt->Prop}{KP:AV->VSt->Prop}(hf:Fm b ρ sr.h ρ1 sr1.h)(h:XlR E b l ρ1 sr1 K KP)
  (hx:∃k0,∀k o,k0<=k->Ex E.Γ k (.ops l sr1) o->Ex E.Γ k (.ops (c::l) sr) o):XlR E b (c::l) ρ sr K KP:=by
 obtain⟨k,sr',ρ',st',g1,g2,g3,g4⟩:=h;obtain⟨k0,hx⟩:=hx;refine⟨max k0 k,sr',ρ',st',g1,hf.trans g2,g3, ?_⟩;rcases g4 with⟨e,q⟩ | ⟨v,e,q⟩
 ·exact .inl ⟨hx _ _ (Nat.le_max_left _ _) (e.le (Nat.le_max_right _ _)),q⟩
 ·exact .inr ⟨v,hx _ _ (Nat.le_max_left _ _) (e.le (Nat.le_max_right _ _)),q⟩
theorem QB{b:Nat}:∀{l:List qA}{F:List LF}{ρ:Ren}{st:VSt}{sr:St}{K:VSt->Prop}{KP:AV->VSt->Prop},(l.all fun c=>c.o.ok)=true->WU F l=true->(∀f∈F,LFok sr f)->qt ρ st sr->b<=st.h.length->xl E l st K KP->XlR E b l ρ sr K KP
 |[],F,ρ,st,sr,K,KP,_,_,_,hS,hb,hx=>⟨0,sr,ρ,st,hS,Fm.refl _ _ _,hb,.inl ⟨.nil,hx⟩⟩
 | c::l,F,ρ,st,sr,K,KP,hok,hck,hF,hS,hb,hx=>by
  simp only[lAc,bAt]at hok;simp only[WU,bAt,Bool.or_eq_true]at hck;obtain⟨hok1,hok2⟩:=hok;obtain⟨hck1,hck2⟩:=hck
  --the guard says no
  have skip:∀{K':VSt->Prop},zB sr.s c.g=some false->K' (st.put c.d .undef)->(∀st',K' st'->xl E l st' K KP)->XlR E b (c::l) ρ sr K KP:=by
   intro K' hw hk hK;have hS1:qt ρ (st.put c.d .undef) (sr.put c.d .undef):=⟨hS.s.put (by simp[RelV,RelVs]),hS.l,hS.h⟩;have hF1:∀f∈(if c.o.isCall then(if c.ck.isEmpty then []else(F.filter fun f=>f.keeps c.d).filter (wq c.ck))else if c.apC then(F.filter (fun f=>f.keeps c.d)).filter (wq c.ck)else if c.o.quiet then WO c (F.filter fun f=>f.keeps c.d)else if c.o.isLoc then F.filter (fun f=>f.keeps c.d)else if c.o.isNew then F.filter (fun f=>f.keeps c.d)else []),LFok (sr.put c.d .undef) f:=by
    have h0:∀f∈F.filter (fun f=>f.keeps c.d),LFok (sr.put c.d .undef) f:=fun f hf=>by
     rw[List.mem_filter]at hf;exact(hF f hf.1).put hf.2
    intro f hf;split at hf
    ·split at hf
     ·cases hf
     ·exact h0 f (List.mem_filter.1 hf).1
    ·split at hf
     ·exact h0 f (List.mem_filter.1 hf).1
     ·split at hf
      ·unfold WO at hf;split at hf
       ·rename_i f1 hf1;split at hf
        ·rename_i hown;rcases List.mem_cons.1 hf with rfl | hf
         ·exact LFok.new hf1 hown (.inr hw)
         ·exact h0 f hf
        ·exact h0 f hf
       ·exact h0 f hf
      ·split at hf
       ·exact h0 f hf
       ·split at hf
        ·exact h0 f hf
        ·cases hf
   exact XlR.head (sr1:=sr.put c.d .undef) (Fm.refl _ _ _) (QB hok2 hck2 hF1 hS1 hb (hK _ hk)) ⟨0,fun _ _ _ e=>.skip hw e⟩
  --the operation is done
  have run:∀{K':VSt->Prop},zB sr.s c.g=some true->jt E c st K' KP->(∀st',K' st'->xl E l st' K KP)->XlR E b (c::l) ρ sr K KP:=by
   intro K' hw hk hK;unfold jt at hk;by_cases hcall:c.o.isCall=true
   ·rw[if_pos hcall]at hk hck2;unfold qY0 at hk;split at hk
    ·rename_i x hco;split at hk
     ·rename_i t v hv;rw[hco]at hok1;obtain⟨r,h1,h2⟩:=qv hS.s hok1 hv;have:=Wg (.iface t v) r (by simpa only [AV.leaf]using hk.1) h2;subst this;exact⟨0,sr,ρ,st,hS,Fm.refl _ _ _,hb,.inr ⟨_,.panic hw hco h1,hk.2⟩⟩
     ·exact hk.elim
    split at hk
    ·rename_i g vs hc;obtain⟨ar,ha1,ha2⟩:=qaS hS hok1 hc;by_cases hck0:c.ck.isEmpty=true
     ·have hckn0:c.ck=[]:=by simpa using hck0
      rw[hckn0]at hk;simp only at hk;rw[if_pos hck0]at hck2;obtain⟨k,hr',ρ',h',q3,q5,q6,hq⟩:=hk ρ sr.h ar hS.h ha2;have hle:=hS.h.grow (h':=h') q5;have hfm:Fm b ρ sr.h ρ' hr':=⟨q5.pres,q5.new,q5.fr,fun i hi=>q5.base i (by omega)⟩;rcases hq with⟨v,r,q1,q2,q4⟩ | ⟨v,q1,q4,q2⟩
      case inr=>exact⟨k,{sr with h:=hr'},ρ',{s:=st.s,l:=st.l,h:=h'},⟨hS.s.mono hle,hS.l.mono hle,q3⟩,hfm,nLt hb q6,.inr ⟨v,.callP hw ha1 q1,q2⟩⟩
      have hS1:qt ρ' {s:=jm st.s c.d v,l:=st.l,h:=h'} ({sr with h:=hr'}.put c.d r):=⟨(hS.s.mono hle).put q4,hS.l.mono hle,q3⟩;have hF1:∀f∈([]:List LF),LFok ({sr with h:=hr'}.put c.d r) f:=fun f hf=>by cases hf
      have hckn:c.ck=[]:=by simpa using hck0
      exact XlR.head (sr1:={sr with h:=hr'}.put c.d r) hfm (QB hok2 hck2 hF1 hS1 (nLt hb q6) (hK _ q2)) ⟨k,fun k' o hk' e=>.call hw ha1 (q1.le hk') (by rw[hckn];trivial) e⟩
     ·have hck0:c.ck.isEmpty=false:=by simpa using hck0
      simp only[hck0,bFt,if_false]at hck2;have chk:∀{sr1:St},(∀f∈(F.filter fun f=>f.keeps c.d).filter (wq c.ck),LFok sr1 f)->Checks sr1 c.ck:=fun{sr1} hF1=>by
       rcases hck1 with q | q
       ·rw[hck0]at q;cases q
       ·refine Xg hF1 ?_;have q2:=q.2;rw[lAt]at q2|-;intro k hk;have:=q2 k hk;split at this
        ·rename_i f hf
         try simp only[hf]
         rw[List.any_eq_true]at this|-;obtain⟨f',g1,g2⟩:=this;refine⟨f',List.mem_filter.2 ⟨g1, ?_⟩,g2⟩;unfold wq;rw[List.any_eq_true];exact⟨k,hk,by rw[hf];exact g2⟩
        ·cases this
      have hk2:SCallK E.Γ g vs st.h (fun v h'=>K' {s:=jm st.s c.d v,l:=st.l,h:=h'})\/SCallX E.Γ g vs st.h (fun v h'=>ckVs {s:=jm st.s c.d v,l:=st.l,h:=h'} c.ck/\K' {s:=jm st.s c.d v,l:=st.l,h:=h'}) (fun v h'=>KP v {s:=st.s,l:=st.l,h:=h'}):=by
       cases e:c.ck with
       | nil=>rw[e]at hck0;cases hck0
       | cons a b=>rw[e]at hk;exact hk
      rcases hk2 with hk | hk
      ·obtain⟨k,r,hr',ρ',v,h',q1,q2,q3,q4,q5,q6,q7⟩:=hk ρ sr.h ar hS.h ha2;have hle:=hS.h.grow (h':=h') q5;have hS1:qt ρ' {s:=jm st.s c.d v,l:=st.l,h:=h'} ({sr with h:=hr'}.put c.d r):=⟨(hS.s.mono hle).put q4,hS.l.mono hle,q3⟩;have hF1:∀f∈(F.filter fun f=>f.keeps c.d).filter (wq c.ck),LFok ({sr with h:=hr'}.put c.d r) f:=fun f hf=>by
        rw[List.mem_filter,List.mem_filter]at hf;exact(LFok.heap q7 (hF f hf.1.1)).put hf.1.2
       exact XlR.head (sr1:={sr with h:=hr'}.put c.d r) ⟨q5.pres,q5.new,q5.fr,fun i hi=>q5.base i (by omega)⟩ (QB hok2 hck2 hF1 hS1 (nLt hb q6) (hK _ q2)) ⟨k,fun k' o hk' e=>.call hw ha1 (q1.le hk') (chk hF1) e⟩
      ·obtain⟨k,hr',ρ',h',q3,q5,q6,hq⟩:=hk ρ sr.h ar hS.h ha2;have hle:=hS.h.grow (h':=h') q5;rcases hq with⟨v,r,q1,⟨qc,q2⟩,q4⟩ | ⟨v,q1,q4,q2⟩
       case inr=>exact⟨k,{sr with h:=hr'},ρ',{s:=st.s,l:=st.l,h:=h'},⟨hS.s.mono hle,hS.l.mono hle,q3⟩,⟨q5.pres,q5.new,q5.fr,fun i hi=>q5.base i (by omega)⟩,nLt hb q6,.inr ⟨v,.callP hw ha1 q1,q2⟩⟩
       have hS1:qt ρ' {s:=jm st.s c.d v,l:=st.l,h:=h'} ({sr with h:=hr'}.put c.d r):=⟨(hS.s.mono hle).put q4,hS.l.mono hle,q3⟩;have hF1:∀f∈(F.filter fun f=>f.keeps c.d).filter (wq c.ck),LFok ({sr with h:=hr'}.put c.d r) f:=fun f hf=>ckVs.ok hS1 qc (List.mem_filter.1 hf).2;exact XlR.head (sr1:={sr with h:=hr'}.put c.d r) ⟨q5.pres,q5.new,q5.fr,fun i hi=>q5.base i (by omega)⟩ (QB hok2 hck2 hF1 hS1 (nLt hb q6) (hK _ q2)) ⟨k,fun k' o hk' e=>.call hw ha1 (q1.le hk') (chk hF1) e⟩
    ·exact hk.elim
   ·rw[if_neg hcall]at hk hck2;by_cases happ:c.apC=true
    ·rw[if_pos happ]at hk hck2;simp only[qA.apC,bAt,bNt]at happ;unfold qYZ at hk;split at hk
     ·rename_i w x y hco;split at hk
      ·rename_i w' hx0;obtain⟨rfl,hk⟩:=hk;rw[hco]at hok1;obtain⟨sr1,ρ1,st1,q1,q2,q3,q4,q5⟩:=qBS hS hb hok1 hk;simp only[AOp.ok,bAt]at hok1;obtain⟨r,g1,g2⟩:=qv hS.s hok1.1 hx0;have hF1:∀f∈F.filter (fun f=>f.keeps c.d),LFok sr1 f:=fun f hf=>by
        rw[List.mem_filter]at hf;exact LFok.app q1 g1 g2 hf.2 (hF f hf.1)
       have hch:Checks sr1 c.ck:=by
        rcases hck1 with q | q
        ·rw[happ.2]at q;cases q
        ·exact Xg hF1 q.2
       exact XlR.head q4 (QB hok2 hck2 (fun f hf=>hF1 f (List.mem_filter.1 hf).1) q3 q5 (hK _ q2)) ⟨0,fun _ _ _ e=>.step hw (by rw[hco];exact q1) hch e⟩
      ·obtain⟨hke,hk⟩:=hk;rw[hco]at hok1;obtain⟨sr1,ρ1,st1,q1,q2,q3,q4,q5⟩:=qBS hS hb hok1 hk;have hF1:∀f∈(F.filter (fun f=>f.keeps c.d)).filter (wq c.ck),LFok sr1 f:=fun f hf=>by
        rw[List.mem_filter,List.mem_filter]at hf;obtain⟨⟨f1,f2⟩,f3⟩:=hf;unfold wq at f3;rw[List.any_eq_true]at f3;obtain⟨k,k1,k2⟩:=f3;have k3:=lAt.1 hke k k1;unfold ckE at k3;split at k2
        ·rename_i f' hf';have:=LF.eq_eq k2;subst this;rw[hf']at k3;simp only at k3;split at k3
         ·rename_i v j hg;obtain⟨r,p1,p2⟩:=hS.s _ _ hg;simp only[RelV]at p2;obtain⟨y,rfl,_⟩:=p2;exact LFok.ept q1 p1 f2 (hF _ f1)
         ·cases k3
        ·cases k2
       have hch:Checks sr1 c.ck:=by
        rcases hck1 with q | q
        ·rw[happ.2]at q;cases q
        ·refine Xg hF1 ?_;have q2:=q.2;rw[lAt]at q2|-;intro k hk;have:=q2 k hk;split at this
         ·rename_i f hf
          try simp only[hf]
          rw[List.any_eq_true]at this|-;obtain⟨f',g1,g2⟩:=this;refine⟨f',List.mem_filter.2 ⟨g1, ?_⟩,g2⟩;unfold wq;rw[List.any_eq_true];exact⟨k,hk,by rw[hf];exact g2⟩
         ·cases this
       exact XlR.head q4 (QB hok2 hck2 hF1 q3 q5 (hK _ q2)) ⟨0,fun _ _ _ e=>.step hw (by rw[hco];exact q1) hch e⟩
      ·exact hk.elim
     ·exact hk.elim
    rw[if_neg happ]at hk hck2;have hckn:c.ck=[]:=by
     rcases hck1 with q | q
     ·simpa using q
     ·rcases q.1 with q1 | q1
      ·exact absurd q1 hcall
      ·simp only[qA.apC,q1,Bool.true_and]at happ;simpa using happ
    obtain⟨sr1,ρ1,st1,q1,q2,q3,q4,q5⟩:=qBS hS hb hok1 hk;have hF1:∀f∈(if c.o.quiet then WO c (F.filter fun f=>f.keeps c.d)else if c.o.isLoc then F.filter (fun f=>f.keeps c.d)else if c.o.isNew then F.filter (fun f=>f.keeps c.d)else []),LFok sr1 f:=by
     intro f hf;split at hf
     ·rename_i hq;obtain⟨v,hv,rfl⟩:=q1.quiet hq;have h0:∀f∈F.filter (fun f=>f.keeps c.d),LFok (sr.put c.d v) f:=fun f hf=>by
       rw[List.mem_filter]at hf;exact(hF f hf.1).put hf.2
      unfold WO at hf;split at hf
      ·rename_i f1 hf1;split at hf
       ·rename_i hown;rcases List.mem_cons.1 hf with rfl | hf
        ·exact LFok.new hf1 hown (.inl ⟨hw,hv⟩)
        ·exact h0 f hf
       ·exact h0 f hf
      ·exact h0 f hf
     ·split at hf
      ·rename_i hl;rw[List.mem_filter]at hf;obtain⟨e1,e2⟩:=q1.loc hl;exact(hF f hf.1).loc e1 e2
      split at hf
      ·rename_i hl;rw[List.mem_filter]at hf;exact LFok.newO q1 hl hf.2 (hF f hf.1)
      ·cases hf
    exact XlR.head q4 (QB hok2 hck2 hF1 q3 q5 (hK _ q2)) ⟨0,fun _ _ _ e=>.step hw q1 (by rw[hckn];trivial) e⟩
  unfold xl qBR at hx;split at hx
  ·rename_i hg;exact run (by rw[hg];rfl) hx (fun _ h=>h)
  ·rename_i n t hg;split at hx
   ·rename_i c' hn;obtain⟨r,h1,h2⟩:=hS.s n _ hn;simp only[RelV]at h2;subst h2;have hw:zB sr.s c.g=some (c'==t):=by rw[hg];simp only[zB,h1]
    split at hx
    ·rename_i hc;subst hc;exact run (by rw[hw];simp) hx (fun _ h=>h)
    ·rename_i hc;refine skip (by rw[hw];simpa using hc) hx (fun _ h=>h)
   ·rename_i hn;obtain⟨r,h1,h2⟩:=hS.s n _ hn;simp only[RelV,RelVs]at h2;obtain⟨_,rfl,rfl⟩:=h2;exact skip (by rw[hg];simp only[zB,h1]) hx (fun _ h=>h)
   ·exact hx.elim
theorem Kc{ks:List Fr1}{Q:qS->VSt->Prop}:∀{l:List qA}{st:VSt},R E (.ops l::ks) st Q=xl E l st (fun st'=>R E ks st' Q) fun v st'=>Q (.pan v) st'
 |[],st=>by rw[R];rfl
 | c::l,st=>by
  rw[R];simp only[xl];congr 1;funext st';exact Kc
end
section
variable {E:Ev} {ρ:Ren} {st:VSt} {sr:St} {ks:List Fr1} {Q:qS->VSt->Prop}
theorem qVD(h:AH){a:Nat}{o:qC}(_ha:h a=some o):h.kill [a]=h.upd a .dead:=by
 apply AH.ext'
 ·intro i;rw[AH.kill_at,AH.upd_apply];simp
 ·intro i;rfl
theorem qUU(hS:qt ρ st sr){n id a:Nat}{w:Nat}{el el':List AV}{v v':AV}(hid:ρ id=some (some a))(ho:st.h[id]?=some (.row w el true))(hro:sr.h a=some (.row w el' true))
  {v0:AV} (hv0:lk sr.s n=some v0) (hc:Conv sr.h [a] v0 v') (hv:RelV ρ v v'):
  ∃sr',Frz [a] sr sr'/\qt ρ {s:=(n,v)::st.s,l:=st.l,h:=st.h.set id .dead} sr'/\sr'.h=sr.h.upd a .dead:=by
 refine⟨{s:=sr.s.set n v',l:=sr.l,h:=sr.h.kill [a]},⟨fun i hi=> ?_,fun t x hx=> ?_,fun t x hx=>⟨x,hx,.refl _⟩,rfl⟩,⟨hS.s.cons hv,hS.l, ?_⟩,qVD _ hro⟩
 ·have:i=a:=by simpa using hi
  subst this;exact⟨_,hro,rfl⟩
 ·have hx2:lk (sr.s.set n v') t=some x:=hx;rw[jD]at hx2;split at hx2
  ·rename_i e;simp only[oSi]at hx2;rw[<-e,<-hx2];exact⟨v0,hv0,hc⟩
  ·exact⟨x,hx2,.refl _⟩
 ·show qw ρ _ (sr.h.kill [a]);rw[qVD _ hro];exact hS.h.write hid ho (by simp) trivial
theorem qcA{b:Nat}(hS:qt ρ st sr)(hb:b<=st.h.length)(n:Nat):∃K sr',Frz K sr sr'/\qt ρ (Jw n st) sr'/\Fm b ρ sr.h ρ sr'.h/\b<=(Jw n st).h.length:=by
 have none:∃K sr',Frz K sr sr'/\qt ρ st sr'/\Fm b ρ sr.h ρ sr'.h/\b<=st.h.length:=by
  refine⟨[],sr,⟨fun i hi=>by simp at hi,fun t v h=>⟨v,h,.refl _⟩,fun t v h=>⟨v,h,.refl _⟩, ?_⟩,hS,Fm.refl _ _ _,hb⟩;exact AH.ext' (fun i=>by rw[AH.kill_at];simp) (fun i=>rfl)
 unfold Jw;split
 ·rename_i id hn;split
  ·rename_i w v ho;split
   ·rename_i hw;obtain⟨r,h1,h2⟩:=hS.s n _ hn;simp only[RelV]at h2;obtain⟨a,ha,rfl⟩:=h2;rcases hS.h.obj _ _ ho with⟨q,_⟩ | ⟨i',el',q1,q2,q3⟩
    ·rw[ha]at q;cases q
    rw[ha]at q1;cases q1;simp only[RelVs]at q3;obtain⟨v',_,rfl,q4,rfl⟩:=q3;obtain⟨sr',g1,g2,g3⟩:=qUU hS ha ho q2 h1 (.ptr (j:=0) (by simp) q2 hw (x:=v') rfl (.refl v')) (v:=.ept v 0) (by simp only[RelV];exact⟨v',rfl,q4⟩);exact⟨_,sr',g1,g2,by rw[g3];exact Fm.write hS.h ha,by rw[lLs];exact hb⟩
   ·exact none
  ·exact none
 ·rename_i w id len c hn;split
  ·rename_i w' el ho;split
   ·rename_i hw;obtain⟨hw,rfl,hlen⟩:=hw;obtain⟨r,h1,h2⟩:=hS.s n _ hn;simp only[RelV]at h2;rcases h2 with⟨a,ha,rfl⟩ | ⟨ha,_,rfl,hc0⟩
    ·rcases hS.h.obj _ _ ho with⟨q,_⟩ | ⟨i',el',q1,q2,q3⟩
     ·rw[ha]at q;cases q
     rw[ha]at q1;cases q1;have hl:=q3.length;have e:(el'.drop 0).take len=el':=by rw[List.drop_zero,<-hlen,<-hl,lTl]
     have hcv:Conv sr.h [a] (.slice w' a 0 len c) (.lst w' el' c):=by
      refine .slc (by simp) q2 (by omega) hw (by rw[e]) ?_;rw[e];intro p hp;have:p.1=p.2:=by
       obtain⟨i,hi,rfl⟩:=List.getElem_of_mem hp;simp
      rw[this];exact .refl _
     obtain⟨sr',g1,g2,g3⟩:=qUU hS ha ho q2 h1 hcv (v:=.lst w' el c) (by simp only[RelV];exact .inl ⟨el',c,rfl,fun h=>h,q3⟩);exact⟨_,sr',g1,g2,by rw[g3];exact Fm.write hS.h ha,by rw[lLs];exact hb⟩
    ·have:el=[]:=lEz hlen;subst this;refine⟨[],sr,⟨fun i hi=>by simp at hi,fun t v h=>⟨v,h,.refl _⟩,fun t v h=>⟨v,h,.refl _⟩, ?_⟩,⟨?_,hS.l,hS.h.giveUp id⟩,Fm.refl _ _ _,by rw[lLs];exact hb⟩
     ·exact AH.ext' (fun i=>by rw[AH.kill_at];simp) (fun i=>rfl)
     ·intro t x hx;rw[Xz]at hx;split at hx
      ·rename_i e;subst e;cases hx;refine⟨r,h1, ?_⟩;rcases hc0 with rfl | rfl<;>simp[RelV,RelVs]
      ·exact hS.s t x hx
   ·exact none
  ·exact none
 ·exact none
theorem qUT{b:Nat}:∀{fz:List Nat}{st:VSt}{sr:St},qt ρ st sr->b<=st.h.length->
  ∃sr',(∀Γ k c o,Ex Γ k (.code c sr') o->Ex Γ k (.code c sr) o)/\qt ρ (Jx fz st) sr'/\Fm b ρ sr.h ρ sr'.h/\b<=(Jx fz st).h.length
 |[],st,sr,hS,hb=>⟨sr,fun _ _ _ _ h=>h,hS,Fm.refl _ _ _,hb⟩
 | n::fz,st,sr,hS,hb=>by
  obtain⟨K,sr1,h1,h2,h3,h4⟩:=qcA hS hb n;obtain⟨sr',g1,g2,g3,g4⟩:=qUT (fz:=fz) h2 h4;exact⟨sr',fun Γ k c o h=>.frz K h1 (g1 Γ k c o h),g2,h3.trans g3,g4⟩
def Fr1.ok:Fr1->Bool
 |.code c=>c.ok
 |.ops l=>(l.all fun c=>c.o.ok)&&WU [] l
 |.blk _=>true
theorem QJ:∀{e:qS}{ks ks':List Fr1},exK e ks=some ks'->ks.all Fr1.ok=true->ks'.all Fr1.ok=true
 | e,[],ks',h,_=>by cases e<;>simp[exK]at h
 |.exit m,.blk n::ks,ks',h,hk=>by
  simp only[exK]at h;simp only[lAc,bAt]at hk;split at h
  ·cases h;exact hk.2
  ·exact QJ h hk.2
 |.exit m,.code c::ks,ks',h,hk=>by simp only[lAc,bAt]at hk;exact QJ (e:=.exit m) (ks:=ks) (by simpa only [exK]using h) hk.2
 |.exit m,.ops c::ks,ks',h,hk=>by simp only[lAc,bAt]at hk;exact QJ (e:=.exit m) (ks:=ks) (by simpa only [exK]using h) hk.2
 |.nrm,f::ks,ks',h,hk=>by simp only[lAc,bAt]at hk;exact QJ (e:=.nrm) (ks:=ks) (by simpa only [exK]using h) hk.2
 |.ret,f::ks,ks',h,hk=>by simp only[lAc,bAt]at hk;exact QJ (e:=.ret) (ks:=ks) (by simpa only [exK]using h) hk.2
 |.pan v,f::ks,ks',h,hk=>by simp only[lAc,bAt]at hk;exact QJ (e:=.pan v) (ks:=ks) (by simpa only [exK]using h) hk.2
theorem Xu{v:AV}:∀ks,exK (.pan v) ks=none
 |[]=>rfl
 |.code _::ks=>by rw[Wb];exact Xu ks
 |.ops _::ks=>Xu ks
 |.blk _::ks=>Xu ks
theorem XlR.sem{b:Nat}{l:List qA}{K:VSt->Prop}{Q:qS->VSt->Prop}(hx:XlR E b l ρ sr K fun v st'=>Q (.pan v) st'){f:Fr1}{sr0:St}
  (hf:∀k e s1 s2 e2,Ex E.Γ k (.ops l sr) (.st .nrm s1)->ExF E.Γ k ks s1 e2 s2->e=e2->ExF E.Γ k (f::ks) sr0 e s2) (hp:∀k v s1,Ex E.Γ k (.ops l sr) (.st (.pan v) s1)->ExF E.Γ k (f::ks) sr0 (.pan v) s1)
  (h0:Fm b ρ sr0.h ρ sr.h) (hk:∀st',K st'->∀ρ sr,qt ρ st' sr->b<=st'.h.length->∃k e sr' ρ' st2,ExF E.Γ k ks sr e sr'/\Q e st2/\qt ρ' st2 sr'/\Fm b ρ sr.h ρ' sr'.h/\b<=st2.h.length):
  ∃k e sr' ρ' st',ExF E.Γ k (f::ks) sr0 e sr'/\Q e st'/\qt ρ' st' sr'/\Fm b ρ sr0.h ρ' sr'.h/\b<=st'.h.length:=by
 obtain⟨k,sr1,ρ1,st1,q3,q4,q5,q⟩:=hx;rcases q with⟨q1,q2⟩ | ⟨v,q1,q2⟩
 ·obtain⟨k',e,sr',ρ',st',g1,g2,g3,g4,g5⟩:=hk st1 q2 ρ1 sr1 q3 q5;exact⟨max k k',e,sr',ρ',st',hf _ _ _ _ _ (q1.le (Nat.le_max_left _ _)) (g1.le (Nat.le_max_right _ _)) rfl,g2,g3,h0.trans (q4.trans g4),g5⟩
 ·exact⟨k,_,sr1,ρ1,st1,hp _ _ _ q1,q2,q3,h0.trans q4,q5⟩
theorem qY5:∀(n:Nat){ks:List Fr1}{st:VSt},szF ks=n->ks.all Fr1.ok=true->R E ks st Q->Sem E ks st Q:=by
 intro n
 induction n using Nat.strongRecOn with
 | _ n ih=>
 intro ks st hn hok hR;cases ks with
 | nil=>
  rw[R]at hR;exact fun ρ sr hS hb=>⟨0,_,sr,ρ,st,.nil,hR,hS,Fm.refl _ _ _,hb⟩
 | cons f ks=>
 simp only[lAc,bAt]at hok;obtain⟨hf,hok⟩:=hok;cases f with
 | blk m=>
  rw[R]at hR;have:=ih (szF ks) (by rw[<-hn];simp only[szF,Fr1.sz];omega) rfl hok hR;intro ρ sr hS hb;obtain⟨k,e,sr',ρ',st',g1,g2⟩:=this ρ sr hS hb;exact⟨k,e,sr',ρ',st',.blk g1,g2⟩
 | ops l=>
  rw[Kc]at hR;simp only[Fr1.ok,bAt]at hf;intro ρ sr hS hb;exact XlR.sem (QB hf.1 hf.2 (fun f hf=>by cases hf) hS hb hR) (fun k e s1 s2 e2 h h' he=>he▸.ops h h') (fun k v s1 h=>.opsP h) (Fm.refl _ _ _)
   (fun st' q=>ih (szF ks) (by rw[<-hn];simp only[szF,Fr1.sz];omega) rfl hok q)
 | code c=>
 simp only[Fr1.ok]at hf;cases c with
 | skip=>
  rw[R]at hR;have:=ih (szF ks) (by rw[<-hn];simp only[szF,Fr1.sz,qG.sz];omega) rfl hok hR;intro ρ sr hS hb;obtain⟨k,e,sr',ρ',st',g1,g2⟩:=this ρ sr hS hb;exact⟨k,e,sr',ρ',st',.code .cskip g1,g2⟩
 | reg p l=>
  rw[R]at hR;split at hR
  ·exact hR
  ·simp only[qG.ok,bAt]at hf;rw[Kc]at hR;intro ρ sr hS hb;obtain⟨sr0,f1,f2,f3,f4⟩:=qUT (fz:=E.fz) hS hb;exact XlR.sem (QB hf.2.1 hf.2.2 (fun f hf=>by cases hf) f2 f4 hR) (fun k e s1 s2 e2 h h' he=>he▸.code (f1 _ _ _ _ (.reg h (.inr rfl))) h') (fun k v s1 h=>.codeE (f1 _ _ _ _ (.reg h (.inl hf.1))) (by simp) (Xu _)) f3
    (fun st' q=>ih (szF ks) (by rw[<-hn];simp only[szF,Fr1.sz,qG.sz];omega) rfl hok q)
 | seq a b=>
  rw[R]at hR;simp only[qG.ok,bAt]at hf;have:=ih (szF (.code a::.code b::ks)) (by rw[<-hn];simp only[szF,Fr1.sz,qG.sz];omega) rfl (by simp only[lAc,Fr1.ok,hf.1,hf.2,hok,Bool.and_self]) hR;intro ρ sr hS hb;obtain⟨k,e,sr',ρ',st',g1,g2⟩:=this ρ sr hS hb;exact⟨k,e,sr',ρ',st',g1.seq,g2⟩
 | cond c a b=>
  rw[R]at hR;simp only[qG.ok,bAt]at hf;split at hR
  ·rename_i t hc;have key:Sem E (.code (if t then a else b)::ks) st Q:=by
    cases t
    ·exact ih (szF (.code b::ks)) (by rw[<-hn];simp only[szF,Fr1.sz,qG.sz];omega) rfl (by simp only[lAc,Fr1.ok,hok,Bool.and_true];exact hf.2) (by simpa using hR)
    ·exact ih (szF (.code a::ks)) (by rw[<-hn];simp only[szF,Fr1.sz,qG.sz];omega) rfl (by simp only[lAc,Fr1.ok,hok,Bool.and_true];exact hf.1.2) (by simpa using hR)
   intro ρ sr hS hb;obtain⟨k,e,sr',ρ',st',g1,g2⟩:=key ρ sr hS hb;have hc':=QI hS.s hf.1.1 hc;refine⟨k,e,sr',ρ',st', ?_,g2⟩;cases g1 with
   | code h h'=>exact .code (.cond hc' h) h'
   | codeX h he hx h'=>exact .codeX (.cond hc' h) he hx h'
   | codeE h he hx=>exact .codeE (.cond hc' h) he hx
  ·exact hR.elim
 | blk m a=>
  rw[R]at hR;have:=ih (szF (.code a::.blk m::ks)) (by rw[<-hn];simp only[szF,Fr1.sz,qG.sz];omega) rfl (by simp only[lAc,Fr1.ok,hok,Bool.and_true];exact hf) hR;intro ρ sr hS hb;obtain⟨k,e,sr',ρ',st',g1,g2⟩:=this ρ sr hS hb;exact⟨k,e,sr',ρ',st',g1.blkC,g2⟩
 | rng x k p1 p2 a b=>rw[R]at hR;exact hR
 | loop a=>rw[R]at hR;exact hR
 | exit m=>
  rw[R]at hR;split at hR
  ·rename_i ks' hx;have:=ih (szF ks') (by have:=QL hx;rw[<-hn];simp only[szF,Fr1.sz,qG.sz];omega) rfl (QJ hx hok) hR;intro ρ sr hS hb;obtain⟨k,e,sr',ρ',st',g1,g2⟩:=this ρ sr hS hb;exact⟨k,e,sr',ρ',st',.codeX .exit (by simp) hx g1,g2⟩
  ·rename_i hx;exact fun ρ sr hS hb=>⟨0,_,sr,ρ,st,.codeE .exit (by simp) hx,hR,hS,Fm.refl _ _ _,hb⟩
 | ret=>
  rw[R]at hR;split at hR
  ·rename_i ks' hx;rw[QK]at hx;cases hx
  ·rename_i hx;exact fun ρ sr hS hb=>⟨0,_,sr,ρ,st,.codeE .ret (by simp) hx,hR,hS,Fm.refl _ _ _,hb⟩
theorem Sem.of{st:VSt}(hok:ks.all Fr1.ok=true)(h:R E ks st Q):Sem E ks st Q:=qY5 _ rfl hok h
def Can(b:Nat)(st st':VSt):Prop:=∀ρ sr,qt ρ st sr->b<=st.h.length->∃sr' ρ',(∀Γ k c o,Ex Γ k (.code c sr') o->Ex Γ k (.code c sr) o)/\qt ρ' st' sr'/\Fm b ρ sr.h ρ' sr'.h/\b<=st'.h.length
theorem Sem.can{c:qG}{st st':VSt}(hc:Can E.b st st')(h:Sem E (.code c::ks) st' Q):Sem E (.code c::ks) st Q:=by
 intro ρ sr hS hb;obtain⟨sr1,ρ1,a1,a2,a3,a4⟩:=hc ρ sr hS hb;obtain⟨k,e,sr',ρ',st2,g1,g2,g3,g4,g5⟩:=h ρ1 sr1 a2 a4;refine⟨k,e,sr',ρ',st2, ?_,g2,g3,a3.trans g4,g5⟩;cases g1 with
 | code h h'=>exact .code (a1 _ _ _ _ h) h'
 | codeX h he hx h'=>exact .codeX (a1 _ _ _ _ h) he hx h'
 | codeE h he hx=>exact .codeE (a1 _ _ _ _ h) he hx
def Q8{α:Type}(E:Ev)(I:α->Prop)(stt:α->VSt)(m:α->Nat)(a:α)(ks:List Fr1)(Q:qS->VSt->Prop):qS->VSt->Prop
 |.nrm,s=>∃a',I a'/\m a'<m a/\Can E.b s (stt a')
 | e,s=>match exK e ks with
  | some ks'=>R E ks' s Q
  | none=>Q e s
theorem Sem.loop{α:Type}{c:qG}(I:α->Prop)(stt:α->VSt)(m:α->Nat)(a0:α){st:VSt}(hok:(Fr1.code (.loop c)::ks).all Fr1.ok=true)(hi:I a0)(h0:Can E.b st (stt a0))
  (h:∀a,I a->R E [.code c] (stt a) (Q8 E I stt m a ks Q)):Sem E (.code (.loop c)::ks) st Q:=by
 simp only[lAc,bAt,Fr1.ok]at hok;have hc:c.ok=true:=by have:=hok.1;simpa only [qG.ok]using this
 have key:∀n a,m a=n->I a->Sem E (.code (.loop c)::ks) (stt a) Q:=by
  intro n
  induction n using Nat.strongRecOn with
  | _ n ih=>
  intro a hm hia ρ sr hS hb;obtain⟨k,e,sr1,ρ1,st1,g1,g2,g3,g4,g5⟩:=Sem.of (by simpa only [lAc,List.all_nil,Bool.and_true,Fr1.ok]using hc) (h a hia) ρ sr hS hb;have done:∀e1,e1≠.nrm->Ex E.Γ k (.code c sr) (.st e1 sr1)->Q8 E I stt m a ks Q e1 st1->
    ∃k e sr' ρ' st',ExF E.Γ k (.code (.loop c)::ks) sr e sr'/\Q e st'/\qt ρ' st' sr'/\Fm E.b ρ sr.h ρ' sr'.h/\E.b<=st'.h.length:=by
   intro e1 he hx hq;have hq:(match exK e1 ks with | some ks'=>R E ks' st1 Q | none=>Q e1 st1):=by
    cases e1 with
    | nrm=>exact absurd rfl he
    | _=>exact hq
   split at hq
   ·rename_i ks' hk;obtain⟨k2,e2,sr2,ρ2,st2,q1,q2,q3,q4,q5⟩:=Sem.of (QJ hk hok.2) hq ρ1 sr1 g3 g5;exact⟨max k k2,e2,sr2,ρ2,st2,.codeX (.loopX (hx.le (Nat.le_max_left _ _)) he) he hk (q1.le (Nat.le_max_right _ _)),q2,q3,g4.trans q4,q5⟩
   ·rename_i hk;exact⟨k,e1,sr1,ρ1,st1,.codeE (.loopX hx he) he hk,hq,g3,g4,g5⟩
  cases g1 with
  | code hx h'=>
   cases h';obtain⟨a',hia',hlt,hcan⟩:=g2;obtain⟨sr2,ρ2,a1,a2,a3,a4⟩:=hcan ρ1 sr1 g3 g5;obtain⟨k2,e2,sr3,ρ3,st3,q1,q2,q3,q4,q5⟩:=ih (m a') (by omega) a' rfl hia' ρ2 sr2 a2 a4;refine⟨max k k2,e2,sr3,ρ3,st3, ?_,q2,q3,g4.trans (a3.trans q4),q5⟩;cases q1 with
   | code h h'=>exact .code (.loopN (hx.le (Nat.le_max_left _ _)) (a1 _ _ _ _ (h.le (Nat.le_max_right _ _)))) (h'.le (Nat.le_max_right _ _))
   | codeX h he hx' h'=>exact .codeX (.loopN (hx.le (Nat.le_max_left _ _)) (a1 _ _ _ _ (h.le (Nat.le_max_right _ _)))) he hx' (h'.le (Nat.le_max_right _ _))
   | codeE h he hx'=>exact .codeE (.loopN (hx.le (Nat.le_max_left _ _)) (a1 _ _ _ _ (h.le (Nat.le_max_right _ _)))) he hx'
  | codeX hx he hk h'=>cases h'<;>simp[exK]at hk
  | codeE hx he hk=>exact done _ he hx g2
 exact Sem.can h0 (key _ a0 rfl hi)
end
def ρ0:Ren:=fun _=>none
section
variable {ρ ρ':Ren}
mutual
theorem Qn:∀(a b:AV),a.tree=true->RelV ρ a b->RelV ρ' a b
 |.bool _,_,_,h |.int _ _,_,_,h |.str _,_,_,h |.nilp,_,_,h |.nils,_,_,h |.nilm,_,_,h |.nilf,_,_,h |.nili,_,_,h=>by simpa only [RelV]using h
 |.any,_,ht,_=>by simp[AV.tree]at ht
 |.ptr _ _ _,_,ht,_=>by simp[AV.tree]at ht
 |.map _,_,ht,_=>by simp[AV.tree]at ht
 |.slice _ _ _ _ _,_,ht,_=>by simp[AV.tree]at ht
 |.lst w xs _,_,ht,h=>by
  simp only[RelV]at h|-;simp only[AV.tree]at ht;rcases h with⟨ys,c,h1,h2,h3⟩ | h
  ·exact .inl ⟨ys,c,h1,h2,Jg xs ys ht h3⟩
  ·exact .inr h
 |.ept x _,_,ht,h=>by
  simp only[RelV]at h|-;simp only[AV.tree]at ht;obtain⟨y,h1,h2⟩:=h;exact⟨y,h1,Qn x y ht h2⟩
 |.fn _ cs,_,ht,h=>by
  simp only[RelV]at h|-;simp only[AV.tree]at ht;obtain⟨ds,h1,h2⟩:=h;exact⟨ds,h1,Jg cs _ ht h2⟩
 |.iface _ x,_,ht,h=>by
  simp only[RelV]at h|-;simp only[AV.tree]at ht;obtain⟨u,h1,h2⟩:=h;exact⟨u,h1,Qn x u ht h2⟩
 |.agg cs,_,ht,h=>by
  simp only[RelV]at h|-;simp only[AV.tree]at ht;obtain⟨ds,h1,h2⟩:=h;exact⟨ds,h1,Jg cs _ ht h2⟩
 |.tup cs,_,ht,h=>by
  simp only[RelV]at h|-;simp only[AV.tree]at ht;obtain⟨ds,h1,h2⟩:=h;exact⟨ds,h1,Jg cs _ ht h2⟩
theorem Jg:∀(as bs:List AV),AV.trees as=true->RelVs ρ as bs->RelVs ρ' as bs
 |[],_,_,h=>by simpa only [RelVs]using h
 | a::as,bs,ht,h=>by
  simp only[RelVs]at h|-;simp only[AV.trees,bAt]at ht;obtain⟨b,bs,h1,h2,h3⟩:=h;exact⟨b,bs,h1,Qn a b ht.1 h2,Jg as bs ht.2 h3⟩
end
mutual
theorem Yl:∀(a b:AV),a.tree=true->RelV ρ a b->b.tree=true
 |.bool _,_,_,h |.int _ _,_,_,h |.str _,_,_,h |.nilp,_,_,h |.nils,_,_,h |.nilm,_,_,h |.nilf,_,_,h |.nili,_,_,h=>by simp only[RelV]at h;subst h;rfl
 |.any,_,ht,_=>by simp[AV.tree]at ht
 |.ptr _ _ _,_,ht,_=>by simp[AV.tree]at ht
 |.map _,_,ht,_=>by simp[AV.tree]at ht
 |.slice _ _ _ _ _,_,ht,_=>by simp[AV.tree]at ht
 |.lst w xs _,_,ht,h=>by
  simp only[RelV]at h;simp only[AV.tree]at ht;rcases h with⟨ys,c,rfl,h2,h3⟩ | ⟨_,rfl⟩
  ·simp only[AV.tree];exact XB xs ys ht h3
  ·rfl
 |.ept x _,_,ht,h=>by
  simp only[RelV]at h;simp only[AV.tree]at ht;obtain⟨y,rfl,h2⟩:=h;simp only[AV.tree];exact Yl x y ht h2
 |.fn _ cs,_,ht,h=>by
  simp only[RelV]at h;simp only[AV.tree]at ht;obtain⟨ds,rfl,h2⟩:=h;simp only[AV.tree];exact XB cs _ ht h2
 |.iface _ x,_,ht,h=>by
  simp only[RelV]at h;simp only[AV.tree]at ht;obtain⟨u,rfl,h2⟩:=h;simp only[AV.tree];exact Yl x u ht h2
 |.agg cs,_,ht,h=>by
  simp only[RelV]at h;simp only[AV.tree]at ht;obtain⟨ds,rfl,h2⟩:=h;simp only[AV.tree];exact XB cs _ ht h2
 |.tup cs,_,ht,h=>by
  simp only[RelV]at h;simp only[AV.tree]at ht;obtain⟨ds,rfl,h2⟩:=h;simp only[AV.tree];exact XB cs _ ht h2
theorem XB:∀(as bs:List AV),AV.trees as=true->RelVs ρ as bs->AV.trees bs=true
 |[],_,_,h=>by simp only[RelVs]at h;subst h;rfl
 | a::as,bs,ht,h=>by
  simp only[RelVs]at h;simp only[AV.trees,bAt]at ht;obtain⟨b,bs,rfl,h2,h3⟩:=h;simp only[AV.trees,bAt];exact⟨Yl a b ht.1 h2,XB as bs ht.2 h3⟩
end
inductive Cv(h:List qC):AV->AV->Prop
 | refl {v} (ht:v.tree=true):Cv h v v
 | nils {w c}:Cv h .nils (.lst w [] c)
 | clip {w}:Cv h (.lst w [] true) (.lst w [] false)
 | slc {w id off len clip el ts} (ho:h[id]?=some (.row w el true)) (hl:off+len<=el.length) (hw:0<w) (hs:((el.drop off).take len).length=ts.length) (hc:∀p∈((el.drop off).take len).zip ts,Cv h p.1 p.2):Cv h (.slice w id off len clip) (.lst w ts false)
 | ptr {id i j w el x t} (ho:h[id]?=some (.row w el true)) (hw:0<w) (he:el[i]?=some x) (hc:Cv h x t):Cv h (.ptr id i j) (.ept t j)
 | agg {cs ds} (hl:cs.length=ds.length) (hc:∀p∈cs.zip ds,Cv h p.1 p.2):Cv h (.agg cs) (.agg ds)
 | fn {g cs ds} (hl:cs.length=ds.length) (hc:∀p∈cs.zip ds,Cv h p.1 p.2):Cv h (.fn g cs) (.fn g ds)
 | tup {cs ds} (hl:cs.length=ds.length) (hc:∀p∈cs.zip ds,Cv h p.1 p.2):Cv h (.tup cs) (.tup ds)
 | sub {x y j sh} (ht:x.tree=true) (hp:x.part j sh=some y) (hy:0<y.cells.length):Cv h (.ept x j) (.ept y 0)
theorem Cv.conv{h:List qC}{hr:AH}(hh:qw ρ h hr){K:List Nat}(hK:∀i a w el,ρ i=some (some a)->h[i]?=some (.row w el true)->K.contains a=true){v t:AV}(hc:Cv h v t):
  ∀{r:AV},RelV ρ v r->∃r',Conv hr K r r'/\RelV ρ0 t r':=by
 have list:∀{cs ds rs:List AV},cs.length=ds.length->(∀p∈cs.zip ds,∀{r:AV},RelV ρ p.1 r->∃r',Conv hr K r r'/\RelV ρ0 p.2 r')->RelVs ρ cs rs->
   ∃rs',rs.length=rs'.length/\(∀p∈rs.zip rs',Conv hr K p.1 p.2)/\RelVs ρ0 ds rs':=by
  intro cs
  induction cs with
  | nil=>
   intro ds rs hl _ hr;have:ds=[]:=lEz (by simpa using hl.symm);subst this;simp only[RelVs]at hr;subst hr;exact⟨[],rfl,fun p hp=>by simp at hp,by simp only[RelVs]⟩
  | cons c cs ih=>
   intro ds rs hl hi hr;cases ds with
   | nil=>simp at hl
   | cons d ds=>
    simp only[RelVs]at hr;obtain⟨r,rs,rfl,h1,h2⟩:=hr;obtain⟨r',q1,q2⟩:=hi (c,d) (by simp) h1;obtain⟨rs',q3,q4,q5⟩:=ih (by simpa using hl) (fun p hp=>hi p (by simp only[List.zip_cons_cons];exact List.mem_cons_of_mem _ hp)) h2;refine⟨r'::rs',by simp[q3],fun p hp=> ?_,by simp only[RelVs];exact⟨r',rs',rfl,q2,q5⟩⟩;simp only[List.zip_cons_cons,List.mem_cons]at hp;rcases hp with rfl | hp
    ·exact q1
    ·exact q4 p hp
 induction hc with
 | refl ht=>exact fun hr=>⟨_,.refl _,Qn _ _ ht hr⟩
 | @nils w c=>
  intro r hr;simp only[RelV]at hr;subst hr;exact⟨.lst w [] c,.nils,by simp only[RelV];exact .inl ⟨[],c,rfl,fun h=>h,by simp only[RelVs]⟩⟩
 | @clip w=>
  intro r hr;simp only[RelV,RelVs]at hr;rcases hr with⟨ys,c,rfl,_,rfl⟩ | ⟨_,rfl⟩
  ·exact⟨_,.refl _,by simp only[RelV];exact .inl ⟨[],c,rfl,by simp,by simp only[RelVs]⟩⟩
  ·exact⟨.lst w [] false,.nils,by simp only[RelV];exact .inl ⟨[],false,rfl,fun h=>h,by simp only[RelVs]⟩⟩
 | @slc w id off len clip el ts ho hl hw hs hc ih=>
  intro r hr;simp only[RelV]at hr;rcases hr with⟨a,ha,rfl⟩ | ⟨ha,rfl,rfl,hc0⟩
  ·rcases hh.obj _ _ ho with⟨q,_⟩ | ⟨i',el',q1,q2,q3⟩
   ·rw[ha]at q;cases q
   rw[ha]at q1;cases q1;obtain⟨rs',g1,g2,g3⟩:=list hs (fun p hp=>ih p hp) ((q3.drop off).take len);refine⟨.lst w rs' clip,.slc (hK _ _ _ _ ha ho) q2 (by rw[q3.length];exact hl) hw g1 g2, ?_⟩;simp only[RelV];exact .inl ⟨rs',clip,rfl,by simp,g3⟩
  ·have:ts=[]:=lEz (by rw[<-hs];simp);subst this;rcases hc0 with rfl | rfl
   ·exact⟨.lst w [] false,.nils,by simp only[RelV];exact .inl ⟨[],false,rfl,fun h=>h,by simp only[RelVs]⟩⟩
   ·exact⟨.lst w [] true,.refl _,by simp only[RelV];exact .inl ⟨[],true,rfl,fun _=>rfl,by simp only[RelVs]⟩⟩
 | @ptr id i j w el x t ho hw he hc ih=>
  intro r hr;simp only[RelV]at hr;obtain⟨a,ha,rfl⟩:=hr;rcases hh.obj _ _ ho with⟨q,_⟩ | ⟨i',el',q1,q2,q3⟩
  ·rw[ha]at q;cases q
  rw[ha]at q1;cases q1;obtain⟨y,g1,g2⟩:=q3.get he;obtain⟨r',g3,g4⟩:=ih g2;exact⟨.ept r' j,.ptr (hK _ _ _ _ ha ho) q2 hw g1 g3,by simp only[RelV];exact⟨r',rfl,g4⟩⟩
 | sub ht hp hy=>
  intro r hr;have hr2:=Qn (ρ':=ρ0) _ _ (by simpa only [AV.tree]using ht) hr;simp only[RelV]at hr2;obtain⟨y',rfl,hr3⟩:=hr2;obtain⟨z,g1,g2⟩:=hr3.part hp;exact⟨.ept z 0,.sub g1 (by rw[g2.cellsLen];exact hy),by simp only[RelV];exact⟨z,rfl,g2⟩⟩
 | agg hl hc ih=>
  intro r hr;simp only[RelV]at hr;obtain⟨rs,rfl,hr⟩:=hr;obtain⟨rs',g1,g2,g3⟩:=list hl (fun p hp=>ih p hp) hr;exact⟨.agg rs',.agg g1 g2,by simp only[RelV];exact⟨rs',rfl,g3⟩⟩
 | fn hl hc ih=>
  intro r hr;simp only[RelV]at hr;obtain⟨rs,rfl,hr⟩:=hr;obtain⟨rs',g1,g2,g3⟩:=list hl (fun p hp=>ih p hp) hr;exact⟨.fn _ rs',.fn g1 g2,by simp only[RelV];exact⟨rs',rfl,g3⟩⟩
 | tup hl hc ih=>
  intro r hr;simp only[RelV]at hr;obtain⟨rs,rfl,hr⟩:=hr;obtain⟨rs',g1,g2,g3⟩:=list hl (fun p hp=>ih p hp) hr;exact⟨.tup rs',.tup g1 g2,by simp only[RelV];exact⟨rs',rfl,g3⟩⟩
def Cvs(h:List qC)(as bs:List AV):Prop:=as.length=bs.length/\∀p∈as.zip bs,Cv h p.1 p.2
theorem Cvs.nil{h:List qC}:Cvs h [] []:=⟨rfl,fun p hp=>by simp at hp⟩
theorem Cvs.cons{h:List qC}{a b:AV}{as bs:List AV}(x:Cv h a b)(y:Cvs h as bs):Cvs h (a::as) (b::bs):=⟨by simp[y.1],fun p hp=>by
 simp only[List.zip_cons_cons,List.mem_cons]at hp;rcases hp with rfl | hp
 ·exact x
 ·exact y.2 p hp⟩
theorem Cvs.conv{h:List qC}{hr:AH}(hh:qw ρ h hr){K:List Nat}(hK:∀i a w el,ρ i=some (some a)->h[i]?=some (.row w el true)->K.contains a=true){vs ts rs:List AV}(hc:Cvs h vs ts)(hv:RelVs ρ vs rs):
  ∃rs',rs.length=rs'.length/\(∀p∈rs.zip rs',Conv hr K p.1 p.2)/\RelVs ρ0 ts rs':=by
 have:=Cv.conv hh hK (v:=.tup vs) (t:=.tup ts) (.tup hc.1 hc.2) (r:=.tup rs) (by simp only[RelV];exact⟨rs,rfl,hv⟩);obtain⟨r',h1,h2⟩:=this;simp only[RelV]at h2;obtain⟨rs',rfl,h2⟩:=h2;cases h1 with
 | refl _=>exact⟨rs,rfl,fun p hp=>by
   have:p.1=p.2:=by
    obtain⟨i,hi,rfl⟩:=List.getElem_of_mem hp;simp
   rw[this];exact .refl _,h2⟩
 | tup hl hc=>exact⟨rs',hl,hc,h2⟩
def Pure(Γ:Nat->Option AFn)(g:Nat)(as:List AV)(v:AV):Prop:=
 AV.trees as=true/\v.tree=true/\∀hr ar,RelVs ρ0 as ar->∃k r hr',Ex Γ k (.call g ar hr) (.res (.ok r) hr')/\hr'.f=hr.f/\(∀a,hr'.fr a->hr.fr a)/\RelV ρ0 v r
variable {Γ:Nat->Option AFn} {g:Nat} {vs vs':List AV} {h:List qC}
theorem SCallP.pure{K:AV->Prop}{v:AV}(hp:Pure Γ g vs v)(hk:K v):SCallP Γ g vs h K:=fun ρ hr ar hH hv=>by
 obtain⟨t1,t2,hp⟩:=hp;obtain⟨k,r,hr',h1,h2,h3,h4⟩:=hp hr ar (Jg _ _ t1 hv);exact⟨k,r,hr',v,h1,h2,h3,hk,Qn _ _ t2 h4⟩
theorem SCall.ofP{K:AV->List qC->Prop}(hp:SCallP Γ g vs h fun v=>K v h):SCall Γ g vs h K:=fun ρ hr ar hH hv=>by
 obtain⟨k,r,hr',v,h1,h2,h3,h4,h5⟩:=hp ρ hr ar hH hv;refine⟨k,r,hr',ρ,v,h,h1,h4,⟨fun i o hi=>(hH.obj i o hi).mono (fun _ _ q=>q) (fun a o' _ q=>by rw[h2];exact q),hH.inj,hH.out,fun i a hi=>by rw[h2];exact hH.is i a hi⟩,h5, ?_,nLr _⟩;exact⟨fun a o q _=>by rw[h2];exact q,fun i a hi=>.inl ⟨i,hi⟩,h3,fun _ _=>rfl⟩
theorem SCallK.ofP{K:AV->List qC->Prop}(hp:SCallP Γ g vs h fun v=>K v h):SCallK Γ g vs h K:=fun ρ hr ar hH hv=>by
 obtain⟨k,r,hr',v,h1,h2,h3,h4,h5⟩:=hp ρ hr ar hH hv;refine⟨k,r,hr',ρ,v,h,h1,h4,⟨fun i o hi=>(hH.obj i o hi).mono (fun _ _ q=>q) (fun a o' _ q=>by rw[h2];exact q),hH.inj,hH.out,fun i a hi=>by rw[h2];exact hH.is i a hi⟩,h5, ?_,nLr _,fun a o q=>by rw[h2];exact q⟩;exact⟨fun a o q _=>by rw[h2];exact q,fun i a hi=>.inl ⟨i,hi⟩,h3,fun _ _=>rfl⟩
theorem SCall.pure{K:AV->List qC->Prop}{v:AV}(hp:Pure Γ g vs v)(hk:K v h):SCall Γ g vs h K:=SCall.ofP (SCallP.pure hp hk)
theorem qb4(hr:AH):∃K,All hr K:=by
 obtain⟨n,hn⟩:=hr.fin;refine⟨(List.range n).filter fun i=>match hr i with | some o=>o.wr | none=>false,fun id=> ?_⟩;rw[lCm,List.mem_filter,lMr];constructor
 ·rintro⟨_,h⟩;split at h
  ·rename_i o ho;exact⟨o,ho,h⟩
  ·cases h
 ·rintro⟨o,ho,hw⟩;refine⟨?_,by rw[ho];exact hw⟩;rcases Nat.lt_or_ge id n with q | q
  ·exact q
  ·rw[(hn id q).1]at ho;cases ho
theorem SCallP.lend{K:AV->Prop}{v:AV}(hc:Cvs h vs vs')(hp:Pure Γ g vs' v)(hl:v.leaf=true)(hk:K v):SCallP Γ g vs h K:=fun ρ hr ar hH hv=>by
 obtain⟨t1,t2,hp⟩:=hp;obtain⟨KK,hKK⟩:=qb4 hr;have hKr:∀i a w el,ρ i=some (some a)->h[i]?=some (.row w el true)->KK.contains a=true:=fun i a w el ha ho=>by
  rcases hH.obj _ _ ho with⟨q,_⟩ | ⟨i',el',q1,q2,q3⟩
  ·rw[ha]at q;cases q
  ·rw[ha]at q1;cases q1;exact(hKK a).2 ⟨_,q2,rfl⟩
 obtain⟨rs',g1,g2,g3⟩:=hc.conv hH hKr hv;obtain⟨k,r,hr',h1,h2,h3,h4⟩:=hp (hr.kill KK) rs' g3;have hrv:=Wg _ _ hl h4;subst hrv;refine⟨k,r,hr.tomb hr',r,.brw KK hKK g1 g2 hl h1,rfl,fun a ha=> ?_,hk,Qn _ _ t2 h4⟩;exact(AH.fr_kill (h3 a (AH.fr_tomb ha))).1
theorem SCall.lend{K:AV->List qC->Prop}{v:AV}(hc:Cvs h vs vs')(hp:Pure Γ g vs' v)(hl:v.leaf=true)(hk:K v h):SCall Γ g vs h K:=SCall.ofP (SCallP.lend hc hp hl hk)
def only(ids:List Nat)(h:List qC):List qC:=h.mapIdx fun i o=>if ids.contains i then o else .dead
def qnR(ids:List Nat)(h:List qC):List qC:=h.mapIdx fun i o=>if ids.contains i then .dead else o
def Qh(ρ:Ren)(h:List qC):List Nat->List Nat
 |[]=>[]
 | i::r=>match ρ i,h[i]? with
  | some (some a),some (.row _ _ true)=>a::Qh ρ h r
  | _,_=>Qh ρ h r
theorem YT{ρ:Ren}{h:List qC}{a:Nat}:∀{ids:List Nat},a∈Qh ρ h ids↔∃i w el,i∈ids/\ρ i=some (some a)/\h[i]?=some (.row w el true)
 |[]=>by simp[Qh]
 | i::r=>by
  have ih:=YT (ρ:=ρ) (h:=h) (a:=a) (ids:=r);simp only[Qh];split
  ·rename_i b w el h1 h2;simp only[List.mem_cons,ih];constructor
   ·rintro(rfl | ⟨j,w,el,q1,q2,q3⟩)
    ·exact⟨i,w,el,.inl rfl,h1,h2⟩
    ·exact⟨j,w,el,.inr q1,q2,q3⟩
   ·rintro⟨j,w',el',rfl | q1,q2,q3⟩
    ·rw[h1]at q2;cases q2;exact .inl rfl
    ·exact .inr ⟨j,w',el',q1,q2,q3⟩
  ·rename_i hn;rw[ih];constructor
   ·rintro⟨j,w,el,q1,q2⟩;exact⟨j,w,el,List.mem_cons_of_mem _ q1,q2⟩
   ·rintro⟨j,w',el',q1,q2,q3⟩;rcases List.mem_cons.1 q1 with rfl | q1
    ·exact(hn a w' el' q2 q3).elim
    ·exact⟨j,w',el',q1,q2,q3⟩
theorem qw.rows{h:List qC}{hr:AH}(hH:qw ρ h hr)(ids:List Nat):Rows hr (Qh ρ h ids):=fun a ha=>by
 rw[lCm,YT]at ha;obtain⟨i,w,el,_,q2,q3⟩:=ha;rcases hH.obj _ _ q3 with⟨q,_⟩ | ⟨i',el',g1,g2,g3⟩
 ·rw[q2]at q;cases q
 ·rw[q2]at g1;cases g1;exact⟨_,g2,rfl⟩
def zy(st:VSt):St:=⟨toE st.s,toE st.l,toH st.h⟩
def Wc(res:List zb)(v:AV):qS->VSt->Prop:=fun e st=>(e=.nrm\/e=.ret)/\match zC (zy st) res with
 | some vs=>Cv st.h (zQ vs) v
 | none=>False
def qH:Nat->List AV->qf
 | _,[]=>[]
 | n,a::as=>(n,a)::qH (n+1) as
theorem Z3:∀{as ar:List AV}{n:Nat},RelVs ρ as ar->RelE ρ (qH n as) (params n ar)
 |[],ar,n,h=>fun i v hi=>by cases hi
 | a::as,ar,n,h=>by
  simp only[RelVs]at h;obtain⟨r,rs,rfl,h1,h2⟩:=h;exact(Z3 h2).cons h1
theorem qfB{st:VSt}{sr:St}(hS:qt ρ st sr){x:zb}{v:AV}(hv:jp (zy st) x=some v):∃r,jp sr x=some r/\RelV ρ v r:=by
 cases x with
 | t n=>exact hS.s n v hv
 | l t sh=>
  simp only[jp,Option.bind_eq_some_iff]at hv|-;obtain⟨c,h1,h2⟩:=hv;obtain⟨r,h3,h4⟩:=hS.l t c h1;obtain⟨y,h5,h6⟩:=h4.part h2;exact⟨y,⟨r,h3,h5⟩,h6⟩
 | h t sh=>
  simp only[jp]at hv|-;split at hv
  ·rename_i id i j hp;obtain⟨r,h3,h4⟩:=hS.s t _ hp;obtain⟨id',y,rfl,h5,h6⟩:=qVT hS.h h4 hv;rw[h3];exact⟨y,h5,h6⟩
  ·cases hv
theorem Qi{st:VSt}{sr:St}(hS:qt ρ st sr):∀{l:List zb}{vs:List AV},zC (zy st) l=some vs->∃rs,zC sr l=some rs/\RelVs ρ vs rs
 |[],vs,h=>by cases h;exact⟨[],rfl,by simp only[RelVs]⟩
 | x::l,vs,h=>by
  simp only[zC]at h;split at h
  ·rename_i v vs' h1 h2;cases h;obtain⟨r,q1,q2⟩:=qfB hS h1;obtain⟨rs,q3,q4⟩:=Qi hS h2;exact⟨r::rs,by simp only[zC,q1,q3],by simp only[RelVs];exact⟨r,rs,rfl,q2,q4⟩⟩
  ·cases h
theorem ZF{vs rs:List AV}(h:RelVs ρ vs rs):RelV ρ (zQ vs) (zQ rs):=by
 cases vs with
 | nil=>simp only[RelVs]at h;subst h;simp[zQ,RelV,RelVs]
 | cons a vs=>
  cases vs with
  | nil=>
   simp only[RelVs]at h;obtain⟨r,_,rfl,h1,rfl⟩:=h;exact h1
  | cons b vs=>
   have h':=h;simp only[RelVs]at h;obtain⟨r,_,rfl,h1,s,rs,rfl,h2,h3⟩:=h;simp only[zQ,RelV];exact⟨_,rfl,h'⟩
theorem AH.fr_of_tomb{h h':AH}{a:Nat}(k:(h.tomb h').fr a):h.fr a:=by
 obtain⟨h1,h2⟩:=k;have h2':(h.tb a || h'.tb a || ((h'.f a).isSome&&(h.f a).isNone))=false:=h2;simp only[Bool.or_eq_false_iff]at h2';exact⟨h1,h2'.1.1⟩
theorem Pure.intro{F:qI}{as:List AV}{v:AV}(fz bp:List Nat)(hg:Γ g=some (.fn F))(hok:F.body.ok=true)(hn:as.length=F.np)(ht:AV.trees as=true)(hv:v.tree=true)
  (hR:R ⟨Γ,0,fz,bp⟩ [.code F.body] ⟨qH 0 as,[],[]⟩ (Wc F.res v)):Pure Γ g as v:=by
 refine⟨ht,hv,fun hr ar har=> ?_⟩;have hS:qt ρ0 ⟨qH 0 as,[],[]⟩ {s:=params 0 ar,l:=Env.empty,h:=hr}:=⟨Z3 har,(fun n v h=>by cases h),⟨(fun i o h=>by simp at h),(fun i j a o o' h=>by cases h),(fun _ _=>rfl),(fun i a h=>by cases h)⟩⟩;obtain⟨k,e,sr',ρ',st',g1,⟨he,hq⟩,g3,g4,_⟩:=Sem.of (by simpa only [lAc,List.all_nil,Bool.and_true,Fr1.ok]using hok) hR ρ0 _ hS (nZl _);have hb:Ex Γ k (.code F.body {s:=params 0 ar,l:=Env.empty,h:=hr}) (.st e sr'):=by
  cases g1 with
  | code h h'=>cases h';exact h
  | codeX h he' hx h'=>cases e<;>simp[exK]at hx
  | codeE h he' hx=>exact h
 split at hq
 ·rename_i vs hvs;obtain⟨rs,q1,q2⟩:=Qi g3 hvs;have hx:=Ex.fn hg (by rw[har.length];exact hn) hb he q1;obtain⟨r',c1,c2⟩:=Cv.conv g3.h (K:=Qh ρ' st'.h (List.range st'.h.length)) (fun i a w el ha ho=>by
   rw[lCm,YT];exact⟨i,w,el,lMr.2 (QU ho),ha,ho⟩) hq (ZF q2)
  have hx2:=Ex.frzR _ (g3.h.rows _) c1 hx;have hold:∀id o,hr id=some o->(sr'.h.kill (Qh ρ' st'.h (List.range st'.h.length))) id=some o:=fun id o ho=>by
   rw[AH.kill_at,if_neg]
   ·exact g4.pres id o ho (fun i hi=>by cases hi)
   ·rw[lCm,YT];rintro⟨i,w,el,_,p2,_⟩;rcases g4.new i id p2 with⟨j,hj⟩ | hf
    ·cases hj
    ·have:hr id=none:=hf.1;rw[this]at ho;cases ho
  exact⟨k+1,r',_,.drop hold (Yl _ _ hv c2) hx2,rfl,fun a ha=>AH.fr_of_tomb ha,c2⟩
 ·exact hq.elim
end
attribute [irreducible] Pure
end Go.Ab
namespace Go.Ab
open Go
theorem nr{α:Sort _}{a b:α}(h:a=b):a=b:=h
def Go1(E:Ev)(c:qA)(l:List qA)(ks:List Fr1)(st:VSt)(Q:qS->VSt->Prop):Prop:=jt E c st (fun st'=>R E (.ops l::ks) st' Q) fun v st'=>Q (.pan v) st'
def Grd(E:Ev)(v:Option AV)(t:Bool)(c:qA)(l:List qA)(ks:List Fr1)(st:VSt)(Q:qS->VSt->Prop):Prop:=match v with
 | some (.bool c')=>if c'=t then Go1 E c l ks st Q else R E (.ops l::ks) (st.put c.d .undef) Q
 | some (.tup [])=>R E (.ops l::ks) (st.put c.d .undef) Q
 | _=>False
def Put(E:Ev)(v:Option AV)(d:Option Nat)(l:List qA)(ks:List Fr1)(st:VSt)(Q:qS->VSt->Prop):Prop:=match v with
 | some v=>R E (.ops l::ks) (st.put d v) Q
 | none=>False
def Cnd(E:Ev)(v:Option AV)(a b:qG)(ks:List Fr1)(st:VSt)(Q:qS->VSt->Prop):Prop:=match v with
 | some (.bool t)=>if t=true then R E (.code a::ks) st Q else R E (.code b::ks) st Q
 | _=>False
def jv(E:Ev)(v:Option (Nat×List AV))(ck:List qA)(d:Option Nat)(l:List qA)(ks:List Fr1)(st:VSt)(Q:qS->VSt->Prop):Prop:=match v with
 | some (g,vs)=>match ck with
  |[]=>SCallX E.Γ g vs st.h (fun v h'=>R E (.ops l::ks) {s:=jm st.s d v,l:=st.l,h:=h'} Q) (fun v h'=>Q (.pan v) {s:=st.s,l:=st.l,h:=h'})
  | c::r=>SCallK E.Γ g vs st.h (fun v h'=>R E (.ops l::ks) {s:=jm st.s d v,l:=st.l,h:=h'} Q)\/SCallX E.Γ g vs st.h (fun v h'=>ckVs {s:=jm st.s d v,l:=st.l,h:=h'} (c::r)/\R E (.ops l::ks) {s:=jm st.s d v,l:=st.l,h:=h'} Q) (fun v h'=>Q (.pan v) {s:=st.s,l:=st.l,h:=h'})
 | none=>False
def Pan1(v:Option AV)(Q:qS->VSt->Prop)(st:VSt):Prop:=match v with
 | some (.iface t v)=>v.leaf=true/\Q (.pan (.iface t v)) st
 | _=>False
def ZY(E:Ev)(e:qS)(k:Option (List Fr1))(st:VSt)(Q:qS->VSt->Prop):Prop:=match k with
 | some ks=>R E ks st Q
 | none=>Q e st
def wm(E:Ev)(d:Option Nat)(o:qC)(v:AV)(l:List qA)(ks:List Fr1)(st:VSt)(Q:qS->VSt->Prop):Prop:=R E (.ops l::ks) ⟨jm st.s d v,st.l,st.h++[o]⟩ Q
section
variable {E:Ev} {ks:List Fr1} {s m:qf} {h:List qC} {st:VSt} {Q:qS->VSt->Prop} {a b:qG} {c x y z:Ao} {op:BinOp} {l:List qA} {n t off i:Nat} {d:Option Nat} {sh:Option Nat} {v:AV} {g:Option (Nat×Bool)} {ck:List qA}
@[go_sem] theorem qmY:R E [] st Q=Q .nrm st:=by rw[R]
@[go_sem] theorem qmT:R E (.blk n::ks) st Q=R E ks st Q:=by rw[R]
@[go_sem] theorem qmZ:R E (.ops []::ks) st Q=R E ks st Q:=by rw[R]
@[go_sem] theorem qm6:R E (.code .skip::ks) st Q=R E ks st Q:=by rw[R]
@[go_sem] theorem qm5:R E (.code (.seq a b)::ks) st Q=R E (.code a::.code b::ks) st Q:=by rw[R]
@[go_sem] theorem qmU:R E (.code (.blk n a)::ks) st Q=R E (.code a::.blk n::ks) st Q:=by rw[R]
@[go_sem] theorem qm4:R E (.code .ret::ks) st Q=Q .ret st:=by
 rw[R];split
 ·rename_i ks' hx;rw[QK]at hx;cases hx
 ·rfl
@[go_sem] theorem qmW:R E (.code (.exit n)::ks) st Q=ZY E (.exit n) (exK (.exit n) ks) st Q:=by
 rw[R];unfold ZY;split<;>simp_all
@[go_sem] theorem qh9{e:qS}:ZY E e (some ks) st Q=R E ks st Q:=nr rfl
@[go_sem] theorem qh8{e:qS}:ZY E e none st Q=Q e st:=nr rfl
@[go_sem] theorem qh7{e:qS}:exK e []=none:=by cases e<;>rfl
@[go_sem] theorem qh6{e:qS}:exK e (.code a::ks)=exK e ks:=Wb
@[go_sem] theorem qh5{m:Nat}:exK (.exit m) (.blk n::ks)=if m=n then some ks else exK (.exit m) ks:=nr rfl
@[go_sem] theorem qmX:R E (.code (.loop a)::ks) st Q=Sem E (.code (.loop a)::ks) st Q:=by rw[R]
theorem qXI{Γ:Nat->Option AFn}{b:Nat}{fz bp:List Nat}{p:Bool}:R ⟨Γ,b,fz,bp⟩ (.code (.reg p l)::ks) st Q=if bp.contains (qUR l)then Sem ⟨Γ,b,fz,bp⟩ (.code (.reg p l)::ks) st Q else R ⟨Γ,b,fz,bp⟩ (.ops l::ks) (Jx fz st) Q:=by rw[R]
@[go_sem] theorem qm2{Γ:Nat->Option AFn}{b:Nat}{p:Bool}:R ⟨Γ,b,[],[]⟩ (.code (.reg p l)::ks) st Q=R ⟨Γ,b,[],[]⟩ (.ops l::ks) st Q:=by rw[qXI];rfl
@[go_sem] theorem qm3{Γ:Nat->Option AFn}{b k:Nat}{fz:List Nat}{p:Bool}:R ⟨Γ,b,k::fz,[]⟩ (.code (.reg p l)::ks) st Q=R ⟨Γ,b,k::fz,[]⟩ (.ops l::ks) (Jx (k::fz) st) Q:=by rw[qXI];rfl
@[go_sem] theorem qiM:Jx [] st=st:=nr rfl
@[go_sem] theorem qiL{fz:List Nat}:Jx (n::fz) st=Jx fz (Jw n st):=nr rfl
@[go_sem] theorem qmV:R E (.code (.cond c a b)::ks) ⟨s,m,h⟩ Q=Cnd E (ev (toE s) c) a b ks ⟨s,m,h⟩ Q:=by rw[R];rfl
@[go_sem] theorem qhU:Cnd E (some (.bool true)) a b ks st Q=R E (.code a::ks) st Q:=nr rfl
@[go_sem] theorem qhT:Cnd E (some (.bool false)) a b ks st Q=R E (.code b::ks) st Q:=nr rfl
theorem zj{t:Bool}(h1:t=true->R E (.code a::ks) st Q)(h2:t=false->R E (.code b::ks) st Q):Cnd E (some (.bool t)) a b ks st Q:=by cases t;exact h2 rfl;exact h1 rfl
theorem QO{t u:Bool}{c:qA}(h1:t=u->Go1 E c l ks st Q)(h2:t=(!u)->R E (.ops l::ks) (st.put c.d .undef) Q):Grd E (some (.bool t)) u c l ks st Q:=by
 unfold Grd;by_cases e:t=u
 ·simp only[if_pos e];exact h1 e
 ·simp only[if_neg e];exact h2 (by cases t<;>cases u<;>simp_all)
@[go_sem] theorem qm0{o:AOp}:R E (.ops (.mk i d none o ck::l)::ks) ⟨s,m,h⟩ Q=Go1 E (.mk i d none o ck) l ks ⟨s,m,h⟩ Q:=by rw[R];rfl
@[go_sem] theorem qm1{o:AOp}{t:Bool}:R E (.ops (.mk i d (some (n,t)) o ck::l)::ks) ⟨s,m,h⟩ Q=Grd E (get s n) t (.mk i d (some (n,t)) o ck) l ks ⟨s,m,h⟩ Q:=by rw[R];rfl
@[go_sem] theorem qj5{c:qA}:Grd E (some (.bool true)) true c l ks st Q=Go1 E c l ks st Q:=nr rfl
@[go_sem] theorem qj2{c:qA}:Grd E (some (.bool false)) false c l ks st Q=Go1 E c l ks st Q:=nr rfl
@[go_sem] theorem qj4{k:Nat}{o:AOp}:Grd E (some (.bool true)) false (.mk i (some k) g o ck) l ks ⟨s,m,h⟩ Q=R E (.ops l::ks) ⟨(k,.undef)::s,m,h⟩ Q:=nr rfl
@[go_sem] theorem qj3{k:Nat}{o:AOp}:Grd E (some (.bool false)) true (.mk i (some k) g o ck) l ks ⟨s,m,h⟩ Q=R E (.ops l::ks) ⟨(k,.undef)::s,m,h⟩ Q:=nr rfl
@[go_sem] theorem qj6{k:Nat}{o:AOp}{t:Bool}:Grd E (some .undef) t (.mk i (some k) g o ck) l ks ⟨s,m,h⟩ Q=R E (.ops l::ks) ⟨(k,.undef)::s,m,h⟩ Q:=nr rfl
@[go_sem] theorem d_mk{o:AOp}:(qA.mk i d g o ck).d=d:=nr rfl
@[go_sem] theorem qnQ{k:Nat}:VSt.put ⟨s,m,h⟩ (some k) v=⟨(k,v)::s,m,h⟩:=nr rfl
@[go_sem] theorem qe7{k:Nat}:Put E (some v) (some k) l ks ⟨s,m,h⟩ Q=R E (.ops l::ks) ⟨(k,v)::s,m,h⟩ Q:=nr rfl
@[go_sem] theorem qk5{k:Nat}{o:qC}:wm E (some k) o v l ks ⟨s,m,h⟩ Q=R E (.ops l::ks) ⟨(k,v)::s,m,h++[o]⟩ Q:=nr rfl
theorem opsE{E:Ev}{ks:List Fr1}{st:VSt}{Q:qS->VSt->Prop}{a b:List qA}(h:a=b):R E (.ops a::ks) st Q=R E (.ops b::ks) st Q:=by rw[h]
theorem codeE{E:Ev}{ks:List Fr1}{st:VSt}{Q:qS->VSt->Prop}{a b:qG}(h:a=b):R E (.code a::ks) st Q=R E (.code b::ks) st Q:=by rw[h]
def oP(i d:Nat)(x:AOp):qA:=.mk i (some d) none x []
def oM(i d t:Nat):qA:=.mk i (some d) none (.mov (.t t)) []
def oG(i d k:Nat)(b:Bool)(x:AOp):qA:=.mk i (some d) (some (k,b)) x []
def oN(i:Nat)(x:AOp):qA:=.mk i none none x []
@[go_sem] theorem qlY{i d:Nat}{x:AOp}:oP i d x=.mk i (some d) none x []:=nr rfl
@[go_sem] theorem qlS{i d t:Nat}:oM i d t=.mk i (some d) none (.mov (.t t)) []:=nr rfl
@[go_sem] theorem qlH{i d k:Nat}{b:Bool}{x:AOp}:oG i d k b x=.mk i (some d) (some (k,b)) x []:=nr rfl
@[go_sem] theorem qlW{i:Nat}{x:AOp}:oN i x=.mk i none none x []:=nr rfl
@[reducible] def OE{a b:List qA}(_:a=b):Prop:=∀⦃E:Ev⦄⦃ks:List Fr1⦄⦃st:VSt⦄⦃Q:qS->VSt->Prop⦄,R E (.ops a::ks) st Q=R E (.ops b::ks) st Q
@[reducible] def CE{a b:qG}(_:a=b):Prop:=∀⦃E:Ev⦄⦃ks:List Fr1⦄⦃st:VSt⦄⦃Q:qS->VSt->Prop⦄,R E (.code a::ks) st Q=R E (.code b::ks) st Q
theorem OEM{a b:List qA}(h:a=b):OE h:=fun _ _ _ _=>opsE h
theorem CEM{a b:qG}(h:a=b):CE h:=fun _ _ _ _=>codeE h
@[go_sem] theorem qiS{k:Nat}:get ((k,v)::s) n=if k=n then some v else get s n:=nr rfl
@[go_sem] theorem ev_t:ev (toE s) (.t n)=get s n:=nr rfl
@[go_sem] theorem ev_c:ev (toE s) (.c v)=some v:=nr rfl
@[go_sem] theorem ev_f{k:Nat}:ev (toE s) (.f k)=some (.fn k []):=nr rfl
@[go_sem] theorem qh4:evs (toE s) []=some []:=nr rfl
def YK:Option AV->Option (List AV)->Option (List AV)
 | some a,some b=>some (a::b)
 | _,_=>none
@[go_sem] theorem qmE{vs:List AV}:YK (some v) (some vs)=some (v::vs):=nr rfl
@[go_sem] theorem qh3{xs:List Ao}:evs (toE s) (x::xs)=YK (ev (toE s) x) (evs (toE s) xs):=by
 simp only[evs];cases ev (toE s) x<;>cases evs (toE s) xs<;>rfl
theorem zo{o:AOp}(hc:o.isCall=false)(hx:∀K,ju o d ⟨s,m,h⟩ K=match wi o ⟨s,m,h⟩with | some v=>K (VSt.put ⟨s,m,h⟩ d v) | none=>False)(ha:o.isApp=false:=by rfl):Go1 E (.mk i d g o ck) l ks ⟨s,m,h⟩ Q=Put E (wi o ⟨s,m,h⟩) d l ks ⟨s,m,h⟩ Q:=by
 unfold Go1 jt;simp only[qA.o,qA.d,qA.apC,hc,ha,Bool.false_and,bFt,if_false,hx];rfl
@[go_sem] theorem qjN:Go1 E (.mk i d g (.mov x) ck) l ks ⟨s,m,h⟩ Q=Put E (ev (toE s) x) d l ks ⟨s,m,h⟩ Q:=zo rfl fun _=>rfl
def isn1:Bool->Option AV->Option AV
 | n,some (.lst _ (_::_) _)=>some (.bool n)
 | n,some .nils=>some (.bool !n)
 | _,_=>none
def YO:Option AV->Option AV->Option AV->Option AV
 | some (.bool true),a,_=>a
 | some (.bool false),_,a=>a
 | _,_,_=>none
@[go_sem] theorem qmS{a b:Option AV}:YO (some (.bool true)) a b=a:=by cases a<;>rfl
@[go_sem] theorem qmR{a b:Option AV}:YO (some (.bool false)) a b=b:=by cases a<;>rfl
@[go_sem] theorem qjU:Go1 E (.mk i d g (.pick x y z) ck) l ks ⟨s,m,h⟩ Q=Put E (YO (ev (toE s) x) (ev (toE s) y) (ev (toE s) z)) d l ks ⟨s,m,h⟩ Q:=by
 rw[zo rfl fun _=>rfl];congr 1;simp only[wi,val];unfold YO;split<;>simp_all
@[go_sem] theorem qi0{ps:List (Nat×Nat×Ao)}:Go1 E (.mk i d g (.build v ps) ck) l ks ⟨s,m,h⟩ Q=Put E (jJ (toE s) v ps) d l ks ⟨s,m,h⟩ Q:=zo rfl fun _=>rfl
@[go_sem] theorem qmN{k:IntKind}{n:Int}:(AV.int k n).part 0 none=some (.int k n):=nr rfl
@[go_sem] theorem qmQ{b:List UInt8}:(AV.str b).part 0 none=some (.str b):=nr rfl
@[go_sem] theorem qmO{w:Nat}{xs:List AV}{c:Bool}:(AV.lst w xs c).part 0 none=some (.lst w xs c):=nr rfl
@[go_sem] theorem qmP{w i j:Nat}:(AV.ptr w i j).part 0 none=some (.ptr w i j):=nr rfl
@[go_sem] theorem qmL{cs:List AV}{j:Nat}:(AV.agg cs).part j none=cs[j]?:=nr rfl
theorem YN{cs:List AV}{j k:Nat}:(AV.agg cs).part j (some k)=if j+k<=cs.length then some (.agg ((cs.drop j).take k))else none:=rfl
def Ws(off:Nat)(sh:Option Nat):Option AV->Option AV
 | some v=>v.part off sh
 | none=>none
@[go_sem] theorem qmF:Ws off sh (some v)=v.part off sh:=nr rfl
@[go_sem] theorem qjF:Go1 E (.mk i d g (.lload t off sh) ck) l ks ⟨s,m,h⟩ Q=Put E (Ws off sh (get m t)) d l ks ⟨s,m,h⟩ Q:=by
 rw[zo rfl fun _=>rfl];congr 1;show (get m t).bind _=_;cases get m t<;>rfl
def Wu(sh:Option Nat)(j i:Nat):Option qC->Option AV
 | some (.row _ el _)=>Ws j sh el[i]?
 | _=>none
@[go_sem] theorem qmH{j i w:Nat}{el:List AV}{rw':Bool}:Wu sh j i (some (.row w el rw'))=Ws j sh el[i]?:=nr rfl
def Wh(h:List qC)(sh:Option Nat):Option AV->Option AV
 | some (.ptr id i j)=>Wu sh j i h[id]?
 | some (.ept x j)=>x.part j sh
 | _=>none
@[go_sem] theorem qkQ{j:Nat}:Wh h sh (some (.ept v j))=v.part j sh:=nr rfl
@[go_sem] theorem qkR{id i j:Nat}:Wh h sh (some (.ptr id i j))=Wu sh j i h[id]?:=nr rfl
@[go_sem] theorem qjG:Go1 E (.mk i d g (.load sh x) ck) l ks ⟨s,m,h⟩ Q=Put E (Wh h sh (ev (toE s) x)) d l ks ⟨s,m,h⟩ Q:=by
 rw[zo rfl fun _=>rfl];congr 1;simp only[wi,val];cases ev (toE s) x with
 | none=>rfl
 | some v=>
  cases v<;>try rfl
  rename_i id i j;show (match h[id]? with | some (.row _ el _)=>(el[i]?).bind (·.part j sh) | _=>none)=Wu sh j i h[id]?;cases h[id]? with
  | none=>rfl
  | some o=>
   cases o<;>try rfl
   rename_i w el rw';simp only[Wu];cases el[i]?<;>rfl
def nchk:Option AV->Option AV
 | some (.ptr a b c)=>some (.ptr a b c)
 | some (.ept x j)=>some (.ept x j)
 | some (.fn g cs)=>some (.fn g cs)
 | _=>none
@[go_sem] theorem qk3{a b c:Nat}:nchk (some (.ptr a b c))=some (.ptr a b c):=nr rfl
@[go_sem] theorem qk2{j:Nat}:nchk (some (.ept v j))=some (.ept v j):=nr rfl
@[go_sem] theorem qjQ:Go1 E (.mk i d g (.nilchk x) ck) l ks ⟨s,m,h⟩ Q=Put E (nchk (ev (toE s) x)) d l ks ⟨s,m,h⟩ Q:=by
 rw[zo rfl fun _=>rfl];congr 1
def Kp(op:BinOp):Option AV->Option AV->Option AV
 | some (.int k a),some (.int k' b)=>if k=k' then jo op k a b else none
 | _,_=>none
@[go_sem] theorem qhJ{k:IntKind}{a b:Int}:Kp op (some (.int k a)) (some (.int k b))=jo op k a b:=by simp[Kp]
@[go_sem] theorem qiY:Go1 E (.mk i d g (.bin op x y) ck) l ks ⟨s,m,h⟩ Q=Put E (Kp op (ev (toE s) x) (ev (toE s) y)) d l ks ⟨s,m,h⟩ Q:=by
 rw[zo rfl fun _=>rfl];congr 1
section
variable {k:IntKind} {a b:Int}
@[go_sem] theorem qj7:jo .add k a b=some (.int k (k.wrap (a+b))):=nr rfl
@[go_sem] theorem qkH:jo .sub k a b=some (.int k (k.wrap (a-b))):=nr rfl
@[go_sem] theorem qkD:jo .mul k a b=some (.int k (k.wrap (a*b))):=nr rfl
@[go_sem] theorem qkF:jo .quo k a b=if b=0 then none else some (.int k (k.wrap (a.tdiv b))):=nr rfl
@[go_sem] theorem qkG:jo .rem k a b=if b=0 then none else some (.int k (a.tmod b)):=nr rfl
@[go_sem] theorem qj8:jo .eql k a b=some (.bool (decide (a=b))):=nr rfl
@[go_sem] theorem qkE:jo .neq k a b=some (.bool (!decide (a=b))):=nr rfl
@[go_sem] theorem qkC:jo .lss k a b=some (.bool (decide (a<b))):=nr rfl
@[go_sem] theorem qkB:jo .leq k a b=some (.bool (decide (a<=b))):=nr rfl
@[go_sem] theorem qkA:jo .gtr k a b=some (.bool (decide (b<a))):=nr rfl
@[go_sem] theorem qj9:jo .geq k a b=some (.bool (decide (b<=a))):=nr rfl
end
def sop2(op:BinOp):Option AV->Option AV->Option AV
 | some (.str a),some (.str b)=>wh op a b
 | _,_=>none
@[go_sem] theorem qnJ{a b:List UInt8}:sop2 op (some (.str a)) (some (.str b))=wh op a b:=nr rfl
@[go_sem] theorem qjY:Go1 E (.mk i d g (.sop op x y) ck) l ks ⟨s,m,h⟩ Q=Put E (sop2 op (ev (toE s) x) (ev (toE s) y)) d l ks ⟨s,m,h⟩ Q:=by
 rw[zo rfl fun _=>rfl];congr 1
@[go_sem] theorem qnC{a b:List UInt8}:wh .eql a b=some (.bool (decide (a=b))):=by
 simp only[wh];congr 2;rw[bEi];simp
@[go_sem] theorem qnD{a b:List UInt8}:wh .neq a b=some (.bool (!decide (a=b))):=by
 simp only[wh];congr 2;rw[bEi];simp
def beq2(neg:Bool):Option AV->Option AV->Option AV
 | some (.bool a),some (.bool b)=>some (.bool (if neg then !(a==b)else a==b))
 | _,_=>none
@[go_sem] theorem qhI{a b:Bool}:beq2 true (some (.bool a)) (some (.bool b))=some (.bool (!(a==b))):=nr rfl
@[go_sem] theorem qiX{neg:Bool}:Go1 E (.mk i d g (.beq neg x y) ck) l ks ⟨s,m,h⟩ Q=Put E (beq2 neg (ev (toE s) x) (ev (toE s) y)) d l ks ⟨s,m,h⟩ Q:=by
 rw[zo rfl fun _=>rfl];congr 1
def seq2(neg:Bool)(k:List Nat):Option AV->Option AV->Option AV
 | some (.agg cs),some (.agg ds)=>if cs.map dig=k/\ds.map dig=k then(Jh cs ds).map fun b=>.bool (if neg then !b else b)else none
 | _,_=>none
def not1:Option AV->Option AV
 | some (.bool a)=>some (.bool !a)
 | _=>none
@[go_sem] theorem qk7{a:Bool}:not1 (some (.bool a))=some (.bool !a):=nr rfl
@[go_sem] theorem qjS:Go1 E (.mk i d g (.not x) ck) l ks ⟨s,m,h⟩ Q=Put E (not1 (ev (toE s) x)) d l ks ⟨s,m,h⟩ Q:=by
 rw[zo rfl fun _=>rfl];congr 1
def neg1:Option AV->Option AV
 | some (.int k n)=>some (.int k (k.wrap (0-n)))
 | _=>none
@[go_sem] theorem qk4{k:IntKind}{n:Int}:neg1 (some (.int k n))=some (.int k (k.wrap (0-n))):=nr rfl
@[go_sem] theorem qjP:Go1 E (.mk i d g (.neg x) ck) l ks ⟨s,m,h⟩ Q=Put E (neg1 (ev (toE s) x)) d l ks ⟨s,m,h⟩ Q:=by
 rw[zo rfl fun _=>rfl];congr 1
def qT4(k:IntKind):Option AV->Option AV
 | some (.int _ n)=>some (.int k (k.wrap n))
 | _=>none
@[go_sem] theorem qhW{k k':IntKind}{n:Int}:qT4 k (some (.int k' n))=some (.int k (k.wrap n)):=nr rfl
@[go_sem] theorem qi3{k:IntKind}:Go1 E (.mk i d g (.conv k x) ck) l ks ⟨s,m,h⟩ Q=Put E (qT4 k (ev (toE s) x)) d l ks ⟨s,m,h⟩ Q:=by
 rw[zo rfl fun _=>rfl];congr 1
@[go_sem] theorem qjW{w:Nat}{lo hi mx:Option Ao}:Go1 E (.mk i d g (.slc w x lo hi mx) ck) l ks ⟨s,m,h⟩ Q=Put E (val (.slc w x lo hi mx) (toE s) (toE m) (toH h)) d l ks ⟨s,m,h⟩ Q:=zo rfl fun _=>rfl
@[go_sem] theorem qjZ{lo hi:Option Ao}:Go1 E (.mk i d g (.sslc x lo hi) ck) l ks ⟨s,m,h⟩ Q=Put E (val (.sslc x lo hi) (toE s) (toE m) (toH h)) d l ks ⟨s,m,h⟩ Q:=zo rfl fun _=>rfl
def fad(off:Nat):Option AV->Option AV
 | some (.ptr id i j)=>some (.ptr id i (j+off))
 | some (.ept x j)=>some (.ept x (j+off))
 | _=>none
@[go_sem] theorem qiC{id i j:Nat}:fad off (some (.ptr id i j))=some (.ptr id i (j+off)):=nr rfl
@[go_sem] theorem qiB{j:Nat}:fad off (some (.ept v j))=some (.ept v (j+off)):=nr rfl
@[go_sem] theorem qi5:Go1 E (.mk i d g (.faddr off x) ck) l ks ⟨s,m,h⟩ Q=Put E (fad off (ev (toE s) x)) d l ks ⟨s,m,h⟩ Q:=by
 rw[zo rfl fun _=>rfl];congr 1
def fld1(off:Nat)(sh:Option Nat):Option AV->Option AV
 | some (.agg cs)=>(AV.agg cs).part off sh
 | _=>none
@[go_sem] theorem qi6:Go1 E (.mk i d g (.fld off sh x) ck) l ks ⟨s,m,h⟩ Q=Put E (fld1 off sh (ev (toE s) x)) d l ks ⟨s,m,h⟩ Q:=by
 rw[zo rfl fun _=>rfl];congr 1
def idx(w:Nat):Option AV->Option AV->Option AV
 | some (.slice w' id off len _),some (.int _ n)=>if w'=w/\0<=n/\n<len then some (.ptr id (off+n.toNat) 0)else none
 | some (.lst w' xs _),some (.int _ n)=>if w'=w/\0<=n then(xs[n.toNat]?).map fun x=>.ept x 0 else none
 | _,_=>none
@[go_sem] theorem kU{w:Nat}{xs:List AV}{cl:Bool}{k:IntKind}{n:Nat}:idx w (some (.lst w xs cl)) (some (.int k (n:Int)))=(xs[n]?).map fun x=>.ept x 0:=by
 simp[idx]
@[go_sem] theorem qkI{w:Nat}{xs:List AV}{cl:Bool}{k:IntKind}:idx w (some (.lst w xs cl)) (some (.int k 0))=(xs[0]?).map fun x=>.ept x 0:=kU (n:=0)
@[go_sem] theorem qkJ{w:Nat}{xs:List AV}{cl:Bool}{k:IntKind}:idx w (some (.lst w xs cl)) (some (.int k 1))=(xs[1]?).map fun x=>.ept x 0:=kU (n:=1)
@[go_sem] theorem qkK{w:Nat}{xs:List AV}{cl:Bool}{k:IntKind}:idx w (some (.lst w xs cl)) (some (.int k 2))=(xs[2]?).map fun x=>.ept x 0:=kU (n:=2)
theorem qU0{w id off len:Nat}{cl:Bool}{k:IntKind}{n:Nat}(h:n<len):idx w (some (.slice w id off len cl)) (some (.int k (n:Int)))=some (.ptr id (off+n) 0):=by
 unfold idx;exact if_pos ⟨rfl,by omega,by omega⟩
@[go_sem] theorem qjA{w:Nat}:Go1 E (.mk i d g (.iaddr w x y) ck) l ks ⟨s,m,h⟩ Q=Put E (idx w (ev (toE s) x) (ev (toE s) y)) d l ks ⟨s,m,h⟩ Q:=by
 rw[zo rfl fun _=>rfl];congr 1
def YZ:Option AV->Option AV->Option AV
 | some (.str a),some (.int _ n)=>if 0<=n then(a[n.toNat]?).map fun b=>.int .u8 b.toNat else none
 | _,_=>none
@[go_sem] theorem qf0{a:List UInt8}{k:IntKind}{n:Nat}:YZ (some (.str a)) (some (.int k (n:Int)))=(a[n]?).map fun b=>.int .u8 b.toNat:=by simp[YZ]
@[go_sem] theorem qjV:Go1 E (.mk i d g (.sidx x y) ck) l ks ⟨s,m,h⟩ Q=Put E (YZ (ev (toE s) x) (ev (toE s) y)) d l ks ⟨s,m,h⟩ Q:=by
 rw[zo rfl fun _=>rfl];congr 1
def ext1(i:Nat):Option AV->Option AV
 | some (.tup vs)=>vs[i]?
 | _=>none
@[go_sem] theorem qiA{vs:List AV}:ext1 n (some (.tup vs))=vs[n]?:=nr rfl
@[go_sem] theorem qi4{j:Nat}:Go1 E (.mk i d g (.ext x j) ck) l ks ⟨s,m,h⟩ Q=Put E (ext1 j (ev (toE s) x)) d l ks ⟨s,m,h⟩ Q:=by
 rw[zo rfl fun _=>rfl];congr 1
def qVY(k:Nat):Option (List AV)->Option AV
 | some cs=>some (.fn k cs)
 | none=>none
@[go_sem] theorem qk0{k:Nat}{cs:List AV}:qVY k (some cs)=some (.fn k cs):=nr rfl
@[go_sem] theorem qjK{k:Nat}{cs:List Ao}:Go1 E (.mk i d g (.mkfn k cs) ck) l ks ⟨s,m,h⟩ Q=Put E (qVY k (evs (toE s) cs)) d l ks ⟨s,m,h⟩ Q:=by
 rw[zo rfl fun _=>rfl];congr 1;show (evs (toE s) cs).map _=_;cases evs (toE s) cs<;>rfl
def Zq:Option AV->Option AV
 | some .nils=>some (.int .i64 0)
 | some (.slice _ _ _ len _)=>some (.int .i64 len)
 | some (.lst _ xs _)=>some (.int .i64 xs.length)
 | _=>none
@[go_sem] theorem qkO:Zq (some .nils)=some (.int .i64 0):=nr rfl
@[go_sem] theorem qkP{w id off len:Nat}{cl:Bool}:Zq (some (.slice w id off len cl))=some (.int .i64 len):=nr rfl
@[go_sem] theorem qkN{w:Nat}{xs:List AV}{cl:Bool}:Zq (some (.lst w xs cl))=some (.int .i64 xs.length):=nr rfl
@[go_sem] theorem qjE:Go1 E (.mk i d g (.len x) ck) l ks ⟨s,m,h⟩ Q=Put E (Zq (ev (toE s) x)) d l ks ⟨s,m,h⟩ Q:=by
 rw[zo rfl fun _=>rfl];congr 1
def qX6:Option AV->Option AV
 | some (.str a)=>some (.int .i64 a.length)
 | _=>none
@[go_sem] theorem qnG{a:List UInt8}:qX6 (some (.str a))=some (.int .i64 a.length):=nr rfl
@[go_sem] theorem qjX:Go1 E (.mk i d g (.slen x) ck) l ks ⟨s,m,h⟩ Q=Put E (qX6 (ev (toE s) x)) d l ks ⟨s,m,h⟩ Q:=by
 rw[zo rfl fun _=>rfl];congr 1
def max2:Option AV->Option AV->Option AV
 | some (.int k a),some (.int k' b)=>if k=k' then some (.int k (if b>a then b else a))else none
 | _,_=>none
@[go_sem] theorem qkZ{k:IntKind}{a b:Int}:max2 (some (.int k a)) (some (.int k b))=some (.int k (max a b)):=by
 simp only[max2,if_true];congr 2;split<;>omega
@[go_sem] theorem qjJ:Go1 E (.mk i d g (.max x y) ck) l ks ⟨s,m,h⟩ Q=Put E (max2 (ev (toE s) x) (ev (toE s) y)) d l ks ⟨s,m,h⟩ Q:=by
 rw[zo rfl fun _=>rfl];congr 1
def nop1:Option AV->Option AV
 | some _=>some .any
 | none=>none
@[go_sem] theorem qk6:nop1 (some v)=some .any:=nr rfl
@[go_sem] theorem qjR:Go1 E (.mk i d g (.nop t) ck) l ks ⟨s,m,h⟩ Q=Put E (nop1 (get m t)) d l ks ⟨s,m,h⟩ Q:=by
 rw[zo rfl fun _=>rfl];congr 1;show (get m t).map _=_;cases get m t<;>rfl
@[go_sem] theorem qjC{k:Nat}:Go1 E (.mk i (some k) g (.lalloc v) ck) l ks ⟨s,m,h⟩ Q=R E (.ops l::ks) ⟨s,(k,v)::m,h⟩ Q:=nr rfl
def XM(E:Ev)(k w:Nat)(v:Option AV)(l:List qA)(ks:List Fr1)(st:VSt)(Q:qS->VSt->Prop):Prop:=match v with
 | some v=>v.cells.length=w/\R E (.ops l::ks) ⟨st.s,(k,v)::st.l,st.h⟩ Q
 | none=>False
@[go_sem] theorem qjD{k w:Nat}:Go1 E (.mk i (some k) g (.lbox w x) ck) l ks ⟨s,m,h⟩ Q=XM E k w (ev (toE s) x) l ks ⟨s,m,h⟩ Q:=by
 unfold Go1 jt ju XM;cases hq:ev (toE s) x<;>simp[qA.o,qA.d,AOp.isCall,qA.apC,AOp.isApp,hq]
theorem zM{k w:Nat}(hl:v.cells.length=w)(hr:R E (.ops l::ks) ⟨s,(k,v)::m,h⟩ Q):XM E k w (some v) l ks ⟨s,m,h⟩ Q:=⟨hl,hr⟩
def Lst(E:Ev)(t off w:Nat)(c v:Option AV)(l:List qA)(ks:List Fr1)(st:VSt)(Q:qS->VSt->Prop):Prop:=match c,v with
 | some c,some v=>v.cells.length=w/\(match c.put off v with | some c'=>R E (.ops l::ks) ⟨st.s,(t,c')::st.l,st.h⟩ Q | none=>False)
 | _,_=>False
@[go_sem] theorem qjI{w:Nat}:Go1 E (.mk i d g (.lstore t off w x) ck) l ks ⟨s,m,h⟩ Q=Lst E t off w (get m t) (ev (toE s) x) l ks ⟨s,m,h⟩ Q:=by
 unfold Go1 jt ju Lst;cases hq:ev (toE s) x<;>cases hp:get m t<;>simp[qA.o,AOp.isCall,qA.apC,AOp.isApp,hq,hp]<;>exact fun _=>Iff.rfl
theorem Q9{w:Nat}{c c':AV}(hl:v.cells.length=w)(hc:c.put off v=some c')(hr:R E (.ops l::ks) ⟨s,(t,c')::m,h⟩ Q):Lst E t off w (some c) (some v) l ks ⟨s,m,h⟩ Q:=by
 unfold Lst;exact⟨hl,by rw[hc];exact hr⟩
@[go_sem] theorem qi7{w:Nat}:Go1 E (.mk i d g (.halloc w v) ck) l ks ⟨s,m,h⟩ Q=wm E d (.row w [v] true) (.ptr h.length 0 0) l ks ⟨s,m,h⟩ Q:=nr rfl
@[go_sem] theorem qi8{w:Nat}:Go1 E (.mk i d g (.hallt w v) ck) l ks ⟨s,m,h⟩ Q=wm E d (.row w [v] false) (.ptr h.length 0 0) l ks ⟨s,m,h⟩ Q:=nr rfl
def XL(E:Ev)(d:Option Nat)(w:Nat)(v:Option AV)(l:List qA)(ks:List Fr1)(st:VSt)(Q:qS->VSt->Prop):Prop:=match v with
 | some v=>v.cells.length=w/\wm E d (.row w [v] true) (.ptr st.h.length 0 0) l ks st Q
 | none=>False
@[go_sem] theorem qi9{w:Nat}:Go1 E (.mk i d g (.hbox w x) ck) l ks ⟨s,m,h⟩ Q=XL E d w (ev (toE s) x) l ks ⟨s,m,h⟩ Q:=by
 unfold Go1 jt ju XL;cases hq:ev (toE s) x<;>simp[qA.o,qA.d,AOp.isCall,qA.apC,AOp.isApp,hq,wm,jW]
theorem JC{w:Nat}(hl:v.cells.length=w)(hr:wm E d (.row w [v] true) (.ptr h.length 0 0) l ks ⟨s,m,h⟩ Q):XL E d w (some v) l ks ⟨s,m,h⟩ Q:=⟨hl,hr⟩
def Bsl(E:Ev)(d:Option Nat)(w n:Nat)(el:Option (List AV))(l:List qA)(ks:List Fr1)(st:VSt)(Q:qS->VSt->Prop):Prop:=match el with
 | some el=>wm E d (.row w el true) (.slice w st.h.length 0 n false) l ks st Q
 | none=>False
@[go_sem] theorem qZN{w n:Nat}{el:List AV}:Bsl E d w n (some el) l ks ⟨s,m,h⟩ Q=wm E d (.row w el true) (.slice w h.length 0 n false) l ks ⟨s,m,h⟩ Q:=nr rfl
@[go_sem] theorem qiZ{w n:Nat}{ps:List (Nat×Ao)}:Go1 E (.mk i d g (.bslice w v n ps) ck) l ks ⟨s,m,h⟩ Q=Bsl E d w n (zH (toE s) w (List.replicate n v) ps) l ks ⟨s,m,h⟩ Q:=by
 unfold Go1 jt ju Bsl;cases hq:zH (toE s) w (List.replicate n v) ps<;>simp[qA.o,qA.d,AOp.isCall,qA.apC,AOp.isApp,hq,wm,jW]
@[go_sem] theorem qi1{k:Nat}{as:List Ao}:Go1 E (.mk i d g (.call k as) ck) l ks ⟨s,m,h⟩ Q=jv E (zf (toE s) (.call k as)) ck d l ks ⟨s,m,h⟩ Q:=nr rfl
@[go_sem] theorem qjT:Go1 E (.mk i d g (.panic x) ck) l ks ⟨s,m,h⟩ Q=Pan1 (ev (toE s) x) Q ⟨s,m,h⟩:=nr rfl
@[go_sem] theorem qmK:Pan1 (some (.iface n v)) Q st=(v.leaf=true/\Q (.pan (.iface n v)) st):=nr rfl
@[go_sem] theorem qi2{as:List Ao}:Go1 E (.mk i d g (.callv x as) ck) l ks ⟨s,m,h⟩ Q=jv E (zf (toE s) (.callv x as)) ck d l ks ⟨s,m,h⟩ Q:=nr rfl
def cal1(k:Nat):Option (List AV)->Option (Nat×List AV)
 | some as=>some (k,as)
 | none=>none
def Kz:Option AV->Option (List AV)->Option (Nat×List AV)
 | some (.fn g cs),some as=>some (g,as++cs)
 | _,_=>none
@[go_sem] theorem qhM{k:Nat}{vs:List AV}:cal1 k (some vs)=some (k,vs):=nr rfl
@[go_sem] theorem qhN{k:Nat}{vs cs:List AV}:Kz (some (.fn k cs)) (some vs)=some (k,vs++cs):=nr rfl
@[go_sem] theorem qhO{k:Nat}{as:List Ao}:zf (toE s) (.call k as)=cal1 k (evs (toE s) as):=by
 show (evs (toE s) as).map _=_;cases evs (toE s) as<;>rfl
@[go_sem] theorem qhP{as:List Ao}:zf (toE s) (.callv x as)=Kz (ev (toE s) x) (evs (toE s) as):=by
 simp only[zf];unfold Kz;split<;>simp_all
theorem Qg{a v:AV}{k:Nat}(ha:a.cells.length=k)(hv:v.cells.length=k)(hag:(∃cs,a=.agg cs)↔∃cs,v=.agg cs)(hk:0<k):a.put 0 v=some v:=by
 by_cases h:∃cs,a=.agg cs
 ·obtain⟨cs,rfl⟩:=h;obtain⟨ds,rfl⟩:=hag.1 ⟨cs,rfl⟩;have ha:cs.length=k:=ha;have hv:ds.length=k:=hv;show (if 0+ds.length<=cs.length then some (AV.agg (List.take 0 cs++(ds++List.drop (0+ds.length) cs)))else none)=_;rw[if_pos (by omega)];simp[ha,hv]
 ·have h2:¬∃cs,v=.agg cs:=fun q=>h (hag.2 q);have c1:∀x:AV,(¬∃cs,x=.agg cs)->0<x.cells.length->x.cells=[x]:=fun x hx hl=>by
   cases x<;>first | rfl | exact absurd ⟨_,rfl⟩ hx | (simp[AV.cells]at hl;done)
  have e1:=c1 a h (by omega);have e2:=c1 v h2 (by omega);have:a.put 0 v=if 0=0/\a.cells.length=1 then(match v.cells with |[y]=>some y | _=>none)else none:=by
   cases a<;>first | rfl | exact absurd ⟨_,rfl⟩ h
  rw[this,e1,e2];simp
def one:AV->AV
 |.agg [x]=>x
 | v=>v
theorem qeS(h:v.cells.length=1):v.cells=[one v]:=by
 cases v<;>first
  | rfl
  | (simp[AV.cells]at h;done)
  | (rename_i cs;match cs,h with |[x],_=>rfl)
def Zi(x:AV):Option (List AV)->Option (List AV)
 | some xs=>some (x::xs)
 | none=>none
def wE:List AV->Nat->AV->Option (List AV)
 |[],_,_=>none
 | _::xs,0,v=>some (v::xs)
 | x::xs,n+1,v=>Zi x (wE xs n v)
@[go_sem] theorem qnE{x:AV}{xs:List AV}:wE (x::xs) 0 v=some (v::xs):=nr rfl
@[go_sem] theorem qfX{x:AV}{xs:List AV}:wE (x::xs) (n+1) v=Zi x (wE xs n v):=nr rfl
@[go_sem] theorem qhV{x:AV}{xs:List AV}:Zi x (some xs)=some (x::xs):=nr rfl
theorem qfW:∀{cs:List AV}{n:Nat}{w:AV},w.cells=[v]->(AV.agg cs).put n w=(wE cs n v).map .agg:=by
 intro cs n w hw;show (if n+w.cells.length<=cs.length then some (AV.agg (cs.take n++(w.cells++cs.drop (n+w.cells.length))))else none)=_;rw[hw];simp only[lCo,lNi,nZa]
 induction cs generalizing n with
 | nil=>rw[if_neg (by simp)];rfl
 | cons c cs ih=>
  cases n with
  | zero=>rw[if_pos (by simp)];rfl
  | succ n=>
   have:=ih (n:=n);simp only[wE];cases hq:wE cs n v with
   | none=>
    rw[hq]at this;have hn:¬n+1<=cs.length:=by intro h;rw[if_pos h]at this;cases this
    rw[if_neg (by simp;omega)];rfl
   | some ds=>
    rw[hq]at this;have hn:n+1<=cs.length:=by
     rcases Nat.lt_or_ge cs.length (n+1)with h | h
     ·rw[if_neg (by omega)]at this;cases this
     ·exact h
    rw[if_pos hn]at this;simp only[oMs,oSi,AV.agg.injEq]at this;rw[if_pos (by simp;omega)];simp only[Zi,oMs,List.take_succ_cons,List.drop_succ_cons,<-this];rfl
def Qq(E:Ev)(t:Nat)(cs:Option (List AV))(l:List qA)(ks:List Fr1)(st:VSt)(Q:qS->VSt->Prop):Prop:=match cs with
 | some cs=>R E (.ops l::ks) ⟨st.s,(t,.agg cs)::st.l,st.h⟩ Q
 | none=>False
@[go_sem] theorem qkX{cs:List AV}:Qq E t (some cs) l ks ⟨s,m,h⟩ Q=R E (.ops l::ks) ⟨s,(t,.agg cs)::m,h⟩ Q:=nr rfl
theorem qAH{cs:List AV}(hv:v.cells.length=1):Lst E t off 1 (some (.agg cs)) (some v) l ks ⟨s,m,h⟩ Q=Qq E t (wE cs off (one v)) l ks ⟨s,m,h⟩ Q:=by
 unfold Lst Qq;simp only[hv,true_and,qfW (qeS hv)];cases wE cs off (one v)<;>rfl
@[go_sem] theorem qkU{cs:List AV}{k:IntKind}{n:Int}:Lst E t off 1 (some (.agg cs)) (some (.int k n)) l ks ⟨s,m,h⟩ Q=Qq E t (wE cs off (.int k n)) l ks ⟨s,m,h⟩ Q:=qAH rfl
@[go_sem] theorem qkW{cs:List AV}{n i j o:Nat}{b:Bool}:Lst E t off 1 (some (.agg cs)) (some (.slice n i j o b)) l ks ⟨s,m,h⟩ Q=Qq E t (wE cs off (.slice n i j o b)) l ks ⟨s,m,h⟩ Q:=qAH rfl
@[go_sem] theorem qkV{cs:List AV}{x:AV}:Lst E t off 1 (some (.agg cs)) (some (.agg [x])) l ks ⟨s,m,h⟩ Q=Qq E t (wE cs off x) l ks ⟨s,m,h⟩ Q:=qAH rfl
def ZP:List AV->Nat->Option (List AV)
 | _,0=>some []
 | x::xs,n+1=>Zi x (ZP xs n)
 |[],_+1=>none
def WC:List AV->Nat->Nat->Option (List AV)
 | xs,0,k=>ZP xs k
 | _::xs,j+1,k=>WC xs j k
 |[],_+1,_=>none
def XS:Option (List AV)->Option AV
 | some cs=>some (.agg cs)
 | none=>none
@[go_sem] theorem qgL{xs:List AV}:ZP xs 0=some []:=by cases xs<;>rfl
@[go_sem] theorem qgM{x:AV}{xs:List AV}{k:Nat}:ZP (x::xs) (k+1)=Zi x (ZP xs k):=nr rfl
@[go_sem] theorem qgB{xs:List AV}{k:Nat}:WC xs 0 k=ZP xs k:=by cases xs<;>rfl
@[go_sem] theorem qgC{x:AV}{xs:List AV}{j k:Nat}:WC (x::xs) (j+1) k=WC xs j k:=nr rfl
@[go_sem] theorem qhH{cs:List AV}:XS (some cs)=some (.agg cs):=nr rfl
theorem qYD:∀{xs:List AV}{k:Nat},ZP xs k=if k<=xs.length then some (xs.take k)else none
 | xs,0=>by rw[qgL];simp
 |[],k+1=>rfl
 | x::xs,k+1=>by
  rw[qgM,qYD];by_cases h:k<=xs.length
  ·rw[if_pos h,if_pos (by simp;omega)];rfl
  ·rw[if_neg h,if_neg (by simp;omega)];rfl
theorem qX9:∀{xs:List AV}{j k:Nat},XS (WC xs j k)=(AV.agg xs).part j (some k)
 | xs,0,k=>by
  rw[qgB,qYD,YN];by_cases h:k<=xs.length
  ·rw[if_pos h,if_pos (by omega)];rfl
  ·rw[if_neg h,if_neg (by omega)];rfl
 |[],j+1,k=>by rw[YN,if_neg (by simp)];rfl
 | x::xs,j+1,k=>by
  rw[qgC,qX9,YN,YN];by_cases h:j+k<=xs.length
  ·rw[if_pos h,if_pos (by simp;omega)];rfl
  ·rw[if_neg h,if_neg (by simp;omega)]
@[go_sem] theorem qmM{cs:List AV}{j k:Nat}:(AV.agg cs).part j (some k)=XS (WC cs j k):=qX9.symm
theorem wf{cs:List AV}{k:Nat}(h1:cs.length=k)(h2:v.cells.length=k)(h3:∃cs,v=.agg cs)(h4:0<k)(hr:R E (.ops l::ks) ⟨s,(t,v)::m,h⟩ Q):Lst E t 0 k (some (.agg cs)) (some v) l ks ⟨s,m,h⟩ Q:=
 Q9 h2 (Qg h1 h2 ⟨fun _=>h3,fun _=>⟨cs,rfl⟩⟩ h4) hr
theorem lA{cs:List AV}{k:Nat}(hr:R E (.ops l::ks) ⟨s,(t,v)::m,h⟩ Q)(h1:cs.length=k:=by rfl)(h2:v.cells.length=k:=by rfl)(h3:∃cs,v=.agg cs:=by exact⟨_,rfl⟩)(h4:0<k:=by decide):Lst E t 0 k (some (.agg cs)) (some v) l ks ⟨s,m,h⟩ Q:=wf h1 h2 h3 h4 hr
def Jo:List AV->Nat->List AV->Option (List AV)
 | cs,_,[]=>some cs
 | cs,off,y::ys=>match wE cs off y with
  | some cs'=>Jo cs' (off+1) ys
  | none=>none
def S2(cs:Option (List AV))(off:Nat)(ys:List AV):Option (List AV):=match cs with
 | some cs=>Jo cs off ys
 | none=>none
@[go_sem] theorem qfZ{cs:List AV}:Jo cs n []=some cs:=nr rfl
@[go_sem] theorem qfY{cs ys:List AV}{y:AV}:Jo cs n (y::ys)=S2 (wE cs n y) (n+1) ys:=nr rfl
@[go_sem] theorem S2_s{cs ys:List AV}:S2 (some cs) n ys=Jo cs n ys:=nr rfl
theorem qX1:∀{cs:List AV}{n:Nat},wE cs n v=if n<cs.length then some (cs.set n v)else none
 |[],n=>rfl
 | c::cs,0=>by simp[wE]
 | c::cs,n+1=>by
  rw[qfX,qX1];by_cases h:n<cs.length
  ·rw[if_pos h,if_pos (by simp;omega)];rfl
  ·rw[if_neg h,if_neg (by simp;omega)];rfl
theorem qX2:∀{ys cs:List AV}{off:Nat},ys≠[]->Jo cs off ys=if off+ys.length<=cs.length then some (cs.take off++(ys++cs.drop (off+ys.length)))else none
 |[],_,_,h=>absurd rfl h
 | y::ys,cs,off,_=>by
  rw[qfY,qX1];by_cases h:off<cs.length
  ·rw[if_pos h,S2_s];cases ys with
   | nil=>
    rw[qfZ,if_pos (by simp;omega)];congr 1;rw[List.set_eq_take_append_cons_drop,if_pos h];simp
   | cons z zs=>
    rw[qX2 (by simp)];by_cases h2:off+1+(z::zs).length<=cs.length
    ·rw[if_pos (by simpa using h2),if_pos (by simp at h2|-;omega)];congr 1;have e1:(cs.set off y).take (off+1)=cs.take off++[y]:=by
      rw[lTs (by simp;omega),List.take_set_of_le (nLr _),List.getElem_set_self]
     have e2:(cs.set off y).drop (off+1+(z::zs).length)=cs.drop (off+(y::z::zs).length):=by
      rw[List.drop_set_of_lt (by simp;omega)];congr 1;simp;omega
     rw[e1,e2];simp
    ·rw[if_neg (by simpa using h2),if_neg (by simp at h2|-;omega)]
  ·rw[if_neg h,if_neg (by simp;omega)];rfl
theorem qe6{cs:List AV}(hv:v.cells≠[]):(AV.agg cs).put off v=XS (Jo cs off v.cells):=by
 rw[qX2 hv];show (if off+v.cells.length<=cs.length then some (AV.agg (cs.take off++(v.cells++cs.drop (off+v.cells.length))))else none)=_;split<;>rfl
@[go_sem] theorem qhY{k:IntKind}{n:Int}:(AV.int k n).cells=[.int k n]:=nr rfl
@[go_sem] theorem qhX{b:Bool}:(AV.bool b).cells=[.bool b]:=nr rfl
@[go_sem] theorem qh2{b:List UInt8}:(AV.str b).cells=[.str b]:=nr rfl
@[go_sem] theorem qhZ{w:Nat}{xs:List AV}{c:Bool}:(AV.lst w xs c).cells=[.lst w xs c]:=nr rfl
@[go_sem] theorem qh1{w i j n:Nat}{c:Bool}:(AV.slice w i j n c).cells=[.slice w i j n c]:=nr rfl
@[go_sem] theorem qh0:AV.nils.cells=[.nils]:=nr rfl
def Bd(s:qf)(w:Nat)(v:Option AV)(off:Nat)(cs:List AV)(ps:List (Nat×Nat×Ao)):Option AV:=match v with
 | some v=>if v.cells.length=w then(match Jo cs off v.cells with | some cs'=>jJ (toE s) (.agg cs') ps | none=>none)else none
 | none=>none
def B2(s:qf)(cs:Option (List AV))(ps:List (Nat×Nat×Ao)):Option AV:=match cs with
 | some cs=>jJ (toE s) (.agg cs) ps
 | none=>none
@[go_sem] theorem qhL:jJ (toE s) v []=some v:=nr rfl
@[go_sem] theorem qhK{w:Nat}{cs:List AV}{ps:List (Nat×Nat×Ao)}:jJ (toE s) (.agg cs) ((off,w+1,x)::ps)=Bd s (w+1) (ev (toE s) x) off cs ps:=by
 simp only[jJ,Bd];cases ev (toE s) x with
 | none=>rfl
 | some v=>
  simp only;by_cases h:v.cells.length=w+1
  ·rw[if_pos h,if_pos h,qe6 (by intro q;rw[q]at h;simp at h)];cases Jo cs off v.cells<;>rfl
  ·rw[if_neg h,if_neg h]
@[go_sem] theorem Bd_s{w:Nat}{cs:List AV}{ps:List (Nat×Nat×Ao)}:Bd s w (some v) off cs ps=if v.cells.length=w then B2 s (Jo cs off v.cells) ps else none:=by
 simp only[Bd,B2]
@[go_sem] theorem B2_s{cs:List AV}{ps:List (Nat×Nat×Ao)}:B2 s (some cs) ps=jJ (toE s) (.agg cs) ps:=nr rfl
def Sto(E:Ev)(k:Nat)(a b:Option AV)(l:List qA)(ks:List Fr1)(st:VSt)(Q:qS->VSt->Prop):Prop:=match a,b with
 | some (.ptr id i j),some v=>v.cells.length=k/\(match st.h[id]? with
  | some (.row w el rb)=>(match el[i]? with
   | some e=>(match e.put j v with
    | some e'=>R E (.ops l::ks) {st with h:=st.h.set id (.row w (el.set i e') rb)} Q
    | none=>False)
   | none=>False)
  | _=>False)
 | _,_=>False
@[go_sem] theorem qj0{k:Nat}:Go1 E (.mk i d g (.store k x y) ck) l ks ⟨s,m,h⟩ Q=Sto E k (ev (toE s) x) (ev (toE s) y) l ks ⟨s,m,h⟩ Q:=by
 unfold Go1 jt ju Sto;simp only[qA.o,qA.d,AOp.isCall,qA.apC,AOp.isApp,Bool.false_and,bFt,if_false]
 all_goals rfl
def Kf(E:Ev)(k:Nat)(a b c:Option AV)(l:List qA)(ks:List Fr1)(st:VSt)(Q:qS->VSt->Prop):Prop:=(match a,c with
  | some (.ptr id _ _),some (.ptr id2 _ _)=>id≠id2/\We st.h[id2]?=true
  | _,_=>False)/\Sto E k a b l ks st Q
@[go_sem] theorem qj1{k:Nat}:Go1 E (.mk i d g (.store2 k x y z) ck) l ks ⟨s,m,h⟩ Q=Kf E k (ev (toE s) x) (ev (toE s) y) (ev (toE s) z) l ks ⟨s,m,h⟩ Q:=by
 unfold Go1 jt ju Kf Sto;simp only[qA.o,qA.d,AOp.isCall,qA.apC,AOp.isApp,Bool.false_and,bFt,if_false]
 all_goals rfl
theorem Yd{k id id2 i j i2 j2 w:Nat}{el:List AV}{e e':AV}(hne:id≠id2)(hr2:We h[id2]?=true)(hl:v.cells.length=k)(ho:h[id]?=some (.row w el true))(he:el[i]?=some e)(hp:e.put j v=some e')
  (hr:R E (.ops l::ks) ⟨s,m,h.set id (.row w (el.set i e') true)⟩ Q):Kf E k (some (.ptr id i j)) (some v) (some (.ptr id2 i2 j2)) l ks ⟨s,m,h⟩ Q:=by
 refine⟨⟨hne,hr2⟩,hl, ?_⟩;simp only[ho,he,hp];exact hr
theorem jQ{k id i j w:Nat}{rb:Bool}{el:List AV}{e e':AV}(hl:v.cells.length=k)(ho:h[id]?=some (.row w el rb))(he:el[i]?=some e)(hp:e.put j v=some e')
  (hr:R E (.ops l::ks) ⟨s,m,h.set id (.row w (el.set i e') rb)⟩ Q):Sto E k (some (.ptr id i j)) (some v) l ks ⟨s,m,h⟩ Q:=by
 refine⟨hl, ?_⟩;simp only[ho,he,hp];exact hr
def wk(E:Ev)(w:Nat)(d:Option Nat)(a b:Option AV)(l:List qA)(ks:List Fr1)(st:VSt)(Q:qS->VSt->Prop):Prop:=match a,b with
 | some a,some b=>JH w b/\(match zO (toH st.h) b with
  | some ys=>Yu w a ys d st fun st'=>R E (.ops l::ks) st' Q
  | none=>False)
 | _,_=>False
@[go_sem] theorem qiU{w:Nat}:Go1 E (.mk i d g (.app w x y) []) l ks ⟨s,m,h⟩ Q=wk E w d (ev (toE s) x) (ev (toE s) y) l ks ⟨s,m,h⟩ Q:=by
 unfold Go1 jt ju wk;simp only[qA.o,qA.d,qA.ck,qA.apC,AOp.isCall,AOp.isApp,List.isEmpty_nil,nT,Bool.and_false,bFt,if_false]
 all_goals rfl
def ZX(E:Ev)(w:Nat)(d:Option Nat)(a b:Option AV)(l:List qA)(ks:List Fr1)(st:VSt)(Q:qS->VSt->Prop):Prop:=match a,b with
 | some a,some b=>JH w b/\(match zO (toH st.h) b with
  | some ys=>WG w a ys d st fun st'=>R E (.ops l::ks) st' Q
  | none=>False)
 | _,_=>False
@[go_sem] theorem qiV{w:Nat}:Go1 E (.mk i d g (.appt w x y) ck) l ks ⟨s,m,h⟩ Q=ZX E w d (ev (toE s) x) (ev (toE s) y) l ks ⟨s,m,h⟩ Q:=by
 unfold Go1 jt ju ZX;simp only[qA.o,qA.d,AOp.isCall,qA.apC,AOp.isApp,Bool.false_and,bFt,if_false]
 all_goals rfl
def Els(h:List qC)(w:Nat)(b:AV)(ys:List AV):Prop:=JH w b/\zO (toH h) b=some ys
theorem Els.lst{w:Nat}{xs:List AV}{c:Bool}:Els h w (.lst w xs c) xs:=⟨rfl,rfl⟩
theorem Els.row{w id n:Nat}{el:List AV}{c rw':Bool}(ho:h[id]?=some (.row w el rw'))(hn:el.length=n):Els h w (.slice w id 0 n c) el:=by
 refine⟨rfl, ?_⟩;rw[Xp (h:=toH h) ho (by omega),List.drop_zero,<-hn,lTl]
theorem WP{w k:Nat}{b:AV}{ys:List AV}(hy:Els h w b ys)(hl:ys.length<=4294967296)(hr:R E (.ops l::ks) ⟨(k,.slice w h.length 0 ys.length false)::s,m,h++[.row w ys true]⟩ Q):wk E w (some k) (some .nils) (some b) l ks ⟨s,m,h⟩ Q:=by
 refine⟨hy.1, ?_⟩;simp only[hy.2];exact⟨hl,hr⟩
theorem qZD{w k:Nat}{b:AV}{ys:List AV}(hy:Els h w b ys)(h0:ys.length≠0)(hl:ys.length<=4294967296)(hr:R E (.ops l::ks) ⟨(k,.slice w h.length 0 ys.length false)::s,m,h++[.row w ys false]⟩ Q):ZX E w (some k) (some .nils) (some b) l ks ⟨s,m,h⟩ Q:=by
 refine⟨hy.1, ?_⟩;simp only[hy.2];unfold WG;rw[if_neg h0];exact⟨hl,hr⟩
theorem qZF{w k id len:Nat}{b:AV}{ys el:List AV}(hy:Els h w b ys)(h0:ys.length≠0)(ho:h[id]?=some (.row w el false))(he:el.length=len)(hl:len+ys.length<=4294967296)
  (hr:R E (.ops l::ks) ⟨(k,.slice w h.length 0 (len+ys.length) false)::s,m,h.set id .dead++[.row w (el++ys) false]⟩ Q):ZX E w (some k) (some (.slice w id 0 len false)) (some b) l ks ⟨s,m,h⟩ Q:=by
 refine⟨hy.1, ?_⟩;simp only[hy.2];refine⟨rfl, ?_⟩;rw[ho];refine⟨rfl,he, ?_⟩;rw[if_neg h0];exact⟨hl,hr⟩
theorem qZE{w k:Nat}{a b:AV}{el:List AV}(hy:Els h w b [])(ha:a=.nils\/∃id len,a=.slice w id 0 len false/\h[id]?=some (.row w el false)/\el.length=len)(hr:R E (.ops l::ks) ⟨(k,a)::s,m,h⟩ Q):ZX E w (some k) (some a) (some b) l ks ⟨s,m,h⟩ Q:=by
 refine⟨hy.1, ?_⟩;simp only[hy.2];rcases ha with rfl | ⟨id,len,rfl,ho,he⟩
 ·unfold WG;rw[if_pos lNi];exact hr
 ·refine⟨rfl, ?_⟩;rw[ho];refine⟨rfl,he, ?_⟩;rw[if_pos lNi];exact hr
theorem XU{w k:Nat}{b:AV}{ys:List AV}(hy:Els h w b ys)(hl:ys.length<=4294967296)(hr:R E (.ops l::ks) ⟨(k,.slice w h.length 0 ys.length false)::s,m,h++[.row w ys true]⟩ Q):wk E w (some k) (some (.lst w [] true)) (some b) l ks ⟨s,m,h⟩ Q:=by
 refine⟨hy.1, ?_⟩;simp only[hy.2];exact⟨rfl,.inl ⟨rfl,rfl,hl,hr⟩⟩
theorem Kj{w k id len:Nat}{b:AV}{ys el:List AV}(hy:Els h w b ys)(ho:h[id]?=some (.row w el true))(he:el.length=len)(hl:len+ys.length<=4294967296)
  (hr:R E (.ops l::ks) ⟨(k,.slice w h.length 0 (len+ys.length) false)::s,m,h.set id .dead++[.row w (el++ys) true]⟩ Q):wk E w (some k) (some (.slice w id 0 len false)) (some b) l ks ⟨s,m,h⟩ Q:=by
 refine⟨hy.1, ?_⟩;simp only[hy.2];refine⟨rfl,hl, ?_⟩;rw[ho];exact⟨rfl,by omega,.inl ⟨rfl,rfl,he,hr⟩⟩
theorem Qt{w k id id2 len:Nat}{c2:Bool}{x:AV}{el:List AV}(h2:h[id2]?=some (.row w [x] true))(ho:h[id]?=some (.row w el true))(he:el.length=len)(hl:len<4294967296)
  (hr:R E (.ops l::ks) ⟨(k,.slice w h.length 0 (len+1) false)::s,m,h.set id .dead++[.row w (el++[x]) true]⟩ Q):wk E w (some k) (some (.slice w id 0 len false)) (some (.slice w id2 0 1 c2)) l ks ⟨s,m,h⟩ Q:=
 Kj (Els.row h2 rfl) ho he (by simp;omega) hr
theorem qF{ck:List qA}{k:Nat}{vs:List AV}{e:Nat}(hp:Pure E.Γ k vs v)(hr:R E (.ops l::ks) ⟨(e,v)::s,m,h⟩ Q):jv E (some (k,vs)) ck (some e) l ks ⟨s,m,h⟩ Q:=by
 cases ck
 ·exact SCallX.of (SCall.pure hp hr)
 ·exact Or.inl (SCallK.ofP (SCallP.pure hp hr))
theorem QF{ck:List qA}{k:Nat}{vs vs':List AV}{e:Nat}(hc:Cvs h vs vs')(hp:Pure E.Γ k vs' v)(hl:v.leaf=true)(hr:R E (.ops l::ks) ⟨(e,v)::s,m,h⟩ Q):jv E (some (k,vs)) ck (some e) l ks ⟨s,m,h⟩ Q:=by
 cases ck
 ·exact SCallX.of (SCall.lend hc hp hl hr)
 ·exact Or.inl (SCallK.ofP (SCallP.lend hc hp hl hr))
def Fin(vs:Option (List AV))(h:List qC)(v:AV):Prop:=match vs with
 | some vs=>Cv h (zQ vs) v
 | none=>False
@[go_sem] theorem qiJ{res:List zb}:Wc res v .ret ⟨s,m,h⟩=Fin (zC (zy ⟨s,m,h⟩) res) h v:=by
 simp[Wc,Fin];all_goals rfl
@[go_sem] theorem qnA:zC (zy ⟨s,m,h⟩) []=some []:=nr rfl
@[go_sem] theorem qm9{r:zb}{res:List zb}:zC (zy ⟨s,m,h⟩) (r::res)=YK (jp (zy ⟨s,m,h⟩) r) (zC (zy ⟨s,m,h⟩) res):=by
 simp only[zC];unfold YK;cases jp (zy ⟨s,m,h⟩) r<;>cases zC (zy ⟨s,m,h⟩) res<;>rfl
@[go_sem] theorem qm8:jp (zy ⟨s,m,h⟩) (.t n)=get s n:=nr rfl
@[go_sem] theorem qm7:jp (zy ⟨s,m,h⟩) (.l t sh)=Ws 0 sh (get m t):=by
 show (get m t).bind _=_;cases get m t<;>rfl
theorem qE{v':AV}(ht:v.tree=true)(he:v'=v):Fin (some [v']) h v:=by subst he;exact .refl ht
theorem fB{p q:Bool}(h1:p=true↔q=true):Fin (some [.bool p]) h (.bool q):=qE rfl (congrArg AV.bool (bEi.2 h1))
theorem zU{v' w':AV}{vs:List AV}(ht:v.tree=true)(he:.tup (v'::w'::vs)=v):Fin (some (v'::w'::vs)) h v:=by subst he;exact .refl ht
theorem kI{v':AV}(hc:Cv h v' v):Fin (some [v']) h v:=hc
end
attribute [irreducible] Go1 Grd Put Cnd jv wm XM Lst Qq XL Bsl Sto wk Fin
end Go.Ab
namespace Go.Ab
open Go
section
variable {Γ:Nat->Option AFn} {g:Nat} {vs:List AV} {h:List qC}
def QM(res:List zb)(K:AV->List qC->Prop)(e:qS)(st:VSt):Prop:=(e=.nrm\/e=.ret)/\match zC (zy st) res with
 | some vs=>K (zQ vs) st.h
 | none=>False
def wG(vs:Option (List AV))(h:List qC)(K:AV->List qC->Prop):Prop:=match vs with
 | some vs=>K (zQ vs) h
 | none=>False
@[go_sem] theorem qiE{res:List zb}{s m:qf}{K:AV->List qC->Prop}:QM res K .ret ⟨s,m,h⟩=wG (zC (zy ⟨s,m,h⟩) res) h K:=by
 simp[QM,wG];all_goals rfl
@[go_sem] theorem qiD{res:List zb}{s m:qf}{K:AV->List qC->Prop}:QM res K .nrm ⟨s,m,h⟩=wG (zC (zy ⟨s,m,h⟩) res) h K:=by
 simp[QM,wG];all_goals rfl
@[go_sem] theorem qhG{K:AV->List qC->Prop}:wG (some vs) h K=K (zQ vs) h:=rfl
@[go_sem] theorem qmI{v:AV}:zQ [v]=v:=rfl
@[go_sem] theorem qmJ{v w:AV}{r:List AV}:zQ (v::w::r)=.tup (v::w::r):=rfl
theorem SCall.run{F:qI}{K:AV->List qC->Prop}(fz bp:List Nat)(hg:Γ g=some (.fn F))(hok:F.body.ok=true)(hn:vs.length=F.np)
  (hR:R ⟨Γ,h.length,fz,bp⟩ [.code F.body] ⟨qH 0 vs,[],h⟩ (QM F.res K)):SCall Γ g vs h K:=fun ρ hr ar hH hv=>by
 have hS:qt ρ ⟨qH 0 vs,[],h⟩ {s:=params 0 ar,l:=Env.empty,h:=hr}:=⟨Z3 hv,(fun n v h=>by cases h),hH⟩;obtain⟨k,e,sr',ρ',st',g1,⟨he,hq⟩,g3,g4,g5⟩:=Sem.of (by simpa only [lAc,List.all_nil,Bool.and_true,Fr1.ok]using hok) hR ρ _ hS (nLr _);have hb:Ex Γ k (.code F.body {s:=params 0 ar,l:=Env.empty,h:=hr}) (.st e sr'):=by
  cases g1 with
  | code h h'=>cases h';exact h
  | codeX h he' hx h'=>cases e<;>simp[exK]at hx
  | codeE h he' hx=>exact h
 split at hq
 ·rename_i us hus;obtain⟨rs,q1,q2⟩:=Qi g3 hus;have hx:=Ex.fn hg (by rw[hv.length];exact hn) hb he q1;exact⟨k+1,_,_,ρ',_,st'.h,hx,hq,g3.h,ZF q2,g4,g5⟩
 ·exact hq.elim
def Q0(res:List zb)(K KP:AV->List qC->Prop):qS->VSt->Prop
 |.nrm,st |.ret,st=>(match zC (zy st) res with
  | some vs=>K (zQ vs) st.h
  | none=>False)
 |.pan v,st=>v.leaf=true/\KP v st.h
 |.exit _,_=>False
@[go_sem] theorem qiI{res:List zb}{s m:qf}{K KP:AV->List qC->Prop}:Q0 res K KP .ret ⟨s,m,h⟩=wG (zC (zy ⟨s,m,h⟩) res) h K:=by
 simp[Q0,wG];all_goals rfl
@[go_sem] theorem qiG{res:List zb}{s m:qf}{K KP:AV->List qC->Prop}:Q0 res K KP .nrm ⟨s,m,h⟩=wG (zC (zy ⟨s,m,h⟩) res) h K:=by
 simp[Q0,wG];all_goals rfl
@[go_sem] theorem qiH{res:List zb}{st:VSt}{v:AV}{K KP:AV->List qC->Prop}:Q0 res K KP (.pan v) st=(v.leaf=true/\KP v st.h):=rfl
theorem SCallX.run{F:qI}{K KP:AV->List qC->Prop}(fz bp:List Nat)(hg:Γ g=some (.fn F))(hok:F.body.ok=true)(hn:vs.length=F.np)
  (hR:R ⟨Γ,h.length,fz,bp⟩ [.code F.body] ⟨qH 0 vs,[],h⟩ (Q0 F.res K KP)):SCallX Γ g vs h K KP:=fun ρ hr ar hH hv=>by
 have hS:qt ρ ⟨qH 0 vs,[],h⟩ {s:=params 0 ar,l:=Env.empty,h:=hr}:=⟨Z3 hv,(fun n v h=>by cases h),hH⟩;obtain⟨k,e,sr',ρ',st',g1,hq,g3,g4,g5⟩:=Sem.of (by simpa only [lAc,List.all_nil,Bool.and_true,Fr1.ok]using hok) hR ρ _ hS (nLr _);have hb:Ex Γ k (.code F.body {s:=params 0 ar,l:=Env.empty,h:=hr}) (.st e sr'):=by
  cases g1 with
  | code h h'=>cases h';exact h
  | codeX h he' hx h'=>cases e<;>simp[exK]at hx
  | codeE h he' hx=>exact h
 have key:(e=.nrm\/e=.ret)->(match zC (zy st') F.res with
  | some vs=>K (zQ vs) st'.h
  | none=>False)->∃k hr2 ρ2 h2,qw ρ2 h2 hr2/\Fm h.length ρ hr ρ2 hr2/\h.length<=h2.length/\((∃v r,Ex Γ k (.call g ar hr) (.res (.ok r) hr2)/\K v h2/\RelV ρ2 v r)\/∃v,Ex Γ k (.call g ar hr) (.res (.pan v) hr2)/\v.leaf=true/\KP v h2):=by
  intro he hq;split at hq
  ·rename_i us hus;obtain⟨rs,q1,q2⟩:=Qi g3 hus;have hx:=Ex.fn hg (by rw[hv.length];exact hn) hb he q1;exact⟨k+1,_,ρ',st'.h,g3.h,g4,g5,.inl ⟨_,_,hx,hq,ZF q2⟩⟩
  ·exact hq.elim
 cases e with
 | nrm=>exact key (.inl rfl) hq
 | ret=>exact key (.inr rfl) hq
 | exit n=>exact hq.elim
 | pan v=>exact⟨k+1,_,ρ',st'.h,g3.h,g4,g5,.inr ⟨v,.fnP hg (by rw[hv.length];exact hn) hb,hq⟩⟩
end
section
variable {E:Ev} {l:List qA} {ks:List Fr1} {s m:qf} {h:List qC} {Q:qS->VSt->Prop} {k e:Nat} {vs:List AV}
theorem ZJ{o:Option AV}{v:AV}(ho:o=some v)(hr:R E (.ops l::ks) ⟨(k,v)::s,m,h⟩ Q):Put E o (some k) l ks ⟨s,m,h⟩ Q:=by
 subst ho;rw[qe7];exact hr
theorem qO(hp:SCall E.Γ k vs h fun v h'=>R E (.ops l::ks) ⟨(e,v)::s,m,h'⟩ Q):jv E (some (k,vs)) [] (some e) l ks ⟨s,m,h⟩ Q:=by
 unfold jv;exact SCallX.of hp
theorem qY(hp:SCallX E.Γ k vs h (fun v h'=>R E (.ops l::ks) ⟨(e,v)::s,m,h'⟩ Q) fun v h'=>Q (.pan v) ⟨s,m,h'⟩):jv E (some (k,vs)) [] (some e) l ks ⟨s,m,h⟩ Q:=by
 unfold jv;exact hp
theorem WT{c:qA}{r:List qA}(hp:SCallX E.Γ k vs h (fun v h'=>ckVs ⟨(e,v)::s,m,h'⟩ (c::r)/\R E (.ops l::ks) ⟨(e,v)::s,m,h'⟩ Q) fun v h'=>Q (.pan v) ⟨s,m,h'⟩):jv E (some (k,vs)) (c::r) (some e) l ks ⟨s,m,h⟩ Q:=by
 unfold jv;exact Or.inr hp
theorem SCallX.mono{Γ:Nat->Option AFn}{g:Nat}{K K' KP KP':AV->List qC->Prop}(hs:SCallX Γ g vs h K KP)(hk:∀v h',K v h'->K' v h')(hp:∀v h',KP v h'->KP' v h'):SCallX Γ g vs h K' KP':=fun ρ hr ar hH hv=>by
 obtain⟨k,hr',ρ',h',g1,g2,g3,g⟩:=hs ρ hr ar hH hv;refine⟨k,hr',ρ',h',g1,g2,g3, ?_⟩;rcases g with⟨v,r,q1,q2,q3⟩ | ⟨v,q1,q2,q3⟩
 ·exact .inl ⟨v,r,q1,hk _ _ q2,q3⟩
 ·exact .inr ⟨v,q1,q2,hp _ _ q3⟩
theorem SCall.mono{Γ:Nat->Option AFn}{g:Nat}{K K':AV->List qC->Prop}(hs:SCall Γ g vs h K)(hk:∀v h',K v h'->K' v h'):SCall Γ g vs h K':=fun ρ hr ar hH hv=>by
 obtain⟨k,r,hr',ρ',v,h',hx,q,g⟩:=hs ρ hr ar hH hv;exact⟨k,r,hr',ρ',v,h',hx,hk _ _ q,g⟩
end
section
variable {E:Ev} {ρ:Ren} {st:VSt} {sr:St} {ks:List Fr1} {Q:qS->VSt->Prop} {s m s' m':qf} {h h':List qC} {b:Nat}
def J8(s:qf):qf->Prop
 |[]=>True
 | (n,v)::r=>get s n=some v/\J8 s r
theorem qBD:∀{s':qf},J8 s s'->∀n v,get s' n=some v->get s n=some v
 |[],_,n,v,hv=>by cases hv
 | (k,x)::r,hs,n,v,hv=>by
  rw[Xz]at hv;split at hv
  ·rename_i e;subst e;cases hv;exact hs.1
  ·exact qBD hs.2 n v hv
theorem Can.sub(h1:J8 s s')(h2:J8 m m'):Can b ⟨s,m,h⟩ ⟨s',m',h⟩:=fun ρ sr hS hb=>
 ⟨sr,ρ,fun _ _ _ _ h=>h,⟨fun n v hv=>hS.s n v (qBD h1 n v hv),fun n v hv=>hS.l n v (qBD h2 n v hv),hS.h⟩,Fm.refl _ _ _,hb⟩
theorem cS(h1:J8 s s':=by simp[go_sem])(h2:J8 m m':=by simp[go_sem]):Can b ⟨s,m,h⟩ ⟨s',m',h⟩:=Can.sub h1 h2
inductive VR2(μ:List (Option Nat)):AV->AV->Prop
 | tree {v} (ht:v.tree=true):VR2 μ v v
 | ptr {id id' i j} (hm:μ[id']?=some (some id)):VR2 μ (.ptr id i j) (.ptr id' i j)
 | slice {w id id' off len c} (hm:μ[id']?=some (some id)):VR2 μ (.slice w id off len c) (.slice w id' off len c)
 | map {id id'} (hm:μ[id']?=some (some id)):VR2 μ (.map id) (.map id')
 | ph {w id' c} (hm:μ[id']?=some none):VR2 μ .nils (.slice w id' 0 0 c)
 | ph2 {w id' c} (hm:μ[id']?=some none):VR2 μ (.lst w [] true) (.slice w id' 0 0 c)
 | nilL {w c}:VR2 μ .nils (.lst w [] c)
 | clip {w xs} (ht:AV.trees xs=true):VR2 μ (.lst w xs true) (.lst w xs false)
 | agg {cs ds} (hl:cs.length=ds.length) (hc:∀p∈cs.zip ds,VR2 μ p.1 p.2):VR2 μ (.agg cs) (.agg ds)
 | fn {g cs ds} (hl:cs.length=ds.length) (hc:∀p∈cs.zip ds,VR2 μ p.1 p.2):VR2 μ (.fn g cs) (.fn g ds)
 | tup {cs ds} (hl:cs.length=ds.length) (hc:∀p∈cs.zip ds,VR2 μ p.1 p.2):VR2 μ (.tup cs) (.tup ds)
def VR2s(μ:List (Option Nat))(as bs:List AV):Prop:=as.length=bs.length/\∀p∈as.zip bs,VR2 μ p.1 p.2
theorem VR2s.nil{μ:List (Option Nat)}:VR2s μ [] []:=⟨rfl,fun p hp=>by simp at hp⟩
theorem VR2s.cons{μ:List (Option Nat)}{a b:AV}{as bs:List AV}(x:VR2 μ a b)(y:VR2s μ as bs):VR2s μ (a::as) (b::bs):=⟨by simp[y.1],fun p hp=>by
 simp only[List.zip_cons_cons,List.mem_cons]at hp;rcases hp with rfl | hp
 ·exact x
 ·exact y.2 p hp⟩
theorem qYM{as:List AV}(h:AV.trees as=true){a:AV}(ha:a∈as):a.tree=true:=by
 induction as with
 | nil=>cases ha
 | cons x as ih=>
  simp only[AV.trees,bAt]at h;rcases List.mem_cons.1 ha with rfl | ha
  ·exact h.1
  ·exact ih h.2 ha
theorem VR2s.trees{μ:List (Option Nat)}{as:List AV}(h:AV.trees as=true):VR2s μ as as:=⟨rfl,fun p hp=>by
 have e:p.1=p.2:=by
  obtain⟨i,hi,rfl⟩:=List.getElem_of_mem hp;simp
 have:p.1∈as:=(List.of_mem_zip hp).1;rw[<-e];exact .tree (qYM h this)⟩
def renum(μ:List (Option Nat))(ρ:Ren):Ren:=fun i=>match μ[i]? with
 | some (some j)=>ρ j
 | some none=>some none
 | none=>none
theorem VR2.rel{μ:List (Option Nat)}{v v':AV}(hv:VR2 μ v v'):∀{r:AV},RelV ρ v r->RelV (renum μ ρ) v' r:=by
 have list:∀{cs ds rs:List AV},cs.length=ds.length->(∀p∈cs.zip ds,∀{r:AV},RelV ρ p.1 r->RelV (renum μ ρ) p.2 r)->RelVs ρ cs rs->RelVs (renum μ ρ) ds rs:=by
  intro cs
  induction cs with
  | nil=>
   intro ds rs hl _ hr;have:ds=[]:=lEz (by simpa using hl.symm);subst this;simpa only [RelVs]using hr
  | cons c cs ih=>
   intro ds rs hl hi hr;cases ds with
   | nil=>simp at hl
   | cons d ds=>
    simp only[RelVs]at hr|-;obtain⟨r,rs,rfl,h1,h2⟩:=hr;exact⟨r,rs,rfl,hi (c,d) (by simp) h1,ih (by simpa using hl) (fun p hp=>hi p (by simp only[List.zip_cons_cons];exact List.mem_cons_of_mem _ hp)) h2⟩
 induction hv with
 | tree ht=>exact fun hr=>Qn _ _ ht hr
 | ptr hm=>intro r hr;simp only[RelV]at hr|-;obtain⟨a,h1,rfl⟩:=hr;exact⟨a,by simp only[renum,hm];exact h1,rfl⟩
 | slice hm=>
  intro r hr;simp only[RelV]at hr|-;rcases hr with⟨a,h1,rfl⟩ | ⟨h1,h2⟩
  ·exact .inl ⟨a,by simp only[renum,hm];exact h1,rfl⟩
  ·exact .inr ⟨by simp only[renum,hm];exact h1,h2⟩
 | map hm=>intro r hr;simp only[RelV]at hr|-;obtain⟨a,h1,rfl⟩:=hr;exact⟨a,by simp only[renum,hm];exact h1,rfl⟩
 | ph hm=>intro r hr;simp only[RelV]at hr|-;subst hr;simp[renum,hm]
 | ph2 hm=>
  intro r hr;simp only[RelV]at hr|-;rcases hr with⟨ys,c,rfl,hc,h2⟩ | ⟨_,rfl⟩
  ·simp only[RelVs]at h2;subst h2;rw[hc trivial];simp[renum,hm]
  ·simp[renum,hm]
 | nilL=>intro r hr;simp only[RelV]at hr|-;subst hr;simp
 | clip ht=>
  intro r hr;simp only[RelV]at hr|-;rcases hr with⟨ys,c,h1,_,h3⟩ | hr
  ·exact .inl ⟨ys,c,h1,by simp,Jg _ _ ht h3⟩
  ·exact .inr hr
 | agg hl hc ih=>intro r hr;simp only[RelV]at hr|-;obtain⟨rs,rfl,hr⟩:=hr;exact⟨rs,rfl,list hl (fun p hp=>ih p hp) hr⟩
 | fn hl hc ih=>intro r hr;simp only[RelV]at hr|-;obtain⟨rs,rfl,hr⟩:=hr;exact⟨rs,rfl,list hl (fun p hp=>ih p hp) hr⟩
 | tup hl hc ih=>intro r hr;simp only[RelV]at hr|-;obtain⟨rs,rfl,hr⟩:=hr;exact⟨rs,rfl,list hl (fun p hp=>ih p hp) hr⟩
theorem VR2s.rel{μ:List (Option Nat)}{as bs rs:List AV}(h:VR2s μ as bs)(hr:RelVs ρ as rs):RelVs (renum μ ρ) bs rs:=by
 have:=(VR2.tup h.1 h.2).rel (ρ:=ρ) (r:=.tup rs) (by simp only[RelV];exact⟨rs,rfl,hr⟩);simp only[RelV]at this;obtain⟨rs',h1,h2⟩:=this;cases h1;exact h2
def Yb(μ:List (Option Nat))(s:qf):qf->Prop
 |[]=>True
 | (n,v')::r=>(∃v,get s n=some v/\VR2 μ v v')/\Yb μ s r
theorem qBC{μ:List (Option Nat)}{e:Env}(hs:RelE ρ s e):∀{s':qf},Yb μ s s'->RelE (renum μ ρ) s' e
 |[],_,n,v,hv=>by cases hv
 | (k,x)::r,hc,n,v,hv=>by
  rw[Xz]at hv;split at hv
  ·rename_i q;subst q;cases hv;obtain⟨v0,h1,h2⟩:=hc.1;obtain⟨y,h3,h4⟩:=hs _ _ h1;exact⟨y,h3,h2.rel h4⟩
  ·exact qBC hs hc.2 n v hv
inductive OR2(μ:List (Option Nat))(h:List qC):Option Nat->qC->Prop
 | dead {j}:OR2 μ h j .dead
 | ph {w}:OR2 μ h none (.row w [] true)
 | row {j w el el' rw'} (ho:h[j]?=some (.row w el rw')) (he:VR2s μ el el'):OR2 μ h (some j) (.row w el' rw')
 | map {j es} (ho:h[j]?=some (.map es)) (hk:AV.trees (es.map (·.1))=true) (hv:AV.trees (es.map (·.2))=true):OR2 μ h (some j) (.map es)
def jT(μ:List (Option Nat))(h:List qC):List (Option Nat)->List qC->Prop
 |[],[]=>True
 | j::r,o::h'=>OR2 μ h j o/\jT μ h r h'
 | _,_=>False
theorem Zz{μ:List (Option Nat)}:∀{r:List (Option Nat)}{h':List qC},jT μ h r h'->r.length=h'.length
 |[],[],_=>rfl
 | _::_,_::_,k=>by simp[Zz k.2]
 |[],_::_,k=>k.elim
 | _::_,[],k=>k.elim
theorem ZD{μ:List (Option Nat)}:∀{r:List (Option Nat)}{h':List qC},jT μ h r h'->∀(i:Nat)(o:qC),h'[i]?=some o->∃j,r[i]?=some j/\OR2 μ h j o
 |[],[],_,i,o,hi=>by simp at hi
 | j::r,o'::h',k,i,o,hi=>by
  cases i with
  | zero=>simp only[List.getElem?_cons_zero,oSi]at hi|-;subst hi;exact⟨j,rfl,k.1⟩
  | succ i=>simp only[List.getElem?_cons_succ]at hi|-;exact ZD k.2 i o hi
 |[],_::_,k,_,_,_=>k.elim
 | _::_,[],k,_,_,_=>k.elim
def zk:List (Option Nat)->Bool
 |[]=>true
 | none::r=>zk r
 | some j::r=>(r.all fun x=>match x with | some k=> !Nat.beq j k | none=>true)&&zk r
theorem K9:∀{μ:List (Option Nat)},zk μ=true->∀(i k j:Nat),μ[i]?=some (some j)->μ[k]?=some (some j)->i=k
 |[],_,i,k,j,hi,_=>by simp at hi
 | none::r,hd,i,k,j,hi,hk=>by
  cases i with
  | zero=>simp at hi
  | succ i=>
   cases k with
   | zero=>simp at hk
   | succ k=>simp only[List.getElem?_cons_succ]at hi hk;rw[K9 (by simpa only [zk]using hd) i k j hi hk]
 | some a::r,hd,i,k,j,hi,hk=>by
  simp only[zk,bAt,lAt]at hd;have ne:∀k,r[k]?=some (some a)->False:=fun k hk=>by
   have:=hd.1 _ (lMo hk);simp only[Nat.beq_refl,nT]at this;cases this
  cases i with
  | zero=>
   simp only[List.getElem?_cons_zero,oSi]at hi;subst hi;cases k with
   | zero=>rfl
   | succ k=>simp only[List.getElem?_cons_succ]at hk;exact(ne k hk).elim
  | succ i=>
   simp only[List.getElem?_cons_succ]at hi;cases k with
   | zero=>simp only[List.getElem?_cons_zero,oSi]at hk;subst hk;exact(ne i hi).elim
   | succ k=>simp only[List.getElem?_cons_succ]at hk;rw[K9 hd.2 i k j hi hk]
theorem qXM{μ:List (Option Nat)}{hr:AH}(hd:zk μ=true)(ho:jT μ h μ h')(hH:qw ρ h hr):qw (_root_.Go.Ab.renum μ ρ) h' hr/\Fm 0 ρ hr (_root_.Go.Ab.renum μ ρ) hr:=by
 refine⟨⟨fun i o hi=> ?_,fun i k a o o' q1 q2 hi hk d1 d2=> ?_,fun i hi=> ?_,fun i a q=> ?_⟩,⟨fun a o q _=>q,fun i a q=> ?_,fun _ q=>q,fun i hi=>by omega⟩⟩
 ·obtain⟨j,hj,hor⟩:=ZD ho i o hi;cases hor with
  | dead=>trivial
  | ph=>exact .inl ⟨by simp only[_root_.Go.Ab.renum,hj],rfl,rfl⟩
  | @row j w el el' rw' ho' he=>
   rcases hH.obj _ _ ho' with⟨q1,rfl,q3⟩ | ⟨i',el2,q1,q2,q3⟩
   ·have:el'=[]:=lEz (by rw[<-he.1];rfl);exact .inl ⟨by simp only[_root_.Go.Ab.renum,hj];exact q1,this,q3⟩
   ·exact .inr ⟨i',el2,by simp only[_root_.Go.Ab.renum,hj];exact q1,q2,he.rel q3⟩
  | @map j es ho' hk hv=>
   obtain⟨i',es',q1,q2,q3⟩:=hH.obj _ _ ho';exact⟨i',es',by simp only[_root_.Go.Ab.renum,hj];exact q1,q2,Jg _ _ hk q3.1,Jg _ _ hv q3.2⟩
 ·obtain⟨j1,hj1,hor1⟩:=ZD ho i o hi;obtain⟨j2,hj2,hor2⟩:=ZD ho k o' hk;simp only[_root_.Go.Ab.renum,hj1,hj2]at q1 q2;have live:∀{j:Option Nat}{o:qC},OR2 μ h j o->o≠.dead->∀j',j=some j'->∃o2,h[j']?=some o2/\o2≠.dead:=by
   intro j o hor hd j' hj';subst hj';cases hor with
   | dead=>exact absurd rfl hd
   | row ho' _=>exact⟨_,ho',by simp⟩
   | map ho' _ _=>exact⟨_,ho',by simp⟩
  cases j1 with
  | none=>cases q1
  | some j1=>
   cases j2 with
   | none=>cases q2
   | some j2=>
    obtain⟨o1,e1,n1⟩:=live hor1 d1 j1 rfl;obtain⟨o2,e2,n2⟩:=live hor2 d2 j2 rfl;have:=hH.inj j1 j2 a _ _ q1 q2 e1 e2 n1 n2;subst this;exact K9 hd i k j1 hj1 hj2
 ·have:=Zz ho;have hi:h'.length<=i:=hi;simp only[_root_.Go.Ab.renum,gEn (show μ.length<=i by omega)]
 ·simp only[_root_.Go.Ab.renum]at q;split at q
  ·exact hH.is _ a q
  ·cases q
  ·cases q
 ·simp only[_root_.Go.Ab.renum]at q;split at q
  ·exact .inl ⟨_,q⟩
  ·cases q
  ·cases q
theorem Can.renum(μ:List (Option Nat))(hd:zk μ=true)(ho:jT μ h μ h')(h1:Yb μ s s')(h2:Yb μ m m'):Can 0 ⟨s,m,h⟩ ⟨s',m',h'⟩:=fun ρ sr hS _=>by
 obtain⟨q1,q2⟩:=qXM hd ho hS.h;exact⟨sr,_,fun _ _ _ _ h=>h,⟨qBC hS.s h1,qBC hS.l h2,q1⟩,q2,nZl _⟩
@[go_sem] theorem qnI:J8 s []=True:=nr rfl
@[go_sem] theorem qnH{n:Nat}{v:AV}{r:qf}:J8 s ((n,v)::r)=(get s n=some v/\J8 s r):=nr rfl
@[go_sem] theorem qkS{α:Type}{I:α->Prop}{stt:α->VSt}{me:α->Nat}{a:α}{n:Nat}:Q8 E I stt me a ks Q (.exit n) st=ZY E (.exit n) (exK (.exit n) ks) st Q:=by
 simp only[Q8,ZY];all_goals rfl
@[go_sem] theorem qkT{α:Type}{I:α->Prop}{stt:α->VSt}{me:α->Nat}{a:α}:Q8 E I stt me a ks Q .ret st=Q .ret st:=by
 simp only[Q8,QK]
theorem qW{α:Type}{I:α->Prop}{stt:α->VSt}{me:α->Nat}{a:α}(a':α)(h1:I a')(h2:me a'<me a)(h3:Can E.b st (stt a')):Q8 E I stt me a ks Q .nrm st:=⟨a',h1,h2,h3⟩
end
set_option maxRecDepth 10000
def Zl(w:Nat)(sh:Option Nat):qI:=⟨2,19,[.t 4],
 .seq (.reg true [⟨0,some 4,none,.mov (.c (.int .i64 0)),[]⟩]) (.seq (.seq (.reg true [⟨0,some 6,none,.mov (.t 0),[]⟩,
⟨1,some 7,none,.len (.t 6),[]⟩,
⟨2,some 8,none,.mov (.c (.int .i64 0)),[]⟩]) (.blk 0 (.loop (.seq (.reg true [⟨0,some 9,none,.bin .lss (.t 8) (.t 7),[]⟩]) (.seq (.cond (.t 9) (.skip) (.exit 0)) (.seq (.blk 1 (.seq (.reg true [⟨0,some 10,none,.mov (.t 8),[]⟩,
⟨1,some 5,none,.mov (.t 10),[]⟩]) (.seq (.reg true [⟨0,some 11,none,.mov (.t 1),[]⟩,
⟨1,some 12,none,.mov (.t 0),[]⟩,
⟨2,some 13,none,.mov (.t 5),[]⟩,
⟨3,some 14,none,.iaddr w (.t 12) (.t 13),[]⟩,
⟨4,some 15,none,.load sh (.t 14),[]⟩,
⟨5,some 16,none,.callv (.t 11) [.t 15],[]⟩]) (.cond (.t 16) (.seq (.reg true [⟨0,some 17,none,.mov (.t 5),[]⟩,
⟨1,some 4,none,.mov (.t 17),[]⟩]) (.ret)) (.skip))))) (.reg true [⟨0,some 18,none,.bin .add (.t 8) (.c (.int .i64 1)),[]⟩,
⟨1,some 8,none,.mov (.t 18),[]⟩]))))))) (.seq (.reg true [⟨0,some 4,none,.mov (.c (.int .i64 (-1))),[]⟩]) (.ret)))⟩
def WW(g:Nat):qI:=⟨2,9,[.t 4],
 .seq (.reg true [⟨0,some 4,none,.mov (.c (.bool false)),[]⟩]) (.seq (.reg true [⟨0,some 5,none,.mov (.t 0),[]⟩,
⟨1,some 6,none,.mov (.t 1),[]⟩,
⟨2,some 7,none,.call g [.t 5,.t 6],[]⟩,
⟨3,some 8,none,.bin .geq (.t 7) (.c (.int .i64 0)),[]⟩,
⟨4,some 4,none,.mov (.t 8),[]⟩]) (.ret))⟩
theorem zF{n:Int}(h: -9223372036854775808<=n)(h':n<=9223372036854775807):IntKind.i64.wrap n=n:=IntWalk.i64_in n ⟨h,h'⟩
theorem qp{n:Nat}(h:n<4611686018427387904):IntKind.i64.wrap ((n:Int)+1)=((n+1:Nat):Int):=by
 rw[zF (by omega) (by omega)];rfl
structure Sh{α:Type}(enc:α->AV)(w:Nat)(sh:Option Nat):Prop where
 tree:∀x,(enc x).tree=true
 len:∀x,(enc x).cells.length=w
 part:∀x,(enc x).part 0 sh=some (enc x)
 pos:0<w
 agg:∀x,(∃cs,enc x=.agg cs)↔sh≠none
def qR(b:List UInt8):AV:=.str b
theorem shS:Sh qR 1 none:=⟨fun _=>rfl,fun _=>rfl,fun _=>rfl,by decide,fun _=>by simp[qR]⟩
theorem zD{α:Type}{enc:α->AV}(h:∀x,(enc x).tree=true)(xs:List α):AV.trees (xs.map enc)=true:=by
 induction xs with
 | nil=>rfl
 | cons x xs ih=>simp[AV.trees,h,ih]
section
variable {Γ:Nat->Option AFn} {α:Type} {enc:α->AV} {w:Nat} {sh:Option Nat} {g gc:Nat}
def WN(Γ:Nat->Option AFn)(f:AV)(as:List AV)(v:AV):Prop:=∃g cs,f=.fn g cs/\Pure Γ g (as++cs) v
def qz(p:α->Bool):List α->Nat->Int
 |[],_=> -1
 | x::xs,i=>if p x then i else qz p xs (i+1)
theorem Zm(p:α->Bool):∀(xs:List α)(i:Nat),decide (0<=qz p xs i)=xs.any p
 |[],i=>by simp[qz]
 | x::xs,i=>by
  simp only[qz,List.any_cons];by_cases h:p x=true
  ·simp[h]
  ·simp only[h,bFt,if_false,Bool.false_or];simpa[h]using Zm p xs (i+1)
theorem kT(hs:Sh enc w sh)(hg:Γ g=some (.fn (Zl w sh)))(f:AV)(p:α->Bool)(hft:f.tree=true)(xs:List α)(hf:∀x∈xs,WN Γ f [enc x] (.bool (p x)))(hl:xs.length<=1048576):
  Pure Γ g [.lst w (xs.map enc) false,f] (.int .i64 (qz p xs 0)):=by
 refine Pure.intro [] [] hg (by kernel_rfl) rfl (by simp[AV.trees,AV.tree,zD hs.tree,hft]) rfl ?_;simp only[Zl,qH,go_sem,Nat.reduceEqDiff,reduceIte];refine Sem.loop (fun i:Nat=>i<=xs.length/\qz p xs 0=qz p (xs.drop i) i)
  (fun i=>(⟨[(0,.lst w (xs.map enc) false),(1,f),(7,.int .i64 xs.length),(8,.int .i64 (i:Nat))],[],[]⟩:VSt)) (fun i=>xs.length-i) 0 (by kernel_rfl) ⟨nZl _,by simp⟩ ?_ ?_
 ·exact Can.sub (by simp[go_sem]) trivial
 ·rintro i ⟨hi,hI⟩;simp only[go_sem,Nat.reduceEqDiff,reduceIte];apply zj<;>intro hc<;>simp only[hc,go_sem,Nat.reduceEqDiff,reduceIte]
  ·have hlt:i<xs.length:=by have:=odT hc;omega
   simp only[gMp,gEg hlt,oMs,hs.part,go_sem,Nat.reduceEqDiff,reduceIte,nT];obtain⟨g,cs,rfl,h2⟩:=hf xs[i] (gMm hlt);simp only[go_sem];refine qF h2 ?_;simp only[go_sem,Nat.reduceEqDiff,reduceIte];have hd:xs.drop i=xs[i]::xs.drop (i+1):=by simp
   apply zj<;>intro hc<;>simp only[hc,go_sem,Nat.reduceEqDiff,reduceIte]
   ·refine qE rfl ?_;rw[hI,hd];simp[qz,hc]
   ·simp only[qp (show i<4611686018427387904 by omega)];refine qW (i+1) ⟨by omega, ?_⟩ (by omega) (Can.sub (by simp[go_sem]) trivial);rw[hI,hd];simp[qz,hc]
  ·have hge:i=xs.length:=by have:=odF hc;omega
   subst hge;refine qE rfl ?_;rw[hI];simp[qz]
theorem qa7(hs:Sh enc w sh)(hg:Γ g=some (.fn (WW gc)))(hgc:Γ gc=some (.fn (Zl w sh)))(f:AV)(p:α->Bool)(hft:f.tree=true)(xs:List α)(hf:∀x∈xs,WN Γ f [enc x] (.bool (p x)))(hl:xs.length<=1048576):
  Pure Γ g [.lst w (xs.map enc) false,f] (.bool (xs.any p)):=by
 refine Pure.intro [] [] hg rfl rfl (by simp[AV.trees,AV.tree,zD hs.tree,hft]) rfl ?_;simp only[WW,qH,go_sem,Nat.reduceEqDiff,reduceIte,nT];refine qF (kT hs hgc f p hft xs hf hl) ?_;simp only[go_sem,Nat.reduceEqDiff,reduceIte];exact qE rfl (by rw[Zm])
def qM{α:Type}(f:α->Nat):List α->Nat
 |[]=>0
 | x::xs=>f x+qM f xs
theorem wv{α:Type}{f:α->Nat}:∀{xs:List α}{x:α},x∈xs->f x<=qM f xs
 | y::ys,x,h=>by
  simp only[qM];rcases List.mem_cons.1 h with rfl | h
  ·omega
  ·have:=wv (f:=f) h;omega
theorem Cv.row{h:List qC}{w id n:Nat}{el:List AV}{c:Bool}(ho:h[id]?=some (.row w el true))(hn:el.length=n)(ht:AV.trees el=true)(hw:0<w):Cv h (.slice w id 0 n c) (.lst w el false):=by
 have e:(el.drop 0).take n=el:=by rw[List.drop_zero,<-hn,lTl]
 refine .slc ho (by omega) hw (by rw[e]) ?_;rw[e];intro p hp;have q:p.1=p.2:=by
  obtain⟨i,hi,rfl⟩:=List.getElem_of_mem hp;simp
 rw[<-q];exact .refl (qYM ht (List.of_mem_zip hp).1)
end
def Jk(g:Nat)(tt:List (Nat×AFn)):List (Nat×qI)->Option AFn
 |[]=>lookY0 g tt
 | (k,F)::r=>bif Nat.beq k g then some (.fn F)else Jk g tt r
where lookY0 (g:Nat):List (Nat×AFn)->Option AFn
 |[]=>none
 | (k,F)::r=>bif Nat.beq k g then some F else lookY0 g r
def Jf(P:List AV->AV->Prop):List AV->AH->Qo->AH->Prop:=fun as h r h'=>h'=h/\∃v,r=.ok v/\P as v
theorem SCallP.told{Γ:Nat->Option AFn}{g:Nat}{P:List AV->AV->Prop}{vs:List AV}{v:AV}{h:List qC}(hg:Γ g=some (.ext (Jf P)))(hl:AV.leafs vs=true)(hP:P vs v)(hv:∀ρ,RelV ρ v v):SCallP Γ g vs h fun v'=>v'=v:=fun ρ hr ar _ hva=>by
 have:=QT _ _ hl hva;subst this;exact⟨0,v,hr,v,.ext hg ⟨rfl,v,rfl,hP⟩,rfl,fun _ q=>q,rfl,hv ρ⟩
theorem Pure.told{Γ:Nat->Option AFn}{g:Nat}{P:List AV->AV->Prop}{vs:List AV}{v:AV}(hg:Γ g=some (.ext (Jf P)))(hl:AV.leafs vs=true)(hP:P vs v)(ht:AV.trees vs=true)(hv:v.tree=true):Pure Γ g vs v:=by
 unfold Pure;refine⟨ht,hv,fun hr ar hva=> ?_⟩;have:=QT _ _ hl hva;subst this;exact⟨0,v,hr,.ext hg ⟨rfl,v,rfl,hP⟩,rfl,fun _ q=>q,jq _ hv⟩
def JX(K:VSt->Prop):qS->VSt->Prop
 |.nrm,st=>K st
 | _,_=>False
@[go_sem] theorem qk8{K:VSt->Prop}{st:VSt}:JX K .nrm st=K st:=rfl
def panQ(K:AV->VSt->Prop):qS->VSt->Prop
 |.pan v,st=>K v st
 | _,_=>False
@[go_sem] theorem qeX{K:AV->VSt->Prop}{v:AV}{st:VSt}:panQ K (.pan v) st=K v st:=rfl
def wo(l:qf):Nat->List Nat->qf
 | _,[]=>[]
 | n,c::r=>match get l c with
  | some v=>(n,v)::wo l (n+1) r
  | none=>wo l (n+1) r
def QA(E:Ev)(t:jA)(K:AV->List qC->Prop)(v:AV)(st:VSt):Prop:=match v with
 |.iface T x=>T=t.T/\x.leaf=true/\R E [.code t.hnd] ⟨[(t.nh,x)],wo st.l 0 t.cap,st.h⟩ (JX fun s=>wG (zC (zy s) t.resH) s.h K)
 | _=>False
def ZS(E:Ev)(t:jA)(K:AV->List qC->Prop)(st:VSt):Prop:=match ev (toE st.s) t.x with
 | some (.bool false)=>R E [.code t.tail] st (QM t.res K)
 | some (.bool true)=>R E [.ops t.l9] st (panQ (QA E t K))
 | _=>False
def Yo(E:Ev)(t:jA)(K:AV->List qC->Prop):qS->VSt->Prop
 |.nrm,st=>R E [.code t.r8] st (JX (ZS E t K))
 |.pan v,st=>QA E t K v st
 | _,_=>False
def Yn(E:Ev)(t:jA)(K:AV->List qC->Prop):qS->VSt->Prop
 |.ret,st=>wG (zC (zy st) t.res) st.h K
 |.nrm,st=>(∀i∈t.cap,get st.l i≠none)/\get st.s t.d5=none/\R E [.code t.mid] st (JX fun st=>R E [.ops t.l7] st (Yo E t K))
 | _,_=>False
def jA.ok(t:jA):Bool:=t.p0.ok&&t.p1.ok&&t.p2.ok&&t.p3.ok&&t.mid.ok&&Fr1.ok (.ops t.l7)&&t.r8.ok&&t.x.ok&&Fr1.ok (.ops t.l9)&&t.tail.ok&&t.hnd.ok
theorem qTT{l:qf}:∀{r:List Nat}{n k:Nat}{v:AV},get (wo l n r) k=some v->∃c,r[k-n]?=some c/\n<=k/\get l c=some v
 |[],n,k,v,h=>by cases h
 | c::r,n,k,v,h=>by
  have go:get (wo l (n+1) r) k=some v->∃c',(c::r)[k-n]?=some c'/\n<=k/\get l c'=some v:=fun h=>by
   obtain⟨c',h1,h2,h3⟩:=qTT h;have:k-n=(k-(n+1))+1:=by omega
   exact⟨c',by rw[this,List.getElem?_cons_succ];exact h1,by omega,h3⟩
  simp only[wo]at h;split at h
  ·rename_i x hx;simp only[get]at h;split at h
   ·rename_i e;subst e;cases h;exact⟨c,by simp,nLr _,hx⟩
   ·exact go h
  ·exact go h
theorem qaT{ρ:Ren}{l:qf}{e:Env}(h:RelE ρ l e)(cap:List Nat):RelE ρ (wo l 0 cap) (wS cap e):=fun n v hv=>by
 obtain⟨c,h1,_,h3⟩:=qTT hv;obtain⟨r,h4,h5⟩:=h c v h3;refine⟨r, ?_,h5⟩;show wS cap e n=_;unfold wS;rw[Nat.sub_zero]at h1;rw[h1];exact h4
mutual
theorem qAC:∀(a:AV),a.leaf=true->a.tree=true
 |.bool _,_ |.int _ _,_ |.str _,_ |.nilp,_ |.nils,_ |.nilm,_ |.nilf,_ |.nili,_=>rfl
 |.any,h |.ptr _ _ _,h |.map _,h |.slice _ _ _ _ _,h |.lst _ _ _,h |.ept _ _,h=>by simp[AV.leaf]at h
 |.fn _ cs,h |.agg cs,h |.tup cs,h=>by
  simp only[AV.leaf]at h;simp only[AV.tree];exact qVP cs h
 |.iface _ x,h=>by
  simp only[AV.leaf]at h;simp only[AV.tree];exact qAC x h
theorem qVP:∀(as:List AV),AV.leafs as=true->AV.trees as=true
 |[],_=>rfl
 | a::as,h=>by
  simp only[AV.leafs,bAt]at h;simp only[AV.trees,bAt];exact⟨qAC a h.1,qVP as h.2⟩
end
section
variable {Γ:Nat->Option AFn} {g:Nat} {vs:List AV} {h:List qC}
theorem Zy{E:Ev}{c:qG}{K:VSt->Prop}{st:VSt}{sr:St}{ρ:Ren}(hok:c.ok=true)(hR:R E [.code c] st (JX K))(hS:qt ρ st sr)(hb:E.b<=st.h.length):
  ∃k sr' ρ' st',Ex E.Γ k (.code c sr) (.st .nrm sr')/\K st'/\qt ρ' st' sr'/\Fm E.b ρ sr.h ρ' sr'.h/\E.b<=st'.h.length:=by
 obtain⟨k,e,sr',ρ',st',g1,hq,g3,g4,g5⟩:=Sem.of (by simpa only [lAc,List.all_nil,Bool.and_true,Fr1.ok]using hok) hR ρ _ hS hb;cases e with
 | nrm=>
  cases g1 with
  | code h h'=>cases h';exact⟨k,sr',ρ',st',h,hq,g3,g4,g5⟩
  | codeX h he' hx h'=>simp[exK]at hx
  | codeE h he' hx=>exact absurd rfl he'
 | _=>exact hq.elim
theorem qTY{E:Ev}{c:qG}{Q:qS->VSt->Prop}{st:VSt}{sr:St}{ρ:Ren}(hok:c.ok=true)(hR:R E [.code c] st Q)(hS:qt ρ st sr)(hb:E.b<=st.h.length):
  ∃k e sr' ρ' st',Ex E.Γ k (.code c sr) (.st e sr')/\Q e st'/\qt ρ' st' sr'/\Fm E.b ρ sr.h ρ' sr'.h/\E.b<=st'.h.length:=by
 obtain⟨k,e,sr',ρ',st',g1,hq,g3,g4,g5⟩:=Sem.of (by simpa only [lAc,List.all_nil,Bool.and_true,Fr1.ok]using hok) hR ρ _ hS hb;cases g1 with
 | code h h'=>cases h';exact⟨k,_,sr',ρ',st',h,hq,g3,g4,g5⟩
 | codeX h he' hx h'=>cases e<;>simp[exK]at hx
 | codeE h he' hx=>exact⟨k,_,sr',ρ',st',h,hq,g3,g4,g5⟩
theorem qWZ{E:Ev}{l:List qA}{Q:qS->VSt->Prop}{st:VSt}{sr:St}{ρ:Ren}(hok:Fr1.ok (.ops l)=true)(hR:R E [.ops l] st Q)(hS:qt ρ st sr)(hb:E.b<=st.h.length):
  ∃k e sr' ρ' st',Ex E.Γ k (.ops l sr) (.st e sr')/\Q e st'/\qt ρ' st' sr'/\Fm E.b ρ sr.h ρ' sr'.h/\E.b<=st'.h.length:=by
 obtain⟨k,e,sr',ρ',st',g1,hq,g3,g4,g5⟩:=Sem.of (by simpa only [lAc,List.all_nil,Bool.and_true]using hok) hR ρ _ hS hb;cases g1 with
 | ops h h'=>cases h';exact⟨k,_,sr',ρ',st',h,hq,g3,g4,g5⟩
 | opsP h=>exact⟨k,_,sr',ρ',st',h,hq,g3,g4,g5⟩
theorem qUX{E:Ev}{t:jA}{K:AV->List qC->Prop}{v:AV}{st:VSt}{sr:St}{ρ:Ren}(hok:t.hnd.ok=true)(hR:QA E t K v st)(hS:qt ρ st sr)(hb:E.b<=st.h.length):
  ∃x k s7 ρ' us v' h',v=.iface t.T x/\Ex E.Γ k (.code t.hnd {s:=Env.empty.set t.nh x,l:=wS t.cap sr.l,h:=sr.h}) (.st .nrm s7)/\zC s7 t.resH=some us/\K v' h'/\RelV ρ' v' (zQ us)/\qw ρ' h' s7.h/\Fm E.b ρ sr.h ρ' s7.h/\E.b<=h'.length:=by
 unfold QA at hR;split at hR
 ·rename_i T x;obtain⟨rfl,hl,hR⟩:=hR;have hs1:RelE ρ [(t.nh,x)] (Env.empty.set t.nh x):=fun n v hv=>by
   simp only[get]at hv;split at hv
   ·rename_i e;subst e;cases hv;exact⟨x,by rw[jD,if_pos rfl],jq _ (qAC _ hl)⟩
   ·cases hv
  have hS1:qt ρ ⟨[(t.nh,x)],wo st.l 0 t.cap,st.h⟩ {s:=Env.empty.set t.nh x,l:=wS t.cap sr.l,h:=sr.h}:=⟨hs1,qaT hS.l _,hS.h⟩;obtain⟨k,sr',ρ',st',h1,h2,h3,h4,h5⟩:=Zy hok hR hS1 hb;unfold wG at h2;split at h2
  ·rename_i us hus;obtain⟨rs,q1,q2⟩:=Qi h3 hus;exact⟨x,k,sr',ρ',rs,_,_,rfl,h1,q1,h2,ZF q2,h3.h,h4,h5⟩
  ·exact h2.elim
 ·exact hR.elim
theorem SCall.try{t:jA}{K:AV->List qC->Prop}(hg:Γ g=some (.try t))(hn:vs.length=t.np)(hok:t.ok=true)
  (hR:R ⟨Γ,h.length,[],[]⟩ [.code t.p0] ⟨qH 0 vs,[],h⟩ (JX fun st=>R ⟨Γ,h.length,[],[]⟩ [.code t.p1] st (JX fun st=>R ⟨Γ,h.length,[],[]⟩ [.code t.p2] st (JX fun st=>R ⟨Γ,h.length,[],[]⟩ [.code t.p3] st (Yn ⟨Γ,h.length,[],[]⟩ t K))))):
  SCall Γ g vs h K:=fun ρ hr ar hH hv=>by
 have hS:qt ρ ⟨qH 0 vs,[],h⟩ {s:=params 0 ar,l:=Env.empty,h:=hr}:=⟨Z3 hv,(fun n v h=>by cases h),hH⟩;simp only[jA.ok,bAt]at hok;obtain⟨⟨⟨⟨⟨⟨⟨⟨⟨⟨o0,o1⟩,o2⟩,o3⟩,om⟩,o7⟩,o8⟩,ox⟩,o9⟩,ot⟩,oh⟩:=hok;have hna:ar.length=t.np:=by rw[hv.length];exact hn
 obtain⟨k0,s1,ρ1,st1,x0,r1,e1,m1,b1⟩:=Zy o0 hR hS (nLr _);obtain⟨k1,s2,ρ2,st2,x1,r2,e2,m2,b2⟩:=Zy o1 r1 e1 b1;obtain⟨k2,s3,ρ3,st3,x2,r3,e3,m3,b3⟩:=Zy o2 r2 e2 b2;obtain⟨k3,e,s4,ρ4,st4,x3,r4,e4,m4,b4⟩:=qTY o3 r3 e3 b3;have m04:=((m1.trans m2).trans m3).trans m4;cases e with
 | exit n=>exact r4.elim
 | pan v=>exact r4.elim
 | ret=>
  simp only[Yn,wG]at r4;split at r4
  ·rename_i us hus;obtain⟨rs,q1,q2⟩:=Qi e4 hus;refine⟨k0+k1+k2+k3+1,_,_,ρ4,_,st4.h,.tryX hg hna (x0.le (by omega)) (x1.le (by omega)) (x2.le (by omega)) (x3.le (by omega)) q1,r4,e4.h,ZF q2,m04,b4⟩
  ·exact r4.elim
 | nrm=>
  obtain⟨hc,hd,r5⟩:=r4;have hc':∀i∈t.cap,∃c,lk s4.l i=some c:=fun i hi=>by
   cases hg':get st4.l i with
   | none=>exact absurd hg' (hc i hi)
   | some v=>obtain⟨r,q,_⟩:=e4.l i v hg';exact⟨r,q⟩
  have e4s:RelE ρ4 st4.s (s4.s.set t.d5 .any):=fun n v hv=>by
   obtain⟨r,q1,q2⟩:=e4.s n v hv;refine⟨r, ?_,q2⟩;rw[jD,if_neg (by rintro rfl;rw[hd]at hv;cases hv)];exact q1
  have e4':qt ρ4 st4 {s4 with s:=s4.s.set t.d5 .any}:=⟨e4s,e4.l,e4.h⟩;obtain⟨k4,s5,ρ5,st5,x4,r6,e5,m5,b5⟩:=Zy om r5 e4' b4;obtain⟨k5,e,s6,ρ6,st6,x5,r7,e6,m6,b6⟩:=qWZ o7 r6 e5 b5;have m06:=(m04.trans m5).trans m6;cases e with
  | exit n=>exact r7.elim
  | ret=>exact r7.elim
  | pan v=>
   obtain⟨x,k6,s7,ρ7,us,v',h',rfl,x6,q1,q2,q3,q4,q5,q6⟩:=qUX oh (show QA _ _ _ _ _ from r7) e6 b6;exact⟨k0+k1+k2+k3+k4+k5+k6+1,_,_,ρ7,v',h',.tryP hg hna (x0.le (by omega)) (x1.le (by omega)) (x2.le (by omega)) (x3.le (by omega)) hc' (x4.le (by omega)) (x5.le (by omega)) (x6.le (by omega)) q1,q2,q4,q3,m06.trans q5,q6⟩
  | nrm=>
   obtain⟨k6,s7,ρ7,st7,x6,r8,e7,m7,b7⟩:=Zy o8 (show R _ _ _ _ from r7) e6 b6;unfold ZS at r8;split at r8
   ·rename_i hx;obtain⟨k7,e,s8,ρ8,st8,x7,⟨he,r9⟩,e8,m8,b8⟩:=qTY ot r8 e7 b7;split at r9
    ·rename_i us hus;obtain⟨rs,q1,q2⟩:=Qi e8 hus;exact⟨k0+k1+k2+k3+k4+k5+k6+k7+1,_,_,ρ8,_,st8.h,.tryV hg hna (x0.le (by omega)) (x1.le (by omega)) (x2.le (by omega)) (x3.le (by omega)) hc' (x4.le (by omega)) (x5.le (by omega)) (x6.le (by omega)) (QI e7.s ox hx) (x7.le (by omega)) he q1,r9,e8.h,ZF q2,(m06.trans m7).trans m8,b8⟩
    ·exact r9.elim
   ·rename_i hx;obtain⟨k7,e,s8,ρ8,st8,x7,r9,e8,m8,b8⟩:=qWZ o9 r8 e7 b7;cases e with
    | pan v=>
     obtain⟨x,k8,s9,ρ9,us,v',h',rfl,x8,q1,q2,q3,q4,q5,q6⟩:=qUX oh (show QA _ _ _ _ _ from r9) e8 b8;exact⟨k0+k1+k2+k3+k4+k5+k6+k7+k8+1,_,_,ρ9,v',h',.tryF hg hna (x0.le (by omega)) (x1.le (by omega)) (x2.le (by omega)) (x3.le (by omega)) hc' (x4.le (by omega)) (x5.le (by omega)) (x6.le (by omega)) (QI e7.s ox hx) (x7.le (by omega)) (x8.le (by omega)) q1,q2,q4,q3,((m06.trans m7).trans m8).trans q5,q6⟩
    | _=>exact r9.elim
   ·exact r8.elim
end
theorem pI{Γ:Nat->Option AFn}{g:Nat}(F:qI){as:List AV}{v:AV}(ht:AV.trees as=true)(hv:v.tree=true)(hR:R ⟨Γ,0,[],[]⟩ [.code F.body] ⟨qH 0 as,[],[]⟩ (Wc F.res v))(hg:Γ g=some (.fn F):=by kernel_rfl)(hok:F.body.ok=true:=by kernel_rfl)(hn:as.length=F.np:=by rfl):Pure Γ g as v:=Pure.intro [] [] hg hok hn ht hv hR
theorem pJ{Γ:Nat->Option AFn}{g:Nat}(F:qI){as:List AV}{v:AV}(hR:R ⟨Γ,0,[],[]⟩ [.code F.body] ⟨qH 0 as,[],[]⟩ (Wc F.res v))(hg:Γ g=some (.fn F):=by kernel_rfl)(hok:F.body.ok=true:=by kernel_rfl)(hn:as.length=F.np:=by rfl)(ht:AV.trees as=true:=by simp[AV.trees,AV.tree,go_sem])(hv:v.tree=true:=by rfl):Pure Γ g as v:=Pure.intro [] [] hg hok hn ht hv hR
theorem sI{Γ:Nat->Option AFn}{g:Nat}{vs:List AV}{h:List qC}(F:qI){K:AV->List qC->Prop}(hR:R ⟨Γ,h.length,[],[]⟩ [.code F.body] ⟨qH 0 vs,[],h⟩ (QM F.res K))(hg:Γ g=some (.fn F):=by kernel_rfl)(hok:F.body.ok=true:=by kernel_rfl)(hn:vs.length=F.np:=by rfl):SCall Γ g vs h K:=SCall.run [] [] hg hok hn hR
theorem xI{Γ:Nat->Option AFn}{g:Nat}{vs:List AV}{h:List qC}(F:qI){K KP:AV->List qC->Prop}(hR:R ⟨Γ,h.length,[],[]⟩ [.code F.body] ⟨qH 0 vs,[],h⟩ (Q0 F.res K KP))(hg:Γ g=some (.fn F):=by kernel_rfl)(hok:F.body.ok=true:=by kernel_rfl)(hn:vs.length=F.np:=by rfl):SCallX Γ g vs h K KP:=SCallX.run [] [] hg hok hn hR
section
variable {E:Ev} {ρ:Ren} {st:VSt} {sr:St}
end
section
variable {Γ:Nat->Option AFn} {g:Nat} {vs:List AV} {h:List qC}
end
section
variable {E:Ev} {l:List qA} {ks:List Fr1} {s m:qf} {h:List qC} {Q:qS->VSt->Prop} {k e:Nat} {vs:List AV} {v:AV}
theorem qaN{ck:List qA}(hp:SCallP E.Γ k vs h fun v'=>v'=v)(hr:R E (.ops l::ks) ⟨(e,v)::s,m,h⟩ Q):jv E (some (k,vs)) ck (some e) l ks ⟨s,m,h⟩ Q:=by
 have hp':SCallP E.Γ k vs h fun v'=>R E (.ops l::ks) ⟨(e,v')::s,m,h⟩ Q:=fun ρ hr' ar hH hv=>by
  obtain⟨k,r,hr2,v2,a1,a2,a3,a4,a5⟩:=hp ρ hr' ar hH hv;exact⟨k,r,hr2,v2,a1,a2,a3,a4▸hr,a5⟩
 unfold jv;cases ck
 ·exact SCallX.of (SCall.ofP hp')
 ·exact Or.inl (SCallK.ofP hp')
end
mutual
def lay:AV->Nat->AV×List qC
 |.lst w xs _,n=>(.slice w n 0 xs.length false,.row w (qZ xs (n+1)).1 true::(qZ xs (n+1)).2)
 |.agg xs,n=>(.agg (qZ xs n).1,(qZ xs n).2)
 |.tup xs,n=>(.tup (qZ xs n).1,(qZ xs n).2)
 | v,_=>(v,[])
def qZ:List AV->Nat->List AV×List qC
 |[],_=>([],[])
 | x::xs,n=>((lay x n).1::(qZ xs (n+(lay x n).2.length)).1,(lay x n).2++(qZ xs (n+(lay x n).2.length)).2)
end
mutual
def AV.pl:AV->Bool
 |.lst _ xs _ |.agg xs |.tup xs=>AV.pls xs
 |.bool _ |.int _ _ |.str _ |.nilp |.nils |.nilm |.nilf |.nili=>true
 | _=>false
def AV.pls:List AV->Bool
 |[]=>true
 | x::xs=>AV.pl x&&AV.pls xs
end
mutual
def AV.rows:AV->Nat
 |.lst _ xs _=>AV.rowss xs+1
 |.agg xs |.tup xs=>AV.rowss xs
 | _=>0
def AV.rowss:List AV->Nat
 |[]=>0
 | x::xs=>AV.rows x+AV.rowss xs
end
mutual
theorem zd:∀(t:AV)(n:Nat),(lay t n).2.length=t.rows
 |.lst _ xs _,n=>by simp only[lay,lCo,AV.rows,wZ xs]
 |.agg xs,n=>by simp only[lay,AV.rows,wZ xs]
 |.tup xs,n=>by simp only[lay,AV.rows,wZ xs]
 |.bool _,_ |.int _ _,_ |.str _,_ |.nilp,_ |.nils,_ |.nilm,_ |.nilf,_ |.nili,_ |.any,_=>rfl
 |.ptr _ _ _,_ |.slice _ _ _ _ _,_ |.map _,_ |.ept _ _,_ |.fn _ _,_ |.iface _ _,_=>rfl
theorem wZ:∀(xs:List AV)(n:Nat),(qZ xs n).2.length=AV.rowss xs
 |[],_=>rfl
 | x::xs,n=>by simp only[qZ,lAp,zd x,wZ xs,AV.rowss]
end
theorem we:∀(xs:List AV)(n:Nat),(qZ xs n).1.length=xs.length
 |[],_=>rfl
 | x::xs,n=>by simp only[qZ,lCo,we xs]
theorem qAA:∀(xs ys:List AV)(n:Nat),qZ (xs++ys) n=((qZ xs n).1++(qZ ys (n+AV.rowss xs)).1,(qZ xs n).2++(qZ ys (n+AV.rowss xs)).2)
 |[],ys,n=>by simp[qZ,AV.rowss]
 | x::xs,ys,n=>by
  simp only[lCa,qZ,qAA xs ys,AV.rowss,zd,Nat.add_assoc,lAa]
section
variable {ρ ρ':Ren}
def Sh2(ρ:Ren)(a:Nat)(ρ':Ren)(b n:Nat):Prop:=∀i,i<n->ρ' (b+i)=ρ (a+i)
theorem Sh2.sub{a b n:Nat}(h:Sh2 ρ a ρ' b n)(k m:Nat)(hk:k+m<=n):Sh2 ρ (a+k) ρ' (b+k) m:=fun i hi=>by
 have:=h (k+i) (by omega);rw[show a+k+i=a+(k+i) by omega,show b+k+i=b+(k+i) by omega];exact this
mutual
theorem kq:∀(t:AV)(a b:Nat)(r:AV),t.pl=true->Sh2 ρ a ρ' b t.rows->RelV ρ (lay t a).1 r->RelV ρ' (lay t b).1 r
 |.lst w xs _,a,b,r,_,hs,h=>by
  have h0:=hs 0 (by simp only[AV.rows];omega);simp only[nAz]at h0;simp only[lay,RelV]at h|-;rw[h0];exact h
 |.agg xs,a,b,r,hp,hs,h=>by
  simp only[lay,RelV]at h|-;obtain⟨ds,h1,h2⟩:=h;exact⟨ds,h1,X4 xs a b ds hp hs h2⟩
 |.tup xs,a,b,r,hp,hs,h=>by
  simp only[lay,RelV]at h|-;obtain⟨ds,h1,h2⟩:=h;exact⟨ds,h1,X4 xs a b ds hp hs h2⟩
 |.bool _,_,_,_,_,_,h |.int _ _,_,_,_,_,_,h |.str _,_,_,_,_,_,h |.nilp,_,_,_,_,_,h |.nils,_,_,_,_,_,h |.nilm,_,_,_,_,_,h |.nilf,_,_,_,_,_,h |.nili,_,_,_,_,_,h=>by
  simpa only [lay,RelV]using h
 |.any,_,_,_,hp,_,_ |.ptr _ _ _,_,_,_,hp,_,_ |.slice _ _ _ _ _,_,_,_,hp,_,_ |.map _,_,_,_,hp,_,_ |.ept _ _,_,_,_,hp,_,_ |.fn _ _,_,_,_,hp,_,_ |.iface _ _,_,_,_,hp,_,_=>by cases hp
theorem X4:∀(xs:List AV)(a b:Nat)(rs:List AV),AV.pls xs=true->Sh2 ρ a ρ' b (AV.rowss xs)->RelVs ρ (qZ xs a).1 rs->RelVs ρ' (qZ xs b).1 rs
 |[],_,_,_,_,_,h=>by simpa only [qZ,RelVs]using h
 | x::xs,a,b,rs,hp,hs,h=>by
  simp only[AV.pls,bAt]at hp;simp only[qZ,RelVs,zd]at h|-;obtain⟨u,us,h1,h2,h3⟩:=h;simp only[AV.rowss]at hs;exact⟨u,us,h1,kq x a b u hp.1 (by simpa using hs.sub 0 x.rows (by omega)) h2,X4 xs _ _ us hp.2 (hs.sub x.rows (AV.rowss xs) (by omega)) h3⟩
end
def Lies(ρ:Ren)(a:Nat)(os:List qC)(hr:AH):Prop:=∀i o,os[i]?=some o->RelO ρ (a+i) hr o
theorem Lies.app{a:Nat}{os os':List qC}{hr:AH}:Lies ρ a (os++os') hr↔Lies ρ a os hr/\Lies ρ (a+os.length) os' hr:=by
 constructor
 ·intro h;refine⟨fun i o hi=>h i o ?_,fun i o hi=> ?_⟩
  ·rw[gAl (gSi.1 hi).1];exact hi
  ·have:=h (os.length+i) o (by rw[gAr (by omega)];simpa using hi);rw[show a+os.length+i=a+(os.length+i) by omega];exact this
 ·rintro⟨h1,h2⟩ i o hi;rcases Nat.lt_or_ge i os.length with q | q
  ·rw[gAl q]at hi;exact h1 i o hi
  ·rw[gAr q]at hi;have:=h2 _ _ hi;rw[show a+os.length+(i-os.length)=a+i by omega]at this;exact this
theorem Lies.cons{a:Nat}{o:qC}{os:List qC}{hr:AH}:Lies ρ a (o::os) hr↔RelO ρ a hr o/\Lies ρ (a+1) os hr:=by
 have:=Lies.app (ρ:=ρ) (a:=a) (os:=[o]) (os':=os) (hr:=hr);rw[List.singleton_append]at this;rw[this];constructor
 ·rintro⟨h1,h2⟩;exact⟨h1 0 o rfl,h2⟩
 ·rintro⟨h1,h2⟩;refine⟨fun i x hi=> ?_,h2⟩;cases i with
  | zero=>simp at hi;subst hi;exact h1
  | succ i=>simp at hi
mutual
theorem X1{hr hr':AH}:∀(t:AV)(a b:Nat),t.pl=true->Sh2 ρ a ρ' b t.rows->(∀i x o,i<t.rows->ρ (a+i)=some (some x)->hr x=some o->hr' x=some o)->Lies ρ a (lay t a).2 hr->Lies ρ' b (lay t b).2 hr'
 |.lst w xs _,a,b,hp,hs,hh,h=>by
  simp only[lay,Lies.cons]at h|-;simp only[AV.rows]at hs hh;obtain⟨h1,h2⟩:=h;refine⟨?_,X3 xs (a+1) (b+1) hp (hs.sub 1 _ (by omega)) (fun i x o hi hx hx2=>hh (1+i) x o (by omega) (by rw[<-Nat.add_assoc];exact hx) hx2) h2⟩;have h0:=hs 0 (by omega);simp only[nAz]at h0;rcases h1 with⟨q1,q2,q3⟩ | ⟨i',el',q1,q2,q3⟩
  ·refine .inl ⟨by rw[h0];exact q1, ?_,q3⟩;have l1:=we xs (a+1);have l2:=we xs (b+1);rw[q2]at l1;exact lEz (by rw[l2,<-l1];rfl)
  ·exact .inr ⟨i',el',by rw[h0];exact q1,hh 0 i' _ (by omega) q1 q2,X4 xs _ _ _ hp (hs.sub 1 _ (by omega)) q3⟩
 |.agg xs,a,b,hp,hs,hh,h=>by
  simp only[lay]at h|-;exact X3 xs a b hp hs hh h
 |.tup xs,a,b,hp,hs,hh,h=>by
  simp only[lay]at h|-;exact X3 xs a b hp hs hh h
 |.bool _,_,_,_,_,_,_ |.int _ _,_,_,_,_,_,_ |.str _,_,_,_,_,_,_ |.nilp,_,_,_,_,_,_ |.nils,_,_,_,_,_,_ |.nilm,_,_,_,_,_,_ |.nilf,_,_,_,_,_,_ |.nili,_,_,_,_,_,_=>by
  intro i o hi;simp[lay]at hi
 |.any,_,_,hp,_,_,_ |.ptr _ _ _,_,_,hp,_,_,_ |.slice _ _ _ _ _,_,_,hp,_,_,_ |.map _,_,_,hp,_,_,_ |.ept _ _,_,_,hp,_,_,_ |.fn _ _,_,_,hp,_,_,_ |.iface _ _,_,_,hp,_,_,_=>by cases hp
theorem X3{hr hr':AH}:∀(xs:List AV)(a b:Nat),AV.pls xs=true->Sh2 ρ a ρ' b (AV.rowss xs)->(∀i x o,i<AV.rowss xs->ρ (a+i)=some (some x)->hr x=some o->hr' x=some o)->Lies ρ a (qZ xs a).2 hr->Lies ρ' b (qZ xs b).2 hr'
 |[],_,_,_,_,_,_=>by intro i o hi;simp[qZ]at hi
 | x::xs,a,b,hp,hs,hh,h=>by
  simp only[AV.pls,bAt]at hp;simp only[AV.rowss]at hs hh;simp only[qZ,Lies.app,zd]at h|-;exact⟨X1 x a b hp.1 (by simpa using hs.sub 0 x.rows (by omega)) (fun i y o hi=>hh i y o (by omega)) h.1,
   X3 xs _ _ hp.2 (hs.sub x.rows _ (by omega)) (fun i y o hi hy=>hh (x.rows+i) y o (by omega) (by rw[<-Nat.add_assoc];exact hy)) h.2⟩
end
mutual
theorem ku:∀(t:AV)(a i:Nat)(o:qC),t.pl=true->(lay t a).2[i]?=some o->∃w xs b,o=.row w (qZ xs b).1 true/\AV.pls xs=true
 |.lst w xs _,a,i,o,hp,h=>by
  simp only[lay]at h;cases i with
  | zero=>simp at h;subst h;exact⟨w,xs,a+1,rfl,hp⟩
  | succ i=>exact X5 xs (a+1) i o hp (by simpa using h)
 |.agg xs,a,i,o,hp,h=>by simp only[lay]at h;exact X5 xs a i o hp h
 |.tup xs,a,i,o,hp,h=>by simp only[lay]at h;exact X5 xs a i o hp h
 |.bool _,_,_,_,_,h |.int _ _,_,_,_,_,h |.str _,_,_,_,_,h |.nilp,_,_,_,_,h |.nils,_,_,_,_,h |.nilm,_,_,_,_,h |.nilf,_,_,_,_,h |.nili,_,_,_,_,h=>by
  simp[lay]at h
 |.any,_,_,_,hp,_ |.ptr _ _ _,_,_,_,hp,_ |.slice _ _ _ _ _,_,_,_,hp,_ |.map _,_,_,_,hp,_ |.ept _ _,_,_,_,hp,_ |.fn _ _,_,_,_,hp,_ |.iface _ _,_,_,_,hp,_=>by cases hp
theorem X5:∀(xs:List AV)(a i:Nat)(o:qC),AV.pls xs=true->(qZ xs a).2[i]?=some o->∃w ys b,o=.row w (qZ ys b).1 true/\AV.pls ys=true
 |[],_,_,_,_,h=>by simp[qZ]at h
 | x::xs,a,i,o,hp,h=>by
  simp only[AV.pls,bAt]at hp;simp only[qZ]at h;rcases Nat.lt_or_ge i (lay x a).2.length with q | q
  ·rw[gAl q]at h;exact ku x a i o hp.1 h
  ·rw[gAr q]at h;exact X5 xs _ _ o hp.2 h
end
end
variable {Γ:Nat->Option AFn} {g:Nat} {vs vs' as:List AV} {h:List qC} {t t':AV}
def Fresh(Γ:Nat->Option AFn)(g:Nat)(as:List AV)(t:AV):Prop:=
 AV.trees as=true/\t.pl=true/\∀hr ar,RelVs ρ0 as ar->∃k r hr' ρ',Ex Γ k (.call g ar hr) (.res (.ok r) hr')/\qw ρ' (lay t 0).2 hr'/\RelV ρ' (lay t 0).1 r/\Fm 0 ρ0 hr ρ' hr'
def JN(ρ:Ren)(n:Nat)(ρ':Ren):Ren:=fun i=>if i<n then ρ i else ρ' (i-n)
theorem qUJ{ρ ρ':Ren}{hr h1 h2:AH}{r:AV}(hp:t.pl=true)(hH:qw ρ h hr)(hH':qw ρ' (lay t 0).2 h1)(hv:RelV ρ' (lay t 0).1 r)
  (hnew:∀i a,ρ' i=some (some a)->hr.fr a) (hold:∀a o,hr a=some o->h2 a=some o) (hsame:∀i a o,ρ' i=some (some a)->h1 a=some o->h2 a=some o) (hfr:∀a,h2.fr a->hr.fr a):
  qw (JN ρ h.length ρ') (h++(lay t h.length).2) h2/\RelV (JN ρ h.length ρ') (lay t h.length).1 r/\Fm h.length ρ hr (JN ρ h.length ρ') h2:=by
 have sh:Sh2 ρ' 0 (JN ρ h.length ρ') h.length t.rows:=fun i hi=>by
  simp only[JN,nZa];rw[if_neg (by omega),Nat.add_sub_cancel_left]
 have lies:Lies ρ' 0 (lay t 0).2 h1:=fun i o hi=>by rw[nZa];exact hH'.obj i o hi
 have lies2:Lies (JN ρ h.length ρ') h.length (lay t h.length).2 h2:=X1 t 0 h.length hp sh (fun i x o _ hx ho=>hsame _ x o hx ho) lies;have lo:∀i,i<h.length->JN ρ h.length ρ' i=ρ i:=fun i hi=>by simp only[JN,if_pos hi]
 have hi':∀i,h.length<=i->JN ρ h.length ρ' i=ρ' (i-h.length):=fun i hi=>by simp only[JN];rw[if_neg (by omega)]
 have le:ρ.le (JN ρ h.length ρ'):=fun i a hia=>by
  have:i<h.length:=by
   rcases Nat.lt_or_ge i h.length with q | q
   ·exact q
   ·rw[hH.out i q]at hia;cases hia
  rw[lo i this];exact hia
 refine⟨⟨fun i o hi=> ?_,fun i j a o o' h1' h2' hi hj d1 d2=> ?_,fun i hi=> ?_,fun i a ha=> ?_⟩,kq t 0 h.length r hp sh hv,⟨fun a o ho _=>hold a o ho,fun i a ha=> ?_,hfr,fun i hi=>lo i hi⟩⟩
 ·rcases Nat.lt_or_ge i h.length with q | q
  ·rw[gAl q]at hi;exact(hH.obj i o hi).mono le fun a o' _ ho=>hold a o' ho
  ·rw[gAr q]at hi;have:=lies2 _ _ hi;rwa[show h.length+(i-h.length)=i by omega]at this
 ·have get0:∀{i:Nat}{o:qC},(lay t h.length).2[i]?=some o->∃o2,(lay t 0).2[i]?=some o2/\o2≠.dead:=fun{i o} hio=>by
   have hl:i<(lay t 0).2.length:=by
    have:=(gSi.1 hio).1;rw[zd]at this|-;exact this
   refine⟨_,gEg hl, ?_⟩;obtain⟨w,xs,b,e,_⟩:=ku t 0 i _ hp (gEg hl);rw[e];simp
  rcases Nat.lt_or_ge i h.length with q1 | q1<;>rcases Nat.lt_or_ge j h.length with q2 | q2
  ·rw[lo i q1]at h1';rw[lo j q2]at h2';rw[gAl q1]at hi;rw[gAl q2]at hj;exact hH.inj i j a o o' h1' h2' hi hj d1 d2
  ·rw[lo i q1]at h1';rw[hi' j q2]at h2';obtain⟨x,hx⟩:=hH.is i a h1';have:=(hnew _ a h2').1;rw[this]at hx;cases hx
  ·rw[hi' i q1]at h1';rw[lo j q2]at h2';obtain⟨x,hx⟩:=hH.is j a h2';have:=(hnew _ a h1').1;rw[this]at hx;cases hx
  ·rw[hi' i q1]at h1';rw[hi' j q2]at h2';rw[gAr q1]at hi;rw[gAr q2]at hj;obtain⟨o2,g1,g2⟩:=get0 hi;obtain⟨o3,g3,g4⟩:=get0 hj;have:=hH'.inj _ _ a o2 o3 h1' h2' g1 g3 g2 g4;omega
 ·simp only[lAp,zd]at hi;rw[hi' i (by omega)];exact hH'.out _ (by rw[zd];omega)
 ·rcases Nat.lt_or_ge i h.length with q | q
  ·rw[lo i q]at ha;obtain⟨o,ho⟩:=hH.is i a ha;exact⟨o,hold a o ho⟩
  ·rw[hi' i q]at ha;obtain⟨o,ho⟩:=hH'.is _ a ha;exact⟨o,hsame _ a o ha ho⟩
 ·rcases Nat.lt_or_ge i h.length with q | q
  ·rw[lo i q]at ha;exact .inl ⟨i,ha⟩
  ·rw[hi' i q]at ha;exact .inr (hnew _ a ha)
theorem Fm.new0{ρ':Ren}{hr hr':AH}(h:Fm 0 ρ0 hr ρ' hr'){i a:Nat}(ha:ρ' i=some (some a)):hr.fr a:=by
 rcases h.new i a ha with⟨j,hj⟩ | q
 ·cases hj
 ·exact q
theorem SCallK.fresh{K:AV->List qC->Prop}(hp:Fresh Γ g vs t)(hk:K (lay t h.length).1 (h++(lay t h.length).2)):SCallK Γ g vs h K:=fun ρ hr ar hH hv=>by
 unfold Fresh at hp;obtain⟨t1,t2,hp⟩:=hp;obtain⟨k,r,hr',ρ',h1,h2,h3,h4⟩:=hp hr ar (Jg _ _ t1 hv);obtain⟨q1,q2,q3⟩:=qUJ (h2:=hr') t2 hH h2 h3 (fun i a ha=>h4.new0 ha) (fun a o ho=>h4.pres a o ho (fun i hi=>by cases hi)) (fun _ _ _ _ ho=>ho) h4.fr;exact⟨k,r,hr',_,_,_,h1,hk,q1,q2,q3,by simp,fun a o ho=>h4.pres a o ho (fun i hi=>by cases hi)⟩
theorem SCall.fresh{K:AV->List qC->Prop}(hp:Fresh Γ g vs t)(hk:K (lay t h.length).1 (h++(lay t h.length).2)):SCall Γ g vs h K:=fun ρ hr ar hH hv=>by
 unfold Fresh at hp;obtain⟨t1,t2,hp⟩:=hp;obtain⟨k,r,hr',ρ',h1,h2,h3,h4⟩:=hp hr ar (Jg _ _ t1 hv);obtain⟨q1,q2,q3⟩:=qUJ (h2:=hr') t2 hH h2 h3 (fun i a ha=>h4.new0 ha) (fun a o ho=>h4.pres a o ho (fun i hi=>by cases hi)) (fun _ _ _ _ ho=>ho) h4.fr;exact⟨k,r,hr',_,_,_,h1,hk,q1,q2,q3,by simp⟩
end Go.Ab
namespace Go.Ab
open Go
section
variable {Γ:Nat->Option AFn} {g:Nat}
theorem qAP{μ:List (Option Nat)}{h:List qC}:∀{r:List (Option Nat)}{h':List qC},r.length=h'.length->(∀(i:Nat)(j:Option Nat)(o:qC),r[i]?=some j->h'[i]?=some o->OR2 μ h j o)->jT μ h r h'
 |[],[],_,_=>trivial
 | j::r,o::h',hl,hh=>⟨hh 0 j o rfl rfl,qAP (by simpa using hl) fun i j o h1 h2=>hh (i+1) j o (by simpa using h1) (by simpa using h2)⟩
 |[],_::_,hl,_=>by simp at hl
 | _::_,[],hl,_=>by simp at hl
def Mark(Γ:Nat->Option AFn)(g:Nat)(t t':AV)(k k':Int):Prop:=
 t.pl=true/\t'.pl=true/\t'.rows=t.rows/\∀ρ hr r,qw ρ (lay t 0).2 hr->RelV ρ (lay t 0).1 r->∃kk hr' ρ',Ex Γ kk (.call g [r,.int .i64 k] hr) (.res (.ok (.int .i64 k')) hr')/\qw ρ' (lay t' 0).2 hr'/\Fm t.rows ρ hr ρ' hr'
def FinM(vs:Option (List AV))(h:List qC)(k:Int)(os:List qC):Prop:=vs=some [.int .i64 k]/\h=os
def kH(res:List zb)(k:Int)(os:List qC):qS->VSt->Prop:=fun e st=>(e=.nrm\/e=.ret)/\FinM (zC (zy st) res) st.h k os
@[go_sem] theorem qiF{res:List zb}{k:Int}{os:List qC}{s m:qf}{h:List qC}:kH res k os .ret ⟨s,m,h⟩=FinM (zC (zy ⟨s,m,h⟩) res) h k os:=by
 simp[kH]
theorem Mark.intro{F:qI}{t t':AV}{k k':Int}(hg:Γ g=some (.fn F))(hok:F.body.ok=true)(hn:F.np=2)(hp:t.pl=true)(hp':t'.pl=true)(hl:t'.rows=t.rows)
  (hR:R ⟨Γ,t.rows,[],[]⟩ [.code F.body] ⟨qH 0 [(lay t 0).1,.int .i64 k],[],(lay t 0).2⟩ (kH F.res k' (lay t' 0).2)):Mark Γ g t t' k k':=by
 refine⟨hp,hp',hl,fun ρ hr r hH hv=> ?_⟩;have hS:qt ρ ⟨qH 0 [(lay t 0).1,.int .i64 k],[],(lay t 0).2⟩ {s:=params 0 [r,.int .i64 k],l:=Env.empty,h:=hr}:=
  ⟨Z3 (by simp only[RelVs];exact⟨_,_,rfl,hv,_,_,rfl,by simp only[RelV],rfl⟩),(fun n v h=>by cases h),hH⟩
 obtain⟨kk,e,sr',ρ',st',g1,⟨he,hq⟩,g3,g4,_⟩:=Sem.of (by simpa only [lAc,List.all_nil,Bool.and_true,Fr1.ok]using hok) hR ρ _ hS (by rw[zd];exact nLr _);have hb:Ex Γ kk (.code F.body {s:=params 0 [r,.int .i64 k],l:=Env.empty,h:=hr}) (.st e sr'):=by
  cases g1 with
  | code h h'=>cases h';exact h
  | codeX h he' hx h'=>cases e<;>simp[exK]at hx
  | codeE h he' hx=>exact h
 obtain⟨q1,q2⟩:=hq;obtain⟨rs,q3,q4⟩:=Qi g3 q1;have hx:=Ex.fn hg (by rw[hn];rfl) hb he q3;have hr1:RelV ρ' (.int .i64 k') (zQ rs):=ZF q4;simp only[RelV]at hr1;rw[hr1]at hx;exact⟨kk+1,_,ρ',hx,by rw[<-q2];exact g3.h,g4⟩
theorem SCall.mark{K:AV->List qC->Prop}{pre post h:List qC}{t t':AV}{k k':Int}{v:AV}(hm:Mark Γ g t t' k k')(hh:h=pre++((lay t pre.length).2++post))(hva:v=(lay t pre.length).1)
  (hk:K (.int .i64 k') (pre++((lay t' pre.length).2++post))):SCall Γ g [v,.int .i64 k] h K:=fun ρ hr ar hH hv=>by
 obtain⟨hp,hp',hl,hm⟩:=hm;subst hh;subst hva;simp only[RelVs,RelV]at hv;obtain⟨r,rs,rfl,hv,_,_,rfl,rfl,rfl⟩:=hv;obtain⟨n,hn⟩:∃n,n=pre.length:=⟨_,rfl⟩;rw[<-hn]at hH hv hk;have mid:∀i,(hi:i<t.rows)->∃w xs b,(pre++((lay t n).2++post))[n+i]?=some (.row w (qZ xs b).1 true)/\(lay t n).2[i]?=some (.row w (qZ xs b).1 true):=fun i hi=>by
  have hlt:i<(lay t n).2.length:=by rw[zd];exact hi
  obtain⟨w,xs,b,e,_⟩:=ku t n i _ hp (gEg hlt);refine⟨w,xs,b, ?_,by rw[gEg hlt,e]⟩;rw[gAr (by omega),<-hn,Nat.add_sub_cancel_left,gAl hlt,gEg hlt,e]
 have sh:Sh2 ρ n (fun i=>if i<t.rows then ρ (n+i)else none) 0 t.rows:=fun i hi=>by
  simp only[nZa];rw[if_pos hi]
 have lies:Lies ρ n (lay t n).2 hr:=fun i o hi=>hH.obj (n+i) o (by
  rw[gAr (by omega),<-hn,Nat.add_sub_cancel_left,gAl (gSi.1 hi).1];exact hi)
 have lies0:=X1 t n 0 hp sh (fun _ _ _ _ _ h=>h) lies;have hH0:qw (fun i=>if i<t.rows then ρ (n+i)else none) (lay t 0).2 hr:=by
  refine⟨fun i o hi=>by have:=lies0 i o hi;rwa[nZa]at this,fun i j a o o' h1 h2 _ _ _ _=> ?_,fun i hi=> ?_,fun i a ha=> ?_⟩
  ·try simp only at h1 h2
   split at h1
   ·rename_i q1;split at h2
    ·rename_i q2;obtain⟨w1,x1,b1,e1,_⟩:=mid i q1;obtain⟨w2,x2,b2,e2,_⟩:=mid j q2;have:=hH.inj _ _ a _ _ h1 h2 e1 e2 (by simp) (by simp);omega
    ·cases h2
   ·cases h1
  ·rw[zd]at hi;show (if i<t.rows then ρ (n+i)else none)=none;rw[if_neg (by omega)]
  ·try simp only at ha
   split at ha
   ·exact hH.is _ a ha
   ·cases ha
 obtain⟨kk,hr',ρ',hx,hH',hF⟩:=hm _ hr r hH0 (kq t n 0 r hp sh hv);have hρ:∀i,ρ' i=if i<t.rows then ρ (n+i)else none:=fun i=>by
  by_cases q:i<t.rows
  ·exact hF.base i q
  ·rw[if_neg q];exact hH'.out i (by rw[zd];omega)
 have sh':Sh2 ρ' 0 ρ n t'.rows:=fun i hi=>by
  rw[nZa,hρ,if_pos (by omega)]
 have lies':Lies ρ n (lay t' n).2 hr':=X1 t' 0 n hp' sh' (fun _ _ _ _ _ h=>h) (fun i o hi=>by rw[nZa];exact hH'.obj i o hi);have out:∀(i a:Nat)(o:qC),(i<n\/n+t.rows<=i)->(pre++((lay t n).2++post))[i]?=some o->o≠.dead->ρ i=some (some a)->∀x,hr a=some x->hr' a=some x:=fun i a o hi ho hd ha x hxx=>by
  refine hF.pres a x hxx fun j hj=> ?_
  try simp only at hj
  split at hj
  ·rename_i q;obtain⟨w,xs,b,e,_⟩:=mid j q;have:=hH.inj _ _ a _ _ ha hj ho e hd (by simp);omega
  ·cases hj
 have hlen:(lay t' n).2.length=t.rows:=by rw[zd,hl]
 have hlen0:(lay t n).2.length=t.rows:=by rw[zd]
 have oldAt:∀(i:Nat)(o:qC),(pre++((lay t' n).2++post))[i]?=some o->(i<n\/n+t.rows<=i)->(pre++((lay t n).2++post))[i]?=some o:=fun i o ho hi=>by
  rcases hi with q | q
  ·rw[gAl (by omega)]at ho|-;exact ho
  ·rw[gAr (by omega),gAr (by omega)]at ho|-;rw[hlen]at ho;rw[hlen0];exact ho
 refine⟨kk,_,hr',ρ,_,_,hx,hk,⟨fun i o hi=> ?_,fun i j a o o' h1 h2 hi hj d1 d2=> ?_,fun i hi=>hH.out i (by simp only[lAp,hlen,hlen0]at hi|-;exact hi),fun i a ha=> ?_⟩,by simp only[RelV],⟨fun a o ho hno=>hF.pres a o ho fun j hj=> ?_,fun i a ha=>.inl ⟨i,ha⟩,hF.fr,fun _ _=>rfl⟩,by simp only[lAp,zd,hl];omega⟩
 ·by_cases q:i<n\/n+t.rows<=i
  ·have ho:=oldAt i o hi q;by_cases hd:o=.dead
   ·subst hd;trivial
   ·exact(hH.obj i o ho).mono (fun _ _ h=>h) fun a x ha hxx=>out i a o q ho hd ha x hxx
  ·have q1:n<=i:=by omega
   have:=lies' (i-n) o (by
    rw[gAr (by omega),gAl (by rw[hlen];omega),<-hn]at hi;exact hi)
   rwa[show n+(i-n)=i by omega]at this
 ·have back:∀(i:Nat)(o:qC),(pre++((lay t' n).2++post))[i]?=some o->o≠.dead->∃o2,(pre++((lay t n).2++post))[i]?=some o2/\o2≠.dead:=fun i o ho hd=>by
   by_cases q:i<n\/n+t.rows<=i
   ·exact⟨o,oldAt i o ho q,hd⟩
   ·obtain⟨w,xs,b,e,_⟩:=mid (i-n) (by omega);rw[show n+(i-n)=i by omega]at e;exact⟨_,e,by simp⟩
  obtain⟨o2,e1,e2⟩:=back i o hi d1;obtain⟨o3,e3,e4⟩:=back j o' hj d2;exact hH.inj i j a o2 o3 h1 h2 e1 e3 e2 e4
 ·obtain⟨o,ho⟩:=hH.is i a ha;by_cases q:∃j,ρ' j=some (some a)
  ·obtain⟨j,hj⟩:=q;exact hH'.is j a hj
  ·refine⟨o,hF.pres a o ho fun j hj=>q ⟨j, ?_⟩⟩;rw[hρ];exact hj
 ·try simp only at hj
  split at hj
  ·exact hno _ hj
  ·cases hj
mutual
def AV.cn:AV->Bool
 |.lst w xs c=>decide (0<w)&& !c&&AV.cns xs
 |.agg xs |.tup xs=>AV.cns xs
 | _=>true
def AV.cns:List AV->Bool
 |[]=>true
 | x::xs=>AV.cn x&&AV.cns xs
end
theorem qY3{h:List qC}{a b:AV}{as bs:List AV}(x:Cv h a b)(y:∀p∈as.zip bs,Cv h p.1 p.2):∀p∈(a::as).zip (b::bs),Cv h p.1 p.2:=fun p hp=>by
 simp only[List.zip_cons_cons,List.mem_cons]at hp;rcases hp with rfl | hp
 ·exact x
 ·exact y p hp
mutual
theorem qVJ{h:List qC}:∀(t:AV)(a:Nat),t.pl=true->t.cn=true->(∀i o,(lay t a).2[i]?=some o->h[a+i]?=some o)->Cv h (lay t a).1 t
 |.lst w xs c,a,hp,hc,hh=>by
  simp only[AV.cn,bAt,dTe,bNt]at hc;obtain⟨⟨h0,rfl⟩,hc⟩:=hc;simp only[lay]at hh|-;have l:=we xs (a+1);refine .slc (hh 0 _ rfl) (by omega) h0 (by rw[List.drop_zero,<-l,lTl,l]) ?_;rw[List.drop_zero,<-l,lTl];exact X2 xs (a+1) hp hc fun i o hi=>by
   rw[show a+1+i=a+(i+1) by omega];exact hh (i+1) o (by simpa using hi)
 |.agg xs,a,hp,hc,hh=>by
  simp only[lay]at hh|-;exact .agg (we xs a) (X2 xs a hp hc hh)
 |.tup xs,a,hp,hc,hh=>by
  simp only[lay]at hh|-;exact .tup (we xs a) (X2 xs a hp hc hh)
 |.bool _,_,_,_,_ |.int _ _,_,_,_,_ |.str _,_,_,_,_ |.nilp,_,_,_,_ |.nils,_,_,_,_ |.nilm,_,_,_,_ |.nilf,_,_,_,_ |.nili,_,_,_,_=>by
  simp only[lay];exact .refl rfl
 |.any,_,hp,_,_ |.ptr _ _ _,_,hp,_,_ |.slice _ _ _ _ _,_,hp,_,_ |.map _,_,hp,_,_ |.ept _ _,_,hp,_,_ |.fn _ _,_,hp,_,_ |.iface _ _,_,hp,_,_=>by cases hp
theorem X2{h:List qC}:∀(xs:List AV)(a:Nat),AV.pls xs=true->AV.cns xs=true->(∀i o,(qZ xs a).2[i]?=some o->h[a+i]?=some o)->∀p∈(qZ xs a).1.zip xs,Cv h p.1 p.2
 |[],_,_,_,_=>fun p hp=>by simp at hp
 | x::xs,a,hp,hc,hh=>by
  simp only[AV.pls,bAt]at hp;simp only[AV.cns,bAt]at hc;simp only[qZ,zd]at hh|-;refine qY3 (qVJ x a hp.1 hc.1 fun i o hi=>hh i o (by rw[gAl (gSi.1 hi).1];exact hi)) (X2 xs _ hp.2 hc.2 fun i o hi=> ?_);rw[show a+x.rows+i=a+(x.rows+i) by omega];exact hh _ o (by rw[gAr (by rw[zd];omega),zd,Nat.add_sub_cancel_left];exact hi)
end
theorem qdN{pre post h:List qC}{t:AV}(hp:t.pl=true)(hc:t.cn=true)(hh:h=pre++((lay t pre.length).2++post)):Cv h (lay t pre.length).1 t:=
 qVJ t _ hp hc fun i o hi=>by
  rw[hh,gAr (by omega),Nat.add_sub_cancel_left,gAl (gSi.1 hi).1];exact hi
end
section
variable {E:Ev} {ks:List Fr1} {s m:qf} {h:List qC} {Q:qS->VSt->Prop} {l:List qA}
theorem qaM{ck:List qA}{k e:Nat}{vs:List AV}{t:AV}(hp:Fresh E.Γ k vs t)(hr:R E (.ops l::ks) ⟨(e,(lay t h.length).1)::s,m,h++(lay t h.length).2⟩ Q):jv E (some (k,vs)) ck (some e) l ks ⟨s,m,h⟩ Q:=by
 unfold jv;cases ck
 ·exact SCallX.of (SCall.fresh hp hr)
 ·exact Or.inl (SCallK.fresh hp hr)
end
section
variable {α:Type} {enc:α->AV} {w:Nat} {sh:Option Nat} {Γ:Nat->Option AFn} {g gc:Nat}
theorem ZI(h:∀x,(enc x).pl=true):∀xs:List α,AV.pls (xs.map enc)=true
 |[]=>rfl
 | x::xs=>by simp only[lMc,AV.pls,h x,ZI h xs,Bool.and_self]
theorem Qz(h:∀x,(enc x).cn=true):∀xs:List α,AV.cns (xs.map enc)=true
 |[]=>rfl
 | x::xs=>by simp only[lMc,AV.cns,h x,Qz h xs,Bool.and_self]
theorem qdO{t:AV}{n:Nat}(hp:t.pl=true):(lay t n).1.cells.length=t.cells.length:=by
 cases t<;>first
  | rfl
  | (cases hp;done)
  | (simp only[lay,AV.cells];exact we _ _)
theorem qdP{t:AV}{n k:Nat}(hp:t.pl=true)(ha:∃cs,t=.agg cs)(hk:t.cells.length=k):(lay t n).1.part 0 (some k)=some (lay t n).1:=by
 obtain⟨cs,rfl⟩:=ha;simp only[AV.cells]at hk;simp only[lay,AV.part,AV.cells,we,hk,nZa,nLr,if_true,List.drop_zero];rw[List.take_of_length_le (by rw[we];omega)]
section
variable {E:Ev} {ks:List Fr1} {s m:qf} {h:List qC} {Q:qS->VSt->Prop} {l:List qA}
end
end
section
variable {Γ:Nat->Option AFn} {g:Nat} {w:Nat} {z:AV}
theorem qWN{μ:List (Option Nat)}{h:List qC}:∀{r1 r2:List (Option Nat)}{h1 h2:List qC},jT μ h r1 h1->jT μ h r2 h2->jT μ h (r1++r2) (h1++h2)
 |[],_,[],_,_,k=>k
 | _::_,_,_::_,_,j,k=>⟨j.1,qWN j.2 k⟩
 |[],_,_::_,_,j,_=>j.elim
 | _::_,_,[],_,j,_=>j.elim
end
section
variable {μ μ':List (Option Nat)} {h h':List qC}
theorem VR2s.hd{a b:AV}{as bs:List AV}(x:VR2s μ (a::as) (b::bs)):VR2 μ a b/\VR2s μ as bs:=
 ⟨x.2 (a,b) (by simp),by have:=x.1;simpa using this,fun p hp=>x.2 p (by simp only[List.zip_cons_cons];exact List.mem_cons_of_mem _ hp)⟩
theorem VR2.aggs{v:AV}{ds:List AV}(x:VR2 μ v (.agg ds)):∃cs,v=.agg cs/\VR2s μ cs ds:=by
 cases x with
 | tree ht=>exact⟨ds,rfl,VR2s.trees (by simpa only [AV.tree]using ht)⟩
 | agg hl hc=>exact⟨_,rfl,hl,hc⟩
theorem VR2.tups{v:AV}{ds:List AV}(x:VR2 μ v (.tup ds)):∃cs,v=.tup cs/\VR2s μ cs ds:=by
 cases x with
 | tree ht=>exact⟨ds,rfl,VR2s.trees (by simpa only [AV.tree]using ht)⟩
 | tup hl hc=>exact⟨_,rfl,hl,hc⟩
theorem VR2.slc0{v:AV}{w a b n:Nat}(h:μ'[b]?=μ[a]?)(x:VR2 μ v (.slice w a 0 n false)):VR2 μ' v (.slice w b 0 n false):=by
 cases x with
 | tree ht=>simp[AV.tree]at ht
 | slice hm=>exact .slice (h.trans hm)
 | ph hm=>exact .ph (h.trans hm)
 | ph2 hm=>exact .ph2 (h.trans hm)
mutual
theorem VR2.move:∀(t:AV)(a b:Nat)(v:AV),t.pl=true->(∀i,i<t.rows->μ'[b+i]?=μ[a+i]?)->VR2 μ v (lay t a).1->VR2 μ' v (lay t b).1
 |.lst w xs c,a,b,v,hp,hm,hv=>by
  simp only[lay]at hv|-;exact hv.slc0 (by have:=hm 0 (by simp only[AV.rows];omega);simpa using this)
 |.agg xs,a,b,v,hp,hm,hv=>by
  simp only[lay]at hv|-;obtain⟨cs,rfl,hc⟩:=hv.aggs;have:=VR2.moves xs a b cs hp hm hc;exact .agg this.1 this.2
 |.tup xs,a,b,v,hp,hm,hv=>by
  simp only[lay]at hv|-;obtain⟨cs,rfl,hc⟩:=hv.tups;have:=VR2.moves xs a b cs hp hm hc;exact .tup this.1 this.2
 |.bool _,_,_,_,_,_,hv |.int _ _,_,_,_,_,_,hv |.str _,_,_,_,_,_,hv |.nilp,_,_,_,_,_,hv |.nils,_,_,_,_,_,hv |.nilm,_,_,_,_,_,hv |.nilf,_,_,_,_,_,hv |.nili,_,_,_,_,_,hv=>by
  simp only[lay]at hv|-;cases hv;exact .tree (by rfl)
 |.any,_,_,_,hp,_,_ |.ptr _ _ _,_,_,_,hp,_,_ |.slice _ _ _ _ _,_,_,_,hp,_,_ |.map _,_,_,_,hp,_,_ |.ept _ _,_,_,_,hp,_,_ |.fn _ _,_,_,_,hp,_,_ |.iface _ _,_,_,_,hp,_,_=>by cases hp
theorem VR2.moves:∀(xs:List AV)(a b:Nat)(vs:List AV),AV.pls xs=true->(∀i,i<AV.rowss xs->μ'[b+i]?=μ[a+i]?)->VR2s μ vs (qZ xs a).1->VR2s μ' vs (qZ xs b).1
 |[],a,b,vs,_,_,hv=>by
  have:vs=[]:=lEz hv.1;subst this;exact VR2s.nil
 | x::xs,a,b,vs,hp,hm,hv=>by
  simp only[AV.pls,bAt]at hp;simp only[AV.rowss]at hm;simp only[qZ,zd]at hv|-;cases vs with
  | nil=>have:=hv.1;simp at this
  | cons v vs=>
   obtain⟨h1,h2⟩:=hv.hd;refine .cons (VR2.move x a b v hp.1 (fun i hi=>hm i (by omega)) h1) (VR2.moves xs _ _ vs hp.2 (fun i hi=> ?_) h2);rw[show b+x.rows+i=b+(x.rows+i) by omega,show a+x.rows+i=a+(x.rows+i) by omega];exact hm _ (by omega)
end
mutual
theorem OR2.move:∀(t:AV)(a b:Nat),t.pl=true->(∀i,i<t.rows->μ'[b+i]?=μ[a+i]?)->∀(i:Nat)(j:Option Nat)(o o':qC),(lay t a).2[i]?=some o->(lay t b).2[i]?=some o'->OR2 μ h j o->OR2 μ' h j o'
 |.lst w xs c,a,b,hp,hm,i,j,o,o',h1,h2,ho=>by
  simp only[lay]at h1 h2;simp only[AV.rows]at hm;have hm':∀i,i<AV.rowss xs->μ'[b+1+i]?=μ[a+1+i]?:=fun i hi=>by
   rw[show b+1+i=b+(i+1) by omega,show a+1+i=a+(i+1) by omega];exact hm _ (by omega)
  cases i with
  | zero=>
   simp only[List.getElem?_cons_zero,oSi]at h1 h2;subst h1 h2;generalize he:(qZ xs (a+1)).1=el at ho;cases ho with
   | ph=>
    have:xs=[]:=lEz (by rw[<-we xs (a+1),he];rfl);subst this;exact .ph
   | row hr hv=>
    rw[<-he]at hv;exact .row hr (VR2.moves xs _ _ _ hp hm' hv)
  | succ i=>
   simp only[List.getElem?_cons_succ]at h1 h2;exact OR2.moves xs (a+1) (b+1) hp hm' i j o o' h1 h2 ho
 |.agg xs,a,b,hp,hm,i,j,o,o',h1,h2,ho=>by
  simp only[lay]at h1 h2;exact OR2.moves xs a b hp hm i j o o' h1 h2 ho
 |.tup xs,a,b,hp,hm,i,j,o,o',h1,h2,ho=>by
  simp only[lay]at h1 h2;exact OR2.moves xs a b hp hm i j o o' h1 h2 ho
 |.bool _,_,_,_,_,_,_,_,_,h1,_,_ |.int _ _,_,_,_,_,_,_,_,_,h1,_,_ |.str _,_,_,_,_,_,_,_,_,h1,_,_ |.nilp,_,_,_,_,_,_,_,_,h1,_,_ |.nils,_,_,_,_,_,_,_,_,h1,_,_ |.nilm,_,_,_,_,_,_,_,_,h1,_,_ |.nilf,_,_,_,_,_,_,_,_,h1,_,_ |.nili,_,_,_,_,_,_,_,_,h1,_,_=>by
  simp[lay]at h1
 |.any,_,_,hp,_,_,_,_,_,_,_,_ |.ptr _ _ _,_,_,hp,_,_,_,_,_,_,_,_ |.slice _ _ _ _ _,_,_,hp,_,_,_,_,_,_,_,_ |.map _,_,_,hp,_,_,_,_,_,_,_,_ |.ept _ _,_,_,hp,_,_,_,_,_,_,_,_ |.fn _ _,_,_,hp,_,_,_,_,_,_,_,_ |.iface _ _,_,_,hp,_,_,_,_,_,_,_,_=>by cases hp
theorem OR2.moves:∀(xs:List AV)(a b:Nat),AV.pls xs=true->(∀i,i<AV.rowss xs->μ'[b+i]?=μ[a+i]?)->∀(i:Nat)(j:Option Nat)(o o':qC),(qZ xs a).2[i]?=some o->(qZ xs b).2[i]?=some o'->OR2 μ h j o->OR2 μ' h j o'
 |[],_,_,_,_,_,_,_,_,h1,_,_=>by simp[qZ]at h1
 | x::xs,a,b,hp,hm,i,j,o,o',h1,h2,ho=>by
  simp only[AV.pls,bAt]at hp;simp only[AV.rowss]at hm;simp only[qZ,zd]at h1 h2;rcases Nat.lt_or_ge i x.rows with q | q
  ·rw[gAl (by rw[zd];exact q)]at h1 h2;exact OR2.move x a b hp.1 (fun i hi=>hm i (by omega)) i j o o' h1 h2 ho
  ·rw[gAr (by rw[zd];exact q),zd]at h1 h2;refine OR2.moves xs (a+x.rows) (b+x.rows) hp.2 (fun i hi=> ?_) (i-x.rows) j o o' h1 h2 ho;rw[show b+x.rows+i=b+(x.rows+i) by omega,show a+x.rows+i=a+(x.rows+i) by omega];exact hm _ (by omega)
end
theorem qeQ{r:List (Option Nat)}{t:AV}{a b:Nat}(hp:t.pl=true)(hm:∀i,i<t.rows->μ'[b+i]?=μ[a+i]?)(ho:jT μ h r (lay t a).2):jT μ' h r (lay t b).2:=by
 have hl:=Zz ho;rw[zd]at hl;refine qAP (by rw[hl,zd]) fun i j o' h1 h2=> ?_;have hi:i<(lay t a).2.length:=by have:=(gSi.1 h2).1;rw[zd]at this|-;exact this
 obtain⟨j',hj,hor⟩:=ZD ho i _ (gEg hi);rw[h1]at hj;cases hj;exact OR2.move t a b hp hm i j _ o' (gEg hi) h2 hor
theorem YJ{r:List (Option Nat)}{xs:List AV}{a b:Nat}(hp:AV.pls xs=true)(hm:∀i,i<AV.rowss xs->μ'[b+i]?=μ[a+i]?)(ho:jT μ h r (qZ xs a).2):jT μ' h r (qZ xs b).2:=by
 have hl:=Zz ho;rw[wZ]at hl;refine qAP (by rw[hl,wZ]) fun i j o' h1 h2=> ?_;have hi:i<(qZ xs a).2.length:=by have:=(gSi.1 h2).1;rw[wZ]at this|-;exact this
 obtain⟨j',hj,hor⟩:=ZD ho i _ (gEg hi);rw[h1]at hj;cases hj;exact OR2.moves xs a b hp hm i j _ o' (gEg hi) h2 hor
theorem qAO:∀{r:List (Option Nat)}{os:List qC},(∀j,some j∈r->h'[j]?=h[j]?)->jT μ h r os->jT μ h' r os
 |[],[],_,k=>k
 | j::r,o::os,hh,k=>by
  refine⟨?_,qAO (fun i hi=>hh i (List.mem_cons_of_mem _ hi)) k.2⟩;have k1:=k.1;cases k1 with
  | dead=>exact .dead
  | ph=>exact .ph
  | row ho he=>exact .row ((hh _ (by simp)).trans ho) he
  | map ho hk hv=>exact .map ((hh _ (by simp)).trans ho) hk hv
 |[],_::_,_,k=>k.elim
 | _::_,[],_,k=>k.elim
theorem Xn:∀{a b:List (Option Nat)},zk a=true->zk b=true->(∀j,some j∈a->some j∉b)->zk (a++b)=true
 |[],b,_,hb,_=>hb
 | none::a,b,ha,hb,hn=>by
  simp only[lCa,zk]at ha|-;exact Xn ha hb fun j hj=>hn j (List.mem_cons_of_mem _ hj)
 | some j::a,b,ha,hb,hn=>by
  simp only[lCa,zk,bAt,lAt]at ha|-;refine⟨fun x hx=> ?_,Xn ha.2 hb fun j hj=>hn j (List.mem_cons_of_mem _ hj)⟩;rcases ja.1 hx with hx | hx
  ·exact ha.1 x hx
  ·cases x with
   | none=>rfl
   | some k=>
    have:j≠k:=by rintro rfl;exact hn j (by simp) hx
    have hb:Nat.beq j k=false:=by rw[<-Bool.not_eq_true];intro q;exact this (Nat.eq_of_beq_eq_true q)
    simp only[hb];rfl
theorem qbP{k:Nat}{b:List (Option Nat)}(hb:zk b=true)(hn:some k∉b):zk (some k::b)=true:=by
 have:=Xn (a:=[some k]) (b:=b) rfl hb (fun j hj=>by simp at hj;subst hj;exact hn);exact this
end
theorem VR2s.app{μ:List (Option Nat)}:∀{as bs cs ds:List AV},VR2s μ as bs->VR2s μ cs ds->VR2s μ (as++cs) (bs++ds)
 |[],[],_,_,_,k=>k
 | a::as,b::bs,_,_,j,k=>VR2s.cons j.hd.1 (VR2s.app j.hd.2 k)
 |[],_::_,_,_,j,_=>by have:=j.1;simp at this
 | _::_,[],_,_,j,_=>by have:=j.1;simp at this
structure qu(S:List (Option Nat))(h:List qC)(v t:AV):Prop where
 p:t.pl=true
 d:zk S=true
 o:jT S h S (lay t 0).2
 v:VR2 S v (lay t 0).1
structure zT(S:List (Option Nat))(h:List qC)(vs ts:List AV):Prop where
 p:AV.pls ts=true
 d:zk S=true
 o:jT S h S (qZ ts 0).2
 v:VR2s S vs (qZ ts 0).1
theorem qXB:∀{as bs:List AV},AV.pls (as++bs)=(AV.pls as&&AV.pls bs)
 |[],_=>by simp[AV.pls]
 | a::as,bs=>by simp[AV.pls,qXB (as:=as),Bool.and_assoc]
section
variable {S S':List (Option Nat)} {h h':List qC} {v t:AV} {vs ts vs' ts':List AV}
theorem qu.len(x:qu S h v t):S.length=t.rows:=by rw[Zz x.o,zd]
theorem zT.len(x:zT S h vs ts):S.length=AV.rowss ts:=by rw[Zz x.o,wZ]
theorem zT.cnt(x:zT S h vs ts):vs.length=ts.length:=by rw[x.v.1,we]
theorem qu.heap(x:qu S h v t)(hh:∀j,some j∈S->h'[j]?=h[j]?):qu S h' v t:=⟨x.p,x.d,qAO hh x.o,x.v⟩
theorem zT.heap(x:zT S h vs ts)(hh:∀j,some j∈S->h'[j]?=h[j]?):zT S h' vs ts:=⟨x.p,x.d,qAO hh x.o,x.v⟩
theorem zT.nil:zT [] h [] []:=⟨rfl,rfl,trivial,VR2s.nil⟩
theorem zT.app(x:zT S h vs ts)(y:zT S' h vs' ts')(hn:∀j,some j∈S->some j∉S'):zT (S++S') h (vs++vs') (ts++ts'):=by
 have l1:=x.len;have l2:=y.len;have m1:∀i,i<AV.rowss ts->(S++S')[0+i]?=S[0+i]?:=fun i hi=>gAl (by omega);have m2:∀i,i<AV.rowss ts'->(S++S')[0+AV.rowss ts+i]?=S'[0+i]?:=fun i hi=>by
  rw[gAr (by omega)];congr 1;omega
 refine⟨by rw[qXB,x.p,y.p];rfl,Xn x.d y.d hn, ?_, ?_⟩
 ·rw[qAA];exact qWN (YJ x.p m1 x.o) (YJ y.p m2 y.o)
 ·rw[qAA];exact VR2s.app (VR2.moves _ _ _ _ x.p m1 x.v) (VR2.moves _ _ _ _ y.p m2 y.v)
theorem qu.one(x:qu S h v t):zT S h [v] [t]:=by
 refine⟨by simp[AV.pls,x.p],x.d, ?_, ?_⟩
 ·simp only[qZ,lAn];exact x.o
 ·simp only[qZ];exact VR2s.cons x.v VR2s.nil
theorem zT.snoc(x:zT S h vs ts)(y:qu S' h v t)(hn:∀j,some j∈S->some j∉S'):zT (S++S') h (vs++[v]) (ts++[t]):=x.app y.one hn
theorem zT.scal(x:zT S h vs ts){a:AV}(ha:∀n,lay a n=(a,[]))(hp:a.pl=true)(ht:a.tree=true):zT S h (vs++[a]) (ts++[a]):=by
 have y:zT [] h [a] [a]:=⟨by simp[AV.pls,hp],rfl,by simp only[qZ,ha];trivial,by simp only[qZ,ha];exact VR2s.cons (.tree ht) VR2s.nil⟩;have:=x.app y (fun j hj=>by simp);rwa[lAn]at this
theorem zT.agg(x:zT S h vs ts):qu S h (.agg vs) (.agg ts):=⟨by simp only[AV.pl];exact x.p,x.d,by simp only[lay];exact x.o,by simp only[lay];exact .agg x.v.1 x.v.2⟩
theorem zT.tup(x:zT S h vs ts):qu S h (.tup vs) (.tup ts):=⟨by simp only[AV.pl];exact x.p,x.d,by simp only[lay];exact x.o,by simp only[lay];exact .tup x.v.1 x.v.2⟩
theorem qu.aggs{w:AV}(x:qu S h w (.agg ts)):∃vs,w=.agg vs/\zT S h vs ts:=by
 have hv:=x.v;simp only[lay]at hv;obtain⟨cs,rfl,hc⟩:=hv.aggs;exact⟨cs,rfl,by have:=x.p;simp only[AV.pl]at this;exact this,x.d,by have:=x.o;simp only[lay]at this;exact this,hc⟩
theorem zT.row{k w:Nat}(x:zT S h vs ts)(hr:h[k]?=some (.row w vs true))(hn:some k∉S):qu (some k::S) h (.slice w k 0 ts.length false) (.lst w ts false):=by
 have m:∀i,i<AV.rowss ts->(some k::S)[0+1+i]?=S[0+i]?:=fun i hi=>by
  rw[show 0+1+i=i+1 by omega,List.getElem?_cons_succ,nZa]
 refine⟨by simp only[AV.pl];exact x.p,qbP x.d hn, ?_, ?_⟩
 ·simp only[lay];exact⟨.row hr (VR2.moves _ _ _ _ x.p m x.v),YJ x.p m x.o⟩
 ·simp only[lay];exact .slice (by simp)
theorem qu.nils{w:Nat}{c:Bool}:qu [none] h .nils (.lst w [] false):=by
 refine⟨rfl,rfl, ?_, ?_⟩
 ·simp only[lay,qZ];exact⟨.ph,trivial⟩
 ·simp only[lay,qZ,lNi];exact .ph rfl
end
section
variable {S0 S S1:List (Option Nat)} {cs0 ts0 vs ts:List AV} {w si:Nat} {g mid:List qC} {X t:AV}
end
mutual
theorem qW2{S:List (Option Nat)}{h:List qC}:∀(t:AV)(a:Nat)(v:AV),t.pl=true->t.cn=true->VR2 S v (lay t a).1->(∀i o,(lay t a).2[i]?=some o->∃j,S[a+i]?=some j/\OR2 S h j o)->Cv h v t
 |.lst w xs c,a,v,hp,hc,hv,hh=>by
  simp only[AV.cn,bAt,dTe,bNt]at hc;obtain⟨⟨h0,rfl⟩,hc⟩:=hc;simp only[lay]at hv hh;obtain⟨j,hj,ho⟩:=hh 0 _ rfl;rw[nAz]at hj;have l:=we xs (a+1);generalize hnn:xs.length=n at hv;cases hv with
  | tree ht=>simp[AV.tree]at ht
  | slice hm=>
   rw[hm]at hj;cases hj;generalize hel:(qZ xs (a+1)).1=el at ho;cases ho with
   | row hr he=>
    have le:=he.1;rw[<-hel,l]at le;rw[<-hel]at he;refine .slc hr (by omega) h0 (by rw[List.drop_zero,<-hnn,<-le,lTl]) ?_;rw[List.drop_zero,<-hnn,<-le,lTl];exact YM xs (a+1) _ hp hc he fun i o hi=>by
     rw[show a+1+i=a+(i+1) by omega];exact hh (i+1) o (by simpa using hi)
  | ph hm=>
   have:xs=[]:=lEz hnn;subst this;exact .nils
  | ph2 hm=>
   have:xs=[]:=lEz hnn;subst this;exact .clip
 |.agg xs,a,v,hp,hc,hv,hh=>by
  simp only[lay]at hv hh;obtain⟨cs,rfl,hcs⟩:=hv.aggs;exact .agg (by rw[hcs.1,we]) (YM xs a cs hp hc hcs hh)
 |.tup xs,a,v,hp,hc,hv,hh=>by
  simp only[lay]at hv hh;obtain⟨cs,rfl,hcs⟩:=hv.tups;exact .tup (by rw[hcs.1,we]) (YM xs a cs hp hc hcs hh)
 |.bool _,_,_,_,_,hv,_ |.int _ _,_,_,_,_,hv,_ |.str _,_,_,_,_,hv,_ |.nilp,_,_,_,_,hv,_ |.nils,_,_,_,_,hv,_ |.nilm,_,_,_,_,hv,_ |.nilf,_,_,_,_,hv,_ |.nili,_,_,_,_,hv,_=>by
  simp only[lay]at hv;cases hv;exact .refl rfl
 |.any,_,_,hp,_,_,_ |.ptr _ _ _,_,_,hp,_,_,_ |.slice _ _ _ _ _,_,_,hp,_,_,_ |.map _,_,_,hp,_,_,_ |.ept _ _,_,_,hp,_,_,_ |.fn _ _,_,_,hp,_,_,_ |.iface _ _,_,_,hp,_,_,_=>by cases hp
theorem YM{S:List (Option Nat)}{h:List qC}:∀(xs:List AV)(a:Nat)(vs:List AV),AV.pls xs=true->AV.cns xs=true->VR2s S vs (qZ xs a).1->(∀i o,(qZ xs a).2[i]?=some o->∃j,S[a+i]?=some j/\OR2 S h j o)->∀p∈vs.zip xs,Cv h p.1 p.2
 |[],_,_,_,_,_,_=>fun p hp=>by simp at hp
 | x::xs,a,vs,hp,hc,hv,hh=>by
  simp only[AV.pls,bAt]at hp;simp only[AV.cns,bAt]at hc;simp only[qZ,zd]at hv hh;cases vs with
  | nil=>exact fun p hp=>by simp at hp
  | cons v vs=>
   obtain⟨h1,h2⟩:=hv.hd;refine qY3 (qW2 x a v hp.1 hc.1 h1 fun i o hi=>hh i o (by rw[gAl (gSi.1 hi).1];exact hi)) (YM xs _ vs hp.2 hc.2 h2 fun i o hi=> ?_);rw[show a+x.rows+i=a+(x.rows+i) by omega];exact hh _ o (by rw[gAr (by rw[zd];omega),zd,Nat.add_sub_cancel_left];exact hi)
end
theorem qu.cv{S:List (Option Nat)}{h:List qC}{v t:AV}(x:qu S h v t)(hc:t.cn=true):Cv h v t:=
 qW2 t 0 v x.p hc x.v fun i o hi=>by
  obtain⟨j,q1,q2⟩:=ZD x.o i o hi;exact⟨j,by rw[nZa];exact q1,q2⟩
end Go.Ab
namespace Go.Ab
attribute [go_sem] nT nF bFt lCo lNi List.getElem?_cons_zero List.getElem?_cons_succ decide_true eq_self lMp
attribute [go_sem] reduceIte Nat.reduceAdd Nat.reduceEqDiff
end Go.Ab
