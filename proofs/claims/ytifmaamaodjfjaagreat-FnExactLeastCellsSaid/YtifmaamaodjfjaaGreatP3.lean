/- Texts AbL .. AbO4: the abstract machine, its laws and contracts of functions: lemmas for the statement. No condition. -/
import Derived.Attr
import Derived.IntWalk
import Derived.KernelRfl
import Derived.Test.YtifmaamaodjfjaaGreatP0
set_option linter.unusedSimpArgs false
set_option linter.unusedVariables false
namespace Go.Ab
open Go
variable {Γ:Nat->Option AFn}
theorem Ex.le{k:Nat}{j:Job}{r:Out}(h:Ex Γ k j r):∀{k'},k<=k'->Ex Γ k' j r:=by
 induction h with
 | nil=>exact λ_=>.nil
 | skip hw _ ih=>exact λhk=>.skip hw (ih hk)
 | step hw hs hc _ ih=>exact λhk=>.step hw hs hc (ih hk)
 | call hw he _ hc _ ih1 ih2=>exact λhk=>.call hw he (ih1 hk) hc (ih2 hk)
 | callP hw he _ ih=>exact λhk=>.callP hw he (ih hk)
 | panic hw he hv=>exact λ_=>.panic hw he hv
 | cskip=>exact λ_=>.cskip
 | reg _ hp ih=>exact λhk=>.reg (ih hk) hp
 | seqN _ _ ih1 ih2=>exact λhk=>.seqN (ih1 hk) (ih2 hk)
 | seqX _ he ih=>exact λhk=>.seqX (ih hk) he
 | cond hc _ ih=>exact λhk=>.cond hc (ih hk)
 | blk _ ih=>exact λhk=>.blk (ih hk)
 | loopN _ _ ih1 ih2=>exact λhk=>.loopN (ih1 hk) (ih2 hk)
 | loopX _ he ih=>exact λhk=>.loopX (ih hk) he
 | exit=>exact λ_=>.exit
 | ret=>exact λ_=>.ret
 | @fn k g F as h st e vs hg hn _ he hr ih=>
  intro k' hk;cases k' with
  | zero=>omega
  | succ k'=>exact .fn hg hn (ih (by omega)) he hr
 | @fnP k g F as h st v hg hn _ ih=>
  intro k' hk;cases k' with
  | zero=>omega
  | succ k'=>exact .fnP hg hn (ih (by omega))
 | ext hg hr=>exact λ_=>.ext hg hr
 | frz K hf _ ih=>exact λhk=>.frz K hf (ih hk)
 | cvh K id w el el' rw' hK hid ho hl hc _ ih=>exact λhk=>.cvh K id w el el' rw' hK hid ho hl hc (ih hk)
 | frzA K hK hl hc _ ih=>exact λhk=>.frzA K hK hl hc (ih hk)
 | frzR K hK hc _ ih=>exact λhk=>.frzR K hK hc (ih hk)
 | brw K hK hl hc ht _ ih=>exact λhk=>.brw K hK hl hc ht (ih hk)
 | nilc id hid hh1 hh2 ht _ _ ih1 ih2=>exact λhk=>.nilc id hid hh1 hh2 ht (ih1 hk) (ih2 hk)
 | brn K S hK hl hc hv hn _ ih=>exact λhk=>.brn K S hK hl hc hv hn (ih hk)
 | drop hh ht _ ih=>exact λhk=>.drop hh ht (ih hk)
 | trim n ho _ ih=>exact λhk=>.trim n ho (ih hk)
section
variable {st:St} {Q:qi->St->Prop}
end
end Go.Ab
namespace Go.Ab
open Go
abbrev qp:=List (Nat×AV)
def get:qp->Nat->Option AV
 |[],_=>none
 | (k,v)::r,n=>if k=n then some v else get r n
def toE(s:qp):Env:=λn=>get s n
structure VSt where
 s:qp
 l:qp
 h:List qA
def toH(h:List qA):AH:=⟨λi=>h[i]?,λ_=>false,h.length,λ_i hi=>⟨gEn hi,rfl⟩⟩
abbrev Ren:=Nat->Option (Option Nat)
mutual
def RelV(ρ:Ren):AV->AV->Prop
 |.ptr id i j,r=>∃id',ρ id=some (some id')/\r=.ptr id' i j
 |.slice w id off len clip,r=>(∃id',ρ id=some (some id')/\r=.slice w id' off len clip)\/(ρ id=some none/\off=0/\len=0/\(r=.nils\/r=.lst w [] true))
 |.lst w xs clip,r=>(∃ys c,r=.lst w ys c/\(clip=true->c=true)/\RelVs ρ xs ys)\/(xs=[]/\r=.nils)
 |.ept x j,r=>∃y,r=.ept y j/\RelV ρ x y
 |.map id,r=>∃id',ρ id=some (some id')/\r=.map id'
 |.fn g cs,r=>∃ds,r=.fn g ds/\RelVs ρ cs ds
 |.iface t x,r=>∃y,r=.iface t y/\RelV ρ x y
 |.agg cs,r=>∃ds,r=.agg ds/\RelVs ρ cs ds
 |.tup cs,r=>∃ds,r=.tup ds/\RelVs ρ cs ds
 |.bool b,r=>r=.bool b
 |.int k n,r=>r=.int k n
 |.str s,r=>r=.str s
 |.nilp,r=>r=.nilp
 |.nils,r=>r=.nils
 |.nilm,r=>r=.nilm
 |.nilf,r=>r=.nilf
 |.nili,r=>r=.nili
 |.any,r=>r=.any
def RelVs(ρ:Ren):List AV->List AV->Prop
 |[],r=>r=[]
 | a::as,r=>∃b bs,r=b::bs/\RelV ρ a b/\RelVs ρ as bs
end
def Ren.le(ρ ρ':Ren):Prop:=∀i a,ρ i=some a->ρ' i=some a
section
variable {ρ ρ':Ren}
theorem RelVs.length:∀{as bs:List AV},RelVs ρ as bs->bs.length=as.length
 |[],_,h=>by simp only[RelVs]at h;simp[h]
 | a::as,_,h=>by
  simp only[RelVs]at h;obtain⟨b,bs,rfl,_,h3⟩:=h;simp[RelVs.length h3]
theorem RelVs.iff:∀{as bs:List AV},RelVs ρ as bs↔bs.length=as.length/\∀(i:Nat)(a b:AV),as[i]?=some a->bs[i]?=some b->RelV ρ a b
 |[],bs=>by
  simp only[RelVs];constructor
  ·rintro rfl;exact⟨rfl,λi a v h=>by simp at h⟩
  ·rintro⟨h,_⟩;exact lEz (by simpa using h)
 | a::as,bs=>by
  simp only[RelVs];constructor
  ·rintro⟨u,us,rfl,h2,h3⟩;have:=(RelVs.iff).1 h3;refine⟨by simp[this.1],λi x y hx hy=>?_⟩;cases i with
   | zero=>simp at hx hy;subst hx hy;exact h2
   | succ i=>exact this.2 i x y (by simpa using hx) (by simpa using hy)
  ·rintro⟨h1,h2⟩;cases bs with
   | nil=>simp at h1
   | cons u us=>
    refine⟨u,us,rfl,h2 0 a u rfl rfl,(RelVs.iff).2 ⟨by simpa using h1,λi x y hx hy=>h2 (i+1) x y (by simpa using hx) (by simpa using hy)⟩⟩
theorem RelVs.get{as bs:List AV}(h:RelVs ρ as bs){i:Nat}{a:AV}(ha:as[i]?=some a):∃b,bs[i]?=some b/\RelV ρ a b:=by
 rw[RelVs.iff]at h;have hi:i<bs.length:=by rw[h.1];exact(gSi.1 ha).1
 exact⟨bs[i],gEg hi,h.2 i a _ ha (gEg hi)⟩
theorem RelVs.append{as bs us vs:List AV}(h:RelVs ρ as us)(k:RelVs ρ bs vs):RelVs ρ (as++bs) (us++vs):=by
 induction as generalizing us with
 | nil=>simp only[RelVs]at h;subst h;simpa using k
 | cons a as ih=>
  simp only[RelVs]at h;obtain⟨u,us,rfl,h2,h3⟩:=h;simp only[lCa,RelVs];exact⟨u,us++vs,rfl,h2,ih h3⟩
theorem RelVs.take{as us:List AV}(h:RelVs ρ as us)(n:Nat):RelVs ρ (as.take n) (us.take n):=by
 rw[RelVs.iff]at h|-;refine⟨by simp[h.1],λi a v ha hv=>?_⟩;rw[gTk]at ha hv;split at ha
 ·rename_i hi;rw[iP hi]at hv;exact h.2 i a v ha hv
 ·cases ha
theorem RelVs.drop{as us:List AV}(h:RelVs ρ as us)(n:Nat):RelVs ρ (as.drop n) (us.drop n):=by
 rw[RelVs.iff]at h|-;refine⟨by simp[h.1],λi a v ha hv=>?_⟩;rw[gDr]at ha hv;exact h.2 _ a v ha hv
theorem RelVs.set{as us:List AV}{x y:AV}(h:RelVs ρ as us)(n:Nat)(hx:RelV ρ x y):RelVs ρ (as.set n x) (us.set n y):=by
 rw[RelVs.iff]at h|-;refine⟨by simp[h.1],λi a v ha hv=>?_⟩;rw[gSt]at ha hv;split at ha
 ·rename_i hi;rw[iP hi]at hv;subst hi;rw[h.1]at hv;split at ha
  ·rename_i hl;rw[iP hl]at hv;cases ha;cases hv;exact hx
  ·cases ha
 ·rename_i hi;rw[iN hi]at hv;exact h.2 i a v ha hv
theorem RelVs.one{x y:AV}(h:RelV ρ x y):RelVs ρ [x] [y]:=by simp only[RelVs];exact⟨y,[],rfl,h,rfl⟩
theorem RelVs.replicate{x y:AV}(h:RelV ρ x y)(n:Nat):RelVs ρ (List.replicate n x) (List.replicate n y):=by
 rw[RelVs.iff];refine⟨by simp,λi a v ha hv=>?_⟩;rw[List.getElem?_replicate]at ha hv;split at ha
 ·rename_i hi;rw[iP hi]at hv;cases ha;cases hv;exact h
 ·cases ha
mutual
theorem RelV.mono(hρ:∀i a,ρ i=some a->ρ' i=some a):∀(a b:AV),RelV ρ a b->RelV ρ' a b
 |.bool _,_,h=>by simpa only [RelV]using h
 |.int _ _,_,h=>by simpa only [RelV]using h
 |.str _,_,h=>by simpa only [RelV]using h
 |.nilp,_,h=>by simpa only [RelV]using h
 |.nils,_,h=>by simpa only [RelV]using h
 |.nilm,_,h=>by simpa only [RelV]using h
 |.nilf,_,h=>by simpa only [RelV]using h
 |.nili,_,h=>by simpa only [RelV]using h
 |.any,_,h=>by simpa only [RelV]using h
 |.ptr _ _ _,_,h=>by
  simp only[RelV]at h|-;obtain⟨p,h1,h2⟩:=h;exact⟨p,hρ _ _ h1,h2⟩
 |.map _,_,h=>by
  simp only[RelV]at h|-;obtain⟨p,h1,h2⟩:=h;exact⟨p,hρ _ _ h1,h2⟩
 |.slice _ _ _ _ _,_,h=>by
  simp only[RelV]at h|-;rcases h with⟨p,h1,h2⟩ | ⟨h1,h2⟩
  ·exact .inl ⟨p,hρ _ _ h1,h2⟩
  ·exact .inr ⟨hρ _ _ h1,h2⟩
 |.lst w xs _,_,h=>by
  simp only[RelV]at h|-;rcases h with⟨ys,c,h1,h2,h3⟩ | h
  ·exact .inl ⟨ys,c,h1,h2,RelVs.mono hρ xs ys h3⟩
  ·exact .inr h
 |.ept x _,_,h=>by
  simp only[RelV]at h|-;obtain⟨y,h1,h2⟩:=h;exact⟨y,h1,RelV.mono hρ x y h2⟩
 |.fn _ cs,_,h=>by
  simp only[RelV]at h|-;obtain⟨ds,h1,h2⟩:=h;exact⟨ds,h1,RelVs.mono hρ cs _ h2⟩
 |.iface _ x,_,h=>by
  simp only[RelV]at h|-;obtain⟨u,h1,h2⟩:=h;exact⟨u,h1,RelV.mono hρ x u h2⟩
 |.agg cs,_,h=>by
  simp only[RelV]at h|-;obtain⟨ds,h1,h2⟩:=h;exact⟨ds,h1,RelVs.mono hρ cs _ h2⟩
 |.tup cs,_,h=>by
  simp only[RelV]at h|-;obtain⟨ds,h1,h2⟩:=h;exact⟨ds,h1,RelVs.mono hρ cs _ h2⟩
theorem RelVs.mono(hρ:∀i a,ρ i=some a->ρ' i=some a):∀(as bs:List AV),RelVs ρ as bs->RelVs ρ' as bs
 |[],_,h=>by simpa only [RelVs]using h
 | a::as,bs,h=>by
  simp only[RelVs]at h|-;obtain⟨b,bs,h1,h2,h3⟩:=h;exact⟨b,bs,h1,RelV.mono hρ a b h2,RelVs.mono hρ as bs h3⟩
end
mutual
theorem JT:∀(a:AV),a.tree=true->RelV ρ a a
 |.bool _,_ |.int _ _,_ |.str _,_ |.nilp,_ |.nils,_ |.nilm,_ |.nilf,_ |.nili,_=>by simp only[RelV]
 |.any,h=>by simp[AV.tree]at h
 |.ptr _ _ _,h=>by simp[AV.tree]at h
 |.map _,h=>by simp[AV.tree]at h
 |.slice _ _ _ _ _,h=>by simp[AV.tree]at h
 |.lst w xs c,h=>by simp only[RelV];simp only[AV.tree]at h;exact .inl ⟨xs,c,rfl,id,Z1 xs h⟩
 |.ept x _,h=>by simp only[RelV];simp only[AV.tree]at h;exact⟨x,rfl,JT x h⟩
 |.iface _ x,h=>by simp only[RelV];simp only[AV.tree]at h;exact⟨x,rfl,JT x h⟩
 |.fn _ cs,h=>by simp only[RelV];simp only[AV.tree]at h;exact⟨cs,rfl,Z1 cs h⟩
 |.agg cs,h=>by simp only[RelV];simp only[AV.tree]at h;exact⟨cs,rfl,Z1 cs h⟩
 |.tup cs,h=>by simp only[RelV];simp only[AV.tree]at h;exact⟨cs,rfl,Z1 cs h⟩
theorem Z1:∀(as:List AV),AV.trees as=true->RelVs ρ as as
 |[],_=>by simp only[RelVs]
 | a::as,h=>by
  simp only[RelVs];simp only[AV.trees,bAt]at h;exact⟨a,as,rfl,JT a h.1,Z1 as h.2⟩
end
theorem RelV.cells{a b:AV}(h:RelV ρ a b):RelVs ρ a.cells b.cells:=by
 cases a
 case agg cs=>simp only[RelV]at h;obtain⟨ds,rfl,h⟩:=h;exact h
 case tup cs=>simp only[RelV]at h;obtain⟨ds,rfl,h⟩:=h;simp only[AV.cells,RelVs]
 case any=>simp only[RelV]at h;subst h;simp only[AV.cells,RelVs]
 all_goals
  have hh:=h;simp only[RelV]at hh
  first
   | (subst hh;exact RelVs.one h)
   | (rcases hh with⟨_,_,rfl⟩ | ⟨_,_,_,rfl | rfl⟩;exact RelVs.one h;exact RelVs.one h;exact RelVs.one h)
   | (rcases hh with⟨_,_,rfl,_⟩ | ⟨_,rfl⟩;exact RelVs.one h;exact RelVs.one h)
   | (obtain⟨_,_,rfl⟩:=hh;exact RelVs.one h)
   | (obtain⟨_,rfl,_⟩:=hh;exact RelVs.one h)
theorem RelV.cellsLen{a b:AV}(h:RelV ρ a b):b.cells.length=a.cells.length:=h.cells.length
theorem RelV.part{a b x:AV}{j:Nat}{sh:Option Nat}(h:RelV ρ a b)(hp:a.part j sh=some x):∃y,b.part j sh=some y/\RelV ρ x y:=by
 have hc:=h.cells;cases sh with
 | none=>
  simp only[AV.part]at hp|-;exact hc.get hp
 | some k=>
  simp only[AV.part]at hp|-;split at hp
  ·rename_i hk;cases hp;rw[iP (by rw[hc.length];exact hk)];refine⟨_,rfl, ?_⟩;simp only[RelV];exact⟨_,rfl,(hc.drop j).take k⟩
  ·cases hp
theorem RelV.put{a b x y a':AV}{j:Nat}(h:RelV ρ a b)(hx:RelV ρ x y)(hp:a.put j x=some a'):∃b',b.put j y=some b'/\RelV ρ a' b':=by
 have hcl:=hx.cellsLen;by_cases hag:∃cs,a=.agg cs
 ·obtain⟨cs,rfl⟩:=hag;simp only[RelV]at h;obtain⟨ds,rfl,h⟩:=h;simp only[AV.put]at hp|-;split at hp
  ·rename_i hk;cases hp;rw[iP (by rw[hcl,h.length];exact hk)];refine⟨_,rfl, ?_⟩;simp only[RelV];refine⟨_,rfl,(h.take j).append (hx.cells.append ?_)⟩;rw[hcl];exact h.drop _
  ·cases hp
 ·have ha:a.put j x=if j=0/\a.cells.length=1 then(match x.cells with |[y]=>some y | _=>none)else none:=by
   cases a<;>first | rfl | exact absurd ⟨_,rfl⟩ hag
  have hb:b.put j y=if j=0/\b.cells.length=1 then(match y.cells with |[y]=>some y | _=>none)else none:=by
   have:¬∃ds,b=.agg ds:=by
    rintro⟨ds,rfl⟩;cases a<;>simp[RelV]at h;exact hag ⟨_,rfl⟩
   cases b<;>first | rfl | exact absurd ⟨_,rfl⟩ this
  rw[ha]at hp;rw[hb,h.cellsLen];split at hp
  ·rename_i hk;rw[iP hk];have hxc:=hx.cells;split at hp
   ·rename_i z hz;cases hp;rw[hz]at hxc;simp only[RelVs]at hxc;obtain⟨b',bs,q1,q2,rfl⟩:=hxc;rw[q1];exact⟨b',rfl,q2⟩
   ·cases hp
  ·cases hp
end
def RelEs(ρ:Ren)(es es':List (AV×AV)):Prop:=RelVs ρ (es.map (·.1)) (es'.map (·.1))/\RelVs ρ (es.map (·.2)) (es'.map (·.2))
def RelO(ρ:Ren)(i:Nat)(hr:AH):qA->Prop
 |.dead=>True
 |.row w el rw=>(ρ i=some none/\el=[]/\rw=true)\/∃i' el',ρ i=some (some i')/\hr i'=some (.row w el' rw)/\RelVs ρ el el'
 |.map es=>∃i' es',ρ i=some (some i')/\hr i'=some (.map es')/\RelEs ρ es es'
structure zH(ρ:Ren)(h:List qA)(hr:AH):Prop where
 obj:∀i o,h[i]?=some o->RelO ρ i hr o
 inj:∀i j a o o',ρ i=some (some a)->ρ j=some (some a)->h[i]?=some o->h[j]?=some o'->o≠.dead->o'≠.dead->i=j
 out:∀i,h.length<=i->ρ i=none
 is:∀i a,ρ i=some (some a)->∃o,hr a=some o
def RelE(ρ:Ren)(s:qp)(e:Env):Prop:=∀n v,get s n=some v->∃r,lk e n=some r/\RelV ρ v r
structure zV(ρ:Ren)(st:VSt)(sr:St):Prop where
 s:RelE ρ st.s sr.s
 l:RelE ρ st.l sr.l
 h:zH ρ st.h sr.h
def Ao.ok:Ao->Bool
 |.c v=>v.tree
 | _=>true
def Ao.ok?:Option Ao->Bool
 | some x=>x.ok
 | none=>true
def AOp.ok:AOp->Bool
 |.mov x |.nilchk x |.isnil _ _ x |.not x |.conv _ x |.faddr _ x |.ext x _ |.len x |.mlen x |.panic x |.load _ x |.lbox _ x |.hbox _ x |.lstore _ _ _ x=>x.ok
 |.pick a b c=>a.ok&&b.ok&&c.ok
 |.lalloc z |.halloc _ z=>z.tree
 |.build z ps=>z.tree&&ps.all λp=>p.2.2.ok
 |.bslice _ z _ ps=>z.tree&&ps.all λp=>p.2.ok
 |.lload _ _ _ |.nop _ |.mkmap=>true
 |.store _ x y |.bin _ x y |.beq _ x y |.seq _ _ x y |.iaddr _ x y |.aidx _ _ _ x y |.app _ x y |.appx _ x y |.max x y |.min x y=>x.ok&&y.ok
 |.mksl _ z x y=>z.tree&&x.ok&&y.ok
 |.slc _ x a b c=>x.ok&&Ao.ok? a&&Ao.ok? b&&Ao.ok? c
 |.slcx _ x a b=>x.ok&&Ao.ok? a&&Ao.ok? b
 |.slcm _ x a b c=>x.ok&&a.ok&&b.ok&&c.ok
 |.mkfn _ xs=>xs.all Ao.ok
 |.call _ xs=>xs.all Ao.ok
 |.callv x xs=>x.ok&&xs.all Ao.ok
 |.clear _ z x=>z.tree&&x.ok
 |.look z x y _=>z.tree&&x.ok&&y.ok
 |.mupd x y z=>x.ok&&y.ok&&z.ok
section
variable {ρ:Ren} {s l:qp} {h:List qA} {es el:Env} {hr:AH}
theorem zJ(hs:RelE ρ s es){x:Ao}(hx:x.ok=true){v:AV}(hv:ev (toE s) x=some v):∃r,ev es x=some r/\RelV ρ v r:=by
 cases x with
 | t n=>exact hs n v hv
 | c c=>cases hv;exact⟨_,rfl,JT _ hx⟩
 | f g=>cases hv;exact⟨_,rfl,by simp only[RelV];exact⟨[],rfl,by simp only[RelVs]⟩⟩
theorem Yr(hs:RelE ρ s es):∀{xs:List Ao},xs.all Ao.ok=true->∀{vs:List AV},evs (toE s) xs=some vs->∃rs,evs es xs=some rs/\RelVs ρ vs rs
 |[],_,vs,hv=>by cases hv;exact⟨[],rfl,by simp only[RelVs]⟩
 | x::xs,hx,vs,hv=>by
  simp only[lAc,bAt]at hx;simp only[evs]at hv;split at hv
  ·rename_i v vs' h1 h2;cases hv;obtain⟨r,q1,q2⟩:=zJ hs hx.1 h1;obtain⟨rs,q3,q4⟩:=Yr hs hx.2 h2;refine⟨r::rs,by simp only[evs,q1,q3], ?_⟩;simp only[RelVs];exact⟨r,rs,rfl,q2,q4⟩
  ·cases hv
theorem JI(hs:RelE ρ s es){x:Ao}(hx:x.ok=true){k:IntKind}{n:Int}(hv:ev (toE s) x=some (.int k n)):ev es x=some (.int k n):=by
 obtain⟨r,h1,h2⟩:=zJ hs hx hv;simp only[RelV]at h2;rw[h1,h2]
theorem WO(hs:RelE ρ s es){x:Ao}(hx:x.ok=true){b:Bool}(hv:ev (toE s) x=some (.bool b)):ev es x=some (.bool b):=by
 obtain⟨r,h1,h2⟩:=zJ hs hx hv;simp only[RelV]at h2;rw[h1,h2]
theorem jo(hs:RelE ρ s es){x:Option Ao}(hx:Ao.ok? x=true){a b c n:Nat}(hv:bnd (toE s) x a b c=some n):bnd es x a b c=some n:=by
 cases x with
 | none=>exact hv
 | some x=>
  simp only[bnd]at hv|-;split at hv
  ·rename_i k m hk;rw[JI hs hx hk];exact hv
  ·cases hv
theorem qGG(hh:zH ρ h hr){v r:AV}(hv:RelV ρ v r){xs:List (AV×AV)}(he:wh (toH h) v=some xs):∃ys,wh hr r=some ys/\RelEs ρ xs ys:=by
 cases v<;>simp only[wh,reduceCtorEq]at he
 case nilm=>simp only[RelV]at hv;subst hv;cases he;exact⟨[],rfl,by simp[RelEs,RelVs]⟩
 case map id=>
  simp only[RelV]at hv;obtain⟨id',h1,rfl⟩:=hv;simp only[wh];split at he
  ·rename_i es ho;cases he;obtain⟨i',es',q1,q2,q3⟩:=hh.obj _ _ ho;rw[h1]at q1;cases q1;rw[q2];exact⟨es',rfl,q3⟩
  ·cases he
theorem qHK{a b a' b':AV}{t:Bool}(hk:Q4 a b=some t)(ha:RelV ρ a a')(hb:RelV ρ b b'):Q4 a' b'=some t:=by
 cases a<;>cases b<;>simp only[Q4,reduceCtorEq]at hk<;>simp only[RelV]at ha hb<;>subst ha hb<;>exact hk
theorem XT{k k':AV}(hk:RelV ρ k k'):∀{xs ys:List (AV×AV)}{n:Nat}{r:Option (Nat×AV)},RelEs ρ xs ys->wM k xs n=some r->
  (r=none/\wM k' ys n=some none)\/∃i v v',r=some (i,v)/\wM k' ys n=some (some (i,v'))/\RelV ρ v v'
 |[],ys,n,r,h,hf=>by
  obtain⟨h1,_⟩:=h;have:ys=[]:=by simpa using h1.length
  subst this;simp only[wM]at hf;split at hf
  ·cases hf;simp only[RelV]at hk;subst hk;exact .inl ⟨rfl,rfl⟩
  ·cases hf
 | (a,v)::xs,ys,n,r,h,hf=>by
  obtain⟨h1,h2⟩:=h;cases ys with
  | nil=>have:=h1.length;simp at this
  | cons y ys=>
   obtain⟨a',v'⟩:=y;simp only[lMc,RelVs,List.cons.injEq]at h1 h2;obtain⟨_,_,⟨rfl,rfl⟩,q1,q2⟩:=h1;obtain⟨_,_,⟨rfl,rfl⟩,q3,q4⟩:=h2;simp only[wM]at hf|-;split at hf
   ·rename_i hq;cases hf;rw[qHK hq hk q1];exact .inr ⟨n,v,v',rfl,rfl,q3⟩
   ·rename_i hq;rw[qHK hq hk q1];exact XT hk ⟨q2,q4⟩ hf
   ·cases hf
theorem qGC(hh:zH ρ h hr){v r:AV}(hv:RelV ρ v r){xs:List AV}(he:z9 (toH h) v=some xs):∃ys,z9 hr r=some ys/\RelVs ρ xs ys:=by
 cases v<;>simp only[z9,reduceCtorEq]at he
 case nils=>simp only[RelV]at hv;subst hv;cases he;exact⟨[],rfl,by simp only[RelVs]⟩
 case str a=>simp only[RelV]at hv;subst hv;cases he;exact⟨_,rfl,Z1 _ (by induction a with | nil=>rfl | cons x a ih=>simpa[AV.trees,AV.tree]using ih)⟩
 case lst w xs c=>
  cases he;simp only[RelV]at hv;rcases hv with⟨ys,c',rfl,_,h2⟩ | ⟨rfl,rfl⟩
  ·exact⟨ys,rfl,h2⟩
  ·exact⟨[],rfl,by simp only[RelVs]⟩
 case slice w id off len clip=>
  simp only[RelV]at hv;split at he
  ·rename_i h0;cases he;subst h0;rcases hv with⟨id',h1,rfl⟩ | ⟨h1,rfl,_,rfl | rfl⟩<;>exact⟨[],by simp[z9],by simp only[RelVs]⟩
  split at he
  ·rename_i w' el rw' ho;split at he
   ·rename_i hl;cases he;rcases hv with⟨id',h1,rfl⟩ | ⟨h1,rfl,rfl,rfl | rfl⟩
    ·rcases hh.obj _ _ ho with⟨q,_⟩ | ⟨i',el',q1,q2,q3⟩
     ·rw[q]at h1;cases h1
     ·rw[h1]at q1;cases q1;rw[XO q2 (by rw[q3.length];exact hl)];exact⟨_,rfl,(q3.drop off).take len⟩
    ·exact⟨[],rfl,by simp[RelVs]⟩
    ·exact⟨[],rfl,by simp[RelVs]⟩
   ·cases he
  ·cases he
theorem qET(hs:RelE ρ s es):∀{ps:List (Nat×Nat×Ao)},(ps.all λp=>p.2.2.ok)=true->∀{z z' v:AV},RelV ρ z z'->jZ (toE s) z ps=some v->∃r,jZ es z' ps=some r/\RelV ρ v r
 |[],_,z,z',v,hz,hb=>by cases hb;exact⟨z',rfl,hz⟩
 | (off,sz,x)::ps,hp,z,z',v,hz,hb=>by
  simp only[lAc,bAt]at hp;simp only[jZ]at hb;split at hb
  ·rename_i a ha;obtain⟨a',h1,h2⟩:=zJ hs hp.1 ha;split at hb
   ·rename_i hl;split at hb
    ·rename_i z2 hz2;obtain⟨z2',h3,h4⟩:=hz.put h2 hz2;obtain⟨r,h5,h6⟩:=qET hs hp.2 h4 hb;refine⟨r, ?_,h6⟩;simp only[jZ,h1];rw[iP (by rw[h2.cellsLen];exact hl),h3];exact h5
    ·cases hb
   ·cases hb
  ·cases hb
theorem qGO(hs:RelE ρ s es){w:Nat}:∀{ps:List (Nat×Ao)},(ps.all λp=>p.2.ok)=true->∀{z z' v:List AV},RelVs ρ z z'->jE (toE s) w z ps=some v->∃r,jE es w z' ps=some r/\RelVs ρ v r
 |[],_,z,z',v,hz,hb=>by cases hb;exact⟨z',rfl,hz⟩
 | (i,x)::ps,hp,z,z',v,hz,hb=>by
  simp only[lAc,bAt]at hp;simp only[jE]at hb;split at hb
  ·rename_i a ha;obtain⟨a',h1,h2⟩:=zJ hs hp.1 ha;split at hb
   ·rename_i hl;obtain⟨r,h5,h6⟩:=qGO hs hp.2 (hz.set i h2) hb;refine⟨r, ?_,h6⟩;simp only[jE,h1];rw[iP (by rw[h2.cellsLen,hz.length];exact hl)];exact h5
   ·cases hb
  ·cases hb
end
def wY(o:AOp)(st:VSt):Option AV:=match o with
 |.isnil 1 n x=>(match ev (toE st.s) x with
  | some (.lst _ (_::_) _)=>some (.bool n)
  | some .nils=>some (.bool !n)
  | _=>none)
 |.slcx _ _ _ _=>none
 |.slcm _ _ _ _ _=>none
 | o=>val o (toE st.s) (toE st.l) (toH st.h)
section
variable {ρ:Ren} {st:VSt} {sr:St}
theorem qrD{st:VSt}{o:AOp}(h:∀n x,o≠.isnil 1 n x)(h2:∀w x a b,o≠.slcx w x a b:=by intros;nofun)(h3:∀w x a b c,o≠.slcm w x a b c:=by intros;nofun):wY o st=val o (toE st.s) (toE st.l) (toH st.h):=by
 unfold wY;split
 ·exact absurd rfl (h _ _)
 ·exact absurd rfl (h2 _ _ _ _)
 ·exact absurd rfl (h3 _ _ _ _ _)
 ·rfl
theorem qIC(hh:zH ρ st.h sr.h){id i j:Nat}{sh:Option Nat}{r v:AV}(hp:RelV ρ (.ptr id i j) r)
  (hv:(match (toH st.h) id with | some (.row _ el _)=>(el[i]?).bind (·.part j sh) | _=>none)=some v):
  ∃id' y,r=.ptr id' i j/\(match sr.h id' with | some (.row _ el _)=>(el[i]?).bind (·.part j sh) | _=>none)=some y/\RelV ρ v y:=by
 simp only[RelV]at hp;obtain⟨id',h1,rfl⟩:=hp;split at hv
 ·rename_i w el rw' ho;simp only[Option.bind_eq_some_iff]at hv;obtain⟨x,hx,hp⟩:=hv;rcases hh.obj _ _ ho with⟨q,_⟩ | ⟨i',el',q1,q2,q3⟩
  ·rw[q]at h1;cases h1
  ·rw[h1]at q1;cases q1;obtain⟨y,g1,g2⟩:=q3.get hx;obtain⟨z,g3,g4⟩:=g2.part hp;exact⟨id',z,rfl,by rw[q2];simp only[g1,oBs,g3],g4⟩
 ·cases hv
theorem qA9:∀{as bs:List AV},RelVs ρ as bs->bs.map dig=as.map dig
 |[],_,h=>by simp only[RelVs]at h;subst h;rfl
 | a::as,_,h=>by
  simp only[RelVs]at h;obtain⟨b,bs,rfl,h1,h2⟩:=h;simp only[lMc,qA9 h2,List.cons.injEq,and_true];cases a<;>simp only[RelV]at h1<;>first
   | (subst h1;rfl)
   | (rcases h1 with⟨_,_,rfl⟩ | ⟨_,_,_,rfl | rfl⟩;rfl;rfl;rfl)
   | (rcases h1 with⟨_,_,rfl,_⟩ | ⟨_,rfl⟩;rfl;rfl)
   | (obtain⟨_,_,rfl⟩:=h1;rfl)
   | (obtain⟨_,rfl,_⟩:=h1;rfl)
theorem qKP{a b a' b':AV}{t:Bool}(hk:Jk a b=some t)(ha:RelV ρ a a')(hb:RelV ρ b b'):Jk a' b'=some t:=by
 cases a<;>cases b<;>simp only[Jk,reduceCtorEq]at hk<;>simp only[RelV]at ha hb<;>subst ha hb<;>exact hk
theorem qFC:∀{cs ds rs qs:List AV}{b:Bool},RelVs ρ cs rs->RelVs ρ ds qs->wK cs ds=some b->wK rs qs=some b/\True
 |[],[],rs,qs,b,h,k,hb=>by simp only[RelVs]at h k;subst h k;exact⟨hb,trivial⟩
 | a::as,c::cs,rs,qs,b,h,k,hb=>by
  simp only[RelVs]at h k;obtain⟨r,rs,rfl,h1,h2⟩:=h;obtain⟨q,qs,rfl,k1,k2⟩:=k;simp only[wK]at hb|-;split at hb
  ·rename_i hq;rw[qKP hq h1 k1];exact qFC h2 k2 hb
  ·rename_i hq;rw[qKP hq h1 k1];exact⟨hb,trivial⟩
  ·cases hb
 |[],_::_,_,_,_,_,_,hb=>by simp[wK]at hb
 | _::_,[],_,_,_,_,_,hb=>by simp[wK]at hb
theorem qLZ(hS:zV ρ st sr){o:AOp}(ho:o.ok=true){v:AV}(hv:wY o st=some v):∃r,val o sr.s sr.l sr.h=some r/\RelV ρ v r:=by
  have hs:=hS.s;cases o
  case isnil tag neg x=>
    simp only[AOp.ok]at ho;by_cases ht:tag=1
    · subst ht;simp only[wY]at hv;split at hv
      · rename_i w y ys c h1;cases hv;obtain⟨r,h3,h4⟩:=zJ hs ho h1;simp only[RelV,RelVs]at h4;rcases h4 with⟨_,c',rfl,_,b,bs,rfl,_⟩ | ⟨h4,_⟩
        · exact⟨.bool neg,by simp only[val,h3,oBs,AV.isNil,oMs];cases neg<;>rfl,by simp only[RelV]⟩
        · cases h4
      · rename_i h1;cases hv;obtain⟨r,h3,h4⟩:=zJ hs ho h1;simp only[RelV]at h4;subst h4;exact⟨.bool !neg,by simp only[val,h3,oBs,AV.isNil,oMs];cases neg<;>rfl,by simp only[RelV]⟩
      · cases hv
    · have hv:val (.isnil tag neg x) (toE st.s) (toE st.l) (toH st.h)=some v:=by
        unfold wY at hv;split at hv
        · rename_i heq;cases heq;exact absurd rfl ht
        · rename_i heq;cases heq
        · rename_i heq;cases heq
        · exact hv
      simp only[val,oMi,Option.bind_eq_some_iff]at hv|-;obtain⟨b,⟨a,h1,h2⟩,rfl⟩:=hv;obtain⟨r,h3,h4⟩:=zJ hs ho h1;refine⟨_,⟨b,⟨r,h3, ?_⟩,rfl⟩,by simp only[RelV]⟩;unfold AV.isNil at h2;split at h2
      all_goals
        first
          | (cases h2;done)
          | (exact absurd rfl ht)
          | (cases h2;simp only[RelV]at h4
             first
               | (subst h4;rfl)
               | (obtain⟨_,_,rfl⟩:=h4;rfl)
               | (obtain⟨_,rfl,_⟩:=h4;rfl))
  case slcx=>cases hv
  case slcm=>cases hv
  all_goals (rw[qrD (by intro _ _ h;cases h) (by intro _ _ _ _ h;cases h) (by intro _ _ _ _ _ h;cases h)]at hv)
  case mov x=>exact zJ hs ho hv
  case pick c a b=>
    simp only[AOp.ok,bAt]at ho;simp only[val]at hv|-;split at hv
    · rename_i hc;rw[WO hs ho.1.1 hc];exact zJ hs ho.1.2 hv
    · rename_i hc;rw[WO hs ho.1.1 hc];exact zJ hs ho.2 hv
    · cases hv
  case build z ps=>
    simp only[AOp.ok,bAt]at ho;exact qET hs ho.2 (JT z ho.1) hv
  case lload t off sh=>
    simp only[val,Option.bind_eq_some_iff]at hv|-;obtain⟨c,h1,h2⟩:=hv;obtain⟨r,h3,h4⟩:=hS.l t c h1;obtain⟨y,h5,h6⟩:=h4.part h2;exact⟨y,⟨r,h3,h5⟩,h6⟩
  case load sh p=>
    simp only[val]at hv|-;split at hv
    · rename_i id i j hp;obtain⟨r,h3,h4⟩:=zJ hs ho hp;obtain⟨id',y,rfl,h5,h6⟩:=qIC hS.h h4 hv;rw[h3];exact⟨y,h5,h6⟩
    · rename_i x j hp;obtain⟨r,h3,h4⟩:=zJ hs ho hp;simp only[RelV]at h4;obtain⟨y,rfl,h4⟩:=h4;rw[h3];exact h4.part hv
    · cases hv
  case nilchk x=>
    simp only[val]at hv|-;split at hv
    all_goals
      first
        | (cases hv;done)
        | (rename_i hx
           cases hv;obtain⟨r,h3,h4⟩:=zJ hs ho hx;have h5:=h4;simp only[RelV]at h4
           first
             | (obtain⟨_,_,rfl⟩:=h4;rw[h3];exact⟨_,rfl,h5⟩)
             | (obtain⟨_,rfl,_⟩:=h4;rw[h3];exact⟨_,rfl,h5⟩))
  case bin op x y=>
    simp only[AOp.ok,bAt]at ho;simp only[val]at hv|-;split at hv
    · rename_i k a k' b hx hy;rw[JI hs ho.1 hx,JI hs ho.2 hy];simp only;split at hv
      · rename_i hk;rw[iP hk];refine⟨v,hv,JT _ ?_⟩;unfold wN at hv;split at hv<;>first
          | (cases hv;done)
          | (cases hv;rfl)
          | (split at hv<;>cases hv<;>rfl)
      · cases hv
    · cases hv
  case beq neg x y=>
    simp only[AOp.ok,bAt]at ho;simp only[val]at hv|-;split at hv
    · rename_i a b hx hy;rw[WO hs ho.1 hx,WO hs ho.2 hy];cases hv;exact⟨_,rfl,by simp only[RelV]⟩
    · cases hv
  case seq neg k x y=>
    simp only[AOp.ok,bAt]at ho;simp only[val]at hv|-;split at hv
    · rename_i cs ds hx hy;obtain⟨r,h3,h4⟩:=zJ hs ho.1 hx;obtain⟨q,h5,h6⟩:=zJ hs ho.2 hy;simp only[RelV]at h4 h6;obtain⟨rs,rfl,h4⟩:=h4;obtain⟨qs,rfl,h6⟩:=h6;rw[h3,h5];split at hv
      · rename_i hk;simp only[oMi]at hv;obtain⟨b,hb,rfl⟩:=hv;obtain⟨e1,e2⟩:=qFC h4 h6 hb;have e3:rs.map dig=cs.map dig:=qA9 h4;have e4:qs.map dig=ds.map dig:=qA9 h6;simp only[e3,e4,iP hk,e1,oMs];exact⟨_,rfl,by simp only[RelV]⟩
      · cases hv
    · cases hv
  case not x=>
    simp only[val]at hv|-;split at hv
    · rename_i a hx;rw[WO hs ho hx];cases hv;exact⟨_,rfl,by simp only[RelV]⟩
    · cases hv
  case conv k x=>
    simp only[val]at hv|-;split at hv
    · rename_i a n hx;rw[JI hs ho hx];cases hv;exact⟨_,rfl,by simp only[RelV]⟩
    · cases hv
  case slc w x lo hi mx=>
    simp only[AOp.ok,bAt]at ho;obtain⟨⟨⟨o1,o2⟩,o3⟩,o4⟩:=ho;simp only[val]at hv|-;split at hv
    · rename_i hx;obtain⟨r,h3,h4⟩:=zJ hs o1 hx;simp only[RelV]at h4;subst h4;rw[h3];split at hv
      · rename_i n0 n1 n2 q0 q1 q2;cases hv;cases mx with
        | none=>
          simp only[jo hs o3 q1,jo hs o2 q2];exact⟨_,rfl,by simp only[RelV]⟩
        | some m=>
          simp only at q0;simp only[jo hs o4 q0,jo hs o3 q1,jo hs o2 q2];exact⟨_,rfl,by simp only[RelV]⟩
      · cases hv
    · rename_i w' id off len clip hx;obtain⟨r,h3,h4⟩:=zJ hs o1 hx;simp only[RelV]at h4;split at hv
      · rename_i b hb;split at hv
        · rename_i a ha;have hb':=jo hs o3 hb;have ha':=jo hs o2 ha;rcases h4 with⟨id',h5,rfl⟩ | ⟨h5,rfl,rfl,h6⟩
          · rw[h3];simp only[hb',ha'];split at hv
            · split at hv
              · rename_i hw;cases hv;simp only[iP hw];refine⟨_,rfl, ?_⟩;simp only[RelV];exact .inl ⟨id',h5,rfl⟩
              · cases hv
            · rename_i m;split at hv
              · rename_i M hM;split at hv
                · rename_i hw;cases hv;simp only[jo hs o4 hM,iP hw];refine⟨_,rfl, ?_⟩;simp only[RelV];exact .inl ⟨id',h5,rfl⟩
                · cases hv
              · cases hv
          · rw[h3];have hb0:b=0:=by
              cases hi with
              | none=>simp only[bnd]at hb;cases hb;rfl
              | some y=>
                simp only[bnd]at hb;split at hb
                · split at hb
                  · cases hb;omega
                  · cases hb
                · cases hb
            subst hb0;have ha0:a=0:=by
              cases lo with
              | none=>simp only[bnd]at ha;cases ha;rfl
              | some y=>
                simp only[bnd]at ha;split at ha
                · split at ha
                  · cases ha;omega
                  · cases ha
                · cases ha
            subst ha0;rcases h6 with rfl | rfl
            · simp only[hb',ha'];split at hv
              · split at hv
                · cases hv;refine⟨_,rfl, ?_⟩;simp[RelV,h5]
                · cases hv
              · rename_i m;split at hv
                · rename_i M hM;split at hv
                  · cases hv;simp only[jo hs o4 hM];refine⟨_,rfl, ?_⟩;simp[RelV,h5]
                  · cases hv
                · cases hv
            · simp only[lNi,hb',ha'];split at hv
              · split at hv
                · rename_i hw;cases hv;refine⟨.lst w [] true, ?_, ?_⟩
                  · simp[hw.1]
                  · simp[RelV,h5]
                · cases hv
              · rename_i m;split at hv
                · rename_i M hM;split at hv
                  · rename_i hw;cases hv;simp only[jo hs o4 hM,iP hw];refine⟨_,rfl, ?_⟩;simp[RelV,h5]
                  · cases hv
                · cases hv
        · cases hv
      · cases hv
    · rename_i w' xs clip hx;obtain⟨r,h3,h4⟩:=zJ hs o1 hx;simp only[RelV]at h4;split at hv
      · rename_i b hb;split at hv
        · rename_i a ha;have hb':=jo hs o3 hb;have ha':=jo hs o2 ha;rcases h4 with⟨ys,c',rfl,hcc,h5⟩ | ⟨rfl,rfl⟩
          · rw[h3];simp only[h5.length,hb',ha'];split at hv
            · split at hv
              · rename_i hw;cases hv;simp only[iP hw];refine⟨_,rfl, ?_⟩;simp only[RelV];refine .inl ⟨_,_,rfl,λhq=>?_,(h5.drop a).take (b-a)⟩;simp only[bAt]at hq|-;exact⟨hcc hq.1,hq.2⟩
              · cases hv
            · rename_i m;split at hv
              · rename_i M hM;split at hv
                · rename_i hw;cases hv;simp only[jo hs o4 hM,iP hw];refine⟨_,rfl, ?_⟩;simp only[RelV];exact .inl ⟨_,_,rfl,λ_=>rfl,(h5.drop a).take (b-a)⟩
                · cases hv
              · cases hv
          · rw[h3];have hb0:b=0:=by
              cases hi with
              | none=>simp only[bnd,lNi]at hb;cases hb;rfl
              | some y=>
                simp only[bnd,lNi]at hb;split at hb
                · split at hb
                  · cases hb;omega
                  · cases hb
                · cases hb
            subst hb0;have ha0:a=0:=by
              cases lo with
              | none=>simp only[bnd]at ha;cases ha;rfl
              | some y=>
                simp only[bnd]at ha;split at ha
                · split at ha
                  · cases ha;omega
                  · cases ha
                · cases ha
            subst ha0;simp only[lNi]at hb';simp only[hb',ha'];split at hv
            · split at hv
              · cases hv;refine⟨_,rfl, ?_⟩;simp[RelV]
              · cases hv
            · rename_i m;split at hv
              · rename_i M hM;split at hv
                · cases hv;simp only[jo hs o4 hM];refine⟨_,rfl, ?_⟩;simp[RelV]
                · cases hv
              · cases hv
        · cases hv
      · cases hv
    · cases hv
  case faddr off x=>
    simp only[val]at hv|-;split at hv
    · rename_i id i j hx;cases hv;obtain⟨r,h3,h4⟩:=zJ hs ho hx;simp only[RelV]at h4;obtain⟨id',h5,rfl⟩:=h4;rw[h3];refine⟨_,rfl, ?_⟩;simp only[RelV];exact⟨id',h5,rfl⟩
    · rename_i y j hx;cases hv;obtain⟨r,h3,h4⟩:=zJ hs ho hx;simp only[RelV]at h4;obtain⟨y',rfl,h5⟩:=h4;rw[h3];refine⟨_,rfl, ?_⟩;simp only[RelV];exact⟨y',rfl,h5⟩
    · cases hv
  case iaddr w x i=>
    simp only[AOp.ok,bAt]at ho;simp only[val]at hv|-;split at hv
    · rename_i w' id off len cl k n hx hi;obtain⟨r,h3,h4⟩:=zJ hs ho.1 hx;rw[h3,JI hs ho.2 hi];simp only[RelV]at h4;split at hv
      · rename_i hc;cases hv;rcases h4 with⟨id',h5,rfl⟩ | ⟨_,_,rfl,_⟩
        · simp only[iP hc];refine⟨_,rfl, ?_⟩;simp only[RelV];exact⟨id',h5,rfl⟩
        · omega
      · cases hv
    · rename_i w' xs cl k n hx hi;obtain⟨r,h3,h4⟩:=zJ hs ho.1 hx;rw[h3,JI hs ho.2 hi];simp only[RelV]at h4;split at hv
      · rename_i hc;simp only[oMi]at hv;obtain⟨y,h6,rfl⟩:=hv;rcases h4 with⟨ys,c',rfl,_,h5⟩ | ⟨rfl,rfl⟩
        · obtain⟨z,h7,h8⟩:=h5.get h6;simp only[iP hc,h7,oMs];refine⟨_,rfl, ?_⟩;simp only[RelV];exact⟨z,rfl,h8⟩
        · simp at h6
      · cases hv
    · cases hv
  case aidx n w sh x i=>
    simp only[AOp.ok,bAt]at ho;simp only[val]at hv|-;split at hv
    · rename_i cs k m hx hi;obtain⟨r,h3,h4⟩:=zJ hs ho.1 hx;rw[h3,JI hs ho.2 hi];have h5:=h4;simp only[RelV]at h4;obtain⟨ds,rfl,h6⟩:=h4;simp only;split at hv
      · rename_i hc;rw[iP hc];exact h5.part hv
      · cases hv
    · cases hv
  case ext x i=>
    simp only[val]at hv|-;split at hv
    · rename_i vs hx;obtain⟨r,h3,h4⟩:=zJ hs ho hx;simp only[RelV]at h4;obtain⟨ds,rfl,h6⟩:=h4;rw[h3];exact h6.get hv
    · cases hv
  case mkfn g caps=>
    simp only[val,oMi]at hv|-;obtain⟨vs,h1,rfl⟩:=hv;obtain⟨rs,h2,h3⟩:=Yr hs ho h1;refine⟨_,⟨rs,h2,rfl⟩, ?_⟩;simp only[RelV];exact⟨rs,rfl,h3⟩
  case len x=>
    simp only[val]at hv|-;split at hv
    · rename_i hx;cases hv;obtain⟨r,h3,h4⟩:=zJ hs ho hx;simp only[RelV]at h4;subst h4;rw[h3];exact⟨_,rfl,by simp only[RelV]⟩
    · rename_i w id off len c hx;cases hv;obtain⟨r,h3,h4⟩:=zJ hs ho hx;simp only[RelV]at h4;rw[h3];rcases h4 with⟨id',h5,rfl⟩ | ⟨_,_,rfl,rfl | rfl⟩
      · exact⟨_,rfl,by simp only[RelV]⟩
      · exact⟨_,rfl,by simp only[RelV];rfl⟩
      · exact⟨_,rfl,by simp only[RelV];rfl⟩
    · rename_i w xs c hx;cases hv;obtain⟨r,h3,h4⟩:=zJ hs ho hx;simp only[RelV]at h4;rw[h3];rcases h4 with⟨ys,c',rfl,_,h5⟩ | ⟨rfl,rfl⟩
      · exact⟨_,rfl,by simp only[RelV,h5.length]⟩
      · exact⟨_,rfl,by simp only[RelV];rfl⟩
    · cases hv
  case mlen x=>
    simp only[val,oMi,Option.bind_eq_some_iff]at hv|-;obtain⟨es,⟨a,h1,h2⟩,rfl⟩:=hv;obtain⟨r,h3,h4⟩:=zJ hs ho h1;obtain⟨ys,h5,h6⟩:=qGG hS.h h4 h2;refine⟨_,⟨ys,⟨r,h3,h5⟩,rfl⟩, ?_⟩;have:=h6.1.length;simp only[lMp]at this;simp only[RelV,this]
  case max x y=>
    simp only[AOp.ok,bAt]at ho;simp only[val]at hv|-;split at hv
    · rename_i k a k' b hx hy;rw[JI hs ho.1 hx,JI hs ho.2 hy];simp only;split at hv
      · rename_i hk;rw[iP hk];cases hv;exact⟨_,rfl,by simp only[RelV]⟩
      · cases hv
    · cases hv
  case min x y=>
    simp only[AOp.ok,bAt]at ho;simp only[val]at hv|-;split at hv
    · rename_i k a k' b hx hy;rw[JI hs ho.1 hx,JI hs ho.2 hy];simp only;split at hv
      · rename_i hk;rw[iP hk];cases hv;exact⟨_,rfl,by simp only[RelV]⟩
      · cases hv
    · cases hv
  case look z m k ok=>
    simp only[AOp.ok,bAt]at ho;obtain⟨⟨o1,o2⟩,o3⟩:=ho;simp only[val]at hv|-;split at hv
    · rename_i mv kv hm hk;obtain⟨r,h3,h4⟩:=zJ hs o2 hm;obtain⟨kr,h5,h6⟩:=zJ hs o3 hk;rw[h3,h5];split at hv
      · rename_i es he;obtain⟨ys,g1,g2⟩:=qGG hS.h h4 he;simp only[g1];split at hv
        · rename_i i v1 hf;rcases XT h6 g2 hf with⟨q,_⟩ | ⟨i',v2,v3,q1,q2,q3⟩
          · cases q
          · cases q1;rw[q2];simp only;refine⟨_,rfl, ?_⟩;cases hv;cases ok
            · exact q3
            · simp only[if_true,RelV];refine⟨_,rfl, ?_⟩;simp only[RelVs];exact⟨_,_,rfl,q3,_,_,rfl,by simp only[RelV],rfl⟩
        · rename_i hf;rcases XT h6 g2 hf with⟨_,q⟩ | ⟨i',v2,v3,q1,_⟩
          · rw[q];simp only;refine⟨_,rfl, ?_⟩;cases hv;cases ok
            · exact JT z o1
            · simp only[if_true,RelV];refine⟨_,rfl, ?_⟩;simp only[RelVs];exact⟨_,_,rfl,JT z o1,_,_,rfl,by simp only[RelV],rfl⟩
          · cases q1
        · cases hv
      · cases hv
    · cases hv
  case nop t=>
    simp only[val,oMi]at hv|-;obtain⟨c,h1,rfl⟩:=hv;obtain⟨r,h3,_⟩:=hS.l t c h1;exact⟨_,⟨r,h3,rfl⟩,by simp only[RelV]⟩
  all_goals (simp only[val,reduceCtorEq]at hv)
end
structure Fm(b:Nat)(ρ:Ren)(hr:AH)(ρ':Ren)(hr':AH):Prop where
 pres:∀a o,hr a=some o->(∀i,ρ i≠some (some a))->hr' a=some o
 new:∀i a,ρ' i=some (some a)->(∃j,ρ j=some (some a))\/hr.fr a
 fr:∀a,hr'.fr a->hr.fr a
 base:∀i,i<b->ρ' i=ρ i
theorem Fm.refl(b:Nat)(ρ:Ren)(hr:AH):Fm b ρ hr ρ hr:=⟨λ_ _ h _=>h,λi _ h=>.inl ⟨i,h⟩,λ_ h=>h,λ_ _=>rfl⟩
theorem Fm.trans{b:Nat}{ρ ρ' ρ'':Ren}{hr hr' hr'':AH}(x:Fm b ρ hr ρ' hr')(y:Fm b ρ' hr' ρ'' hr''):Fm b ρ hr ρ'' hr'' where
 pres:=λa o h1 h2=>y.pres a o (x.pres a o h1 h2) λi hi=>by
  rcases x.new i a hi with⟨j,hj⟩ | hf
  ·exact h2 j hj
  ·rw[hf.1]at h1;cases h1
 new:=λi a hi=>by
  rcases y.new i a hi with⟨j,hj⟩ | hf
  ·exact x.new j a hj
  ·exact .inr (x.fr a hf)
 fr:=λa h=>x.fr a (y.fr a h)
 base:=λi hi=>(y.base i hi).trans (x.base i hi)
def Ren.ext(ρ:Ren)(n:Nat)(x:Option Nat):Ren:=λi=>if i=n then some x else ρ i
theorem Ren.ext_le{ρ:Ren}{n:Nat}{x:Option Nat}(h:ρ n=none):ρ.le (ρ.ext n x):=λi a hi=>by
 unfold Ren.ext;rw[iN (by rintro rfl;rw[h]at hi;cases hi)];exact hi
theorem Ren.ext_same(ρ:Ren)(n:Nat)(x:Option Nat):ρ.ext n x n=some x:=by simp[Ren.ext]
theorem Ren.ext_ne(ρ:Ren){n i:Nat}(x:Option Nat)(h:i≠n):ρ.ext n x i=ρ i:=by simp[Ren.ext,h]
section
variable {ρ ρ':Ren} {h:List qA} {hr hr':AH}
theorem RelEs.mono(hρ:ρ.le ρ'){es es':List (AV×AV)}(k:RelEs ρ es es'):RelEs ρ' es es':=⟨RelVs.mono hρ _ _ k.1,RelVs.mono hρ _ _ k.2⟩
theorem RelO.mono{i:Nat}(hρ:ρ.le ρ')(hh:∀a o,ρ i=some (some a)->hr a=some o->hr' a=some o):∀{o:qA},RelO ρ i hr o->RelO ρ' i hr' o
 |.dead,_=>trivial
 |.row _ _ _,k=>by
  rcases k with⟨q1,q2⟩ | ⟨i',el',q1,q2,q3⟩
  ·exact .inl ⟨hρ _ _ q1,q2⟩
  ·exact .inr ⟨i',el',hρ _ _ q1,hh _ _ q1 q2,RelVs.mono hρ _ _ q3⟩
 |.map _,⟨i',es',q1,q2,q3⟩=>⟨i',es',hρ _ _ q1,hh _ _ q1 q2,q3.mono hρ⟩
theorem RelE.mono(hρ:ρ.le ρ'){s:qp}{e:Env}(k:RelE ρ s e):RelE ρ' s e:=λn v hv=>let ⟨r,q1,q2⟩:=k n v hv;⟨r,q1,RelV.mono hρ _ _ q2⟩
theorem WQ{s:qp}{d n:Nat}{v:AV}:get ((d,v)::s) n=if d=n then some v else get s n:=rfl
theorem RelE.cons{s:qp}{e:Env}(k:RelE ρ s e){d:Nat}{v r:AV}(hv:RelV ρ v r):RelE ρ ((d,v)::s) (e.set d r):=λn x hx=>by
 rw[WQ]at hx;rw[wQ];split at hx
 ·rename_i hd;rw[iP hd];cases hx;exact⟨r,rfl,hv⟩
 ·rename_i hd;rw[iN hd];exact k n x hx
def jz(s:qp)(d:Option Nat)(v:AV):qp:=match d with
 | some d=>(d,v)::s
 | none=>s
theorem RelE.put{s:qp}{e:Env}(k:RelE ρ s e){d:Option Nat}{v r:AV}(hv:RelV ρ v r):RelE ρ (jz s d v) (je e d r):=by
 cases d with
 | none=>exact k
 | some d=>exact k.cons hv
theorem Q8{h:List qA}{i:Nat}{o:qA}(k:h[i]?=some o):i<h.length:=(gSi.1 k).1
theorem zH.none_at(hh:zH ρ h hr):ρ h.length=none:=hh.out _ (nLr _)
theorem zH.new(hh:zH ρ h hr){a:Nat}(ha:hr.fr a){o o':qA}(ho:RelO (ρ.ext h.length (some a)) h.length (hr.upd a o') o):zH (ρ.ext h.length (some a)) (h++[o]) (hr.upd a o') where
 obj:=λi x hx=>by
  by_cases hi:i=h.length
  ·subst hi;rw[gAr (nLr _),nSs]at hx;simp only[List.getElem?_cons_zero,oSi]at hx;subst hx;exact ho
  ·have hlt:i<h.length:=by
    have:=Q8 hx;simp only[lAp,lCo,lNi]at this;omega
   rw[gAl hlt]at hx;refine(hh.obj i x hx).mono (Ren.ext_le hh.none_at) λa' o'' _ h2=>?_;exact AH.get_upd ha.1 h2
 inj:=λi j x o1 o2 h1 h2 hi hj d1 d2=>by
  have key:∀i o1,(h++[o])[i]?=some o1->i≠h.length->h[i]?=some o1:=λi o1 hi hn=>by
   have:=Q8 hi;simp only[lAp,lCo,lNi]at this;rwa[gAl (by omega)]at hi
  by_cases e1:i=h.length<;>by_cases e2:j=h.length
  ·rw[e1,e2]
  ·subst e1;rw[Ren.ext_same]at h1;rw[Ren.ext_ne _ _ e2]at h2;cases h1;obtain⟨q,hq⟩:=hh.is j _ h2;rw[ha.1]at hq;cases hq
  ·subst e2;rw[Ren.ext_same]at h2;rw[Ren.ext_ne _ _ e1]at h1;cases h2;obtain⟨q,hq⟩:=hh.is i _ h1;rw[ha.1]at hq;cases hq
  ·rw[Ren.ext_ne _ _ e1]at h1;rw[Ren.ext_ne _ _ e2]at h2;exact hh.inj i j x _ _ h1 h2 (key _ _ hi e1) (key _ _ hj e2) d1 d2
 out:=λi hi=>by
  simp only[lAp,lCo,lNi]at hi;rw[Ren.ext_ne _ _ (by omega)];exact hh.out i (by omega)
 is:=λi x hx=>by
  by_cases e:i=h.length
  ·subst e;rw[Ren.ext_same]at hx;cases hx;exact⟨o',AH.upd_same _ _ _⟩
  ·rw[Ren.ext_ne _ _ e]at hx;obtain⟨q,hq⟩:=hh.is i x hx;exact⟨q,AH.get_upd ha.1 hq⟩
theorem Fm.mkNew{b:Nat}(_hh:zH ρ h hr)(hb:b<=h.length){a:Nat}(ha:hr.fr a){o':qA}:Fm b ρ hr (ρ.ext h.length (some a)) (hr.upd a o') where
 pres:=λx o h1 _=>AH.get_upd ha.1 h1
 new:=λi x hx=>by
  by_cases e:i=h.length
  ·subst e;rw[Ren.ext_same]at hx;cases hx;exact .inr ha
  ·rw[Ren.ext_ne _ _ e]at hx;exact .inl ⟨i,hx⟩
 fr:=λx hx=>AH.fr_of hx
 base:=λi hi=>Ren.ext_ne _ _ (by omega)
theorem zH.nil(hh:zH ρ h hr){w:Nat}:zH (ρ.ext h.length none) (h++[.row w [] true]) hr where
 obj:=λi x hx=>by
  by_cases hi:i=h.length
  ·subst hi;rw[gAr (nLr _),nSs]at hx;simp only[List.getElem?_cons_zero,oSi]at hx;subst hx;exact .inl ⟨Ren.ext_same _ _ _,rfl,rfl⟩
  ·have hlt:i<h.length:=by
    have:=Q8 hx;simp only[lAp,lCo,lNi]at this;omega
   rw[gAl hlt]at hx;exact(hh.obj i x hx).mono (Ren.ext_le hh.none_at) λa' o'' _ h2=>h2
 inj:=λi j x o1 o2 h1 h2 hi hj d1 d2=>by
  have key:∀i o1,(h++[qA.row w [] true])[i]?=some o1->i≠h.length->h[i]?=some o1:=λi o1 hi hn=>by
   have:=Q8 hi;simp only[lAp,lCo,lNi]at this;rwa[gAl (by omega)]at hi
  by_cases e1:i=h.length
  ·subst e1;rw[Ren.ext_same]at h1;cases h1
  by_cases e2:j=h.length
  ·subst e2;rw[Ren.ext_same]at h2;cases h2
  rw[Ren.ext_ne _ _ e1]at h1;rw[Ren.ext_ne _ _ e2]at h2;exact hh.inj i j x _ _ h1 h2 (key _ _ hi e1) (key _ _ hj e2) d1 d2
 out:=λi hi=>by
  simp only[lAp,lCo,lNi]at hi;rw[Ren.ext_ne _ _ (by omega)];exact hh.out i (by omega)
 is:=λi x hx=>by
  by_cases e:i=h.length
  ·subst e;rw[Ren.ext_same]at hx;cases hx
  ·rw[Ren.ext_ne _ _ e]at hx;exact hh.is i x hx
theorem Fm.mkNil{b:Nat}(_hh:zH ρ h hr)(hb:b<=h.length):Fm b ρ hr (ρ.ext h.length none) hr where
 pres:=λx o h1 _=>h1
 new:=λi x hx=>by
  by_cases e:i=h.length
  ·subst e;rw[Ren.ext_same]at hx;cases hx
  ·rw[Ren.ext_ne _ _ e]at hx;exact .inl ⟨i,hx⟩
 fr:=λx hx=>hx
 base:=λi hi=>Ren.ext_ne _ _ (by omega)
theorem Wu{h:List qA}{id i:Nat}{o o':qA}(k:(h.set id o')[i]?=some o):(i=id/\o=o'/\id<h.length)\/(i≠id/\h[i]?=some o):=by
 rw[gSt]at k;split at k
 ·rename_i e;split at k
  ·rename_i hl;cases k;exact .inl ⟨e.symm,rfl,hl⟩
  ·cases k
 ·rename_i e;exact .inr ⟨λq=>e q.symm,k⟩
theorem zH.giveUp(hh:zH ρ h hr)(id:Nat):zH ρ (h.set id .dead) hr where
 obj:=λi x hx=>by
  rcases Wu hx with⟨_,rfl,_⟩ | ⟨_,hx⟩
  ·trivial
  ·exact hh.obj i x hx
 inj:=λi j x o1 o2 h1 h2 hi hj d1 d2=>by
  rcases Wu hi with⟨_,rfl,_⟩ | ⟨_,hi⟩
  ·exact absurd rfl d1
  rcases Wu hj with⟨_,rfl,_⟩ | ⟨_,hj⟩
  ·exact absurd rfl d2
  exact hh.inj i j x _ _ h1 h2 hi hj d1 d2
 out:=λi hi=>hh.out i (by simpa using hi)
 is:=hh.is
theorem zH.write(hh:zH ρ h hr){id a:Nat}{o o1 o':qA}(hid:ρ id=some (some a))(ho:h[id]?=some o)(hd:o≠.dead)(hn:RelO ρ id (hr.upd a o') o1):zH ρ (h.set id o1) (hr.upd a o') where
 obj:=λi x hx=>by
  rcases Wu hx with⟨rfl,rfl,_⟩ | ⟨hne,hx⟩
  ·exact hn
  ·by_cases hxd:x=.dead
   ·subst hxd;trivial
   refine(hh.obj i x hx).mono (λ_ _ q=>q) λa' o'' q1 q2=>?_;rw[AH.upd_ne _ _ (λe=>hne ?_)]
   ·exact q2
   ·subst e;exact hh.inj i id a' _ _ q1 hid hx ho hxd hd
 inj:=λi j x o2 o3 h1 h2 hi hj d1 d2=>by
  have key:∀i o2,(h.set id o1)[i]?=some o2->o2≠qA.dead->∃o3,h[i]?=some o3/\o3≠qA.dead:=λi o2 hi hd2=>by
   rcases Wu hi with⟨rfl,rfl,_⟩ | ⟨_,hi⟩
   ·exact⟨o,ho,hd⟩
   ·exact⟨o2,hi,hd2⟩
  obtain⟨p1,q1,q2⟩:=key i o2 hi d1;obtain⟨p2,q3,q4⟩:=key j o3 hj d2;exact hh.inj i j x _ _ h1 h2 q1 q3 q2 q4
 out:=λi hi=>hh.out i (by simpa using hi)
 is:=λi x hx=>by
  by_cases e:x=a
  ·subst e;exact⟨o',AH.upd_same _ _ _⟩
  ·obtain⟨q,hq⟩:=hh.is i x hx;exact⟨q,by rw[AH.upd_ne _ _ e];exact hq⟩
theorem Fm.write{b:Nat}(_hh:zH ρ h hr){id a:Nat}{o':qA}(hid:ρ id=some (some a)):Fm b ρ hr ρ (hr.upd a o') where
 pres:=λx o h1 h2=>by
  rw[AH.upd_ne _ _ (by rintro rfl;exact h2 id hid)];exact h1
 new:=λi x hx=>.inl ⟨i,hx⟩
 fr:=λx hx=>AH.fr_of hx
 base:=λ_ _=>rfl
theorem zH.move(hh:zH ρ h hr){id a:Nat}{o:qA}(hid:ρ id=some (some a))(ho:h[id]?=some o)(hd:o≠.dead):zH (ρ.ext h.length (some a)) (h.set id .dead++[o]) hr where
 obj:=λi x hx=>by
  by_cases hi:i=h.length
  ·subst hi;rw[gAr (by simp)]at hx;simp only[lLs,nSs,List.getElem?_cons_zero,oSi]at hx;subst hx;have hk:=(hh.obj id o ho).mono (Ren.ext_le (x:=some a) hh.none_at) λa' o'' _ h2=>h2;have e:ρ.ext h.length (some a) id=some (some a):=by rw[Ren.ext_ne _ _ (Nat.ne_of_lt (Q8 ho))];exact hid
   cases o with
   | dead=>trivial
   | row w el rw'=>
    rcases hk with⟨q,_⟩ | ⟨i',el',q1,q2,q3⟩
    ·rw[e]at q;cases q
    ·rw[e]at q1;cases q1;exact .inr ⟨a,el',Ren.ext_same _ _ _,q2,q3⟩
   | map es=>
    obtain⟨i',es',q1,q2,q3⟩:=hk;rw[e]at q1;cases q1;exact⟨a,es',Ren.ext_same _ _ _,q2,q3⟩
  ·have hlt:i<(h.set id .dead).length:=by
    have:=Q8 hx;simp only[lAp,lCo,lNi,lLs]at this|-;omega
   rw[gAl hlt]at hx;exact((hh.giveUp id).obj i x hx).mono (Ren.ext_le hh.none_at) λa' o'' _ h2=>h2
 inj:=λi j x o1 o2 h1 h2 hi hj d1 d2=>by
  have key:∀i o1,(h.set id qA.dead++[o])[i]?=some o1->i≠h.length->o1≠qA.dead->h[i]?=some o1/\i≠id:=λi o1 hi hn hd1=>by
   have:=Q8 hi;simp only[lAp,lCo,lNi,lLs]at this;rw[gAl (by simp;omega)]at hi;rcases Wu hi with⟨_,rfl,_⟩ | ⟨q1,q2⟩
   ·exact absurd rfl hd1
   ·exact⟨q2,q1⟩
  by_cases e1:i=h.length<;>by_cases e2:j=h.length
  ·rw[e1,e2]
  ·subst e1;obtain⟨q1,q2⟩:=key _ _ hj e2 d2;rw[Ren.ext_same]at h1;rw[Ren.ext_ne _ _ e2]at h2;cases h1;exact absurd (hh.inj j id a _ _ h2 hid q1 ho d2 hd) q2
  ·subst e2;obtain⟨q1,q2⟩:=key _ _ hi e1 d1;rw[Ren.ext_same]at h2;rw[Ren.ext_ne _ _ e1]at h1;cases h2;exact absurd (hh.inj i id a _ _ h1 hid q1 ho d1 hd) q2
  ·rw[Ren.ext_ne _ _ e1]at h1;rw[Ren.ext_ne _ _ e2]at h2;exact hh.inj i j x _ _ h1 h2 (key _ _ hi e1 d1).1 (key _ _ hj e2 d2).1 d1 d2
 out:=λi hi=>by
  simp only[lAp,lCo,lNi,lLs]at hi;rw[Ren.ext_ne _ _ (by omega)];exact hh.out i (by omega)
 is:=λi x hx=>by
  by_cases e:i=h.length
  ·subst e;rw[Ren.ext_same]at hx;cases hx;exact hh.is id _ hid
  ·rw[Ren.ext_ne _ _ e]at hx;exact hh.is i x hx
theorem Fm.move{b:Nat}(_hh:zH ρ h hr)(hb:b<=h.length){id a:Nat}(hid:ρ id=some (some a)):Fm b ρ hr (ρ.ext h.length (some a)) hr where
 pres:=λx o h1 _=>h1
 new:=λi x hx=>by
  by_cases e:i=h.length
  ·subst e;rw[Ren.ext_same]at hx;cases hx;exact .inl ⟨id,hid⟩
  ·rw[Ren.ext_ne _ _ e]at hx;exact .inl ⟨i,hx⟩
 fr:=λx hx=>hx
 base:=λi hi=>Ren.ext_ne _ _ (by omega)
end
def VSt.put(st:VSt)(d:Option Nat)(v:AV):VSt:={st with s:=jz st.s d v}
def jy(st:VSt)(d:Option Nat)(o:qA)(v:AV)(K:VSt->Prop):Prop:=K {s:=jz st.s d v,l:=st.l,h:=st.h++[o]}
def YL(w:Nat)(a:AV)(ys:List AV)(d:Option Nat)(st:VSt)(K:VSt->Prop):Prop:=
  match a with
  |.nils=>ys.length<=LIM/\jy st d (.row w ys true) (.slice w st.h.length 0 ys.length false) K
  |.slice w' id off len clip=>w'=w/\len+ys.length<=LIM/\
    (match st.h[id]? with
    | some (.row w2 el true)=>w2=w/\off+len<=el.length/\
      ((off=0/\clip=false/\el.length=len/\jy {st with h:=st.h.set id .dead} d (.row w (el++ys) true) (.slice w st.h.length 0 (len+ys.length) false) K)\/
       (0<ys.length/\clip=false/\jy {st with h:=st.h.set id .dead} d (.row w ((el.drop off).take len++ys) true) (.slice w st.h.length 0 (len+ys.length) false) K)\/
       (0<ys.length/\clip=true/\jy st d (.row w ((el.drop off).take len++ys) true) (.slice w st.h.length 0 (len+ys.length) false) K)\/
       (ys.length=0/\K (st.put d a)))
    | _=>False)
  |.lst w' xs clip=>w'=w/\((xs=[]/\clip=true/\ys.length<=LIM/\jy st d (.row w ys true) (.slice w st.h.length 0 ys.length false) K)\/
      if ys.length=0 then K (st.put d a)else xs.length+ys.length<=LIM/\clip=true/\jy st d (.row w (xs++ys) true) (.slice w st.h.length 0 (xs.length+ys.length) false) K)
  | _=>False
def jw(o:AOp)(d:Option Nat)(st:VSt)(K:VSt->Prop):Prop:=
 match o with
 |.lalloc z=>match d with
  | some t=>K {st with l:=(t,z)::st.l}
  | none=>False
 |.lbox k x=>match d,ev (toE st.s) x with
  | some t,some v=>v.cells.length=k/\K {st with l:=(t,v)::st.l}
  | _,_=>False
 |.lstore t off k x=>match get st.l t,ev (toE st.s) x with
  | some c,some v=>v.cells.length=k/\(match c.put off v with
   | some c'=>K {st with l:=(t,c')::st.l}
   | none=>False)
  | _,_=>False
 |.halloc w z=>jy st d (.row w [z] true) (.ptr st.h.length 0 0) K
 |.hbox w x=>match ev (toE st.s) x with
  | some v=>v.cells.length=w/\jy st d (.row w [v] true) (.ptr st.h.length 0 0) K
  | none=>False
 |.bslice w z n ps=>match jE (toE st.s) w (List.replicate n z) ps with
  | some el=>jy st d (.row w el true) (.slice w st.h.length 0 n false) K
  | none=>False
 |.mksl w z l c=>match ev (toE st.s) l,ev (toE st.s) c with
  | some (.int _ n),some (.int _ m)=>0<=n/\n<=m/\m<=(LIM:Int)/\jy st d (.row w (List.replicate n.toNat z) true) (.slice w st.h.length 0 n.toNat false) K
  | _,_=>False
 |.store k p x=>match ev (toE st.s) p,ev (toE st.s) x with
  | some (.ptr id i j),some v=>v.cells.length=k/\(match st.h[id]? with
   | some (.row w el true)=>(match el[i]? with
    | some e=>(match e.put j v with
     | some e'=>K {st with h:=st.h.set id (.row w (el.set i e') true)}
     | none=>False)
    | none=>False)
   | _=>False)
  | _,_=>False
 |.app w x y=>match ev (toE st.s) x,ev (toE st.s) y with
  | some a,some b=>Jl w b/\(match z9 (toH st.h) b with
   | some ys=>YL w a ys d st K
   | none=>False)
  | _,_=>False
 |.appx w x y=>match ev (toE st.s) x,ev (toE st.s) y with
  | some (.slice w' id off len false),some b=>w'=w/\Jl w b/\(match z9 (toH st.h) b with
   | some ys=>(match st.h[id]? with
    | some (.row w2 el true)=>w2=w/\off+len+ys.length<=el.length/\0<el.length/\
      jy {st with h:=st.h.set id .dead} d (.row w ((el.drop off).take len++(ys++el.drop (off+len+ys.length))) true) (.slice w st.h.length 0 (len+ys.length) false) K
    | _=>False)
   | none=>False)
  | _,_=>False
 |.slcx w x lo hi=>match ev (toE st.s) x with
  | some (.slice w' id off len false)=>(match st.h[id]? with
   | some (.row _ el _)=>0<el.length/\(match bnd (toE st.s) hi len 0 (el.length-off)with
    | some b=>(match bnd (toE st.s) lo 0 0 b with
     | some a=>w'=w/\K (st.put d (.slice w id (off+a) (b-a) false))
     | none=>False)
    | none=>False)
   | _=>False)
  | _=>False
 |.slcm w x lo hi mx=>match ev (toE st.s) x with
  | some (.slice w' id _ len _)=>(match st.h[id]? with
   | some (.row _ el _)=>0<el.length/\(match bnd (toE st.s) (some mx) 0 0 len with
    | some c=>(match bnd (toE st.s) (some hi) 0 0 c with
     | some b=>(match bnd (toE st.s) (some lo) 0 0 b with
      | some _=>w'=w/\K (st.put d .any)
      | none=>False)
     | none=>False)
    | none=>False)
   | _=>False)
  | _=>False
 |.clear w z x=>match ev (toE st.s) x with
  | some (.slice w' id off len _)=>w'=w/\(match st.h[id]? with
   | some (.row w2 el true)=>w2=w/\off+len<=el.length/\0<el.length/\K {st with h:=st.h.set id (.row w (el.take off++(List.replicate len z++el.drop (off+len))) true)}
   | _=>False)
  | _=>False
 |.mkmap=>jy st d (.map []) (.map st.h.length) K
 |.mupd m k v=>match ev (toE st.s) m,ev (toE st.s) k,ev (toE st.s) v with
  | some (.map id),some k',some v'=>(match st.h[id]? with
   | some (.map es)=>(match wM k' es 0 with
    | some (some (i,_))=>K {st with h:=st.h.set id (.map (es.set i (k',v')))}
    | some none=>K {st with h:=st.h.set id (.map (es++[(k',v')]))}
    | none=>False)
   | _=>False)
  | _,_,_=>False
 |.call _ _ |.callv _ _ |.panic _=>False
 | o=>match wY o st with
  | some v=>K (st.put d v)
  | none=>False
section
variable {ρ:Ren} {st:VSt} {sr:St} {b:Nat}
theorem Step.of_val{o:AOp}{d:Option Nat}{st:St}{v:AV}(hv:val o st.s st.l st.h=some v):Step o d st (st.put d v):=by
 cases o<;>first
  | (simp only[val,reduceCtorEq]at hv;done)
  | exact⟨v,hv,rfl⟩
theorem qKY{w:Nat}{v r:AV}(h:RelV ρ v r)(k:Jl w v):Jl w r:=by
 cases v<;>simp only[RelV]at h
 case slice=>rcases h with⟨_,_,rfl⟩ | ⟨_,_,_,rfl | rfl⟩;exact k;trivial;exact k
 case lst=>rcases h with⟨_,_,rfl,_⟩ | ⟨_,rfl⟩;exact k;trivial
 all_goals first
  | (subst h;exact k)
  | (obtain⟨_,_,rfl⟩:=h;trivial)
  | (obtain⟨_,rfl,_⟩:=h;trivial)
theorem QJ{d:Option Nat}{o o':qA}{v:AV}{v':Nat->AV}{K:VSt->Prop}(hS:zV ρ st sr)(hb:b<=st.h.length)(hk:jy st d o v K)
  (ho:∀a,RelO (ρ.ext st.h.length (some a)) st.h.length (sr.h.upd a o') o) (hv:∀a,RelV (ρ.ext st.h.length (some a)) v (v' a)):
  ∃sr' ρ' st',New sr d o' v' sr'/\K st'/\zV ρ' st' sr'/\Fm b ρ sr.h ρ' sr'.h/\b<=st'.h.length:=by
 obtain⟨a,ha⟩:=sr.h.fresh;refine⟨_,ρ.ext st.h.length (some a),_,⟨a,ha,rfl⟩,hk,⟨?_, ?_, ?_⟩,Fm.mkNew hS.h hb ha, ?_⟩
 ·exact(hS.s.mono (Ren.ext_le hS.h.none_at)).put (hv a)
 ·exact hS.l.mono (Ren.ext_le hS.h.none_at)
 ·exact hS.h.new ha (ho a)
 ·simp only[lAp];omega
theorem Ql{w a:Nat}{el el':List AV}(hS:zH ρ st.h sr.h)(h:RelVs ρ el el'):RelO (ρ.ext st.h.length (some a)) st.h.length (sr.h.upd a (.row w el' true)) (.row w el true):=
 .inr ⟨a,el',Ren.ext_same _ _ _,AH.upd_same _ _ _,RelVs.mono (Ren.ext_le hS.none_at) _ _ h⟩
theorem ZO{ρ:Ren}{n a w off len:Nat}{cl:Bool}:RelV (ρ.ext n (some a)) (.slice w n off len cl) (.slice w a off len cl):=by
 simp only[RelV];exact .inl ⟨a,Ren.ext_same _ _ _,rfl⟩
theorem qJP{ρ:Ren}{n a:Nat}:RelV (ρ.ext n (some a)) (.ptr n 0 0) (.ptr a 0 0):=by
 simp only[RelV];exact⟨a,Ren.ext_same _ _ _,rfl⟩
def qD7(b:Nat)(ρ:Ren)(sr:St)(o:AOp)(d:Option Nat)(K:VSt->Prop):Prop:=
 ∃sr' ρ' st',Step o d sr sr'/\K st'/\zV ρ' st' sr'/\Fm b ρ sr.h ρ' sr'.h/\b<=st'.h.length
theorem We{w:Nat}{y c:AV}{ys zs:List AV}{d:Option Nat}{K:VSt->Prop}(hS:zV ρ st sr)(hb:b<=st.h.length)(hc:c=.nils\/c=.lst w [] true)(hy:z9 sr.h y=some zs)(hw:Jl w y)
  (hyz:RelVs ρ ys zs) (h1:ys.length<=LIM) (h2:jy st d (.row w ys true) (.slice w st.h.length 0 ys.length false) K):
  ∃sr' ρ' st',App w c y sr d sr'/\K st'/\zV ρ' st' sr'/\Fm b ρ sr.h ρ' sr'.h/\b<=st'.h.length:=by
 have hlen:=hyz.length;by_cases h0:ys.length=0
 ·have:ys=[]:=lEz h0;subst this;refine⟨sr.put d c,ρ.ext st.h.length none,_,⟨zs,hy,hw, ?_⟩,h2,⟨?_, ?_, ?_⟩,Fm.mkNil hS.h hb, ?_⟩
  ·rcases hc with rfl | rfl
   ·simp only[hlen,lNi,if_true]
   ·simp only[hlen,lNi,if_true,and_self]
  ·refine(hS.s.mono (Ren.ext_le hS.h.none_at)).put ?_;simp[RelV,Ren.ext_same,hc]
  ·exact hS.l.mono (Ren.ext_le hS.h.none_at)
  ·exact hS.h.nil
  ·simp only[lAp];omega
 ·obtain⟨sr',ρ',st',q1,q2⟩:=QJ (o':=.row w zs true) (v':=λid=>.slice w id 0 zs.length false) hS hb h2 (λa=>Ql hS.h hyz) (λa=>by rw[hlen];exact ZO);refine⟨sr',ρ',st',⟨zs,hy,hw, ?_⟩,q2⟩;rw[hlen]at q1|-;rcases hc with rfl | rfl
  ·simp only[];rw[iN h0];exact⟨h1,q1⟩
  ·simp only[lNa,lNi,nZa,true_and];rw[iN h0];exact⟨h1,q1⟩
theorem qrC{w:Nat}{y:AV}{a c:AV}{ys zs:List AV}{d:Option Nat}{K:VSt->Prop}(hS:zV ρ st sr)(hb:b<=st.h.length)(ha:RelV ρ a c)(hy:z9 sr.h y=some zs)(hw:Jl w y)
  (hyz:RelVs ρ ys zs) (hk:YL w a ys d st K):∃sr' ρ' st',App w c y sr d sr'/\K st'/\zV ρ' st' sr'/\Fm b ρ sr.h ρ' sr'.h/\b<=st'.h.length:=by
 have hlen:=hyz.length;unfold YL at hk;split at hk
 ·--nil
  simp only[RelV]at ha;subst ha;exact We hS hb (.inl rfl) hy hw hyz hk.1 hk.2
 ·--a row
  rename_i w' id off len clip;obtain⟨rfl,hlim,hk⟩:=hk;split at hk
  ·rename_i w2 el hid;obtain⟨rfl,hoff,hk⟩:=hk;have hra:=ha;simp only[RelV]at ha;have hob:=hS.h.obj _ _ hid;have hS1:zV ρ {st with h:=st.h.set id .dead} sr:=⟨hS.s,hS.l,hS.h.giveUp id⟩;have hb1:b<=(st.h.set id qA.dead).length:=by rw[lLs];exact hb
   rcases ha with⟨a',ha,rfl⟩ | ⟨ha,rfl,rfl,hc0⟩
   ·rcases hob with⟨q,_⟩ | ⟨i',el',q1,q2,q3⟩
    ·rw[ha]at q;cases q
    rw[ha]at q1;cases q1;have hel:z9 sr.h (.slice w2 a' off len clip)=some ((el'.drop off).take len):=by
     exact XO q2 (by rw[q3.length];exact hoff)
    have hS2:zV ρ {st with h:=st.h.set id .dead} {sr with h:=sr.h.upd a' .dead}:=⟨hS.s,hS.l,hS.h.write ha hid (by simp) trivial⟩;have hel2:RelVs ρ ((el.drop off).take len++ys) ((el'.drop off).take len++zs):=((q3.drop off).take len).append hyz;have grow:ys.length≠0->clip=false->jy {st with h:=st.h.set id .dead} d (.row w2 ((el.drop off).take len++ys) true) (.slice w2 st.h.length 0 (len+ys.length) false) K->
      ∃sr' ρ' st',App w2 (.slice w2 a' off len clip) y sr d sr'/\K st'/\zV ρ' st' sr'/\Fm b ρ sr.h ρ' sr'.h/\b<=st'.h.length:=by
     clear hk;intro h0 hc hk;subst hc;have e:st.h.length=(st.h.set id qA.dead).length:=by rw[lLs]
     rw[e]at hk;obtain⟨sr',ρ',st',g1,g2,g3,g4,g5⟩:=QJ (b:=b) (o':=.row w2 ((el'.drop off).take len++zs) true) (v':=λid=>.slice w2 id 0 (len+zs.length) false) hS2 hb1 hk
      (λa=>Ql hS2.h hel2) (λa=>by rw[hlen];exact ZO)
     refine⟨sr',ρ',st',⟨zs,hy,hw,rfl, ?_⟩,g2,g3,(Fm.write hS.h ha).trans g4,g5⟩;rw[hlen]at g1|-;rw[iN h0];refine⟨hlim,_,hel, ?_⟩;simp only[bFt,if_false];exact⟨⟨_,q2⟩,g1⟩
    rcases hk with⟨rfl,rfl,hl,hk⟩ | ⟨h0,rfl,hk⟩ | ⟨h0,rfl,hk⟩ | ⟨h0,hk⟩
    ·by_cases h0:ys.length=0
     ·have hys:ys=[]:=lEz h0;subst hys;refine⟨sr.put d (.slice w2 a' 0 len false),ρ.ext st.h.length (some a'),_,⟨zs,hy,hw,rfl, ?_⟩,hk,⟨?_, ?_, ?_⟩,Fm.move hS.h hb ha, ?_⟩
      ·simp only[hlen,lNi,if_true]
      ·refine(hS.s.mono (Ren.ext_le hS.h.none_at)).put ?_;simp only[lNi,nAz];exact ZO
      ·exact hS.l.mono (Ren.ext_le hS.h.none_at)
      ·have:=hS.h.move ha hid (by simp);rw[<-lAn el]at this;exact this
      ·simp only[lAp,lLs];omega
     ·refine grow h0 rfl ?_;have:(el.drop 0).take len=el:=by rw[List.drop_zero,<-hl,lTl]
      rw[this];exact hk
    ·exact grow (by omega) rfl hk
    ·obtain⟨sr',ρ',st',g1,g2,g3,g4,g5⟩:=QJ (b:=b) (o':=.row w2 ((el'.drop off).take len++zs) true) (v':=λid=>.slice w2 id 0 (len+zs.length) false) hS hb hk
      (λa=>Ql hS.h hel2) (λa=>by rw[hlen];exact ZO)
     refine⟨sr',ρ',st',⟨zs,hy,hw,rfl, ?_⟩,g2,g3,g4,g5⟩;rw[hlen]at g1|-;rw[iN (by omega)];refine⟨hlim,_,hel, ?_⟩;simp only[if_true];exact g1
    ·refine⟨sr.put d (.slice w2 a' off len clip),ρ,_,⟨zs,hy,hw,rfl, ?_⟩,hk,⟨hS.s.put hra,hS.l,hS.h⟩,Fm.refl _ _ _,hb⟩;rw[hlen,iP h0]
   ·have hel:el=[]:=by
     rcases hob with⟨_,q,_⟩ | ⟨i',el',q1,q2,q3⟩
     ·exact q
     ·rw[ha]at q1;cases q1
    subst hel;have e:st.h.length=(st.h.set id qA.dead).length:=by rw[lLs]
    simp only[List.drop_nil,List.take_nil,lNa,nZa]at hk hlim;rcases hk with⟨_,rfl,hl,hk⟩ | ⟨h0,rfl,hk⟩ | ⟨h0,rfl,hk⟩ | ⟨h0,hk⟩
    ·rw[e]at hk;exact We hS1 hb1 hc0 hy hw hyz hlim hk
    ·rw[e]at hk;exact We hS1 hb1 hc0 hy hw hyz hlim hk
    ·exact We hS hb hc0 hy hw hyz hlim hk
    ·refine⟨sr.put d c,ρ,_,⟨zs,hy,hw, ?_⟩,hk,⟨hS.s.put hra,hS.l,hS.h⟩,Fm.refl _ _ _,hb⟩;rcases hc0 with rfl | rfl
     ·simp only[hlen,h0,if_true]
     ·simp only[hlen,h0,if_true,and_self]
  ·exact hk.elim
 ·rename_i w' xs clip;obtain⟨rfl,hk⟩:=hk;have hra:=ha;simp only[RelV]at ha;rcases hk with⟨rfl,rfl,hlim,hk⟩ | hk
  ·refine We hS hb ?_ hy hw hyz hlim hk;rcases ha with⟨xs',c',rfl,hc,hx⟩ | ⟨_,rfl⟩
   ·simp only[RelVs]at hx;subst hx;rw[hc rfl];exact .inr rfl
   ·exact .inl rfl
  split at hk
  ·rename_i h0;rcases ha with⟨xs',c',rfl,hc,hx⟩ | ⟨rfl,rfl⟩
   ·refine⟨sr.put d (.lst w' xs' c'),ρ,_,⟨zs,hy,hw,rfl, ?_⟩,hk,⟨hS.s.put hra,hS.l,hS.h⟩,Fm.refl _ _ _,hb⟩;rw[hlen,iP h0]
   ·refine⟨sr.put d .nils,ρ,_,⟨zs,hy,hw, ?_⟩,hk,⟨hS.s.put hra,hS.l,hS.h⟩,Fm.refl _ _ _,hb⟩;simp only[hlen,h0,if_true]
  ·rename_i h0;obtain⟨hlim,rfl,hk⟩:=hk;rcases ha with⟨xs',c',rfl,hc,hx⟩ | ⟨rfl,rfl⟩
   ·obtain⟨sr',ρ',st',g1,g2,g3,g4,g5⟩:=QJ (b:=b) (o':=.row w' (xs'++zs) true) (v':=λid=>.slice w' id 0 (xs'.length+zs.length) false) hS hb hk
     (λa=>Ql hS.h (hx.append hyz)) (λa=>by rw[hlen,hx.length];exact ZO)
    refine⟨sr',ρ',st',⟨zs,hy,hw,rfl, ?_⟩,g2,g3,g4,g5⟩;rw[hlen,hx.length]at g1|-;rw[iN h0];exact⟨hlim,hc rfl,g1⟩
   ·simp only[lNa,lNi,nZa]at hk hlim;exact We hS hb (.inl rfl) hy hw hyz hlim hk
 ·exact hk.elim
theorem UN{o:AOp}{d:Option Nat}{K:VSt->Prop}(hS:zV ρ st sr)(hb:b<=st.h.length)(ho:o.ok=true)(hk:jw o d st K):qD7 b ρ sr o d K:=by
 have valc:(match wY o st with | some v=>K (st.put d v) | none=>False)->qD7 b ρ sr o d K:=by
  intro hk;split at hk
  ·rename_i v hv;obtain⟨r,h1,h2⟩:=qLZ hS ho hv;exact⟨sr.put d r,ρ,_,Step.of_val h1,hk,⟨hS.s.put h2,hS.l,hS.h⟩,Fm.refl _ _ _,hb⟩
  ·exact hk.elim
 have hs:=hS.s;unfold jw at hk;split at hk
 ·rename_i z;split at hk
  ·rename_i t;exact⟨_,ρ,_,⟨t,rfl,rfl⟩,hk,⟨hS.s,hS.l.cons (JT z ho),hS.h⟩,Fm.refl _ _ _,hb⟩
  ·exact hk.elim
 ·rename_i k x;split at hk
  ·rename_i t v hv;obtain⟨r,h1,h2⟩:=zJ hs ho hv;exact⟨_,ρ,_,⟨t,r,rfl,h1,by rw[h2.cellsLen];exact hk.1,rfl⟩,hk.2,⟨hS.s,hS.l.cons h2,hS.h⟩,Fm.refl _ _ _,hb⟩
  ·exact hk.elim
 ·rename_i t off k x;split at hk
  ·rename_i c v hc hv;obtain⟨h0,hk⟩:=hk;obtain⟨r,h1,h2⟩:=zJ hs ho hv;obtain⟨cr,h3,h4⟩:=hS.l t c hc;split at hk
   ·rename_i c' hp;obtain⟨cr',h5,h6⟩:=h4.put h2 hp;exact⟨_,ρ,_,⟨cr,r,cr',h3,h1,by rw[h2.cellsLen];exact h0,h5,rfl⟩,hk,⟨hS.s,hS.l.cons h6,hS.h⟩,Fm.refl _ _ _,hb⟩
   ·exact hk.elim
  ·exact hk.elim
 ·rename_i w z;exact QJ hS hb hk (λa=>Ql hS.h (RelVs.one (JT z ho))) (λa=>qJP)
 ·rename_i w x;split at hk
  ·rename_i v hv;obtain⟨r,h1,h2⟩:=zJ hs ho hv;obtain⟨sr',ρ',st',g1,g2⟩:=QJ (o':=.row w [r] true) (v':=λid=>.ptr id 0 0) hS hb hk.2 (λa=>Ql hS.h (RelVs.one h2)) (λa=>qJP);exact⟨sr',ρ',st',⟨r,h1,by rw[h2.cellsLen];exact hk.1,g1⟩,g2⟩
  ·exact hk.elim
 ·rename_i w z n ps;simp only[AOp.ok,bAt]at ho;split at hk
  ·rename_i el hel;obtain⟨el',h1,h2⟩:=qGO hs ho.2 (RelVs.replicate (JT z ho.1) n) hel;obtain⟨sr',ρ',st',g1,g2⟩:=QJ (o':=.row w el' true) (v':=λid=>.slice w id 0 n false) hS hb hk (λa=>Ql hS.h h2) (λa=>ZO);exact⟨sr',ρ',st',⟨el',h1,g1⟩,g2⟩
  ·exact hk.elim
 ·rename_i w z l c;simp only[AOp.ok,bAt]at ho;split at hk
  ·rename_i k n k' m hl hc;obtain⟨q1,q2,q3,hk⟩:=hk;obtain⟨sr',ρ',st',g1,g2⟩:=QJ (o':=.row w (List.replicate n.toNat z) true) (v':=λid=>.slice w id 0 n.toNat false) hS hb hk (λa=>Ql hS.h (RelVs.replicate (JT z ho.1.1) _)) (λa=>ZO);exact⟨sr',ρ',st',⟨k,k',n,m,JI hs ho.1.2 hl,JI hs ho.2 hc,q1,q2,q3,g1⟩,g2⟩
  ·exact hk.elim
 ·rename_i k p x;simp only[AOp.ok,bAt]at ho;split at hk
  ·rename_i id i j v hp hv;obtain⟨h0,hk⟩:=hk;obtain⟨pr,h1,h2⟩:=zJ hs ho.1 hp;obtain⟨r,h3,h4⟩:=zJ hs ho.2 hv;simp only[RelV]at h2;obtain⟨a,ha,rfl⟩:=h2;split at hk
   ·rename_i w el hid;split at hk
    ·rename_i e he;split at hk
     ·rename_i e' hp';rcases hS.h.obj _ _ hid with⟨q,_⟩ | ⟨i',el',q1,q2,q3⟩
      ·rw[ha]at q;cases q
      rw[ha]at q1;cases q1;obtain⟨er,g1,g2⟩:=q3.get he;obtain⟨er',g3,g4⟩:=g2.put h4 hp';refine⟨{sr with h:=sr.h.upd a (.row w (el'.set i er') true)},ρ,_,⟨a,i,j,r,w,el',er,er',h1,h3,by rw[h4.cellsLen];exact h0,q2,g1,g3,rfl⟩,hk,⟨hS.s,hS.l, ?_⟩,Fm.write hS.h ha, ?_⟩
      ·exact hS.h.write ha hid (by simp) (.inr ⟨a,_,ha,AH.upd_same _ _ _,q3.set i g4⟩)
      ·rw[lLs];exact hb
     ·exact hk.elim
    ·exact hk.elim
   ·exact hk.elim
  ·exact hk.elim
 ·rename_i w x y;simp only[AOp.ok,bAt]at ho;split at hk
  ·rename_i a c ha hc;obtain⟨ar,h1,h2⟩:=zJ hs ho.1 ha;obtain⟨cr,h3,h4⟩:=zJ hs ho.2 hc;obtain⟨hw,hk⟩:=hk;split at hk
   ·rename_i ys hys;obtain⟨zs,h5,h6⟩:=qGC hS.h h4 hys;obtain⟨sr',ρ',st',g1,g2⟩:=qrC hS hb h2 h5 (qKY h4 hw) h6 hk;exact⟨sr',ρ',st',⟨ar,cr,h1,h3,g1⟩,g2⟩
   ·exact hk.elim
  ·exact hk.elim
 ·rename_i w x y;simp only[AOp.ok,bAt]at ho;split at hk
  ·rename_i w' id off len c ha hc;obtain⟨ar,h1,h2⟩:=zJ hs ho.1 ha;obtain⟨cr,h3,h4⟩:=zJ hs ho.2 hc;obtain⟨rfl,hw,hk⟩:=hk;split at hk
   ·rename_i ys hys;obtain⟨zs,h5,h6⟩:=qGC hS.h h4 hys;split at hk
    ·rename_i w2 el hid;obtain⟨rfl,hoff,hpos,hk⟩:=hk;simp only[RelV]at h2;have hob:=hS.h.obj _ _ hid;rcases h2 with⟨a,ha',rfl⟩ | ⟨ha',_⟩
     ·rcases hob with⟨q,_⟩ | ⟨i',el',q1,q2,q3⟩
      ·rw[ha']at q;cases q
      rw[ha']at q1;cases q1;have hlen:=h6.length;have hS2:zV ρ {st with h:=st.h.set id .dead} {sr with h:=sr.h.upd a .dead}:=⟨hS.s,hS.l,hS.h.write ha' hid (by simp) trivial⟩;have hb1:b<=(st.h.set id qA.dead).length:=by rw[lLs];exact hb
      have e:st.h.length=(st.h.set id qA.dead).length:=by rw[lLs]
      rw[e]at hk;have hel2:RelVs ρ ((el.drop off).take len++(ys++el.drop (off+len+ys.length))) ((el'.drop off).take len++(zs++el'.drop (off+len+zs.length))):=by
       rw[hlen];exact((q3.drop off).take len).append (h6.append (q3.drop _))
      obtain⟨sr',ρ',st',g1,g2,g3,g4,g5⟩:=QJ (b:=b) (o':=.row w2 ((el'.drop off).take len++(zs++el'.drop (off+len+zs.length))) true) (v':=λid=>.slice w2 id 0 (len+zs.length) false) hS2 hb1 hk
       (λa=>Ql hS2.h hel2) (λa=>by rw[hlen];exact ZO)
      exact⟨sr',ρ',st',⟨_,cr,h1,h3,zs,a,off,len,el',h5,qKY h4 hw,rfl,q2,by rw[hlen,q3.length];exact hoff,g1⟩,g2,g3,(Fm.write hS.h ha').trans g4,g5⟩
     ·rcases hob with⟨_,q,_⟩ | ⟨i',el',q1,q2,q3⟩
      ·subst q;simp at hpos
      ·rw[ha']at q1;cases q1
    ·exact hk.elim
   ·exact hk.elim
  ·exact hk.elim
 ·rename_i w x lo hi;simp only[AOp.ok,bAt]at ho;split at hk
  ·rename_i w' id off len ha;obtain⟨ar,h1,h2⟩:=zJ hs ho.1.1 ha;split at hk
   ·rename_i w2 el rw' hid;obtain⟨hpos,hk⟩:=hk;split at hk
    ·rename_i n2 hb2;split at hk
     ·rename_i n1 hb1;obtain⟨rfl,hk⟩:=hk;simp only[RelV]at h2;have hob:=hS.h.obj _ _ hid;rcases h2 with⟨a,ha',rfl⟩ | ⟨ha',_⟩
      ·rcases hob with⟨q,_⟩ | ⟨i',el',q1,q2,q3⟩
       ·rw[ha']at q;cases q
       rw[ha']at q1;cases q1;have hb2':=jo hs ho.2 hb2;have hb1':=jo hs ho.1.2 hb1;rw[<-q3.length]at hb2';refine⟨sr.put d (.slice w' a (off+n1) (n2-n1) false),ρ,_,Step.of_val (by simp only[val,h1,q2,hb2',hb1',if_true]),hk,⟨hS.s.put ?_,hS.l,hS.h⟩,Fm.refl _ _ _,hb⟩;simp only[RelV];exact .inl ⟨a,ha',rfl⟩
      ·rcases hob with⟨_,q,_⟩ | ⟨i',el',q1,q2,q3⟩
       ·subst q;simp at hpos
       ·rw[ha']at q1;cases q1
     ·exact hk.elim
    ·exact hk.elim
   ·exact hk.elim
  ·exact hk.elim
 ·rename_i w x lo hi mx;simp only[AOp.ok,bAt]at ho;split at hk
  ·rename_i w' id off len cl ha;obtain⟨ar,h1,h2⟩:=zJ hs ho.1.1.1 ha;split at hk
   ·rename_i w2 el rw' hid;obtain⟨hpos,hk⟩:=hk;split at hk
    ·rename_i n3 hb3;split at hk
     ·rename_i n2 hb2;split at hk
      ·rename_i n1 hb1;obtain⟨rfl,hk⟩:=hk;simp only[RelV]at h2;have hob:=hS.h.obj _ _ hid;rcases h2 with⟨a,ha',rfl⟩ | ⟨ha',_⟩
       ·have hb3':=jo (x:=some mx) hs ho.2 hb3;have hb2':=jo (x:=some hi) hs ho.1.2 hb2;have hb1':=jo (x:=some lo) hs ho.1.1.2 hb1;exact⟨sr.put d .any,ρ,_,Step.of_val (by simp only[val,h1,hb3',hb2',hb1',if_true]),hk,⟨hS.s.put (by simp only[RelV]),hS.l,hS.h⟩,Fm.refl _ _ _,hb⟩
       ·rcases hob with⟨_,q,_⟩ | ⟨i',el',q1,q2,q3⟩
        ·subst q;simp at hpos
        ·rw[ha']at q1;cases q1
      ·exact hk.elim
     ·exact hk.elim
    ·exact hk.elim
   ·exact hk.elim
  ·exact hk.elim
 ·rename_i w z x;simp only[AOp.ok,bAt]at ho;split at hk
  ·rename_i w' id off len cl ha;obtain⟨ar,h1,h2⟩:=zJ hs ho.2 ha;obtain⟨rfl,hk⟩:=hk;split at hk
   ·rename_i w2 el hid;obtain⟨rfl,hoff,hpos,hk⟩:=hk;simp only[RelV]at h2;have hob:=hS.h.obj _ _ hid;rcases h2 with⟨a,ha',rfl⟩ | ⟨ha',_⟩
    ·rcases hob with⟨q,_⟩ | ⟨i',el',q1,q2,q3⟩
     ·rw[ha']at q;cases q
     rw[ha']at q1;cases q1;have hel:z9 sr.h (.slice w2 a off len cl)=some ((el'.drop off).take len):=XO q2 (by rw[q3.length];exact hoff);refine⟨{sr with h:=sr.h.upd a (.row w2 (el'.take off++(List.replicate len z++el'.drop (off+len))) true)},ρ,_,⟨_,_,h1,hel,rfl,el',q2,rfl⟩,hk,⟨hS.s,hS.l, ?_⟩,Fm.write hS.h ha', ?_⟩
     ·exact hS.h.write ha' hid (by simp) (.inr ⟨a,_,ha',AH.upd_same _ _ _,(q3.take off).append ((RelVs.replicate (JT z ho.1) len).append (q3.drop _))⟩)
     ·rw[lLs];exact hb
    ·rcases hob with⟨_,q,_⟩ | ⟨i',el',q1,q2,q3⟩
     ·subst q;simp at hpos
     ·rw[ha']at q1;cases q1
   ·exact hk.elim
  ·exact hk.elim
 ·exact QJ (o':=.map []) (v':=.map) hS hb hk (λa=>⟨a,[],Ren.ext_same _ _ _,AH.upd_same _ _ _,by simp[RelEs,RelVs]⟩) (λa=>by simp only[RelV];exact⟨a,Ren.ext_same _ _ _,rfl⟩)
 ·rename_i m k v;simp only[AOp.ok,bAt]at ho;split at hk
  ·rename_i id k' v' hm hkk hv;obtain⟨mr,h1,h2⟩:=zJ hs ho.1.1 hm;obtain⟨kr,h3,h4⟩:=zJ hs ho.1.2 hkk;obtain⟨vr,h5,h6⟩:=zJ hs ho.2 hv;simp only[RelV]at h2;obtain⟨a,ha,rfl⟩:=h2;split at hk
   ·rename_i es hid;obtain⟨i',es',q1,q2,q3⟩:=hS.h.obj _ _ hid;rw[ha]at q1;cases q1;split at hk
    ·rename_i i v0 hf;rcases XT h4 q3 hf with⟨q,_⟩ | ⟨i2,v2,v3,g1,g2,g3⟩
     ·cases q
     cases g1;refine⟨{sr with h:=sr.h.upd a (.map (es'.set i (kr,vr)))},ρ,_,⟨a,kr,vr,es',h1,h3,h5,q2, ?_⟩,hk,⟨hS.s,hS.l,hS.h.write ha hid (by simp) ⟨a,_,ha,AH.upd_same _ _ _, ?_⟩⟩,Fm.write hS.h ha, ?_⟩
     ·rw[g2]
     ·constructor
      ·rw[List.map_set,List.map_set];exact q3.1.set i h4
      ·rw[List.map_set,List.map_set];exact q3.2.set i h6
     ·rw[lLs];exact hb
    ·rename_i hf;rcases XT h4 q3 hf with⟨_,q⟩ | ⟨i2,v2,v3,g1,_⟩
     ·refine⟨{sr with h:=sr.h.upd a (.map (es'++[(kr,vr)]))},ρ,_,⟨a,kr,vr,es',h1,h3,h5,q2, ?_⟩,hk,⟨hS.s,hS.l,hS.h.write ha hid (by simp) ⟨a,_,ha,AH.upd_same _ _ _, ?_⟩⟩,Fm.write hS.h ha, ?_⟩
      ·rw[q]
      ·constructor
       ·rw[lMa,lMa];exact q3.1.append (RelVs.one h4)
       ·rw[lMa,lMa];exact q3.2.append (RelVs.one h6)
      ·rw[lLs];exact hb
     ·cases g1
    ·exact hk.elim
   ·exact hk.elim
  ·exact hk.elim
 all_goals first
  | exact hk.elim
  | exact valc hk
end
structure LF where
 d:Nat
 g:Option (Nat×Bool)
 sh:Option Nat
 p:Nat
def onEq:Option Nat->Option Nat->Bool
 | none,none=>true
 | some a,some b=>Nat.beq a b
 | _,_=>false
def gEqX:Option (Nat×Bool)->Option (Nat×Bool)->Bool
 | none,none=>true
 | some (a,true),some (b,true)=>Nat.beq a b
 | some (a,false),some (b,false)=>Nat.beq a b
 | _,_=>false
def LF.eq(a b:LF):Bool:=Nat.beq a.d b.d&&gEqX a.g b.g&&onEq a.sh b.sh&&Nat.beq a.p b.p
theorem qoK{a b:Option Nat}(h:onEq a b=true):a=b:=by
 unfold onEq at h;split at h
 ·rfl
 ·rw[Nat.eq_of_beq_eq_true h]
 ·cases h
theorem qlU{a b:Option (Nat×Bool)}(h:gEqX a b=true):a=b:=by
 unfold gEqX at h;split at h
 ·rfl
 ·rw[Nat.eq_of_beq_eq_true h]
 ·rw[Nat.eq_of_beq_eq_true h]
 ·cases h
theorem LF.eq_eq{a b:LF}(h:a.eq b=true):a=b:=by
 cases a;cases b;simp only[LF.eq,bAt]at h;obtain⟨⟨⟨h1,h2⟩,h3⟩,h4⟩:=h;rw[Nat.eq_of_beq_eq_true h1,qlU h2,qoK h3,Nat.eq_of_beq_eq_true h4]
def Qf(c:qC):Option LF:=match c.d,c.o with
 | some d,.load sh (.t p)=>some ⟨d,c.g,sh,p⟩
 | _,_=>none
def LF.keeps(f:LF)(d:Option Nat):Bool:=match d with
 | none=>true
 | some d=> !Nat.beq d f.d&& !Nat.beq d f.p&&(match f.g with | some (n,_)=> !Nat.beq d n | none=>true)
def LF.own(f:LF):Bool:= !Nat.beq f.d f.p&&(match f.g with | some (n,_)=> !Nat.beq f.d n | none=>true)
def AOp.isCall:AOp->Bool
 |.call _ _ |.callv _ _=>true
 | _=>false
def AOp.isApp:AOp->Bool
 |.app _ _ _=>true
 | _=>false
def AOp.isLoc:AOp->Bool
 |.lalloc _ |.lbox _ _ |.lstore _ _ _ _=>true
 | _=>false
def AOp.isNew:AOp->Bool
 |.halloc _ _ |.hbox _ _ |.bslice _ _ _ _=>true
 | _=>false
def qC.apC(c:qC):Bool:=c.o.isApp&& !c.ck.isEmpty
def AOp.quiet:AOp->Bool
 |.mov _ |.pick _ _ _ |.build _ _ |.lload _ _ _ |.load _ _ |.nilchk _ |.bin _ _ _ |.beq _ _ _ |.seq _ _ _ _ |.isnil _ _ _ |.not _ |.conv _ _ |.slc _ _ _ _ _ |.faddr _ _ |.iaddr _ _ _ |.aidx _ _ _ _ _ |.ext _ _ |.mkfn _ _ |.len _ |.mlen _ |.max _ _ |.min _ _ |.look _ _ _ _ |.nop _=>true
 | _=>false
def W9(c:qC)(F:List LF):List LF:=match Qf c with
 | some f=>if f.own then f::F else F
 | none=>F
def wg(ck:List qC)(f:LF):Bool:=ck.any λk=>match Qf k with | some f'=>LF.eq f' f | none=>false
def Zd:List LF->List qC->Bool
 | _,[]=>true
 | F,c::l=>
  let F':=F.filter λf=>f.keeps c.d
  (c.ck.isEmpty || ((c.o.isCall || c.o.isApp)&&c.ck.all λk=>match Qf k with | some f=>F'.any (LF.eq f) | none=>false))&&
   Zd (if c.o.isCall then(if c.ck.isEmpty then []else F'.filter (wg c.ck))else if c.apC then F'.filter (wg c.ck)else if c.o.quiet then W9 c F' else if c.o.isLoc then F' else if c.o.isNew then F' else []) l
mutual
def qP.ok:qP->Bool
 |.skip |.exit _ |.ret=>true
 |.reg _ l=>(l.all λc=>c.o.ok)&&Zd [] l
 |.seq a b=>a.ok&&b.ok
 |.cond c a b=>c.ok&&a.ok&&b.ok
 |.blk _ a |.loop a=>a.ok
end
def SCall(Γ:Nat->Option AFn)(g:Nat)(vs:List AV)(h:List qA)(K:AV->List qA->Prop):Prop:=
 ∀ρ hr ar,zH ρ h hr->RelVs ρ vs ar->∃k r hr' ρ' v h',Ex Γ k (.call g ar hr) (.res (.ok r) hr')/\K v h'/\zH ρ' h' hr'/\RelV ρ' v r/\Fm h.length ρ hr ρ' hr'/\h.length<=h'.length
def SCallK(Γ:Nat->Option AFn)(g:Nat)(vs:List AV)(h:List qA)(K:AV->List qA->Prop):Prop:=
 ∀ρ hr ar,zH ρ h hr->RelVs ρ vs ar->∃k r hr' ρ' v h',Ex Γ k (.call g ar hr) (.res (.ok r) hr')/\K v h'/\zH ρ' h' hr'/\RelV ρ' v r/\Fm h.length ρ hr ρ' hr'/\h.length<=h'.length/\∀a o,hr a=some o->hr' a=some o
def SCallP(Γ:Nat->Option AFn)(g:Nat)(vs:List AV)(h:List qA)(K:AV->Prop):Prop:=
 ∀ρ hr ar,zH ρ h hr->RelVs ρ vs ar->∃k r hr' v,Ex Γ k (.call g ar hr) (.res (.ok r) hr')/\hr'.f=hr.f/\(∀a,hr'.fr a->hr.fr a)/\K v/\RelV ρ v r
inductive Fr1 where
 | code (c:qP)
 | ops (l:List qC)
 | blk (n:Nat)
structure Ev where
 Γ:Nat->Option AFn
 b:Nat
 fz:List Nat
 bp:List Nat
def QY(n:Nat)(st:VSt):VSt:=match get st.s n with
 | some (.ptr id 0 0)=>(match st.h[id]? with
  | some (.row w [v] true)=>if 0<w then{s:=(n,.ept v 0)::st.s,l:=st.l,h:=st.h.set id .dead}else st
  | _=>st)
 | some (.slice w id 0 len c)=>(match st.h[id]? with
  | some (.row w' el true)=>if 0<w/\w'=w/\el.length=len then{s:=(n,.lst w el c)::st.s,l:=st.l,h:=st.h.set id .dead}else st
  | _=>st)
 | _=>st
def QZ:List Nat->VSt->VSt
 |[],st=>st
 | n::r,st=>QZ r (QY n st)
mutual
def qP.sz:qP->Nat
 |.skip=>1
 |.reg _ l=>2+l.length
 |.seq a b=>1+a.sz+b.sz
 |.cond _ a b=>1+a.sz+b.sz
 |.blk _ a=>2+a.sz
 |.loop _=>1
 |.exit _=>1
 |.ret=>1
end
def Fr1.sz:Fr1->Nat
 |.code c=>c.sz
 |.ops l=>1+l.length
 |.blk _=>1
def szF:List Fr1->Nat
 |[]=>0
 | f::r=>f.sz+szF r
def exK:qi->List Fr1->Option (List Fr1)
 | _,[]=>none
 |.exit m,.blk n::ks=>if m=n then some ks else exK (.exit m) ks
 | e,_::ks=>exK e ks
theorem Q0:∀{e:qi}{ks ks':List Fr1},exK e ks=some ks'->szF ks'<szF ks
 | e,[],ks',h=>by cases e<;>simp[exK]at h
 |.exit m,.blk n::ks,ks',h=>by
  simp only[exK]at h;split at h
  ·cases h;simp only[szF,Fr1.sz];omega
  ·have:=Q0 h;simp only[szF,Fr1.sz];omega
 |.exit m,.code c::ks,ks',h=>by have:=Q0 (e:=.exit m) (ks:=ks) (by simpa only [exK]using h);simp only[szF];omega
 |.exit m,.ops c::ks,ks',h=>by have:=Q0 (e:=.exit m) (ks:=ks) (by simpa only [exK]using h);simp only[szF];omega
 |.nrm,f::ks,ks',h=>by have:=Q0 (e:=.nrm) (ks:=ks) (by simpa only [exK]using h);simp only[szF];omega
 |.ret,f::ks,ks',h=>by have:=Q0 (e:=.ret) (ks:=ks) (by simpa only [exK]using h);simp only[szF];omega
 |.pan v,f::ks,ks',h=>by have:=Q0 (e:=.pan v) (ks:=ks) (by simpa only [exK]using h);simp only[szF];omega
inductive ExF(Γ:Nat->Option AFn):Nat->List Fr1->St->qi->St->Prop
 | nil {k s}:ExF Γ k [] s .nrm s
 | code {k c ks s s1 e s2} (h:Ex Γ k (.code c s) (.st .nrm s1)) (h':ExF Γ k ks s1 e s2):ExF Γ k (.code c::ks) s e s2
 | codeX {k c ks ks' s s1 e e1 s2} (h:Ex Γ k (.code c s) (.st e1 s1)) (he:e1≠.nrm) (hx:exK e1 ks=some ks') (h':ExF Γ k ks' s1 e s2):ExF Γ k (.code c::ks) s e s2
 | codeE {k c ks s s1 e1} (h:Ex Γ k (.code c s) (.st e1 s1)) (he:e1≠.nrm) (hx:exK e1 ks=none):ExF Γ k (.code c::ks) s e1 s1
 | ops {k l ks s s1 e s2} (h:Ex Γ k (.ops l s) (.st .nrm s1)) (h':ExF Γ k ks s1 e s2):ExF Γ k (.ops l::ks) s e s2
 | blk {k n ks s e s2} (h':ExF Γ k ks s e s2):ExF Γ k (.blk n::ks) s e s2
def Sem(E:Ev)(ks:List Fr1)(st:VSt)(Q:qi->VSt->Prop):Prop:=
 ∀ρ sr,zV ρ st sr->E.b<=st.h.length->∃k e sr' ρ' st',ExF E.Γ k ks sr e sr'/\Q e st'/\zV ρ' st' sr'/\Fm E.b ρ sr.h ρ' sr'.h/\E.b<=st'.h.length
def qGQ:List qC->Nat
 | c::_=>c.d.getD 0
 |[]=>0
def AV.flat:List AV->Prop
 |[]=>True
 |.int _ _::r=>AV.flat r
 | _=>False
def AV.rigid:AV->Prop
 |.agg cs=>AV.flat cs
 |.ptr _ _ _ |.map _ |.bool _ |.int _ _ |.str _ |.nilp |.nils |.nilm |.nilf |.nili=>True
 |.slice _ _ off len _=>¬(off=0/\len=0)
 | _=>False
def ckV(st:VSt)(k:qC):Prop:=match Qf k with
 | some f=>f.g=none/\∃v,get st.s f.d=some v/\wY (.load f.sh (.t f.p)) st=some v/\v.rigid
 | none=>False
def ckVs(st:VSt):List qC->Prop
 |[]=>True
 | c::l=>ckV st c/\ckVs st l
def qLY(E:Ev)(o:AOp)(ck:List qC)(d:Option Nat)(st:VSt)(K:VSt->Prop):Prop:=
 match jD (toE st.s) o with
 | some (g,vs)=>match ck with
  |[]=>SCall E.Γ g vs st.h (λv h'=>K {s:=jz st.s d v,l:=st.l,h:=h'})
  | c::l=>SCallK E.Γ g vs st.h (λv h'=>K {s:=jz st.s d v,l:=st.l,h:=h'})\/SCall E.Γ g vs st.h (λv h'=>ckVs {s:=jz st.s d v,l:=st.l,h:=h'} (c::l)/\K {s:=jz st.s d v,l:=st.l,h:=h'})
 | none=>False
def ckE(s:qp)(k:qC):Bool:=match Qf k with
 | some f=>(match get s f.p with | some (.ept _ _)=>true | _=>false)
 | none=>false
def qDO(c:AOp)(ck:List qC)(d:Option Nat)(st:VSt)(K:VSt->Prop):Prop:=match c with
 |.app w x y=>(match ev (toE st.s) x with
  | some (.lst w' [] true)=>w'=w/\jw (.app w x y) d st K
  | some (.slice _ _ _ _ _)=>(ck.all (ckE st.s))=true/\jw (.app w x y) d st K
  | _=>False)\/jw (.app w x y) d st (λst'=>ckVs st' ck/\K st')
 | _=>False
def j4(E:Ev)(c:qC)(st:VSt)(K:VSt->Prop):Prop:=if c.o.isCall then qLY E c.o c.ck c.d st K else if c.apC then qDO c.o c.ck c.d st K else jw c.o c.d st K
def qDP(E:Ev)(c:qC)(st:VSt)(K:VSt->Prop):Prop:=
 match c.g with
 | none=>j4 E c st K
 | some (n,t)=>match get st.s n with
  | some (.bool c')=>if c'=t then j4 E c st K else K (st.put c.d .undef)
  | some (.tup [])=>K (st.put c.d .undef)
  | _=>False
def R(E:Ev)(ks:List Fr1)(st:VSt)(Q:qi->VSt->Prop):Prop:=
 match ks with
 |[]=>Q .nrm st
 |.blk _::ks=>R E ks st Q
 |.ops []::ks=>R E ks st Q
 |.ops (c::l)::ks=>qDP E c st λst'=>R E (.ops l::ks) st' Q
 |.code .skip::ks=>R E ks st Q
 |.code (.reg p l)::ks=>if E.bp.contains (qGQ l)then Sem E (.code (.reg p l)::ks) st Q else R E (.ops l::ks) (QZ E.fz st) Q
 |.code (.seq a b)::ks=>R E (.code a::.code b::ks) st Q
 |.code (.cond c a b)::ks=>match ev (toE st.s) c with
  | some (.bool t)=>if t=true then R E (.code a::ks) st Q else R E (.code b::ks) st Q
  | _=>False
 |.code (.blk n a)::ks=>R E (.code a::.blk n::ks) st Q
 |.code (.loop a)::ks=>Sem E (.code (.loop a)::ks) st Q
 |.code (.exit n)::ks=>(match h:exK (.exit n) ks with
  | some ks'=>R E ks' st Q
  | none=>Q (.exit n) st)
 |.code .ret::ks=>(match h:exK .ret ks with
  | some ks'=>R E ks' st Q
  | none=>Q .ret st)
termination_by szF ks
decreasing_by
 all_goals simp only[szF,Fr1.sz,qP.sz,lCo,lNi]
 all_goals first
  | omega
  | (have:=Q0 h;omega)
theorem ExF.le{Γ:Nat->Option AFn}{k:Nat}{ks:List Fr1}{s s':St}{e:qi}(h:ExF Γ k ks s e s'):∀{k'},k<=k'->ExF Γ k' ks s e s':=by
 induction h with
 | nil=>exact λ_=>.nil
 | code h _ ih=>exact λhk=>.code (h.le hk) (ih hk)
 | codeX h he hx _ ih=>exact λhk=>.codeX (h.le hk) he hx (ih hk)
 | codeE h he hx=>exact λhk=>.codeE (h.le hk) he hx
 | ops h _ ih=>exact λhk=>.ops (h.le hk) (ih hk)
 | blk _ ih=>exact λhk=>.blk (ih hk)
theorem Ys{e:qi}{c:qP}{ks:List Fr1}:exK e (.code c::ks)=exK e ks:=by cases e<;>rfl
theorem Qz:∀ks,exK .ret ks=none
 |[]=>rfl
 |.code _::ks=>by rw[Ys];exact Qz ks
 |.ops _::ks=>Qz ks
 |.blk _::ks=>Qz ks
theorem ExF.seq{Γ:Nat->Option AFn}{k:Nat}{a b:qP}{ks:List Fr1}{s s':St}{e:qi}(h:ExF Γ k (.code a::.code b::ks) s e s'):ExF Γ k (.code (.seq a b)::ks) s e s':=by
 cases h with
 | code ha h'=>
  cases h' with
  | code hb h'=>exact .code (.seqN ha hb) h'
  | codeX hb he hx h'=>exact .codeX (.seqN ha hb) he hx h'
  | codeE hb he hx=>exact .codeE (.seqN ha hb) he hx
 | codeX ha he hx h'=>rw[Ys]at hx;exact .codeX (.seqX ha he) he hx h'
 | codeE ha he hx=>rw[Ys]at hx;exact .codeE (.seqX ha he) he hx
theorem ExF.blkC{Γ:Nat->Option AFn}{k n:Nat}{a:qP}{ks:List Fr1}{s s':St}{e:qi}(h:ExF Γ k (.code a::.blk n::ks) s e s'):ExF Γ k (.code (.blk n a)::ks) s e s':=by
 cases h with
 | code ha h'=>
  cases h' with
  | blk h'=>exact .code (.blk ha) h'
 | codeX ha he hx h'=>
  rename_i ks' s1 e1;cases e1 with
  | nrm=>exact absurd rfl he
  | exit m=>
   simp only[exK]at hx;split at hx
   ·rename_i hm;cases hx;have:=Ex.blk (n:=n) ha;simp only[Zc,iP hm]at this;exact .code this h'
   ·rename_i hm;have:=Ex.blk (n:=n) ha;simp only[Zc,iN hm]at this;exact .codeX this (by simp) hx h'
  | ret=>rw[Qz]at hx;cases hx
  | pan v=>exact .codeX (.blk ha) (by simp[Zc]) hx h'
 | codeE ha he hx=>
  cases e with
  | nrm=>exact absurd rfl he
  | exit m=>
   simp only[exK]at hx;split at hx
   ·cases hx
   ·rename_i hm;have:=Ex.blk (n:=n) ha;simp only[Zc,iN hm]at this;exact .codeE this (by simp) hx
  | ret=>exact .codeE (.blk ha) (by simp[]) (Qz _)
  | pan v=>exact .codeE (.blk ha) (by simp[]) hx
def LFok(sr:St)(f:LF):Prop:=Again sr (.mk 0 (some f.d) f.g (.load f.sh (.t f.p)) [])
section
variable {E:Ev} {ρ:Ren} {st:VSt} {sr:St}
theorem VA{s:Env}{d:Option Nat}{v:AV}{n:Nat}(h:∀e,d=some e->e≠n):lk (je s d v) n=lk s n:=by
 cases d with
 | none=>rfl
 | some e=>show lk (s.set e v) n=_;rw[wQ,iN (h e rfl)]
theorem qLS{s:Env}{d:Option Nat}{v:AV}{g:Option (Nat×Bool)}(h:∀e,d=some e->∀n t,g=some (n,t)->e≠n):zM (je s d v) g=zM s g:=by
 cases g with
 | none=>rfl
 | some p=>
  obtain⟨n,t⟩:=p;simp only[zM,VA (v:=v) (s:=s) (λe he=>h e he n t rfl)]
theorem qmK{f:LF}{d:Option Nat}(h:f.keeps d=true):∀e,d=some e->e≠f.d/\e≠f.p/\∀n t,f.g=some (n,t)->e≠n:=by
 rintro e rfl;simp only[LF.keeps,bAt,bNt]at h;obtain⟨⟨h1,h2⟩,h3⟩:=h;have ne:∀{a b:Nat},Nat.beq a b=false->a≠b:=λ{a b} q r=>by subst r;rw[Nat.beq_refl]at q;cases q
 refine⟨ne h1,ne h2,λn t hg=>?_⟩;rw[hg]at h3;simp only[bNt]at h3;exact ne h3
theorem LFok.put{f:LF}{d:Option Nat}{v:AV}(hk:f.keeps d=true)(h:LFok sr f):LFok (sr.put d v) f:=by
 have hn:=qmK hk;unfold LFok Again at h|-;simp only[qC.g,qC.d,qC.o]at h|-;have hw:zM (sr.put d v).s f.g=zM sr.s f.g:=qLS λe he n t hg=>(hn e he).2.2 n t hg;rw[hw];split at h
 ·obtain⟨d',v',h1,h2,h3⟩:=h;refine⟨d',v',h1, ?_, ?_⟩
  ·cases h1;show lk (je sr.s d v) f.d=_;rw[VA λe he=>(hn e he).1];exact h2
  ·rw[<-h3];have:ev (sr.put d v).s (.t f.p)=ev sr.s (.t f.p):=VA λe he=>(hn e he).2.1;simp only[val,this];rfl
 ·trivial
 ·exact h.elim
theorem LFok.heap{f:LF}{hr':AH}(he:∀a o,sr.h a=some o->hr' a=some o)(h:LFok sr f):LFok {sr with h:=hr'} f:=by
 unfold LFok Again at h|-;simp only[qC.g,qC.d,qC.o]at h|-;split at h
 ·obtain⟨d',v',h1,h2,h3⟩:=h;refine⟨d',v',h1,h2, ?_⟩;simp only[val]at h3|-;split at h3
  ·rename_i id i j hp;cases hq:sr.h id with
   | none=>simp[hq]at h3
   | some o=>rw[he _ _ hq];simpa[hq]using h3
  ·rename_i x j hp;exact h3
  ·cases h3
 ·trivial
 ·exact h.elim
theorem LFok.loc{f:LF}{sr1:St}(e1:sr1.s=sr.s)(e2:sr1.h=sr.h)(h:LFok sr f):LFok sr1 f:=by
 unfold LFok Again at h|-;simp only[qC.g,qC.d,qC.o,val]at h|-;rw[e1,e2];exact h
theorem Step.loc{o:AOp}{d:Option Nat}{sr1:St}(hs:Step o d sr sr1)(hl:o.isLoc=true):sr1.s=sr.s/\sr1.h=sr.h:=by
 cases o<;>first
  | (cases hl;done)
  | (obtain⟨_,_,rfl⟩:=hs;exact⟨rfl,rfl⟩)
  | (obtain⟨_,_,_,_,_,rfl⟩:=hs;exact⟨rfl,rfl⟩)
  | (obtain⟨_,_,_,_,_,_,_,rfl⟩:=hs;exact⟨rfl,rfl⟩)
theorem LFok.upd{f:LF}{id:Nat}{o:qA}(hn:sr.h id=none)(h:LFok sr f):LFok {sr with h:=sr.h.upd id o} f:=by
 unfold LFok Again at h|-;simp only[qC.g,qC.d,qC.o]at h|-;split at h
 ·obtain⟨d',v',h1,h2,h3⟩:=h;exact⟨d',v',h1,h2,YG hn h3⟩
 ·trivial
 ·exact h.elim
theorem LFok.app{f:LF}{w:Nat}{x y:Ao}{d:Option Nat}{sr1:St}{r:AV}(hs:Step (.app w x y) d sr sr1)(hx:ev sr.s x=some r)(hr:RelV ρ (.lst w [] true) r)(hk:f.keeps d=true)(h:LFok sr f):LFok sr1 f:=by
 obtain⟨a,b,h1,h2,ys,h3,h4,h5⟩:=hs;rw[hx]at h1;cases h1;have new:∀{o:qA}{v:Nat->AV},New sr d o v sr1->LFok sr1 f:=by
  rintro o v ⟨id,hid,rfl⟩;exact LFok.put hk (LFok.upd hid.1 h)
 simp only[RelV,RelVs]at hr;rcases hr with⟨_,c,rfl,_,rfl⟩ | ⟨_,rfl⟩
 ·obtain⟨_,h5⟩:=h5;split at h5
  ·rw[h5];exact LFok.put hk h
  ·exact new h5.2.2
 ·replace h5:if ys.length=0 then sr1=sr.put d .nils else ys.length<=LIM/\New sr d (.row w ys true) (λid=>.slice w id 0 ys.length false) sr1:=h5;split at h5
  ·rw[h5];exact LFok.put hk h
  ·exact new h5.2
theorem Step.app_s{w:Nat}{x y:Ao}{d:Option Nat}{sr1:St}(hs:Step (.app w x y) d sr sr1):∃v h',sr1={sr with h:=h'}.put d v:=by
 obtain⟨a,b,h1,h2,ys,h3,h4,h5⟩:=hs;have new:∀{o:qA}{v:Nat->AV}{h0:AH},New {sr with h:=h0} d o v sr1->∃v h',sr1={sr with h:=h'}.put d v:=by
  rintro o v h0 ⟨id,hid,rfl⟩;exact⟨v id,h0.upd id o,rfl⟩
 have stay:∀{v:AV},sr1=sr.put d v->∃v h',sr1={sr with h:=h'}.put d v:=λ{v} e=>⟨v,sr.h,e⟩;split at h5
 ·split at h5
  ·exact stay h5
  ·exact new (h0:=sr.h) h5.2
 ·obtain⟨_,h5⟩:=h5;split at h5
  ·exact stay h5
  ·obtain⟨_,xs,_,h5⟩:=h5;split at h5
   ·exact new (h0:=sr.h) h5
   ·exact new h5.2
 ·obtain⟨_,h5⟩:=h5;split at h5
  ·exact stay h5
  ·exact new (h0:=sr.h) h5.2.2
 ·exact h5.elim
theorem LFok.ept{f:LF}{w:Nat}{x y:Ao}{d:Option Nat}{sr1:St}{v:AV}{j:Nat}(hs:Step (.app w x y) d sr sr1)(hp:lk sr.s f.p=some (.ept v j))(hk:f.keeps d=true)(h:LFok sr f):LFok sr1 f:=by
 obtain⟨u,h',rfl⟩:=hs.app_s;refine LFok.put hk ?_;unfold LFok Again at h|-;simp only[qC.g,qC.d,qC.o]at h|-;split at h
 ·obtain⟨d',v',h1,h2,h3⟩:=h;refine⟨d',v',h1,h2, ?_⟩;have e:ev sr.s (.t f.p)=some (.ept v j):=hp;simp only[val,e]at h3|-;exact h3
 ·trivial
 ·exact h.elim
theorem LFok.newO{o:AOp}{f:LF}{d:Option Nat}{sr1:St}(hs:Step o d sr sr1)(hn:o.isNew=true)(hk:f.keeps d=true)(h:LFok sr f):LFok sr1 f:=by
 have new:∀{o:qA}{v:Nat->AV},New sr d o v sr1->LFok sr1 f:=by
  rintro o v ⟨id,hid,rfl⟩;exact LFok.put hk (LFok.upd hid.1 h)
 cases o<;>first
  | (simp only[AOp.isNew,bFt]at hn;done)
  | exact new hs
  | exact new hs.choose_spec.2
  | exact new hs.choose_spec.2.2
theorem LFok.new{c:qC}{f:LF}{v:AV}(hf:Qf c=some f)(ho:f.own=true)
  (h:(zM sr.s c.g=some true/\val c.o sr.s sr.l sr.h=some v)\/zM sr.s c.g=some false):LFok (sr.put c.d v) f:=by
 unfold Qf at hf;split at hf
 ·rename_i d sh p hd hc;simp only[oSi]at hf;subst hf;simp only[LF.own,bAt,bNt]at ho;obtain⟨h1,h2⟩:=ho;have ne:∀{a b:Nat},Nat.beq a b=false->a≠b:=λ{a b} q r=>by subst r;rw[Nat.beq_refl]at q;cases q
  have hw:zM (sr.put c.d v).s c.g=zM sr.s c.g:=qLS λe he n t hg=>by
   rw[hd]at he;cases he;rw[hg]at h2;simp only[bNt]at h2;exact ne h2
  show (match zM (sr.put c.d v).s c.g with
   | some true=>∃d' v',some d=some d'/\lk (sr.put c.d v).s d'=some v'/\val (.load sh (.t p)) (sr.put c.d v).s (sr.put c.d v).l (sr.put c.d v).h=some v'
   | some false=>True
   | none=>False)
  rw[hw];rcases h with⟨h3,h4⟩ | h3
  ·rw[h3];refine⟨d,v,rfl, ?_, ?_⟩
   ·rw[hd];show lk (sr.s.set d v) d=_;rw[wQ,iP rfl]
   ·rw[<-h4,hc];have:ev (sr.put c.d v).s (.t p)=ev sr.s (.t p):=VA λe he=>by rw[hd]at he;cases he;exact ne h1
    simp only[val,this];rfl
  ·rw[h3];trivial
 ·cases hf
theorem XI{F:List LF}(hF:∀f∈F,LFok sr f):∀{ck:List qC},(ck.all λk=>match Qf k with | some f=>F.any (LF.eq f) | none=>false)=true->Checks sr ck
 |[],_=>trivial
 | c::ck,h=>by
  simp only[lAc,bAt]at h;refine⟨?_,XI hF h.2⟩;have h1:=h.1;split at h1
  ·rename_i f hf;rw[List.any_eq_true]at h1;obtain⟨f',q1,q2⟩:=h1;have:=LF.eq_eq q2;subst this;have:=hF _ q1;unfold Qf at hf;split at hf
   ·rename_i d sh p hd hc;simp only[oSi]at hf;subst hf;unfold LFok Again at this;unfold Again;rw[hd,hc];exact this
   ·cases hf
  ·cases h1
theorem Step.quiet{o:AOp}{d:Option Nat}{s s':St}(hs:Step o d s s')(hq:o.quiet=true):∃v,val o s.s s.l s.h=some v/\s'=s.put d v:=by
 cases o<;>first
  | (simp only[AOp.quiet,bFt]at hq;done)
  | exact hs
theorem qjR(hS:zV ρ st sr){o:AOp}(ho:o.ok=true){g:Nat}{vs:List AV}(hc:jD (toE st.s) o=some (g,vs)):∃ar,jD sr.s o=some (g,ar)/\RelVs ρ vs ar:=by
 cases o<;>simp only[jD,reduceCtorEq]at hc
 case call g' args=>
  simp only[oMi,Prod.mk.injEq]at hc;obtain⟨as,h1,rfl,rfl⟩:=hc;obtain⟨rs,h2,h3⟩:=Yr hS.s ho h1;exact⟨rs,by simp only[jD,h2,oMs],h3⟩
 case callv x args=>
  simp only[AOp.ok,bAt]at ho;split at hc
  ·rename_i g' cs as h1 h2;cases hc;obtain⟨r,q1,q2⟩:=zJ hS.s ho.1 h1;simp only[RelV]at q2;obtain⟨ds,rfl,q2⟩:=q2;obtain⟨rs,q3,q4⟩:=Yr hS.s ho.2 h2;exact⟨rs++ds,by simp only[jD,q1,q3],q4.append q2⟩
  ·cases hc
theorem zH.grow{h h':List qA}{ρ':Ren}{hr hr':AH}(hh:zH ρ h hr)(hf:Fm h.length ρ hr ρ' hr'):ρ.le ρ':=λi a hi=>by
 have hlt:i<h.length:=by
  rcases Nat.lt_or_ge i h.length with q | q
  ·exact q
  ·rw[hh.out i q]at hi;cases hi
 rw[hf.base i hlt];exact hi
theorem AV.flat.one{ρ:Ren}:∀{cs rs:List AV},AV.flat cs->RelVs ρ cs rs->rs=cs
 |[],rs,_,h=>by simp only[RelVs]at h;exact h
 |.int k n::cs,rs,hf,h=>by
  simp only[RelVs,RelV]at h;obtain⟨b,bs,rfl,rfl,h3⟩:=h;rw[AV.flat.one (cs:=cs) hf h3]
theorem AV.rigid.one{ρ:Ren}:∀{v r r':AV},v.rigid->RelV ρ v r->RelV ρ v r'->r=r'
 |.ptr _ _ _,_,_,_,h,h'=>by
  simp only[RelV]at h h';obtain⟨a,h1,rfl⟩:=h;obtain⟨b,h2,rfl⟩:=h';rw[h1]at h2;cases h2;rfl
 |.map _,_,_,_,h,h'=>by
  simp only[RelV]at h h';obtain⟨a,h1,rfl⟩:=h;obtain⟨b,h2,rfl⟩:=h';rw[h1]at h2;cases h2;rfl
 |.slice _ _ _ _ _,_,_,hn,h,h'=>by
  simp only[RelV]at h h';rcases h with⟨a,h1,rfl⟩ | ⟨_,q1,q2,_⟩
  ·rcases h' with⟨b,h2,rfl⟩ | ⟨_,q1,q2,_⟩
   ·rw[h1]at h2;cases h2;rfl
   ·exact absurd ⟨q1,q2⟩ hn
  ·exact absurd ⟨q1,q2⟩ hn
 |.agg _,_,_,hn,h,h'=>by
  simp only[RelV]at h h';obtain⟨a,rfl,h1⟩:=h;obtain⟨b,rfl,h2⟩:=h';rw[AV.flat.one hn h1,AV.flat.one hn h2]
 |.bool _,_,_,_,h,h' |.int _ _,_,_,_,h,h' |.str _,_,_,_,h,h' |.nilp,_,_,_,h,h' |.nils,_,_,_,h,h' |.nilm,_,_,_,h,h' |.nilf,_,_,_,h,h' |.nili,_,_,_,h,h'=>by
  simp only[RelV]at h h';rw[h,h']
 |.lst _ _ _,_,_,hn,_,_ |.ept _ _,_,_,hn,_,_ |.fn _ _,_,_,hn,_,_ |.iface _ _,_,_,hn,_,_ |.tup _,_,_,hn,_,_ |.any,_,_,hn,_,_=>hn.elim
theorem ckVs.ok{st:VSt}{sr:St}{ρ:Ren}(hS:zV ρ st sr):∀{ck:List qC}{f:LF},ckVs st ck->wg ck f=true->LFok sr f
 |[],_,_,h=>by cases h
 | k::ck,f,hk,h=>by
  unfold wg at h;simp only[List.any_cons,Bool.or_eq_true]at h;rcases h with h | h
  ·have h1:=hk.1;unfold ckV at h1;split at h
   ·rename_i f' hf';have:=LF.eq_eq h;subst this;rw[hf']at h1;obtain⟨hg,v,q1,q2,q3⟩:=h1;obtain⟨r,a1,a2⟩:=hS.s _ _ q1;obtain⟨r',b1,b2⟩:=qLZ hS (by rfl) q2;have:=q3.one a2 b2;subst this;unfold LFok Again;simp only[qC.g,qC.d,qC.o,hg,zM];exact⟨_,_,rfl,a1,b1⟩
   ·cases h
  ·exact ckVs.ok hS hk.2 h
def xl(E:Ev):List qC->VSt->(VSt->Prop)->Prop
 |[],st,K=>K st
 | c::l,st,K=>qDP E c st λst'=>xl E l st' K
theorem QK{b:Nat}:∀{l:List qC}{F:List LF}{ρ:Ren}{st:VSt}{sr:St}{K:VSt->Prop},(l.all λc=>c.o.ok)=true->Zd F l=true->(∀f∈F,LFok sr f)->zV ρ st sr->b<=st.h.length->xl E l st K->
  ∃k sr' ρ' st',Ex E.Γ k (.ops l sr) (.st .nrm sr')/\K st'/\zV ρ' st' sr'/\Fm b ρ sr.h ρ' sr'.h/\b<=st'.h.length
 |[],F,ρ,st,sr,K,_,_,_,hS,hb,hx=>⟨0,sr,ρ,st,.nil,hx,hS,Fm.refl _ _ _,hb⟩
 | c::l,F,ρ,st,sr,K,hok,hck,hF,hS,hb,hx=>by
  simp only[lAc,bAt]at hok;simp only[Zd,bAt,Bool.or_eq_true]at hck;obtain⟨hok1,hok2⟩:=hok;obtain⟨hck1,hck2⟩:=hck
  --the guard says no
  have skip:∀{K':VSt->Prop},zM sr.s c.g=some false->K' (st.put c.d .undef)->(∀st',K' st'->xl E l st' K)->
    ∃k sr' ρ' st',Ex E.Γ k (.ops (c::l) sr) (.st .nrm sr')/\K st'/\zV ρ' st' sr'/\Fm b ρ sr.h ρ' sr'.h/\b<=st'.h.length:=by
   intro K' hw hk hK;have hS1:zV ρ (st.put c.d .undef) (sr.put c.d .undef):=⟨hS.s.put (by simp[RelV,RelVs]),hS.l,hS.h⟩;have hF1:∀f∈(if c.o.isCall then(if c.ck.isEmpty then []else(F.filter λf=>f.keeps c.d).filter (wg c.ck))else if c.apC then(F.filter (λf=>f.keeps c.d)).filter (wg c.ck)else if c.o.quiet then W9 c (F.filter λf=>f.keeps c.d)else if c.o.isLoc then F.filter (λf=>f.keeps c.d)else if c.o.isNew then F.filter (λf=>f.keeps c.d)else []),LFok (sr.put c.d .undef) f:=by
    have h0:∀f∈F.filter (λf=>f.keeps c.d),LFok (sr.put c.d .undef) f:=λf hf=>by
     rw[mFi]at hf;exact(hF f hf.1).put hf.2
    intro f hf;split at hf
    ·split at hf
     ·cases hf
     ·exact h0 f (mFi.1 hf).1
    ·split at hf
     ·exact h0 f (mFi.1 hf).1
     ·split at hf
      ·unfold W9 at hf;split at hf
       ·rename_i f1 hf1;split at hf
        ·rename_i hown;rcases mCo.1 hf with rfl | hf
         ·exact LFok.new hf1 hown (.inr hw)
         ·exact h0 f hf
        ·exact h0 f hf
       ·exact h0 f hf
      ·split at hf
       ·exact h0 f hf
       ·split at hf
        ·exact h0 f hf
        ·cases hf
   obtain⟨k,sr',ρ',st',g1,g2,g3,g4,g5⟩:=QK hok2 hck2 hF1 hS1 hb (hK _ hk);exact⟨k,sr',ρ',st',.skip hw g1,g2,g3,g4,g5⟩
  --the operation is done
  have run:∀{K':VSt->Prop},zM sr.s c.g=some true->j4 E c st K'->(∀st',K' st'->xl E l st' K)->
    ∃k sr' ρ' st',Ex E.Γ k (.ops (c::l) sr) (.st .nrm sr')/\K st'/\zV ρ' st' sr'/\Fm b ρ sr.h ρ' sr'.h/\b<=st'.h.length:=by
   intro K' hw hk hK;unfold j4 at hk;by_cases hcall:c.o.isCall=true
   ·rw[iP hcall]at hk hck2;unfold qLY at hk;split at hk
    ·rename_i g vs hc;obtain⟨ar,ha1,ha2⟩:=qjR hS hok1 hc;by_cases hck0:c.ck.isEmpty=true
     ·have hckn0:c.ck=[]:=by simpa using hck0
      rw[hckn0]at hk;simp only at hk;rw[iP hck0]at hck2;obtain⟨k,r,hr',ρ',v,h',q1,q2,q3,q4,q5,q6⟩:=hk ρ sr.h ar hS.h ha2;have hle:=hS.h.grow (h':=h') q5;have hS1:zV ρ' {s:=jz st.s c.d v,l:=st.l,h:=h'} ({sr with h:=hr'}.put c.d r):=⟨(hS.s.mono hle).put q4,hS.l.mono hle,q3⟩;have hF1:∀f∈([]:List LF),LFok ({sr with h:=hr'}.put c.d r) f:=λf hf=>by cases hf
      obtain⟨k2,sr',ρ2,st',g1,g2,g3,g4,g5⟩:=QK hok2 hck2 hF1 hS1 (nLt hb q6) (hK _ q2);have hckn:c.ck=[]:=by simpa using hck0
      refine⟨max k k2,sr',ρ2,st',.call hw ha1 (q1.le (Nat.le_max_left _ _)) (by rw[hckn];trivial) (g1.le (Nat.le_max_right _ _)),g2,g3, ?_,g5⟩;exact Fm.trans ⟨q5.pres,q5.new,q5.fr,λi hi=>q5.base i (by omega)⟩ g4
     ·have hck0:c.ck.isEmpty=false:=by simpa using hck0
      simp only[hck0,bFt,if_false]at hck2;have chk:∀{sr1:St},(∀f∈(F.filter λf=>f.keeps c.d).filter (wg c.ck),LFok sr1 f)->Checks sr1 c.ck:=λ{sr1} hF1=>by
       rcases hck1 with q | q
       ·rw[hck0]at q;cases q
       ·refine XI hF1 ?_;have q2:=q.2;rw[lAt]at q2|-;intro k hk;have:=q2 k hk;split at this
        ·rename_i f hf
         try simp only[hf]
         rw[List.any_eq_true]at this|-;obtain⟨f',g1,g2⟩:=this;refine⟨f',mFi.2 ⟨g1, ?_⟩,g2⟩;unfold wg;rw[List.any_eq_true];exact⟨k,hk,by rw[hf];exact g2⟩
        ·cases this
      have hk2:SCallK E.Γ g vs st.h (λv h'=>K' {s:=jz st.s c.d v,l:=st.l,h:=h'})\/SCall E.Γ g vs st.h (λv h'=>ckVs {s:=jz st.s c.d v,l:=st.l,h:=h'} c.ck/\K' {s:=jz st.s c.d v,l:=st.l,h:=h'}):=by
       cases e:c.ck with
       | nil=>rw[e]at hck0;cases hck0
       | cons a b=>rw[e]at hk;exact hk
      rcases hk2 with hk | hk
      ·obtain⟨k,r,hr',ρ',v,h',q1,q2,q3,q4,q5,q6,q7⟩:=hk ρ sr.h ar hS.h ha2;have hle:=hS.h.grow (h':=h') q5;have hS1:zV ρ' {s:=jz st.s c.d v,l:=st.l,h:=h'} ({sr with h:=hr'}.put c.d r):=⟨(hS.s.mono hle).put q4,hS.l.mono hle,q3⟩;have hF1:∀f∈(F.filter λf=>f.keeps c.d).filter (wg c.ck),LFok ({sr with h:=hr'}.put c.d r) f:=λf hf=>by
        rw[mFi,mFi]at hf;exact(LFok.heap q7 (hF f hf.1.1)).put hf.1.2
       obtain⟨k2,sr',ρ2,st',g1,g2,g3,g4,g5⟩:=QK hok2 hck2 hF1 hS1 (nLt hb q6) (hK _ q2);refine⟨max k k2,sr',ρ2,st',.call hw ha1 (q1.le (Nat.le_max_left _ _)) (chk hF1) (g1.le (Nat.le_max_right _ _)),g2,g3, ?_,g5⟩;exact Fm.trans ⟨q5.pres,q5.new,q5.fr,λi hi=>q5.base i (by omega)⟩ g4
      ·obtain⟨k,r,hr',ρ',v,h',q1,⟨qc,q2⟩,q3,q4,q5,q6⟩:=hk ρ sr.h ar hS.h ha2;have hle:=hS.h.grow (h':=h') q5;have hS1:zV ρ' {s:=jz st.s c.d v,l:=st.l,h:=h'} ({sr with h:=hr'}.put c.d r):=⟨(hS.s.mono hle).put q4,hS.l.mono hle,q3⟩;have hF1:∀f∈(F.filter λf=>f.keeps c.d).filter (wg c.ck),LFok ({sr with h:=hr'}.put c.d r) f:=λf hf=>ckVs.ok hS1 qc (mFi.1 hf).2;obtain⟨k2,sr',ρ2,st',g1,g2,g3,g4,g5⟩:=QK hok2 hck2 hF1 hS1 (nLt hb q6) (hK _ q2);refine⟨max k k2,sr',ρ2,st',.call hw ha1 (q1.le (Nat.le_max_left _ _)) (chk hF1) (g1.le (Nat.le_max_right _ _)),g2,g3, ?_,g5⟩;exact Fm.trans ⟨q5.pres,q5.new,q5.fr,λi hi=>q5.base i (by omega)⟩ g4
    ·exact hk.elim
   ·rw[iN hcall]at hk hck2;by_cases happ:c.apC=true
    ·rw[iP happ]at hk hck2;simp only[qC.apC,bAt,bNt]at happ;unfold qDO at hk;split at hk
     ·rename_i w x y hco;rcases hk with hk | hk;rotate_left
      ·rw[hco]at hok1;obtain⟨sr1,ρ1,st1,q1,⟨qc,q2⟩,q3,q4,q5⟩:=UN hS hb hok1 hk;have hF1:∀f∈(F.filter (λf=>f.keeps c.d)).filter (wg c.ck),LFok sr1 f:=λf hf=>ckVs.ok q3 qc (mFi.1 hf).2;have hch:Checks sr1 c.ck:=by
        rcases hck1 with q | q
        ·rw[happ.2]at q;cases q
        ·refine XI hF1 ?_;have q2:=q.2;rw[lAt]at q2|-;intro k hk;have:=q2 k hk;split at this
         ·rename_i f hf
          try simp only[hf]
          rw[List.any_eq_true]at this|-;obtain⟨f',g1,g2⟩:=this;refine⟨f',mFi.2 ⟨g1, ?_⟩,g2⟩;unfold wg;rw[List.any_eq_true];exact⟨k,hk,by rw[hf];exact g2⟩
         ·cases this
       obtain⟨k2,sr',ρ2,st',e1,e2,e3,e4,e5⟩:=QK hok2 hck2 hF1 q3 q5 (hK _ q2);exact⟨k2,sr',ρ2,st',.step hw (by rw[hco];exact q1) hch e1,e2,e3,q4.trans e4,e5⟩
      split at hk
      ·rename_i w' hx0;obtain⟨rfl,hk⟩:=hk;rw[hco]at hok1;obtain⟨sr1,ρ1,st1,q1,q2,q3,q4,q5⟩:=UN hS hb hok1 hk;simp only[AOp.ok,bAt]at hok1;obtain⟨r,g1,g2⟩:=zJ hS.s hok1.1 hx0;have hF1:∀f∈F.filter (λf=>f.keeps c.d),LFok sr1 f:=λf hf=>by
        rw[mFi]at hf;exact LFok.app q1 g1 g2 hf.2 (hF f hf.1)
       obtain⟨k2,sr',ρ2,st',e1,e2,e3,e4,e5⟩:=QK hok2 hck2 (λf hf=>hF1 f (mFi.1 hf).1) q3 q5 (hK _ q2);have hch:Checks sr1 c.ck:=by
        rcases hck1 with q | q
        ·rw[happ.2]at q;cases q
        ·exact XI hF1 q.2
       exact⟨k2,sr',ρ2,st',.step hw (by rw[hco];exact q1) hch e1,e2,e3,q4.trans e4,e5⟩
      ·obtain⟨hke,hk⟩:=hk;rw[hco]at hok1;obtain⟨sr1,ρ1,st1,q1,q2,q3,q4,q5⟩:=UN hS hb hok1 hk;have hF1:∀f∈(F.filter (λf=>f.keeps c.d)).filter (wg c.ck),LFok sr1 f:=λf hf=>by
        rw[mFi,mFi]at hf;obtain⟨⟨f1,f2⟩,f3⟩:=hf;unfold wg at f3;rw[List.any_eq_true]at f3;obtain⟨k,k1,k2⟩:=f3;have k3:=lAt.1 hke k k1;unfold ckE at k3;split at k2
        ·rename_i f' hf';have:=LF.eq_eq k2;subst this;rw[hf']at k3;simp only at k3;split at k3
         ·rename_i v j hg;obtain⟨r,p1,p2⟩:=hS.s _ _ hg;simp only[RelV]at p2;obtain⟨y,rfl,_⟩:=p2;exact LFok.ept q1 p1 f2 (hF _ f1)
         ·cases k3
        ·cases k2
       have hch:Checks sr1 c.ck:=by
        rcases hck1 with q | q
        ·rw[happ.2]at q;cases q
        ·refine XI hF1 ?_;have q2:=q.2;rw[lAt]at q2|-;intro k hk;have:=q2 k hk;split at this
         ·rename_i f hf
          try simp only[hf]
          rw[List.any_eq_true]at this|-;obtain⟨f',g1,g2⟩:=this;refine⟨f',mFi.2 ⟨g1, ?_⟩,g2⟩;unfold wg;rw[List.any_eq_true];exact⟨k,hk,by rw[hf];exact g2⟩
         ·cases this
       obtain⟨k2,sr',ρ2,st',e1,e2,e3,e4,e5⟩:=QK hok2 hck2 hF1 q3 q5 (hK _ q2);exact⟨k2,sr',ρ2,st',.step hw (by rw[hco];exact q1) hch e1,e2,e3,q4.trans e4,e5⟩
      ·exact hk.elim
     ·exact hk.elim
    rw[iN happ]at hk hck2;have hckn:c.ck=[]:=by
     rcases hck1 with q | q
     ·simpa using q
     ·rcases q.1 with q1 | q1
      ·exact absurd q1 hcall
      ·simp only[qC.apC,q1,Bool.true_and]at happ;simpa using happ
    obtain⟨sr1,ρ1,st1,q1,q2,q3,q4,q5⟩:=UN hS hb hok1 hk;have hF1:∀f∈(if c.o.quiet then W9 c (F.filter λf=>f.keeps c.d)else if c.o.isLoc then F.filter (λf=>f.keeps c.d)else if c.o.isNew then F.filter (λf=>f.keeps c.d)else []),LFok sr1 f:=by
     intro f hf;split at hf
     ·rename_i hq;obtain⟨v,hv,rfl⟩:=q1.quiet hq;have h0:∀f∈F.filter (λf=>f.keeps c.d),LFok (sr.put c.d v) f:=λf hf=>by
       rw[mFi]at hf;exact(hF f hf.1).put hf.2
      unfold W9 at hf;split at hf
      ·rename_i f1 hf1;split at hf
       ·rename_i hown;rcases mCo.1 hf with rfl | hf
        ·exact LFok.new hf1 hown (.inl ⟨hw,hv⟩)
        ·exact h0 f hf
       ·exact h0 f hf
      ·exact h0 f hf
     ·split at hf
      ·rename_i hl;rw[mFi]at hf;obtain⟨e1,e2⟩:=q1.loc hl;exact(hF f hf.1).loc e1 e2
      split at hf
      ·rename_i hl;rw[mFi]at hf;exact LFok.newO q1 hl hf.2 (hF f hf.1)
      ·cases hf
    obtain⟨k2,sr',ρ2,st',g1,g2,g3,g4,g5⟩:=QK hok2 hck2 hF1 q3 q5 (hK _ q2);exact⟨k2,sr',ρ2,st',.step hw q1 (by rw[hckn];trivial) g1,g2,g3,q4.trans g4,g5⟩
  unfold xl qDP at hx;split at hx
  ·rename_i hg;exact run (by rw[hg];rfl) hx (λ_ h=>h)
  ·rename_i n t hg;split at hx
   ·rename_i c' hn;obtain⟨r,h1,h2⟩:=hS.s n _ hn;simp only[RelV]at h2;subst h2;have hw:zM sr.s c.g=some (c'==t):=by rw[hg];simp only[zM,h1]
    split at hx
    ·rename_i hc;subst hc;exact run (by rw[hw];simp) hx (λ_ h=>h)
    ·rename_i hc;refine skip (by rw[hw];simpa using hc) hx (λ_ h=>h)
   ·rename_i hn;obtain⟨r,h1,h2⟩:=hS.s n _ hn;simp only[RelV,RelVs]at h2;obtain⟨_,rfl,rfl⟩:=h2;exact skip (by rw[hg];simp only[zM,h1]) hx (λ_ h=>h)
   ·exact hx.elim
theorem qAB{ks:List Fr1}{Q:qi->VSt->Prop}:∀{l:List qC}{st:VSt},R E (.ops l::ks) st Q=xl E l st λst'=>R E ks st' Q
 |[],st=>by rw[R];rfl
 | c::l,st=>by
  rw[R];simp only[xl];congr 1;funext st';exact qAB
end
section
variable {E:Ev} {ρ:Ren} {st:VSt} {sr:St} {ks:List Fr1} {Q:qi->VSt->Prop}
theorem qHL(h:AH){a:Nat}{o:qA}(_ha:h a=some o):h.kill [a]=h.upd a .dead:=by
 apply AH.ext'
 ·intro i;rw[AH.kill_at,AH.upd_apply];simp
 ·intro i;rfl
theorem qG0(hS:zV ρ st sr){n id a:Nat}{w:Nat}{el el':List AV}{v v':AV}(hid:ρ id=some (some a))(ho:st.h[id]?=some (.row w el true))(hro:sr.h a=some (.row w el' true))
  {v0:AV} (hv0:lk sr.s n=some v0) (hc:zC sr.h [a] v0 v') (hv:RelV ρ v v'):
  ∃sr',Frz [a] sr sr'/\zV ρ {s:=(n,v)::st.s,l:=st.l,h:=st.h.set id .dead} sr'/\sr'.h=sr.h.upd a .dead:=by
 refine⟨{s:=sr.s.set n v',l:=sr.l,h:=sr.h.kill [a]},⟨λi hi=>?_,λt x hx=>?_,λt x hx=>⟨x,hx,.refl _⟩,rfl⟩,⟨hS.s.cons hv,hS.l, ?_⟩,qHL _ hro⟩
 ·have:i=a:=by simpa using hi
  subst this;exact⟨_,hro,rfl⟩
 ·have hx2:lk (sr.s.set n v') t=some x:=hx;rw[wQ]at hx2;split at hx2
  ·rename_i e;simp only[oSi]at hx2;rw[<-e,<-hx2];exact⟨v0,hv0,hc⟩
  ·exact⟨x,hx2,.refl _⟩
 ·show zH ρ _ (sr.h.kill [a]);rw[qHL _ hro];exact hS.h.write hid ho (by simp) trivial
theorem qlS{b:Nat}(hS:zV ρ st sr)(hb:b<=st.h.length)(n:Nat):∃K sr',Frz K sr sr'/\zV ρ (QY n st) sr'/\Fm b ρ sr.h ρ sr'.h/\b<=(QY n st).h.length:=by
 have none:∃K sr',Frz K sr sr'/\zV ρ st sr'/\Fm b ρ sr.h ρ sr'.h/\b<=st.h.length:=by
  refine⟨[],sr,⟨λi hi=>by simp at hi,λt v h=>⟨v,h,.refl _⟩,λt v h=>⟨v,h,.refl _⟩, ?_⟩,hS,Fm.refl _ _ _,hb⟩;exact AH.ext' (λi=>by rw[AH.kill_at];simp) (λi=>rfl)
 unfold QY;split
 ·rename_i id hn;split
  ·rename_i w v ho;split
   ·rename_i hw;obtain⟨r,h1,h2⟩:=hS.s n _ hn;simp only[RelV]at h2;obtain⟨a,ha,rfl⟩:=h2;rcases hS.h.obj _ _ ho with⟨q,_⟩ | ⟨i',el',q1,q2,q3⟩
    ·rw[ha]at q;cases q
    rw[ha]at q1;cases q1;simp only[RelVs]at q3;obtain⟨v',_,rfl,q4,rfl⟩:=q3;obtain⟨sr',g1,g2,g3⟩:=qG0 hS ha ho q2 h1 (.ptr (j:=0) (by simp) q2 hw (x:=v') rfl (.refl v')) (v:=.ept v 0) (by simp only[RelV];exact⟨v',rfl,q4⟩);exact⟨_,sr',g1,g2,by rw[g3];exact Fm.write hS.h ha,by rw[lLs];exact hb⟩
   ·exact none
  ·exact none
 ·rename_i w id len c hn;split
  ·rename_i w' el ho;split
   ·rename_i hw;obtain⟨hw,rfl,hlen⟩:=hw;obtain⟨r,h1,h2⟩:=hS.s n _ hn;simp only[RelV]at h2;rcases h2 with⟨a,ha,rfl⟩ | ⟨ha,_,rfl,hc0⟩
    ·rcases hS.h.obj _ _ ho with⟨q,_⟩ | ⟨i',el',q1,q2,q3⟩
     ·rw[ha]at q;cases q
     rw[ha]at q1;cases q1;have hl:=q3.length;have e:(el'.drop 0).take len=el':=by rw[List.drop_zero,<-hlen,<-hl,lTl]
     have hcv:zC sr.h [a] (.slice w' a 0 len c) (.lst w' el' c):=by
      refine .slc (by simp) q2 (by omega) hw (by rw[e]) ?_;rw[e];intro p hp;have:p.1=p.2:=by
       obtain⟨i,hi,rfl⟩:=List.getElem_of_mem hp;simp
      rw[this];exact .refl _
     obtain⟨sr',g1,g2,g3⟩:=qG0 hS ha ho q2 h1 hcv (v:=.lst w' el c) (by simp only[RelV];exact .inl ⟨el',c,rfl,λh=>h,q3⟩);exact⟨_,sr',g1,g2,by rw[g3];exact Fm.write hS.h ha,by rw[lLs];exact hb⟩
    ·have:el=[]:=lEz hlen;subst this;refine⟨[],sr,⟨λi hi=>by simp at hi,λt v h=>⟨v,h,.refl _⟩,λt v h=>⟨v,h,.refl _⟩, ?_⟩,⟨?_,hS.l,hS.h.giveUp id⟩,Fm.refl _ _ _,by rw[lLs];exact hb⟩
     ·exact AH.ext' (λi=>by rw[AH.kill_at];simp) (λi=>rfl)
     ·intro t x hx;rw[WQ]at hx;split at hx
      ·rename_i e;subst e;cases hx;refine⟨r,h1, ?_⟩;rcases hc0 with rfl | rfl<;>simp[RelV,RelVs]
      ·exact hS.s t x hx
   ·exact none
  ·exact none
 ·exact none
theorem qGZ{b:Nat}:∀{fz:List Nat}{st:VSt}{sr:St},zV ρ st sr->b<=st.h.length->
  ∃sr',(∀Γ k c o,Ex Γ k (.code c sr') o->Ex Γ k (.code c sr) o)/\zV ρ (QZ fz st) sr'/\Fm b ρ sr.h ρ sr'.h/\b<=(QZ fz st).h.length
 |[],st,sr,hS,hb=>⟨sr,λ_ _ _ _ h=>h,hS,Fm.refl _ _ _,hb⟩
 | n::fz,st,sr,hS,hb=>by
  obtain⟨K,sr1,h1,h2,h3,h4⟩:=qlS hS hb n;obtain⟨sr',g1,g2,g3,g4⟩:=qGZ (fz:=fz) h2 h4;exact⟨sr',λΓ k c o h=>.frz K h1 (g1 Γ k c o h),g2,h3.trans g3,g4⟩
def Fr1.ok:Fr1->Bool
 |.code c=>c.ok
 |.ops l=>(l.all λc=>c.o.ok)&&Zd [] l
 |.blk _=>true
theorem Qy:∀{e:qi}{ks ks':List Fr1},exK e ks=some ks'->ks.all Fr1.ok=true->ks'.all Fr1.ok=true
 | e,[],ks',h,_=>by cases e<;>simp[exK]at h
 |.exit m,.blk n::ks,ks',h,hk=>by
  simp only[exK]at h;simp only[lAc,bAt]at hk;split at h
  ·cases h;exact hk.2
  ·exact Qy h hk.2
 |.exit m,.code c::ks,ks',h,hk=>by simp only[lAc,bAt]at hk;exact Qy (e:=.exit m) (ks:=ks) (by simpa only [exK]using h) hk.2
 |.exit m,.ops c::ks,ks',h,hk=>by simp only[lAc,bAt]at hk;exact Qy (e:=.exit m) (ks:=ks) (by simpa only [exK]using h) hk.2
 |.nrm,f::ks,ks',h,hk=>by simp only[lAc,bAt]at hk;exact Qy (e:=.nrm) (ks:=ks) (by simpa only [exK]using h) hk.2
 |.ret,f::ks,ks',h,hk=>by simp only[lAc,bAt]at hk;exact Qy (e:=.ret) (ks:=ks) (by simpa only [exK]using h) hk.2
 |.pan v,f::ks,ks',h,hk=>by simp only[lAc,bAt]at hk;exact Qy (e:=.pan v) (ks:=ks) (by simpa only [exK]using h) hk.2
theorem qhV:∀(n:Nat){ks:List Fr1}{st:VSt},szF ks=n->ks.all Fr1.ok=true->R E ks st Q->Sem E ks st Q:=by
 intro n
 induction n using Nat.strongRecOn with
 | _ n ih=>
 intro ks st hn hok hR;cases ks with
 | nil=>
  rw[R]at hR;exact λρ sr hS hb=>⟨0,_,sr,ρ,st,.nil,hR,hS,Fm.refl _ _ _,hb⟩
 | cons f ks=>
 simp only[lAc,bAt]at hok;obtain⟨hf,hok⟩:=hok;cases f with
 | blk m=>
  rw[R]at hR;have:=ih (szF ks) (by rw[<-hn];simp only[szF,Fr1.sz];omega) rfl hok hR;intro ρ sr hS hb;obtain⟨k,e,sr',ρ',st',g1,g2⟩:=this ρ sr hS hb;exact⟨k,e,sr',ρ',st',.blk g1,g2⟩
 | ops l=>
  rw[qAB]at hR;simp only[Fr1.ok,bAt]at hf;intro ρ sr hS hb;obtain⟨k,sr1,ρ1,st1,q1,q2,q3,q4,q5⟩:=QK hf.1 hf.2 (λf hf=>by cases hf) hS hb hR;obtain⟨k',e,sr',ρ',st',g1,g2,g3,g4,g5⟩:=ih (szF ks) (by rw[<-hn];simp only[szF,Fr1.sz];omega) rfl hok q2 ρ1 sr1 q3 q5;exact⟨max k k',e,sr',ρ',st',.ops (q1.le (Nat.le_max_left _ _)) (g1.le (Nat.le_max_right _ _)),g2,g3,q4.trans g4,g5⟩
 | code c=>
 simp only[Fr1.ok]at hf;cases c with
 | skip=>
  rw[R]at hR;have:=ih (szF ks) (by rw[<-hn];simp only[szF,Fr1.sz,qP.sz];omega) rfl hok hR;intro ρ sr hS hb;obtain⟨k,e,sr',ρ',st',g1,g2⟩:=this ρ sr hS hb;exact⟨k,e,sr',ρ',st',.code .cskip g1,g2⟩
 | reg p l=>
  rw[R]at hR;split at hR
  ·exact hR
  ·simp only[qP.ok,bAt]at hf;rw[qAB]at hR;intro ρ sr hS hb;obtain⟨sr0,f1,f2,f3,f4⟩:=qGZ (fz:=E.fz) hS hb;obtain⟨k,sr1,ρ1,st1,q1,q2,q3,q4,q5⟩:=QK hf.1 hf.2 (λf hf=>by cases hf) f2 f4 hR;obtain⟨k',e,sr',ρ',st',g1,g2,g3,g4,g5⟩:=ih (szF ks) (by rw[<-hn];simp only[szF,Fr1.sz,qP.sz];omega) rfl hok q2 ρ1 sr1 q3 q5;exact⟨max k k',e,sr',ρ',st',.code (f1 _ _ _ _ (.reg (q1.le (Nat.le_max_left _ _)) (.inr rfl))) (g1.le (Nat.le_max_right _ _)),g2,g3,f3.trans (q4.trans g4),g5⟩
 | seq a b=>
  rw[R]at hR;simp only[qP.ok,bAt]at hf;have:=ih (szF (.code a::.code b::ks)) (by rw[<-hn];simp only[szF,Fr1.sz,qP.sz];omega) rfl (by simp only[lAc,Fr1.ok,hf.1,hf.2,hok,Bool.and_self]) hR;intro ρ sr hS hb;obtain⟨k,e,sr',ρ',st',g1,g2⟩:=this ρ sr hS hb;exact⟨k,e,sr',ρ',st',g1.seq,g2⟩
 | cond c a b=>
  rw[R]at hR;simp only[qP.ok,bAt]at hf;split at hR
  ·rename_i t hc;have key:Sem E (.code (if t then a else b)::ks) st Q:=by
    cases t
    ·exact ih (szF (.code b::ks)) (by rw[<-hn];simp only[szF,Fr1.sz,qP.sz];omega) rfl (by simp only[lAc,Fr1.ok,hok,Bool.and_true];exact hf.2) (by simpa using hR)
    ·exact ih (szF (.code a::ks)) (by rw[<-hn];simp only[szF,Fr1.sz,qP.sz];omega) rfl (by simp only[lAc,Fr1.ok,hok,Bool.and_true];exact hf.1.2) (by simpa using hR)
   intro ρ sr hS hb;obtain⟨k,e,sr',ρ',st',g1,g2⟩:=key ρ sr hS hb;have hc':=WO hS.s hf.1.1 hc;refine⟨k,e,sr',ρ',st', ?_,g2⟩;cases g1 with
   | code h h'=>exact .code (.cond hc' h) h'
   | codeX h he hx h'=>exact .codeX (.cond hc' h) he hx h'
   | codeE h he hx=>exact .codeE (.cond hc' h) he hx
  ·exact hR.elim
 | blk m a=>
  rw[R]at hR;have:=ih (szF (.code a::.blk m::ks)) (by rw[<-hn];simp only[szF,Fr1.sz,qP.sz];omega) rfl (by simp only[lAc,Fr1.ok,hok,Bool.and_true];exact hf) hR;intro ρ sr hS hb;obtain⟨k,e,sr',ρ',st',g1,g2⟩:=this ρ sr hS hb;exact⟨k,e,sr',ρ',st',g1.blkC,g2⟩
 | loop a=>rw[R]at hR;exact hR
 | exit m=>
  rw[R]at hR;split at hR
  ·rename_i ks' hx;have:=ih (szF ks') (by have:=Q0 hx;rw[<-hn];simp only[szF,Fr1.sz,qP.sz];omega) rfl (Qy hx hok) hR;intro ρ sr hS hb;obtain⟨k,e,sr',ρ',st',g1,g2⟩:=this ρ sr hS hb;exact⟨k,e,sr',ρ',st',.codeX .exit (by simp) hx g1,g2⟩
  ·rename_i hx;exact λρ sr hS hb=>⟨0,_,sr,ρ,st,.codeE .exit (by simp) hx,hR,hS,Fm.refl _ _ _,hb⟩
 | ret=>
  rw[R]at hR;split at hR
  ·rename_i ks' hx;rw[Qz]at hx;cases hx
  ·rename_i hx;exact λρ sr hS hb=>⟨0,_,sr,ρ,st,.codeE .ret (by simp) hx,hR,hS,Fm.refl _ _ _,hb⟩
theorem Sem.of{st:VSt}(hok:ks.all Fr1.ok=true)(h:R E ks st Q):Sem E ks st Q:=qhV _ rfl hok h
def Can(b:Nat)(st st':VSt):Prop:=∀ρ sr,zV ρ st sr->b<=st.h.length->∃sr' ρ',(∀Γ k c o,Ex Γ k (.code c sr') o->Ex Γ k (.code c sr) o)/\zV ρ' st' sr'/\Fm b ρ sr.h ρ' sr'.h/\b<=st'.h.length
theorem Sem.can{c:qP}{st st':VSt}(hc:Can E.b st st')(h:Sem E (.code c::ks) st' Q):Sem E (.code c::ks) st Q:=by
 intro ρ sr hS hb;obtain⟨sr1,ρ1,a1,a2,a3,a4⟩:=hc ρ sr hS hb;obtain⟨k,e,sr',ρ',st2,g1,g2,g3,g4,g5⟩:=h ρ1 sr1 a2 a4;refine⟨k,e,sr',ρ',st2, ?_,g2,g3,a3.trans g4,g5⟩;cases g1 with
 | code h h'=>exact .code (a1 _ _ _ _ h) h'
 | codeX h he hx h'=>exact .codeX (a1 _ _ _ _ h) he hx h'
 | codeE h he hx=>exact .codeE (a1 _ _ _ _ h) he hx
def Q6{α:Type}(E:Ev)(I:α->Prop)(stt:α->VSt)(m:α->Nat)(a:α)(ks:List Fr1)(Q:qi->VSt->Prop):qi->VSt->Prop
 |.nrm,s=>∃a',I a'/\m a'<m a/\Can E.b s (stt a')
 | e,s=>match exK e ks with
  | some ks'=>R E ks' s Q
  | none=>Q e s
theorem Sem.loop{α:Type}{c:qP}(I:α->Prop)(stt:α->VSt)(m:α->Nat)(a0:α){st:VSt}(hok:(Fr1.code (.loop c)::ks).all Fr1.ok=true)(hi:I a0)(h0:Can E.b st (stt a0))
  (h:∀a,I a->R E [.code c] (stt a) (Q6 E I stt m a ks Q)):Sem E (.code (.loop c)::ks) st Q:=by
 simp only[lAc,bAt,Fr1.ok]at hok;have hc:c.ok=true:=by have:=hok.1;simpa only [qP.ok]using this
 have key:∀n a,m a=n->I a->Sem E (.code (.loop c)::ks) (stt a) Q:=by
  intro n
  induction n using Nat.strongRecOn with
  | _ n ih=>
  intro a hm hia ρ sr hS hb;obtain⟨k,e,sr1,ρ1,st1,g1,g2,g3,g4,g5⟩:=Sem.of (by simpa only [lAc,List.all_nil,Bool.and_true,Fr1.ok]using hc) (h a hia) ρ sr hS hb;have done:∀e1,e1≠.nrm->Ex E.Γ k (.code c sr) (.st e1 sr1)->Q6 E I stt m a ks Q e1 st1->
    ∃k e sr' ρ' st',ExF E.Γ k (.code (.loop c)::ks) sr e sr'/\Q e st'/\zV ρ' st' sr'/\Fm E.b ρ sr.h ρ' sr'.h/\E.b<=st'.h.length:=by
   intro e1 he hx hq;have hq:(match exK e1 ks with | some ks'=>R E ks' st1 Q | none=>Q e1 st1):=by
    cases e1 with
    | nrm=>exact absurd rfl he
    | _=>exact hq
   split at hq
   ·rename_i ks' hk;obtain⟨k2,e2,sr2,ρ2,st2,q1,q2,q3,q4,q5⟩:=Sem.of (Qy hk hok.2) hq ρ1 sr1 g3 g5;exact⟨max k k2,e2,sr2,ρ2,st2,.codeX (.loopX (hx.le (Nat.le_max_left _ _)) he) he hk (q1.le (Nat.le_max_right _ _)),q2,q3,g4.trans q4,q5⟩
   ·rename_i hk;exact⟨k,e1,sr1,ρ1,st1,.codeE (.loopX hx he) he hk,hq,g3,g4,g5⟩
  cases g1 with
  | code hx h'=>
   cases h';obtain⟨a',hia',hlt,hcan⟩:=g2;obtain⟨sr2,ρ2,a1,a2,a3,a4⟩:=hcan ρ1 sr1 g3 g5;obtain⟨k2,e2,sr3,ρ3,st3,q1,q2,q3,q4,q5⟩:=ih (m a') (by omega) a' rfl hia' ρ2 sr2 a2 a4;refine⟨max k k2,e2,sr3,ρ3,st3, ?_,q2,q3,g4.trans (a3.trans q4),q5⟩;cases q1 with
   | code h h'=>exact .code (.loopN (hx.le (Nat.le_max_left _ _)) (a1 _ _ _ _ (h.le (Nat.le_max_right _ _)))) (h'.le (Nat.le_max_right _ _))
   | codeX h he hx' h'=>exact .codeX (.loopN (hx.le (Nat.le_max_left _ _)) (a1 _ _ _ _ (h.le (Nat.le_max_right _ _)))) he hx' (h'.le (Nat.le_max_right _ _))
   | codeE h he hx'=>exact .codeE (.loopN (hx.le (Nat.le_max_left _ _)) (a1 _ _ _ _ (h.le (Nat.le_max_right _ _)))) he hx'
  | codeX hx he hk h'=>cases h'<;>simp[exK]at hk
  | codeE hx he hk=>exact done _ he hx g2
 exact Sem.can h0 (key _ a0 rfl hi)
end
def ρ0:Ren:=λ_=>none
section
variable {ρ ρ':Ren}
mutual
theorem QI:∀(a b:AV),a.tree=true->RelV ρ a b->RelV ρ' a b
 |.bool _,_,_,h |.int _ _,_,_,h |.str _,_,_,h |.nilp,_,_,h |.nils,_,_,h |.nilm,_,_,h |.nilf,_,_,h |.nili,_,_,h=>by simpa only [RelV]using h
 |.any,_,ht,_=>by simp[AV.tree]at ht
 |.ptr _ _ _,_,ht,_=>by simp[AV.tree]at ht
 |.map _,_,ht,_=>by simp[AV.tree]at ht
 |.slice _ _ _ _ _,_,ht,_=>by simp[AV.tree]at ht
 |.lst w xs _,_,ht,h=>by
  simp only[RelV]at h|-;simp only[AV.tree]at ht;rcases h with⟨ys,c,h1,h2,h3⟩ | h
  ·exact .inl ⟨ys,c,h1,h2,Jz xs ys ht h3⟩
  ·exact .inr h
 |.ept x _,_,ht,h=>by
  simp only[RelV]at h|-;simp only[AV.tree]at ht;obtain⟨y,h1,h2⟩:=h;exact⟨y,h1,QI x y ht h2⟩
 |.fn _ cs,_,ht,h=>by
  simp only[RelV]at h|-;simp only[AV.tree]at ht;obtain⟨ds,h1,h2⟩:=h;exact⟨ds,h1,Jz cs _ ht h2⟩
 |.iface _ x,_,ht,h=>by
  simp only[RelV]at h|-;simp only[AV.tree]at ht;obtain⟨u,h1,h2⟩:=h;exact⟨u,h1,QI x u ht h2⟩
 |.agg cs,_,ht,h=>by
  simp only[RelV]at h|-;simp only[AV.tree]at ht;obtain⟨ds,h1,h2⟩:=h;exact⟨ds,h1,Jz cs _ ht h2⟩
 |.tup cs,_,ht,h=>by
  simp only[RelV]at h|-;simp only[AV.tree]at ht;obtain⟨ds,h1,h2⟩:=h;exact⟨ds,h1,Jz cs _ ht h2⟩
theorem Jz:∀(as bs:List AV),AV.trees as=true->RelVs ρ as bs->RelVs ρ' as bs
 |[],_,_,h=>by simpa only [RelVs]using h
 | a::as,bs,ht,h=>by
  simp only[RelVs]at h|-;simp only[AV.trees,bAt]at ht;obtain⟨b,bs,h1,h2,h3⟩:=h;exact⟨b,bs,h1,QI a b ht.1 h2,Jz as bs ht.2 h3⟩
end
mutual
theorem V4:∀(a b:AV),a.tree=true->RelV ρ a b->b.tree=true
 |.bool _,_,_,h |.int _ _,_,_,h |.str _,_,_,h |.nilp,_,_,h |.nils,_,_,h |.nilm,_,_,h |.nilf,_,_,h |.nili,_,_,h=>by simp only[RelV]at h;subst h;rfl
 |.any,_,ht,_=>by simp[AV.tree]at ht
 |.ptr _ _ _,_,ht,_=>by simp[AV.tree]at ht
 |.map _,_,ht,_=>by simp[AV.tree]at ht
 |.slice _ _ _ _ _,_,ht,_=>by simp[AV.tree]at ht
 |.lst w xs _,_,ht,h=>by
  simp only[RelV]at h;simp only[AV.tree]at ht;rcases h with⟨ys,c,rfl,h2,h3⟩ | ⟨_,rfl⟩
  ·simp only[AV.tree];exact YE xs ys ht h3
  ·rfl
 |.ept x _,_,ht,h=>by
  simp only[RelV]at h;simp only[AV.tree]at ht;obtain⟨y,rfl,h2⟩:=h;simp only[AV.tree];exact V4 x y ht h2
 |.fn _ cs,_,ht,h=>by
  simp only[RelV]at h;simp only[AV.tree]at ht;obtain⟨ds,rfl,h2⟩:=h;simp only[AV.tree];exact YE cs _ ht h2
 |.iface _ x,_,ht,h=>by
  simp only[RelV]at h;simp only[AV.tree]at ht;obtain⟨u,rfl,h2⟩:=h;simp only[AV.tree];exact V4 x u ht h2
 |.agg cs,_,ht,h=>by
  simp only[RelV]at h;simp only[AV.tree]at ht;obtain⟨ds,rfl,h2⟩:=h;simp only[AV.tree];exact YE cs _ ht h2
 |.tup cs,_,ht,h=>by
  simp only[RelV]at h;simp only[AV.tree]at ht;obtain⟨ds,rfl,h2⟩:=h;simp only[AV.tree];exact YE cs _ ht h2
theorem YE:∀(as bs:List AV),AV.trees as=true->RelVs ρ as bs->AV.trees bs=true
 |[],_,_,h=>by simp only[RelVs]at h;subst h;rfl
 | a::as,bs,ht,h=>by
  simp only[RelVs]at h;simp only[AV.trees,bAt]at ht;obtain⟨b,bs,rfl,h2,h3⟩:=h;simp only[AV.trees,bAt];exact⟨V4 a b ht.1 h2,YE as bs ht.2 h3⟩
end
mutual
theorem Y8:∀(a b:AV),a.leaf=true->RelV ρ a b->b=a
 |.bool _,_,_,h |.int _ _,_,_,h |.str _,_,_,h |.nilp,_,_,h |.nils,_,_,h |.nilm,_,_,h |.nilf,_,_,h |.nili,_,_,h=>by simp only[RelV]at h;exact h
 |.any,_,ht,_=>by simp[AV.leaf]at ht
 |.ptr _ _ _,_,ht,_=>by simp[AV.leaf]at ht
 |.map _,_,ht,_=>by simp[AV.leaf]at ht
 |.slice _ _ _ _ _,_,ht,_=>by simp[AV.leaf]at ht
 |.lst _ _ _,_,ht,_=>by simp[AV.leaf]at ht
 |.ept _ _,_,ht,_=>by simp[AV.leaf]at ht
 |.fn _ cs,_,ht,h=>by
  simp only[RelV]at h;simp only[AV.leaf]at ht;obtain⟨ds,rfl,h2⟩:=h;rw[Y9 cs _ ht h2]
 |.iface _ x,_,ht,h=>by
  simp only[RelV]at h;simp only[AV.leaf]at ht;obtain⟨u,rfl,h2⟩:=h;rw[Y8 x u ht h2]
 |.agg cs,_,ht,h=>by
  simp only[RelV]at h;simp only[AV.leaf]at ht;obtain⟨ds,rfl,h2⟩:=h;rw[Y9 cs _ ht h2]
 |.tup cs,_,ht,h=>by
  simp only[RelV]at h;simp only[AV.leaf]at ht;obtain⟨ds,rfl,h2⟩:=h;rw[Y9 cs _ ht h2]
theorem Y9:∀(as bs:List AV),AV.leafs as=true->RelVs ρ as bs->bs=as
 |[],_,_,h=>by simpa only [RelVs]using h
 | a::as,bs,ht,h=>by
  simp only[RelVs]at h;simp only[AV.leafs,bAt]at ht;obtain⟨b,bs,rfl,h2,h3⟩:=h;rw[Y8 a b ht.1 h2,Y9 as bs ht.2 h3]
end
inductive Cv(h:List qA):AV->AV->Prop
 | refl {v} (ht:v.tree=true):Cv h v v
 | nils {w c}:Cv h .nils (.lst w [] c)
 | slc {w id off len clip el ts} (ho:h[id]?=some (.row w el true)) (hl:off+len<=el.length) (hw:0<w) (hs:((el.drop off).take len).length=ts.length) (hc:∀p∈((el.drop off).take len).zip ts,Cv h p.1 p.2):Cv h (.slice w id off len clip) (.lst w ts false)
 | ptr {id i j w el x t} (ho:h[id]?=some (.row w el true)) (hw:0<w) (he:el[i]?=some x) (hc:Cv h x t):Cv h (.ptr id i j) (.ept t j)
 | agg {cs ds} (hl:cs.length=ds.length) (hc:∀p∈cs.zip ds,Cv h p.1 p.2):Cv h (.agg cs) (.agg ds)
 | fn {g cs ds} (hl:cs.length=ds.length) (hc:∀p∈cs.zip ds,Cv h p.1 p.2):Cv h (.fn g cs) (.fn g ds)
 | tup {cs ds} (hl:cs.length=ds.length) (hc:∀p∈cs.zip ds,Cv h p.1 p.2):Cv h (.tup cs) (.tup ds)
 | sub {x y j sh} (ht:x.tree=true) (hp:x.part j sh=some y) (hy:0<y.cells.length):Cv h (.ept x j) (.ept y 0)
theorem Cv.conv{h:List qA}{hr:AH}(hh:zH ρ h hr){K:List Nat}(hK:∀i a w el,ρ i=some (some a)->h[i]?=some (.row w el true)->K.contains a=true){v t:AV}(hc:Cv h v t):
  ∀{r:AV},RelV ρ v r->∃r',zC hr K r r'/\RelV ρ0 t r':=by
 have list:∀{cs ds rs:List AV},cs.length=ds.length->(∀p∈cs.zip ds,∀{r:AV},RelV ρ p.1 r->∃r',zC hr K r r'/\RelV ρ0 p.2 r')->RelVs ρ cs rs->
   ∃rs',rs.length=rs'.length/\(∀p∈rs.zip rs',zC hr K p.1 p.2)/\RelVs ρ0 ds rs':=by
  intro cs
  induction cs with
  | nil=>
   intro ds rs hl _ hr;have:ds=[]:=lEz (by simpa using hl.symm);subst this;simp only[RelVs]at hr;subst hr;exact⟨[],rfl,λp hp=>by simp at hp,by simp only[RelVs]⟩
  | cons c cs ih=>
   intro ds rs hl hi hr;cases ds with
   | nil=>simp at hl
   | cons d ds=>
    simp only[RelVs]at hr;obtain⟨r,rs,rfl,h1,h2⟩:=hr;obtain⟨r',q1,q2⟩:=hi (c,d) (by simp) h1;obtain⟨rs',q3,q4,q5⟩:=ih (by simpa using hl) (λp hp=>hi p (by simp only[List.zip_cons_cons];exact mCm _ hp)) h2;refine⟨r'::rs',by simp[q3],λp hp=>?_,by simp only[RelVs];exact⟨r',rs',rfl,q2,q5⟩⟩;simp only[List.zip_cons_cons,mCo]at hp;rcases hp with rfl | hp
    ·exact q1
    ·exact q4 p hp
 induction hc with
 | refl ht=>exact λhr=>⟨_,.refl _,QI _ _ ht hr⟩
 | @nils w c=>
  intro r hr;simp only[RelV]at hr;subst hr;exact⟨.lst w [] c,.nils,by simp only[RelV];exact .inl ⟨[],c,rfl,λh=>h,by simp only[RelVs]⟩⟩
 | @slc w id off len clip el ts ho hl hw hs hc ih=>
  intro r hr;simp only[RelV]at hr;rcases hr with⟨a,ha,rfl⟩ | ⟨ha,rfl,rfl,hc0⟩
  ·rcases hh.obj _ _ ho with⟨q,_⟩ | ⟨i',el',q1,q2,q3⟩
   ·rw[ha]at q;cases q
   rw[ha]at q1;cases q1;obtain⟨rs',g1,g2,g3⟩:=list hs (λp hp=>ih p hp) ((q3.drop off).take len);refine⟨.lst w rs' clip,.slc (hK _ _ _ _ ha ho) q2 (by rw[q3.length];exact hl) hw g1 g2, ?_⟩;simp only[RelV];exact .inl ⟨rs',clip,rfl,by simp,g3⟩
  ·have:ts=[]:=lEz (by rw[<-hs];simp);subst this;rcases hc0 with rfl | rfl
   ·exact⟨.lst w [] false,.nils,by simp only[RelV];exact .inl ⟨[],false,rfl,λh=>h,by simp only[RelVs]⟩⟩
   ·exact⟨.lst w [] true,.refl _,by simp only[RelV];exact .inl ⟨[],true,rfl,λ_=>rfl,by simp only[RelVs]⟩⟩
 | @ptr id i j w el x t ho hw he hc ih=>
  intro r hr;simp only[RelV]at hr;obtain⟨a,ha,rfl⟩:=hr;rcases hh.obj _ _ ho with⟨q,_⟩ | ⟨i',el',q1,q2,q3⟩
  ·rw[ha]at q;cases q
  rw[ha]at q1;cases q1;obtain⟨y,g1,g2⟩:=q3.get he;obtain⟨r',g3,g4⟩:=ih g2;exact⟨.ept r' j,.ptr (hK _ _ _ _ ha ho) q2 hw g1 g3,by simp only[RelV];exact⟨r',rfl,g4⟩⟩
 | sub ht hp hy=>
  intro r hr;have hr2:=QI (ρ':=ρ0) _ _ (by simpa only [AV.tree]using ht) hr;simp only[RelV]at hr2;obtain⟨y',rfl,hr3⟩:=hr2;obtain⟨z,g1,g2⟩:=hr3.part hp;exact⟨.ept z 0,.sub g1 (by rw[g2.cellsLen];exact hy),by simp only[RelV];exact⟨z,rfl,g2⟩⟩
 | agg hl hc ih=>
  intro r hr;simp only[RelV]at hr;obtain⟨rs,rfl,hr⟩:=hr;obtain⟨rs',g1,g2,g3⟩:=list hl (λp hp=>ih p hp) hr;exact⟨.agg rs',.agg g1 g2,by simp only[RelV];exact⟨rs',rfl,g3⟩⟩
 | fn hl hc ih=>
  intro r hr;simp only[RelV]at hr;obtain⟨rs,rfl,hr⟩:=hr;obtain⟨rs',g1,g2,g3⟩:=list hl (λp hp=>ih p hp) hr;exact⟨.fn _ rs',.fn g1 g2,by simp only[RelV];exact⟨rs',rfl,g3⟩⟩
 | tup hl hc ih=>
  intro r hr;simp only[RelV]at hr;obtain⟨rs,rfl,hr⟩:=hr;obtain⟨rs',g1,g2,g3⟩:=list hl (λp hp=>ih p hp) hr;exact⟨.tup rs',.tup g1 g2,by simp only[RelV];exact⟨rs',rfl,g3⟩⟩
def Cvs(h:List qA)(as bs:List AV):Prop:=as.length=bs.length/\∀p∈as.zip bs,Cv h p.1 p.2
theorem Cvs.nil{h:List qA}:Cvs h [] []:=⟨rfl,λp hp=>by simp at hp⟩
theorem Cvs.cons{h:List qA}{a b:AV}{as bs:List AV}(x:Cv h a b)(y:Cvs h as bs):Cvs h (a::as) (b::bs):=⟨by simp[y.1],λp hp=>by
 simp only[List.zip_cons_cons,mCo]at hp;rcases hp with rfl | hp
 ·exact x
 ·exact y.2 p hp⟩
theorem Cvs.conv{h:List qA}{hr:AH}(hh:zH ρ h hr){K:List Nat}(hK:∀i a w el,ρ i=some (some a)->h[i]?=some (.row w el true)->K.contains a=true){vs ts rs:List AV}(hc:Cvs h vs ts)(hv:RelVs ρ vs rs):
  ∃rs',rs.length=rs'.length/\(∀p∈rs.zip rs',zC hr K p.1 p.2)/\RelVs ρ0 ts rs':=by
 have:=Cv.conv hh hK (v:=.tup vs) (t:=.tup ts) (.tup hc.1 hc.2) (r:=.tup rs) (by simp only[RelV];exact⟨rs,rfl,hv⟩);obtain⟨r',h1,h2⟩:=this;simp only[RelV]at h2;obtain⟨rs',rfl,h2⟩:=h2;cases h1 with
 | refl _=>exact⟨rs,rfl,λp hp=>by
   have:p.1=p.2:=by
    obtain⟨i,hi,rfl⟩:=List.getElem_of_mem hp;simp
   rw[this];exact .refl _,h2⟩
 | tup hl hc=>exact⟨rs',hl,hc,h2⟩
def Pure(Γ:Nat->Option AFn)(g:Nat)(as:List AV)(v:AV):Prop:=
 AV.trees as=true/\v.tree=true/\∀hr ar,RelVs ρ0 as ar->∃k r hr',Ex Γ k (.call g ar hr) (.res (.ok r) hr')/\hr'.f=hr.f/\(∀a,hr'.fr a->hr.fr a)/\RelV ρ0 v r
variable {Γ:Nat->Option AFn} {g:Nat} {vs vs':List AV} {h:List qA}
theorem SCallP.pure{K:AV->Prop}{v:AV}(hp:Pure Γ g vs v)(hk:K v):SCallP Γ g vs h K:=λρ hr ar hH hv=>by
 obtain⟨t1,t2,hp⟩:=hp;obtain⟨k,r,hr',h1,h2,h3,h4⟩:=hp hr ar (Jz _ _ t1 hv);exact⟨k,r,hr',v,h1,h2,h3,hk,QI _ _ t2 h4⟩
theorem SCall.ofP{K:AV->List qA->Prop}(hp:SCallP Γ g vs h λv=>K v h):SCall Γ g vs h K:=λρ hr ar hH hv=>by
 obtain⟨k,r,hr',v,h1,h2,h3,h4,h5⟩:=hp ρ hr ar hH hv;refine⟨k,r,hr',ρ,v,h,h1,h4,⟨λi o hi=>(hH.obj i o hi).mono (λ_ _ q=>q) (λa o' _ q=>by rw[h2];exact q),hH.inj,hH.out,λi a hi=>by rw[h2];exact hH.is i a hi⟩,h5, ?_,nLr _⟩;exact⟨λa o q _=>by rw[h2];exact q,λi a hi=>.inl ⟨i,hi⟩,h3,λ_ _=>rfl⟩
theorem SCallK.ofP{K:AV->List qA->Prop}(hp:SCallP Γ g vs h λv=>K v h):SCallK Γ g vs h K:=λρ hr ar hH hv=>by
 obtain⟨k,r,hr',v,h1,h2,h3,h4,h5⟩:=hp ρ hr ar hH hv;refine⟨k,r,hr',ρ,v,h,h1,h4,⟨λi o hi=>(hH.obj i o hi).mono (λ_ _ q=>q) (λa o' _ q=>by rw[h2];exact q),hH.inj,hH.out,λi a hi=>by rw[h2];exact hH.is i a hi⟩,h5, ?_,nLr _,λa o q=>by rw[h2];exact q⟩;exact⟨λa o q _=>by rw[h2];exact q,λi a hi=>.inl ⟨i,hi⟩,h3,λ_ _=>rfl⟩
theorem SCall.pure{K:AV->List qA->Prop}{v:AV}(hp:Pure Γ g vs v)(hk:K v h):SCall Γ g vs h K:=SCall.ofP (SCallP.pure hp hk)
theorem qBI(hr:AH):∃K,All hr K:=by
 obtain⟨n,hn⟩:=hr.fin;refine⟨(List.range n).filter λi=>match hr i with | some o=>o.wr | none=>false,λid=>?_⟩;rw[lCm,mFi,lMr];constructor
 ·rintro⟨_,h⟩;split at h
  ·rename_i o ho;exact⟨o,ho,h⟩
  ·cases h
 ·rintro⟨o,ho,hw⟩;refine⟨?_,by rw[ho];exact hw⟩;rcases Nat.lt_or_ge id n with q | q
  ·exact q
  ·rw[(hn id q).1]at ho;cases ho
theorem SCallP.lend{K:AV->Prop}{v:AV}(hc:Cvs h vs vs')(hp:Pure Γ g vs' v)(hl:v.leaf=true)(hk:K v):SCallP Γ g vs h K:=λρ hr ar hH hv=>by
 obtain⟨t1,t2,hp⟩:=hp;obtain⟨KK,hKK⟩:=qBI hr;have hKr:∀i a w el,ρ i=some (some a)->h[i]?=some (.row w el true)->KK.contains a=true:=λi a w el ha ho=>by
  rcases hH.obj _ _ ho with⟨q,_⟩ | ⟨i',el',q1,q2,q3⟩
  ·rw[ha]at q;cases q
  ·rw[ha]at q1;cases q1;exact(hKK a).2 ⟨_,q2,rfl⟩
 obtain⟨rs',g1,g2,g3⟩:=hc.conv hH hKr hv;obtain⟨k,r,hr',h1,h2,h3,h4⟩:=hp (hr.kill KK) rs' g3;have hrv:=Y8 _ _ hl h4;subst hrv;refine⟨k,r,hr.tomb hr',r,.brw KK hKK g1 g2 hl h1,rfl,λa ha=>?_,hk,QI _ _ t2 h4⟩;exact(AH.fr_kill (h3 a (AH.fr_tomb ha))).1
theorem SCall.lend{K:AV->List qA->Prop}{v:AV}(hc:Cvs h vs vs')(hp:Pure Γ g vs' v)(hl:v.leaf=true)(hk:K v h):SCall Γ g vs h K:=SCall.ofP (SCallP.lend hc hp hl hk)
def only(ids:List Nat)(h:List qA):List qA:=h.mapIdx λi o=>if ids.contains i then o else .dead
def without(ids:List Nat)(h:List qA):List qA:=h.mapIdx λi o=>if ids.contains i then .dead else o
theorem ZG{ids:List Nat}{i:Nat}{o:qA}(hi:(only ids h)[i]?=some o)(hd:o≠.dead):ids.contains i=true/\h[i]?=some o:=by
 simp only[only,List.getElem?_mapIdx,oMi]at hi;obtain⟨x,h1,h2⟩:=hi;split at h2
 ·rename_i hc;subst h2;exact⟨hc,h1⟩
 ·exact absurd h2.symm hd
theorem qDI{ids:List Nat}{i:Nat}{o:qA}(hi:(without ids h)[i]?=some o)(hd:o≠.dead):ids.contains i=false/\h[i]?=some o:=by
 simp only[without,List.getElem?_mapIdx,oMi]at hi;obtain⟨x,h1,h2⟩:=hi;split at h2
 ·exact absurd h2.symm hd
 ·rename_i hc;subst h2;exact⟨by simpa using hc,h1⟩
def jU(ρ:Ren)(h:List qA):List Nat->List Nat
 |[]=>[]
 | i::r=>match ρ i,h[i]? with
  | some (some a),some (.row _ _ true)=>a::jU ρ h r
  | _,_=>jU ρ h r
theorem JS{ρ:Ren}{h:List qA}{a:Nat}:∀{ids:List Nat},a∈jU ρ h ids↔∃i w el,i∈ids/\ρ i=some (some a)/\h[i]?=some (.row w el true)
 |[]=>by simp[jU]
 | i::r=>by
  have ih:=JS (ρ:=ρ) (h:=h) (a:=a) (ids:=r);simp only[jU];split
  ·rename_i b w el h1 h2;simp only[mCo,ih];constructor
   ·rintro(rfl | ⟨j,w,el,q1,q2,q3⟩)
    ·exact⟨i,w,el,.inl rfl,h1,h2⟩
    ·exact⟨j,w,el,.inr q1,q2,q3⟩
   ·rintro⟨j,w',el',rfl | q1,q2,q3⟩
    ·rw[h1]at q2;cases q2;exact .inl rfl
    ·exact .inr ⟨j,w',el',q1,q2,q3⟩
  ·rename_i hn;rw[ih];constructor
   ·rintro⟨j,w,el,q1,q2⟩;exact⟨j,w,el,mCm _ q1,q2⟩
   ·rintro⟨j,w',el',q1,q2,q3⟩;rcases mCo.1 q1 with rfl | q1
    ·exact(hn a w' el' q2 q3).elim
    ·exact⟨j,w',el',q1,q2,q3⟩
theorem zH.rows{h:List qA}{hr:AH}(hH:zH ρ h hr)(ids:List Nat):Rows hr (jU ρ h ids):=λa ha=>by
 rw[lCm,JS]at ha;obtain⟨i,w,el,_,q2,q3⟩:=ha;rcases hH.obj _ _ q3 with⟨q,_⟩ | ⟨i',el',g1,g2,g3⟩
 ·rw[q2]at q;cases q
 ·rw[q2]at g1;cases g1;exact⟨_,g2,rfl⟩
def wG(st:VSt):St:=⟨toE st.s,toE st.l,toH st.h⟩
def XS(res:List jh)(v:AV):qi->VSt->Prop:=λe st=>(e=.nrm\/e=.ret)/\match jM (wG st) res with
 | some vs=>Cv st.h (jS vs) v
 | none=>False
def qM:Nat->List AV->qp
 | _,[]=>[]
 | n,a::as=>(n,a)::qM (n+1) as
theorem Vd:∀{as ar:List AV}{n:Nat},RelVs ρ as ar->RelE ρ (qM n as) (params n ar)
 |[],ar,n,h=>λi v hi=>by cases hi
 | a::as,ar,n,h=>by
  simp only[RelVs]at h;obtain⟨r,rs,rfl,h1,h2⟩:=h;exact(Vd h2).cons h1
theorem qpO{st:VSt}{sr:St}(hS:zV ρ st sr){x:jh}{v:AV}(hv:wm (wG st) x=some v):∃r,wm sr x=some r/\RelV ρ v r:=by
 cases x with
 | t n=>exact hS.s n v hv
 | l t sh=>
  simp only[wm,Option.bind_eq_some_iff]at hv|-;obtain⟨c,h1,h2⟩:=hv;obtain⟨r,h3,h4⟩:=hS.l t c h1;obtain⟨y,h5,h6⟩:=h4.part h2;exact⟨y,⟨r,h3,h5⟩,h6⟩
 | h t sh=>
  simp only[wm]at hv|-;split at hv
  ·rename_i id i j hp;obtain⟨r,h3,h4⟩:=hS.s t _ hp;obtain⟨id',y,rfl,h5,h6⟩:=qIC hS.h h4 hv;rw[h3];exact⟨y,h5,h6⟩
  ·cases hv
theorem Vl{st:VSt}{sr:St}(hS:zV ρ st sr):∀{l:List jh}{vs:List AV},jM (wG st) l=some vs->∃rs,jM sr l=some rs/\RelVs ρ vs rs
 |[],vs,h=>by cases h;exact⟨[],rfl,by simp only[RelVs]⟩
 | x::l,vs,h=>by
  simp only[jM]at h;split at h
  ·rename_i v vs' h1 h2;cases h;obtain⟨r,q1,q2⟩:=qpO hS h1;obtain⟨rs,q3,q4⟩:=Vl hS h2;exact⟨r::rs,by simp only[jM,q1,q3],by simp only[RelVs];exact⟨r,rs,rfl,q2,q4⟩⟩
  ·cases h
theorem qCM{vs rs:List AV}(h:RelVs ρ vs rs):RelV ρ (jS vs) (jS rs):=by
 cases vs with
 | nil=>simp only[RelVs]at h;subst h;simp[jS,RelV,RelVs]
 | cons a vs=>
  cases vs with
  | nil=>
   simp only[RelVs]at h;obtain⟨r,_,rfl,h1,rfl⟩:=h;exact h1
  | cons b vs=>
   have h':=h;simp only[RelVs]at h;obtain⟨r,_,rfl,h1,s,rs,rfl,h2,h3⟩:=h;simp only[jS,RelV];exact⟨_,rfl,h'⟩
theorem AH.fr_of_tomb{h h':AH}{a:Nat}(k:(h.tomb h').fr a):h.fr a:=by
 obtain⟨h1,h2⟩:=k;have h2':(h.tb a || h'.tb a || ((h'.f a).isSome&&(h.f a).isNone))=false:=h2;simp only[Bool.or_eq_false_iff]at h2';exact⟨h1,h2'.1.1⟩
theorem Pure.intro{F:qJ}{as:List AV}{v:AV}(fz bp:List Nat)(hg:Γ g=some (.fn F))(hok:F.body.ok=true)(hn:as.length=F.np)(ht:AV.trees as=true)(hv:v.tree=true)
  (hR:R ⟨Γ,0,fz,bp⟩ [.code F.body] ⟨qM 0 as,[],[]⟩ (XS F.res v)):Pure Γ g as v:=by
 refine⟨ht,hv,λhr ar har=>?_⟩;have hS:zV ρ0 ⟨qM 0 as,[],[]⟩ {s:=params 0 ar,l:=Env.empty,h:=hr}:=⟨Vd har,(λn v h=>by cases h),⟨(λi o h=>by simp at h),(λi j a o o' h=>by cases h),(λ_ _=>rfl),(λi a h=>by cases h)⟩⟩;obtain⟨k,e,sr',ρ',st',g1,⟨he,hq⟩,g3,g4,_⟩:=Sem.of (by simpa only [lAc,List.all_nil,Bool.and_true,Fr1.ok]using hok) hR ρ0 _ hS (nZl _);have hb:Ex Γ k (.code F.body {s:=params 0 ar,l:=Env.empty,h:=hr}) (.st e sr'):=by
  cases g1 with
  | code h h'=>cases h';exact h
  | codeX h he' hx h'=>cases e<;>simp[exK]at hx
  | codeE h he' hx=>exact h
 split at hq
 ·rename_i vs hvs;obtain⟨rs,q1,q2⟩:=Vl g3 hvs;have hx:=Ex.fn hg (by rw[har.length];exact hn) hb he q1;obtain⟨r',c1,c2⟩:=Cv.conv g3.h (K:=jU ρ' st'.h (List.range st'.h.length)) (λi a w el ha ho=>by
   rw[lCm,JS];exact⟨i,w,el,lMr.2 (Q8 ho),ha,ho⟩) hq (qCM q2)
  have hx2:=Ex.frzR _ (g3.h.rows _) c1 hx;have hold:∀id o,hr id=some o->(sr'.h.kill (jU ρ' st'.h (List.range st'.h.length))) id=some o:=λid o ho=>by
   rw[AH.kill_at,iN]
   ·exact g4.pres id o ho (λi hi=>by cases hi)
   ·rw[lCm,JS];rintro⟨i,w,el,_,p2,_⟩;rcases g4.new i id p2 with⟨j,hj⟩ | hf
    ·cases hj
    ·have:hr id=none:=hf.1;rw[this]at ho;cases ho
  exact⟨k+1,r',_,.drop hold (V4 _ _ hv c2) hx2,rfl,λa ha=>AH.fr_of_tomb ha,c2⟩
 ·exact hq.elim
end
attribute [irreducible] Pure
theorem nr{α:Sort _}{a b:α}(h:a=b):a=b:=h
def Go1(E:Ev)(c:qC)(l:List qC)(ks:List Fr1)(st:VSt)(Q:qi->VSt->Prop):Prop:=j4 E c st λst'=>R E (.ops l::ks) st' Q
def Grd(E:Ev)(v:Option AV)(t:Bool)(c:qC)(l:List qC)(ks:List Fr1)(st:VSt)(Q:qi->VSt->Prop):Prop:=match v with
 | some (.bool c')=>if c'=t then Go1 E c l ks st Q else R E (.ops l::ks) (st.put c.d .undef) Q
 | some (.tup [])=>R E (.ops l::ks) (st.put c.d .undef) Q
 | _=>False
def Put(E:Ev)(v:Option AV)(d:Option Nat)(l:List qC)(ks:List Fr1)(st:VSt)(Q:qi->VSt->Prop):Prop:=match v with
 | some v=>R E (.ops l::ks) (st.put d v) Q
 | none=>False
def Cnd(E:Ev)(v:Option AV)(a b:qP)(ks:List Fr1)(st:VSt)(Q:qi->VSt->Prop):Prop:=match v with
 | some (.bool t)=>if t=true then R E (.code a::ks) st Q else R E (.code b::ks) st Q
 | _=>False
def wJ(E:Ev)(v:Option (Nat×List AV))(ck:List qC)(d:Option Nat)(l:List qC)(ks:List Fr1)(st:VSt)(Q:qi->VSt->Prop):Prop:=match v with
 | some (g,vs)=>match ck with
  |[]=>SCall E.Γ g vs st.h (λv h'=>R E (.ops l::ks) {s:=jz st.s d v,l:=st.l,h:=h'} Q)
  | c::r=>SCallK E.Γ g vs st.h (λv h'=>R E (.ops l::ks) {s:=jz st.s d v,l:=st.l,h:=h'} Q)\/SCall E.Γ g vs st.h (λv h'=>ckVs {s:=jz st.s d v,l:=st.l,h:=h'} (c::r)/\R E (.ops l::ks) {s:=jz st.s d v,l:=st.l,h:=h'} Q)
 | none=>False
def Z8(E:Ev)(e:qi)(k:Option (List Fr1))(st:VSt)(Q:qi->VSt->Prop):Prop:=match k with
 | some ks=>R E ks st Q
 | none=>Q e st
def JD(E:Ev)(d:Option Nat)(o:qA)(v:AV)(l:List qC)(ks:List Fr1)(st:VSt)(Q:qi->VSt->Prop):Prop:=R E (.ops l::ks) ⟨jz st.s d v,st.l,st.h++[o]⟩ Q
section
variable {E:Ev} {ks:List Fr1} {s m:qp} {h:List qA} {st:VSt} {Q:qi->VSt->Prop} {a b:qP} {c x y z:Ao} {op:BinOp} {l:List qC} {n t off i:Nat} {d:Option Nat} {sh:Option Nat} {v:AV} {g:Option (Nat×Bool)} {ck:List qC}
@[go_sem] theorem qvP:R E [] st Q=Q .nrm st:=by rw[R]
@[go_sem] theorem qvK:R E (.blk n::ks) st Q=R E ks st Q:=by rw[R]
@[go_sem] theorem qvQ:R E (.ops []::ks) st Q=R E ks st Q:=by rw[R]
@[go_sem] theorem qvX:R E (.code .skip::ks) st Q=R E ks st Q:=by rw[R]
@[go_sem] theorem qvW:R E (.code (.seq a b)::ks) st Q=R E (.code a::.code b::ks) st Q:=by rw[R]
@[go_sem] theorem qvL:R E (.code (.blk n a)::ks) st Q=R E (.code a::.blk n::ks) st Q:=by rw[R]
@[go_sem] theorem qvV:R E (.code .ret::ks) st Q=Q .ret st:=by
 rw[R];split
 ·rename_i ks' hx;rw[Qz]at hx;cases hx
 ·rfl
@[go_sem] theorem qvN:R E (.code (.exit n)::ks) st Q=Z8 E (.exit n) (exK (.exit n) ks) st Q:=by
 rw[R];unfold Z8;split<;>simp_all
@[go_sem] theorem qsD{e:qi}:Z8 E e (some ks) st Q=R E ks st Q:=nr rfl
@[go_sem] theorem qsC{e:qi}:Z8 E e none st Q=Q e st:=nr rfl
@[go_sem] theorem qsB{e:qi}:exK e []=none:=by cases e<;>rfl
@[go_sem] theorem qsA{e:qi}:exK e (.code a::ks)=exK e ks:=Ys
@[go_sem] theorem qr9{m:Nat}:exK (.exit m) (.blk n::ks)=if m=n then some ks else exK (.exit m) ks:=nr rfl
@[go_sem] theorem qvO:R E (.code (.loop a)::ks) st Q=Sem E (.code (.loop a)::ks) st Q:=by rw[R]
theorem qJX{Γ:Nat->Option AFn}{b:Nat}{fz bp:List Nat}{p:Bool}:R ⟨Γ,b,fz,bp⟩ (.code (.reg p l)::ks) st Q=if bp.contains (qGQ l)then Sem ⟨Γ,b,fz,bp⟩ (.code (.reg p l)::ks) st Q else R ⟨Γ,b,fz,bp⟩ (.ops l::ks) (QZ fz st) Q:=by rw[R]
@[go_sem] theorem qvT{Γ:Nat->Option AFn}{b:Nat}{p:Bool}:R ⟨Γ,b,[],[]⟩ (.code (.reg p l)::ks) st Q=R ⟨Γ,b,[],[]⟩ (.ops l::ks) st Q:=by rw[qJX];rfl
@[go_sem] theorem qvU{Γ:Nat->Option AFn}{b k:Nat}{fz:List Nat}{p:Bool}:R ⟨Γ,b,k::fz,[]⟩ (.code (.reg p l)::ks) st Q=R ⟨Γ,b,k::fz,[]⟩ (.ops l::ks) (QZ (k::fz) st) Q:=by rw[qJX];rfl
@[go_sem] theorem qsR:QZ [] st=st:=nr rfl
@[go_sem] theorem qsQ{fz:List Nat}:QZ (n::fz) st=QZ fz (QY n st):=nr rfl
@[go_sem] theorem qvM:R E (.code (.cond c a b)::ks) ⟨s,m,h⟩ Q=Cnd E (ev (toE s) c) a b ks ⟨s,m,h⟩ Q:=by rw[R];rfl
@[go_sem] theorem qrZ:Cnd E (some (.bool true)) a b ks st Q=R E (.code a::ks) st Q:=nr rfl
@[go_sem] theorem qrY:Cnd E (some (.bool false)) a b ks st Q=R E (.code b::ks) st Q:=nr rfl
theorem qU{t:Bool}(h1:t=true->R E (.code a::ks) st Q)(h2:t=false->R E (.code b::ks) st Q):Cnd E (some (.bool t)) a b ks st Q:=by cases t;exact h2 rfl;exact h1 rfl
theorem zF{t u:Bool}{c:qC}(h1:t=u->Go1 E c l ks st Q)(h2:t=(!u)->R E (.ops l::ks) (st.put c.d .undef) Q):Grd E (some (.bool t)) u c l ks st Q:=by
 unfold Grd;by_cases e:t=u
 ·simp only[iP e];exact h1 e
 ·simp only[iN e];exact h2 (by cases t<;>cases u<;>simp_all)
@[go_sem] theorem qvR{o:AOp}:R E (.ops (.mk i d none o ck::l)::ks) ⟨s,m,h⟩ Q=Go1 E (.mk i d none o ck) l ks ⟨s,m,h⟩ Q:=by rw[R];rfl
@[go_sem] theorem qvS{o:AOp}{t:Bool}:R E (.ops (.mk i d (some (n,t)) o ck::l)::ks) ⟨s,m,h⟩ Q=Grd E (get s n) t (.mk i d (some (n,t)) o ck) l ks ⟨s,m,h⟩ Q:=by rw[R];rfl
@[go_sem] theorem qt4{c:qC}:Grd E (some (.bool true)) true c l ks st Q=Go1 E c l ks st Q:=nr rfl
@[go_sem] theorem qt1{c:qC}:Grd E (some (.bool false)) false c l ks st Q=Go1 E c l ks st Q:=nr rfl
@[go_sem] theorem qt3{k:Nat}{o:AOp}:Grd E (some (.bool true)) false (.mk i (some k) g o ck) l ks ⟨s,m,h⟩ Q=R E (.ops l::ks) ⟨(k,.undef)::s,m,h⟩ Q:=nr rfl
@[go_sem] theorem qt2{k:Nat}{o:AOp}:Grd E (some (.bool false)) true (.mk i (some k) g o ck) l ks ⟨s,m,h⟩ Q=R E (.ops l::ks) ⟨(k,.undef)::s,m,h⟩ Q:=nr rfl
@[go_sem] theorem qt5{k:Nat}{o:AOp}{t:Bool}:Grd E (some .undef) t (.mk i (some k) g o ck) l ks ⟨s,m,h⟩ Q=R E (.ops l::ks) ⟨(k,.undef)::s,m,h⟩ Q:=nr rfl
@[go_sem] theorem d_mk{o:AOp}:(qC.mk i d g o ck).d=d:=nr rfl
@[go_sem] theorem qv8{k:Nat}:VSt.put ⟨s,m,h⟩ (some k) v=⟨(k,v)::s,m,h⟩:=nr rfl
@[go_sem] theorem qJW{k:Nat}:Put E (some v) (some k) l ks ⟨s,m,h⟩ Q=R E (.ops l::ks) ⟨(k,v)::s,m,h⟩ Q:=nr rfl
@[go_sem] theorem qu1{k:Nat}{o:qA}:JD E (some k) o v l ks ⟨s,m,h⟩ Q=R E (.ops l::ks) ⟨(k,v)::s,m,h++[o]⟩ Q:=nr rfl
theorem codeE{E:Ev}{ks:List Fr1}{st:VSt}{Q:qi->VSt->Prop}{a b:qP}(h:a=b):R E (.code a::ks) st Q=R E (.code b::ks) st Q:=by rw[h]
def oP(i d:Nat)(x:AOp):qC:=.mk i (some d) none x []
def oM(i d t:Nat):qC:=.mk i (some d) none (.mov (.t t)) []
def oG(i d k:Nat)(b:Bool)(x:AOp):qC:=.mk i (some d) (some (k,b)) x []
def oN(i:Nat)(x:AOp):qC:=.mk i none none x []
@[go_sem] theorem qu7{i d:Nat}{x:AOp}:oP i d x=.mk i (some d) none x []:=nr rfl
@[go_sem] theorem qu5{i d t:Nat}:oM i d t=.mk i (some d) none (.mov (.t t)) []:=nr rfl
@[go_sem] theorem qu4{i d k:Nat}{b:Bool}{x:AOp}:oG i d k b x=.mk i (some d) (some (k,b)) x []:=nr rfl
@[go_sem] theorem qu6{i:Nat}{x:AOp}:oN i x=.mk i none none x []:=nr rfl
@[go_sem] theorem qsX{k:Nat}:get ((k,v)::s) n=if k=n then some v else get s n:=nr rfl
@[go_sem] theorem ev_t:ev (toE s) (.t n)=get s n:=nr rfl
@[go_sem] theorem ev_c:ev (toE s) (.c v)=some v:=nr rfl
@[go_sem] theorem ev_f{k:Nat}:ev (toE s) (.f k)=some (.fn k []):=nr rfl
@[go_sem] theorem qr8:evs (toE s) []=some []:=nr rfl
def VV:Option AV->Option (List AV)->Option (List AV)
 | some a,some b=>some (a::b)
 | _,_=>none
@[go_sem] theorem qu8{vs:List AV}:VV (some v) (some vs)=some (v::vs):=nr rfl
@[go_sem] theorem qr7{xs:List Ao}:evs (toE s) (x::xs)=VV (ev (toE s) x) (evs (toE s) xs):=by
 simp only[evs];cases ev (toE s) x<;>cases evs (toE s) xs<;>rfl
theorem jc{o:AOp}(hc:o.isCall=false)(hx:∀K,jw o d ⟨s,m,h⟩ K=match wY o ⟨s,m,h⟩with | some v=>K (VSt.put ⟨s,m,h⟩ d v) | none=>False)(ha:o.isApp=false:=by rfl):Go1 E (.mk i d g o ck) l ks ⟨s,m,h⟩ Q=Put E (wY o ⟨s,m,h⟩) d l ks ⟨s,m,h⟩ Q:=by
 unfold Go1 j4;simp only[qC.o,qC.d,qC.apC,hc,ha,Bool.false_and,bFt,if_false,hx];rfl
@[go_sem] theorem qtR:Go1 E (.mk i d g (.mov x) ck) l ks ⟨s,m,h⟩ Q=Put E (ev (toE s) x) d l ks ⟨s,m,h⟩ Q:=jc rfl λ_=>rfl
def isn1:Bool->Option AV->Option AV
 | n,some (.lst _ (_::_) _)=>some (.bool n)
 | n,some .nils=>some (.bool !n)
 | _,_=>none
@[go_sem] theorem quH{n c:Bool}{w:Nat}{x:AV}{xs:List AV}:isn1 n (some (.lst w (x::xs) c))=some (.bool n):=nr rfl
@[go_sem] theorem qtG{n:Bool}:Go1 E (.mk i d g (.isnil 1 n x) ck) l ks ⟨s,m,h⟩ Q=Put E (isn1 n (ev (toE s) x)) d l ks ⟨s,m,h⟩ Q:=by
 have e:wY (.isnil 1 n x) ⟨s,m,h⟩=isn1 n (ev (toE s) x):=by
  simp only[wY];generalize ev (toE s) x=o;rcases o with _ | v
  ·rfl
  cases v<;>first
   | rfl
   | (rename_i w xs c;cases xs<;>rfl)
 rw[<-e];exact jc rfl λ_=>rfl
def Vg:Option AV->Option AV->Option AV->Option AV
 | some (.bool true),a,_=>a
 | some (.bool false),_,a=>a
 | _,_,_=>none
@[go_sem] theorem qvJ{a b:Option AV}:Vg (some (.bool true)) a b=a:=by cases a<;>rfl
@[go_sem] theorem qvI{a b:Option AV}:Vg (some (.bool false)) a b=b:=by cases a<;>rfl
@[go_sem] theorem qtV:Go1 E (.mk i d g (.pick x y z) ck) l ks ⟨s,m,h⟩ Q=Put E (Vg (ev (toE s) x) (ev (toE s) y) (ev (toE s) z)) d l ks ⟨s,m,h⟩ Q:=by
 rw[jc rfl λ_=>rfl];congr 1;simp only[wY,val];unfold Vg;split<;>simp_all
@[go_sem] theorem qs6{ps:List (Nat×Nat×Ao)}:Go1 E (.mk i d g (.build v ps) ck) l ks ⟨s,m,h⟩ Q=Put E (jZ (toE s) v ps) d l ks ⟨s,m,h⟩ Q:=jc rfl λ_=>rfl
@[go_sem] theorem qvG{k:IntKind}{n:Int}:(AV.int k n).part 0 none=some (.int k n):=nr rfl
@[go_sem] theorem qvH{w i j:Nat}:(AV.ptr w i j).part 0 none=some (.ptr w i j):=nr rfl
@[go_sem] theorem qvF{x:AV}{j:Nat}:(AV.ept x j).part 0 none=some (.ept x j):=nr rfl
@[go_sem] theorem qvD{cs:List AV}{j:Nat}:(AV.agg cs).part j none=cs[j]?:=nr rfl
theorem Ve{cs:List AV}{j k:Nat}:(AV.agg cs).part j (some k)=if j+k<=cs.length then some (.agg ((cs.drop j).take k))else none:=rfl
def Xp(off:Nat)(sh:Option Nat):Option AV->Option AV
 | some v=>v.part off sh
 | none=>none
@[go_sem] theorem qu9:Xp off sh (some v)=v.part off sh:=nr rfl
@[go_sem] theorem qtK:Go1 E (.mk i d g (.lload t off sh) ck) l ks ⟨s,m,h⟩ Q=Put E (Xp off sh (get m t)) d l ks ⟨s,m,h⟩ Q:=by
 rw[jc rfl λ_=>rfl];congr 1;show (get m t).bind _=_;cases get m t<;>rfl
def ZH(sh:Option Nat)(j i:Nat):Option qA->Option AV
 | some (.row _ el _)=>Xp j sh el[i]?
 | _=>none
@[go_sem] theorem qvA{j i w:Nat}{el:List AV}{rw':Bool}:ZH sh j i (some (.row w el rw'))=Xp j sh el[i]?:=nr rfl
def Xe(h:List qA)(sh:Option Nat):Option AV->Option AV
 | some (.ptr id i j)=>ZH sh j i h[id]?
 | some (.ept x j)=>x.part j sh
 | _=>none
@[go_sem] theorem quK{j:Nat}:Xe h sh (some (.ept v j))=v.part j sh:=nr rfl
@[go_sem] theorem quL{id i j:Nat}:Xe h sh (some (.ptr id i j))=ZH sh j i h[id]?:=nr rfl
@[go_sem] theorem qtL:Go1 E (.mk i d g (.load sh x) ck) l ks ⟨s,m,h⟩ Q=Put E (Xe h sh (ev (toE s) x)) d l ks ⟨s,m,h⟩ Q:=by
 rw[jc rfl λ_=>rfl];congr 1;simp only[wY,val];cases ev (toE s) x with
 | none=>rfl
 | some v=>
  cases v<;>try rfl
  rename_i id i j;show (match h[id]? with | some (.row _ el _)=>(el[i]?).bind (·.part j sh) | _=>none)=ZH sh j i h[id]?;cases h[id]? with
  | none=>rfl
  | some o=>
   cases o<;>try rfl
   rename_i w el rw';simp only[ZH];cases el[i]?<;>rfl
def nchk:Option AV->Option AV
 | some (.ptr a b c)=>some (.ptr a b c)
 | some (.ept x j)=>some (.ept x j)
 | some (.fn g cs)=>some (.fn g cs)
 | _=>none
@[go_sem] theorem qu0{a b c:Nat}:nchk (some (.ptr a b c))=some (.ptr a b c):=nr rfl
@[go_sem] theorem quZ{j:Nat}:nchk (some (.ept v j))=some (.ept v j):=nr rfl
@[go_sem] theorem qtS:Go1 E (.mk i d g (.nilchk x) ck) l ks ⟨s,m,h⟩ Q=Put E (nchk (ev (toE s) x)) d l ks ⟨s,m,h⟩ Q:=by
 rw[jc rfl λ_=>rfl];congr 1
def bin2(op:BinOp):Option AV->Option AV->Option AV
 | some (.int k a),some (.int k' b)=>if k=k' then wN op k a b else none
 | _,_=>none
@[go_sem] theorem qrJ{k:IntKind}{a b:Int}:bin2 op (some (.int k a)) (some (.int k b))=wN op k a b:=by simp[bin2]
@[go_sem] theorem qs4:Go1 E (.mk i d g (.bin op x y) ck) l ks ⟨s,m,h⟩ Q=Put E (bin2 op (ev (toE s) x) (ev (toE s) y)) d l ks ⟨s,m,h⟩ Q:=by
 rw[jc rfl λ_=>rfl];congr 1
section
variable {k:IntKind} {a b:Int}
@[go_sem] theorem qt6:wN .add k a b=some (.int k (k.wrap (a+b))):=nr rfl
@[go_sem] theorem quF:wN .sub k a b=some (.int k (k.wrap (a-b))):=nr rfl
@[go_sem] theorem quC:wN .mul k a b=some (.int k (k.wrap (a*b))):=nr rfl
@[go_sem] theorem quE:wN .quo k a b=if b=0 then none else some (.int k (k.wrap (a.tdiv b))):=nr rfl
@[go_sem] theorem qt7:wN .eql k a b=some (.bool (decide (a=b))):=nr rfl
@[go_sem] theorem quD:wN .neq k a b=some (.bool (!decide (a=b))):=nr rfl
@[go_sem] theorem quB:wN .lss k a b=some (.bool (decide (a<b))):=nr rfl
@[go_sem] theorem quA:wN .leq k a b=some (.bool (decide (a<=b))):=nr rfl
@[go_sem] theorem qt9:wN .gtr k a b=some (.bool (decide (b<a))):=nr rfl
@[go_sem] theorem qt8:wN .geq k a b=some (.bool (decide (b<=a))):=nr rfl
end
def beq2(neg:Bool):Option AV->Option AV->Option AV
 | some (.bool a),some (.bool b)=>some (.bool (if neg then !(a==b)else a==b))
 | _,_=>none
@[go_sem] theorem qrI{a b:Bool}:beq2 true (some (.bool a)) (some (.bool b))=some (.bool (!(a==b))):=nr rfl
@[go_sem] theorem qs3{neg:Bool}:Go1 E (.mk i d g (.beq neg x y) ck) l ks ⟨s,m,h⟩ Q=Put E (beq2 neg (ev (toE s) x) (ev (toE s) y)) d l ks ⟨s,m,h⟩ Q:=by
 rw[jc rfl λ_=>rfl];congr 1
def jX(neg:Bool)(k:List Nat):Option AV->Option AV->Option AV
 | some (.agg cs),some (.agg ds)=>if cs.map dig=k/\ds.map dig=k then(wK cs ds).map λb=>.bool (if neg then !b else b)else none
 | _,_=>none
@[go_sem] theorem qtW{neg:Bool}{k:List Nat}:Go1 E (.mk i d g (.seq neg k x y) ck) l ks ⟨s,m,h⟩ Q=Put E (jX neg k (ev (toE s) x) (ev (toE s) y)) d l ks ⟨s,m,h⟩ Q:=by
 rw[jc rfl λ_=>rfl];congr 1
def not1:Option AV->Option AV
 | some (.bool a)=>some (.bool !a)
 | _=>none
@[go_sem] theorem qu3{a:Bool}:not1 (some (.bool a))=some (.bool !a):=nr rfl
@[go_sem] theorem qtU:Go1 E (.mk i d g (.not x) ck) l ks ⟨s,m,h⟩ Q=Put E (not1 (ev (toE s) x)) d l ks ⟨s,m,h⟩ Q:=by
 rw[jc rfl λ_=>rfl];congr 1
def neg1:Option AV->Option AV
 | some (.int k n)=>some (.int k (k.wrap (0-n)))
 | _=>none
def qFX(k:IntKind):Option AV->Option AV
 | some (.int _ n)=>some (.int k (k.wrap n))
 | _=>none
@[go_sem] theorem qr1{k k':IntKind}{n:Int}:qFX k (some (.int k' n))=some (.int k (k.wrap n)):=nr rfl
@[go_sem] theorem qtA{k:IntKind}:Go1 E (.mk i d g (.conv k x) ck) l ks ⟨s,m,h⟩ Q=Put E (qFX k (ev (toE s) x)) d l ks ⟨s,m,h⟩ Q:=by
 rw[jc rfl λ_=>rfl];congr 1
@[go_sem] theorem qtX{w:Nat}{lo hi mx:Option Ao}:Go1 E (.mk i d g (.slc w x lo hi mx) ck) l ks ⟨s,m,h⟩ Q=Put E (val (.slc w x lo hi mx) (toE s) (toE m) (toH h)) d l ks ⟨s,m,h⟩ Q:=jc rfl λ_=>rfl
def fad(off:Nat):Option AV->Option AV
 | some (.ptr id i j)=>some (.ptr id i (j+off))
 | some (.ept x j)=>some (.ept x (j+off))
 | _=>none
@[go_sem] theorem qsG{id i j:Nat}:fad off (some (.ptr id i j))=some (.ptr id i (j+off)):=nr rfl
@[go_sem] theorem qsF{j:Nat}:fad off (some (.ept v j))=some (.ept v (j+off)):=nr rfl
@[go_sem] theorem qtC:Go1 E (.mk i d g (.faddr off x) ck) l ks ⟨s,m,h⟩ Q=Put E (fad off (ev (toE s) x)) d l ks ⟨s,m,h⟩ Q:=by
 rw[jc rfl λ_=>rfl];congr 1
def idx(w:Nat):Option AV->Option AV->Option AV
 | some (.slice w' id off len _),some (.int _ n)=>if w'=w/\0<=n/\n<len then some (.ptr id (off+n.toNat) 0)else none
 | some (.lst w' xs _),some (.int _ n)=>if w'=w/\0<=n then(xs[n.toNat]?).map λx=>.ept x 0 else none
 | _,_=>none
@[go_sem] theorem qHF{w:Nat}{xs:List AV}{cl:Bool}{k:IntKind}{n:Nat}:idx w (some (.lst w xs cl)) (some (.int k (n:Int)))=(xs[n]?).map λx=>.ept x 0:=by
 simp[idx]
@[go_sem] theorem quG{w:Nat}{xs:List AV}{cl:Bool}{k:IntKind}:idx w (some (.lst w xs cl)) (some (.int k 0))=(xs[0]?).map λx=>.ept x 0:=qHF (n:=0)
theorem Yz{w:Nat}{xs:List AV}{cl:Bool}{k:IntKind}{n:Int}(h:0<=n):idx w (some (.lst w xs cl)) (some (.int k n))=(xs[n.toNat]?).map λx=>.ept x 0:=by
 simp[idx,h]
theorem qW{w id off len:Nat}{cl:Bool}{k:IntKind}{n:Nat}(h:n<len):idx w (some (.slice w id off len cl)) (some (.int k (n:Int)))=some (.ptr id (off+n) 0):=by
 unfold idx;exact iP ⟨rfl,by omega,by omega⟩
theorem XY{w id off len:Nat}{cl:Bool}{k:IntKind}{n:Int}(h0:0<=n)(h:n<len):idx w (some (.slice w id off len cl)) (some (.int k n))=some (.ptr id (off+n.toNat) 0):=by
 unfold idx;exact iP ⟨rfl,h0,h⟩
@[go_sem] theorem qtF{w:Nat}:Go1 E (.mk i d g (.iaddr w x y) ck) l ks ⟨s,m,h⟩ Q=Put E (idx w (ev (toE s) x) (ev (toE s) y)) d l ks ⟨s,m,h⟩ Q:=by
 rw[jc rfl λ_=>rfl];congr 1
@[go_sem] theorem qsZ{n w:Nat}:Go1 E (.mk i d g (.aidx n w sh x y) ck) l ks ⟨s,m,h⟩ Q=Put E (val (.aidx n w sh x y) (toE s) (toE m) (toH h)) d l ks ⟨s,m,h⟩ Q:=jc rfl λ_=>rfl
def ext1(i:Nat):Option AV->Option AV
 | some (.tup vs)=>vs[i]?
 | _=>none
@[go_sem] theorem qsE{vs:List AV}:ext1 n (some (.tup vs))=vs[n]?:=nr rfl
@[go_sem] theorem qtB{j:Nat}:Go1 E (.mk i d g (.ext x j) ck) l ks ⟨s,m,h⟩ Q=Put E (ext1 j (ev (toE s) x)) d l ks ⟨s,m,h⟩ Q:=by
 rw[jc rfl λ_=>rfl];congr 1
def qIH(k:Nat):Option (List AV)->Option AV
 | some cs=>some (.fn k cs)
 | none=>none
@[go_sem] theorem quY{k:Nat}{cs:List AV}:qIH k (some cs)=some (.fn k cs):=nr rfl
@[go_sem] theorem qtP{k:Nat}{cs:List Ao}:Go1 E (.mk i d g (.mkfn k cs) ck) l ks ⟨s,m,h⟩ Q=Put E (qIH k (evs (toE s) cs)) d l ks ⟨s,m,h⟩ Q:=by
 rw[jc rfl λ_=>rfl];congr 1;show (evs (toE s) cs).map _=_;cases evs (toE s) cs<;>rfl
def QB:Option AV->Option AV
 | some .nils=>some (.int .i64 0)
 | some (.slice _ _ _ len _)=>some (.int .i64 len)
 | some (.lst _ xs _)=>some (.int .i64 xs.length)
 | _=>none
@[go_sem] theorem quJ{w id off len:Nat}{cl:Bool}:QB (some (.slice w id off len cl))=some (.int .i64 len):=nr rfl
@[go_sem] theorem quI{w:Nat}{xs:List AV}{cl:Bool}:QB (some (.lst w xs cl))=some (.int .i64 xs.length):=nr rfl
@[go_sem] theorem qtJ:Go1 E (.mk i d g (.len x) ck) l ks ⟨s,m,h⟩ Q=Put E (QB (ev (toE s) x)) d l ks ⟨s,m,h⟩ Q:=by
 rw[jc rfl λ_=>rfl];congr 1
def max2:Option AV->Option AV->Option AV
 | some (.int k a),some (.int k' b)=>if k=k' then some (.int k (if b>a then b else a))else none
 | _,_=>none
@[go_sem] theorem quW{k:IntKind}{a b:Int}:max2 (some (.int k a)) (some (.int k b))=some (.int k (max a b)):=by
 simp only[max2,if_true];congr 2;split<;>omega
@[go_sem] theorem qtN:Go1 E (.mk i d g (.max x y) ck) l ks ⟨s,m,h⟩ Q=Put E (max2 (ev (toE s) x) (ev (toE s) y)) d l ks ⟨s,m,h⟩ Q:=by
 rw[jc rfl λ_=>rfl];congr 1
def min2:Option AV->Option AV->Option AV
 | some (.int k a),some (.int k' b)=>if k=k' then some (.int k (if b<a then b else a))else none
 | _,_=>none
@[go_sem] theorem quX{k:IntKind}{a b:Int}:min2 (some (.int k a)) (some (.int k b))=some (.int k (min a b)):=by
 simp only[min2,if_true];congr 2;split<;>omega
@[go_sem] theorem qtO:Go1 E (.mk i d g (.min x y) ck) l ks ⟨s,m,h⟩ Q=Put E (min2 (ev (toE s) x) (ev (toE s) y)) d l ks ⟨s,m,h⟩ Q:=by
 rw[jc rfl λ_=>rfl];congr 1
def nop1:Option AV->Option AV
 | some _=>some .any
 | none=>none
@[go_sem] theorem qu2:nop1 (some v)=some .any:=nr rfl
@[go_sem] theorem qtT:Go1 E (.mk i d g (.nop t) ck) l ks ⟨s,m,h⟩ Q=Put E (nop1 (get m t)) d l ks ⟨s,m,h⟩ Q:=by
 rw[jc rfl λ_=>rfl];congr 1;show (get m t).map _=_;cases get m t<;>rfl
@[go_sem] theorem qtH{k:Nat}:Go1 E (.mk i (some k) g (.lalloc v) ck) l ks ⟨s,m,h⟩ Q=R E (.ops l::ks) ⟨s,(k,v)::m,h⟩ Q:=nr rfl
def YP(E:Ev)(k w:Nat)(v:Option AV)(l:List qC)(ks:List Fr1)(st:VSt)(Q:qi->VSt->Prop):Prop:=match v with
 | some v=>v.cells.length=w/\R E (.ops l::ks) ⟨st.s,(k,v)::st.l,st.h⟩ Q
 | none=>False
@[go_sem] theorem qtI{k w:Nat}:Go1 E (.mk i (some k) g (.lbox w x) ck) l ks ⟨s,m,h⟩ Q=YP E k w (ev (toE s) x) l ks ⟨s,m,h⟩ Q:=by
 unfold Go1 j4 jw YP;cases hq:ev (toE s) x<;>simp[qC.o,qC.d,AOp.isCall,qC.apC,AOp.isApp,hq]
theorem qa{k w:Nat}(hl:v.cells.length=w)(hr:R E (.ops l::ks) ⟨s,(k,v)::m,h⟩ Q):YP E k w (some v) l ks ⟨s,m,h⟩ Q:=⟨hl,hr⟩
def Lst(E:Ev)(t off w:Nat)(c v:Option AV)(l:List qC)(ks:List Fr1)(st:VSt)(Q:qi->VSt->Prop):Prop:=match c,v with
 | some c,some v=>v.cells.length=w/\(match c.put off v with | some c'=>R E (.ops l::ks) ⟨st.s,(t,c')::st.l,st.h⟩ Q | none=>False)
 | _,_=>False
@[go_sem] theorem qtM{w:Nat}:Go1 E (.mk i d g (.lstore t off w x) ck) l ks ⟨s,m,h⟩ Q=Lst E t off w (get m t) (ev (toE s) x) l ks ⟨s,m,h⟩ Q:=by
 unfold Go1 j4 jw Lst;cases hq:ev (toE s) x<;>cases hp:get m t<;>simp[qC.o,AOp.isCall,qC.apC,AOp.isApp,hq,hp]<;>exact λ_=>Iff.rfl
theorem VB{w:Nat}{c c':AV}(hl:v.cells.length=w)(hc:c.put off v=some c')(hr:R E (.ops l::ks) ⟨s,(t,c')::m,h⟩ Q):Lst E t off w (some c) (some v) l ks ⟨s,m,h⟩ Q:=by
 unfold Lst;exact⟨hl,by rw[hc];exact hr⟩
@[go_sem] theorem qtD{w:Nat}:Go1 E (.mk i d g (.halloc w v) ck) l ks ⟨s,m,h⟩ Q=JD E d (.row w [v] true) (.ptr h.length 0 0) l ks ⟨s,m,h⟩ Q:=nr rfl
def YO(E:Ev)(d:Option Nat)(w:Nat)(v:Option AV)(l:List qC)(ks:List Fr1)(st:VSt)(Q:qi->VSt->Prop):Prop:=match v with
 | some v=>v.cells.length=w/\JD E d (.row w [v] true) (.ptr st.h.length 0 0) l ks st Q
 | none=>False
@[go_sem] theorem qtE{w:Nat}:Go1 E (.mk i d g (.hbox w x) ck) l ks ⟨s,m,h⟩ Q=YO E d w (ev (toE s) x) l ks ⟨s,m,h⟩ Q:=by
 unfold Go1 j4 jw YO;cases hq:ev (toE s) x<;>simp[qC.o,qC.d,AOp.isCall,qC.apC,AOp.isApp,hq,JD,jy]
theorem JL{w:Nat}(hl:v.cells.length=w)(hr:JD E d (.row w [v] true) (.ptr h.length 0 0) l ks ⟨s,m,h⟩ Q):YO E d w (some v) l ks ⟨s,m,h⟩ Q:=⟨hl,hr⟩
def Bsl(E:Ev)(d:Option Nat)(w n:Nat)(el:Option (List AV))(l:List qC)(ks:List Fr1)(st:VSt)(Q:qi->VSt->Prop):Prop:=match el with
 | some el=>JD E d (.row w el true) (.slice w st.h.length 0 n false) l ks st Q
 | none=>False
@[go_sem] theorem qiG{w n:Nat}{el:List AV}:Bsl E d w n (some el) l ks ⟨s,m,h⟩ Q=JD E d (.row w el true) (.slice w h.length 0 n false) l ks ⟨s,m,h⟩ Q:=nr rfl
@[go_sem] theorem qs5{w n:Nat}{ps:List (Nat×Ao)}:Go1 E (.mk i d g (.bslice w v n ps) ck) l ks ⟨s,m,h⟩ Q=Bsl E d w n (jE (toE s) w (List.replicate n v) ps) l ks ⟨s,m,h⟩ Q:=by
 unfold Go1 j4 jw Bsl;cases hq:jE (toE s) w (List.replicate n v) ps<;>simp[qC.o,qC.d,AOp.isCall,qC.apC,AOp.isApp,hq,JD,jy]
def Mks(E:Ev)(d:Option Nat)(w:Nat)(z:AV)(a b:Option AV)(l:List qC)(ks:List Fr1)(st:VSt)(Q:qi->VSt->Prop):Prop:=match a,b with
 | some (.int _ n),some (.int _ m)=>0<=n/\n<=m/\m<=(LIM:Int)/\JD E d (.row w (List.replicate n.toNat z) true) (.slice w st.h.length 0 n.toNat false) l ks st Q
 | _,_=>False
@[go_sem] theorem qtQ{w:Nat}:Go1 E (.mk i d g (.mksl w v x y) ck) l ks ⟨s,m,h⟩ Q=Mks E d w v (ev (toE s) x) (ev (toE s) y) l ks ⟨s,m,h⟩ Q:=by
 unfold Go1 j4 jw Mks;simp only[qC.o,qC.d,AOp.isCall,qC.apC,AOp.isApp,Bool.false_and,bFt,if_false];rfl
theorem Jc{w:Nat}{k k':IntKind}{n:Nat}(hn:n<=LIM)(hr:JD E d (.row w (List.replicate n v) true) (.slice w h.length 0 n false) l ks ⟨s,m,h⟩ Q):Mks E d w v (some (.int k (n:Int))) (some (.int k' (n:Int))) l ks ⟨s,m,h⟩ Q:=
 ⟨by omega,by omega,by omega,by simpa using hr⟩
@[go_sem] theorem qs7{k:Nat}{as:List Ao}:Go1 E (.mk i d g (.call k as) ck) l ks ⟨s,m,h⟩ Q=wJ E (jD (toE s) (.call k as)) ck d l ks ⟨s,m,h⟩ Q:=nr rfl
@[go_sem] theorem qs8{as:List Ao}:Go1 E (.mk i d g (.callv x as) ck) l ks ⟨s,m,h⟩ Q=wJ E (jD (toE s) (.callv x as)) ck d l ks ⟨s,m,h⟩ Q:=nr rfl
def cal1(k:Nat):Option (List AV)->Option (Nat×List AV)
 | some as=>some (k,as)
 | none=>none
def cal2:Option AV->Option (List AV)->Option (Nat×List AV)
 | some (.fn g cs),some as=>some (g,as++cs)
 | _,_=>none
@[go_sem] theorem qrT{k:Nat}{vs:List AV}:cal1 k (some vs)=some (k,vs):=nr rfl
@[go_sem] theorem qrU{k:Nat}{vs cs:List AV}:cal2 (some (.fn k cs)) (some vs)=some (k,vs++cs):=nr rfl
@[go_sem] theorem qrV{k:Nat}{as:List Ao}:jD (toE s) (.call k as)=cal1 k (evs (toE s) as):=by
 show (evs (toE s) as).map _=_;cases evs (toE s) as<;>rfl
@[go_sem] theorem qrW{as:List Ao}:jD (toE s) (.callv x as)=cal2 (ev (toE s) x) (evs (toE s) as):=by
 simp only[jD];unfold cal2;split<;>simp_all
theorem Zr{a v:AV}{k:Nat}(ha:a.cells.length=k)(hv:v.cells.length=k)(hag:(∃cs,a=.agg cs)↔∃cs,v=.agg cs)(hk:0<k):a.put 0 v=some v:=by
 by_cases h:∃cs,a=.agg cs
 ·obtain⟨cs,rfl⟩:=h;obtain⟨ds,rfl⟩:=hag.1 ⟨cs,rfl⟩;have ha:cs.length=k:=ha;have hv:ds.length=k:=hv;show (if 0+ds.length<=cs.length then some (AV.agg (List.take 0 cs++(ds++List.drop (0+ds.length) cs)))else none)=_;rw[iP (by omega)];simp[ha,hv]
 ·have h2:¬∃cs,v=.agg cs:=λq=>h (hag.2 q);have c1:∀x:AV,(¬∃cs,x=.agg cs)->0<x.cells.length->x.cells=[x]:=λx hx hl=>by
   cases x<;>first | rfl | exact absurd ⟨_,rfl⟩ hx | (simp[AV.cells]at hl;done)
  have e1:=c1 a h (by omega);have e2:=c1 v h2 (by omega);have:a.put 0 v=if 0=0/\a.cells.length=1 then(match v.cells with |[y]=>some y | _=>none)else none:=by
   cases a<;>first | rfl | exact absurd ⟨_,rfl⟩ h
  rw[this,e1,e2];simp
def one:AV->AV
 |.agg [x]=>x
 | v=>v
theorem qoL(h:v.cells.length=1):v.cells=[one v]:=by
 cases v<;>first
  | rfl
  | (simp[AV.cells]at h;done)
  | (rename_i cs;match cs,h with |[x],_=>rfl)
def WJ(x:AV):Option (List AV)->Option (List AV)
 | some xs=>some (x::xs)
 | none=>none
def jm:List AV->Nat->AV->Option (List AV)
 |[],_,_=>none
 | _::xs,0,v=>some (v::xs)
 | x::xs,n+1,v=>WJ x (jm xs n v)
@[go_sem] theorem qv4{x:AV}{xs:List AV}:jm (x::xs) 0 v=some (v::xs):=nr rfl
@[go_sem] theorem qqG{x:AV}{xs:List AV}:jm (x::xs) (n+1) v=WJ x (jm xs n v):=nr rfl
@[go_sem] theorem qr0{x:AV}{xs:List AV}:WJ x (some xs)=some (x::xs):=nr rfl
theorem qqF:∀{cs:List AV}{n:Nat}{w:AV},w.cells=[v]->(AV.agg cs).put n w=(jm cs n v).map .agg:=by
 intro cs n w hw;show (if n+w.cells.length<=cs.length then some (AV.agg (cs.take n++(w.cells++cs.drop (n+w.cells.length))))else none)=_;rw[hw];simp only[lCo,lNi,nZa]
 induction cs generalizing n with
 | nil=>rw[iN (by simp)];rfl
 | cons c cs ih=>
  cases n with
  | zero=>rw[iP (by simp)];rfl
  | succ n=>
   have:=ih (n:=n);simp only[jm];cases hq:jm cs n v with
   | none=>
    rw[hq]at this;have hn:¬n+1<=cs.length:=by intro h;rw[iP h]at this;cases this
    rw[iN (by simp;omega)];rfl
   | some ds=>
    rw[hq]at this;have hn:n+1<=cs.length:=by
     rcases Nat.lt_or_ge cs.length (n+1)with h | h
     ·rw[iN (by omega)]at this;cases this
     ·exact h
    rw[iP hn]at this;simp only[oMs,oSi,AV.agg.injEq]at this;rw[iP (by simp;omega)];simp only[WJ,oMs,List.take_succ_cons,List.drop_succ_cons,<-this];rfl
def QM(E:Ev)(t:Nat)(cs:Option (List AV))(l:List qC)(ks:List Fr1)(st:VSt)(Q:qi->VSt->Prop):Prop:=match cs with
 | some cs=>R E (.ops l::ks) ⟨st.s,(t,.agg cs)::st.l,st.h⟩ Q
 | none=>False
@[go_sem] theorem quS{cs:List AV}:QM E t (some cs) l ks ⟨s,m,h⟩ Q=R E (.ops l::ks) ⟨s,(t,.agg cs)::m,h⟩ Q:=nr rfl
theorem Xg{cs:List AV}(hv:v.cells.length=1):Lst E t off 1 (some (.agg cs)) (some v) l ks ⟨s,m,h⟩ Q=QM E t (jm cs off (one v)) l ks ⟨s,m,h⟩ Q:=by
 unfold Lst QM;simp only[hv,true_and,qqF (qoL hv)];cases jm cs off (one v)<;>rfl
@[go_sem] theorem quO{cs:List AV}{k:IntKind}{n:Int}:Lst E t off 1 (some (.agg cs)) (some (.int k n)) l ks ⟨s,m,h⟩ Q=QM E t (jm cs off (.int k n)) l ks ⟨s,m,h⟩ Q:=Xg rfl
@[go_sem] theorem quP{cs:List AV}{n:Nat}{xs:List AV}{b:Bool}:Lst E t off 1 (some (.agg cs)) (some (.lst n xs b)) l ks ⟨s,m,h⟩ Q=QM E t (jm cs off (.lst n xs b)) l ks ⟨s,m,h⟩ Q:=Xg rfl
@[go_sem] theorem quR{cs:List AV}{n i j o:Nat}{b:Bool}:Lst E t off 1 (some (.agg cs)) (some (.slice n i j o b)) l ks ⟨s,m,h⟩ Q=QM E t (jm cs off (.slice n i j o b)) l ks ⟨s,m,h⟩ Q:=Xg rfl
@[go_sem] theorem quQ{cs:List AV}{x:AV}:Lst E t off 1 (some (.agg cs)) (some (.agg [x])) l ks ⟨s,m,h⟩ Q=QM E t (jm cs off x) l ks ⟨s,m,h⟩ Q:=Xg rfl
def Zz:List AV->Nat->Option (List AV)
 | _,0=>some []
 | x::xs,n+1=>WJ x (Zz xs n)
 |[],_+1=>none
def Ww:List AV->Nat->Nat->Option (List AV)
 | xs,0,k=>Zz xs k
 | _::xs,j+1,k=>Ww xs j k
 |[],_+1,_=>none
def YS:Option (List AV)->Option AV
 | some cs=>some (.agg cs)
 | none=>none
@[go_sem] theorem qqW{xs:List AV}:Zz xs 0=some []:=by cases xs<;>rfl
@[go_sem] theorem qqX{x:AV}{xs:List AV}{k:Nat}:Zz (x::xs) (k+1)=WJ x (Zz xs k):=nr rfl
@[go_sem] theorem qqU{xs:List AV}{k:Nat}:Ww xs 0 k=Zz xs k:=by cases xs<;>rfl
@[go_sem] theorem qqV{x:AV}{xs:List AV}{j k:Nat}:Ww (x::xs) (j+1) k=Ww xs j k:=nr rfl
@[go_sem] theorem qrH{cs:List AV}:YS (some cs)=some (.agg cs):=nr rfl
theorem qK6:∀{xs:List AV}{k:Nat},Zz xs k=if k<=xs.length then some (xs.take k)else none
 | xs,0=>by rw[qqW];simp
 |[],k+1=>rfl
 | x::xs,k+1=>by
  rw[qqX,qK6];by_cases h:k<=xs.length
  ·rw[iP h,iP (by simp;omega)];rfl
  ·rw[iN h,iN (by simp;omega)];rfl
theorem qK3:∀{xs:List AV}{j k:Nat},YS (Ww xs j k)=(AV.agg xs).part j (some k)
 | xs,0,k=>by
  rw[qqU,qK6,Ve];by_cases h:k<=xs.length
  ·rw[iP h,iP (by omega)];rfl
  ·rw[iN h,iN (by omega)];rfl
 |[],j+1,k=>by rw[Ve,iN (by simp)];rfl
 | x::xs,j+1,k=>by
  rw[qqV,qK3,Ve,Ve];by_cases h:j+k<=xs.length
  ·rw[iP h,iP (by simp;omega)];rfl
  ·rw[iN h,iN (by simp;omega)]
@[go_sem] theorem qvE{cs:List AV}{j k:Nat}:(AV.agg cs).part j (some k)=YS (Ww cs j k):=qK3.symm
theorem Q7{cs:List AV}{k:Nat}(h1:cs.length=k)(h2:v.cells.length=k)(h3:∃cs,v=.agg cs)(h4:0<k)(hr:R E (.ops l::ks) ⟨s,(t,v)::m,h⟩ Q):Lst E t 0 k (some (.agg cs)) (some v) l ks ⟨s,m,h⟩ Q:=
 VB h2 (Zr h1 h2 ⟨λ_=>h3,λ_=>⟨cs,rfl⟩⟩ h4) hr
def QG:List AV->Nat->List AV->Option (List AV)
 | cs,_,[]=>some cs
 | cs,off,y::ys=>match jm cs off y with
  | some cs'=>QG cs' (off+1) ys
  | none=>none
def S2(cs:Option (List AV))(off:Nat)(ys:List AV):Option (List AV):=match cs with
 | some cs=>QG cs off ys
 | none=>none
@[go_sem] theorem qqI{cs:List AV}:QG cs n []=some cs:=nr rfl
@[go_sem] theorem qqH{cs ys:List AV}{y:AV}:QG cs n (y::ys)=S2 (jm cs n y) (n+1) ys:=nr rfl
@[go_sem] theorem S2_s{cs ys:List AV}:S2 (some cs) n ys=QG cs n ys:=nr rfl
theorem qKS:∀{cs:List AV}{n:Nat},jm cs n v=if n<cs.length then some (cs.set n v)else none
 |[],n=>rfl
 | c::cs,0=>by simp[jm]
 | c::cs,n+1=>by
  rw[qqG,qKS];by_cases h:n<cs.length
  ·rw[iP h,iP (by simp;omega)];rfl
  ·rw[iN h,iN (by simp;omega)];rfl
theorem qKT:∀{ys cs:List AV}{off:Nat},ys≠[]->QG cs off ys=if off+ys.length<=cs.length then some (cs.take off++(ys++cs.drop (off+ys.length)))else none
 |[],_,_,h=>absurd rfl h
 | y::ys,cs,off,_=>by
  rw[qqH,qKS];by_cases h:off<cs.length
  ·rw[iP h,S2_s];cases ys with
   | nil=>
    rw[qqI,iP (by simp;omega)];congr 1;rw[List.set_eq_take_append_cons_drop,iP h];simp
   | cons z zs=>
    rw[qKT (by simp)];by_cases h2:off+1+(z::zs).length<=cs.length
    ·rw[iP (by simpa using h2),iP (by simp at h2|-;omega)];congr 1;have e1:(cs.set off y).take (off+1)=cs.take off++[y]:=by
      rw[lTs (by simp;omega),List.take_set_of_le (nLr _),List.getElem_set_self]
     have e2:(cs.set off y).drop (off+1+(z::zs).length)=cs.drop (off+(y::z::zs).length):=by
      rw[List.drop_set_of_lt (by simp;omega)];congr 1;simp;omega
     rw[e1,e2];simp
    ·rw[iN (by simpa using h2),iN (by simp at h2|-;omega)]
  ·rw[iN h,iN (by simp;omega)];rfl
theorem qpA{cs:List AV}(hv:v.cells≠[]):(AV.agg cs).put off v=YS (QG cs off v.cells):=by
 rw[qKT hv];show (if off+v.cells.length<=cs.length then some (AV.agg (cs.take off++(v.cells++cs.drop (off+v.cells.length))))else none)=_;split<;>rfl
@[go_sem] theorem qr3{k:IntKind}{n:Int}:(AV.int k n).cells=[.int k n]:=nr rfl
@[go_sem] theorem qr4{w:Nat}{xs:List AV}{c:Bool}:(AV.lst w xs c).cells=[.lst w xs c]:=nr rfl
@[go_sem] theorem qr6{w i j n:Nat}{c:Bool}:(AV.slice w i j n c).cells=[.slice w i j n c]:=nr rfl
@[go_sem] theorem qr5{w i j:Nat}:(AV.ptr w i j).cells=[.ptr w i j]:=nr rfl
@[go_sem] theorem qr2{cs:List AV}:(AV.agg cs).cells=cs:=nr rfl
def Bd(s:qp)(w:Nat)(v:Option AV)(off:Nat)(cs:List AV)(ps:List (Nat×Nat×Ao)):Option AV:=match v with
 | some v=>if v.cells.length=w then(match QG cs off v.cells with | some cs'=>jZ (toE s) (.agg cs') ps | none=>none)else none
 | none=>none
def B2(s:qp)(cs:Option (List AV))(ps:List (Nat×Nat×Ao)):Option AV:=match cs with
 | some cs=>jZ (toE s) (.agg cs) ps
 | none=>none
@[go_sem] theorem qrL:jZ (toE s) v []=some v:=nr rfl
@[go_sem] theorem qrK{w:Nat}{cs:List AV}{ps:List (Nat×Nat×Ao)}:jZ (toE s) (.agg cs) ((off,w+1,x)::ps)=Bd s (w+1) (ev (toE s) x) off cs ps:=by
 simp only[jZ,Bd];cases ev (toE s) x with
 | none=>rfl
 | some v=>
  simp only;by_cases h:v.cells.length=w+1
  ·rw[iP h,iP h,qpA (by intro q;rw[q]at h;simp at h)];cases QG cs off v.cells<;>rfl
  ·rw[iN h,iN h]
@[go_sem] theorem Bd_s{w:Nat}{cs:List AV}{ps:List (Nat×Nat×Ao)}:Bd s w (some v) off cs ps=if v.cells.length=w then B2 s (QG cs off v.cells) ps else none:=by
 simp only[Bd,B2]
@[go_sem] theorem B2_s{cs:List AV}{ps:List (Nat×Nat×Ao)}:B2 s (some cs) ps=jZ (toE s) (.agg cs) ps:=nr rfl
def Sto(E:Ev)(k:Nat)(a b:Option AV)(l:List qC)(ks:List Fr1)(st:VSt)(Q:qi->VSt->Prop):Prop:=match a,b with
 | some (.ptr id i j),some v=>v.cells.length=k/\(match st.h[id]? with
  | some (.row w el true)=>(match el[i]? with
   | some e=>(match e.put j v with
    | some e'=>R E (.ops l::ks) {st with h:=st.h.set id (.row w (el.set i e') true)} Q
    | none=>False)
   | none=>False)
  | _=>False)
 | _,_=>False
@[go_sem] theorem qt0{k:Nat}:Go1 E (.mk i d g (.store k x y) ck) l ks ⟨s,m,h⟩ Q=Sto E k (ev (toE s) x) (ev (toE s) y) l ks ⟨s,m,h⟩ Q:=by
 unfold Go1 j4 jw Sto;simp only[qC.o,qC.d,AOp.isCall,qC.apC,AOp.isApp,Bool.false_and,bFt,if_false]
 all_goals rfl
theorem zx{k id i j w:Nat}{el:List AV}{e e':AV}(hl:v.cells.length=k)(ho:h[id]?=some (.row w el true))(he:el[i]?=some e)(hp:e.put j v=some e')
  (hr:R E (.ops l::ks) ⟨s,m,h.set id (.row w (el.set i e') true)⟩ Q):Sto E k (some (.ptr id i j)) (some v) l ks ⟨s,m,h⟩ Q:=by
 refine⟨hl, ?_⟩;simp only[ho,he,hp];exact hr
def JC(E:Ev)(w:Nat)(d:Option Nat)(a b:Option AV)(l:List qC)(ks:List Fr1)(st:VSt)(Q:qi->VSt->Prop):Prop:=match a,b with
 | some a,some b=>Jl w b/\(match z9 (toH st.h) b with
  | some ys=>YL w a ys d st λst'=>R E (.ops l::ks) st' Q
  | none=>False)
 | _,_=>False
@[go_sem] theorem qs0{w:Nat}:Go1 E (.mk i d g (.app w x y) []) l ks ⟨s,m,h⟩ Q=JC E w d (ev (toE s) x) (ev (toE s) y) l ks ⟨s,m,h⟩ Q:=by
 unfold Go1 j4 jw JC;simp only[qC.o,qC.d,qC.ck,qC.apC,AOp.isCall,AOp.isApp,List.isEmpty_nil,Bool.not_true,Bool.and_false,bFt,if_false]
 all_goals rfl
def AppK(w:Nat)(d:Option Nat)(a b:Option AV)(st:VSt)(K:VSt->Prop):Prop:=match a,b with
 | some a,some b=>Jl w b/\(match z9 (toH st.h) b with
  | some ys=>YL w a ys d st K
  | none=>False)
 | _,_=>False
def ZV(E:Ev)(ck:List qC)(w:Nat)(d:Option Nat)(a b:Option AV)(l:List qC)(ks:List Fr1)(st:VSt)(Q:qi->VSt->Prop):Prop:=(match a with
 | some (.lst w' [] true)=>w'=w/\JC E w d a b l ks st Q
 | some (.slice _ _ _ _ _)=>(ck.all (ckE st.s))=true/\JC E w d a b l ks st Q
 | _=>False)\/AppK w d a b st λst'=>ckVs st' ck/\R E (.ops l::ks) st' Q
@[go_sem] theorem qs1{w:Nat}{c:qC}{ck:List qC}:Go1 E (.mk i d g (.app w x y) (c::ck)) l ks ⟨s,m,h⟩ Q=ZV E (c::ck) w d (ev (toE s) x) (ev (toE s) y) l ks ⟨s,m,h⟩ Q:=by
 unfold Go1 j4 qDO ZV jw JC AppK;simp only[qC.o,qC.d,qC.ck,qC.apC,AOp.isCall,AOp.isApp,List.isEmpty_cons,Bool.not_false,Bool.and_true,bFt,if_false,if_true]
 all_goals
  cases hq:ev (toE s) x with
  | none=>rfl
  | some v=>
   cases v<;>first
    | rfl
    | (rename_i w' xs cl;cases xs<;>cases cl<;>rfl)
def Els(h:List qA)(w:Nat)(b:AV)(ys:List AV):Prop:=Jl w b/\z9 (toH h) b=some ys
theorem Els.lst{w:Nat}{xs:List AV}{c:Bool}:Els h w (.lst w xs c) xs:=⟨rfl,rfl⟩
theorem Els.row{w id n:Nat}{el:List AV}{c rw':Bool}(ho:h[id]?=some (.row w el rw'))(hn:el.length=n):Els h w (.slice w id 0 n c) el:=by
 refine⟨rfl, ?_⟩;rw[XO (h:=toH h) ho (by omega),List.drop_zero,<-hn,lTl]
theorem qEG{w k:Nat}{b:AV}{ys:List AV}(hy:Els h w b ys)(hl:ys.length<=4294967296)(hr:R E (.ops l::ks) ⟨(k,.slice w h.length 0 ys.length false)::s,m,h++[.row w ys true]⟩ Q):JC E w (some k) (some .nils) (some b) l ks ⟨s,m,h⟩ Q:=by
 refine⟨hy.1, ?_⟩;simp only[hy.2];exact⟨hl,hr⟩
theorem ZZ{w k:Nat}{b:AV}{ys:List AV}(hy:Els h w b ys)(hl:ys.length<=4294967296)(hr:R E (.ops l::ks) ⟨(k,.slice w h.length 0 ys.length false)::s,m,h++[.row w ys true]⟩ Q):JC E w (some k) (some (.lst w [] true)) (some b) l ks ⟨s,m,h⟩ Q:=by
 refine⟨hy.1, ?_⟩;simp only[hy.2];exact⟨rfl,.inl ⟨rfl,rfl,hl,hr⟩⟩
theorem qEE{ck:List qC}{w k:Nat}{b:AV}{ys:List AV}(hy:Els h w b ys)(hl:ys.length<=4294967296)(hr:R E (.ops l::ks) ⟨(k,.slice w h.length 0 ys.length false)::s,m,h++[.row w ys true]⟩ Q):ZV E ck w (some k) (some (.lst w [] true)) (some b) l ks ⟨s,m,h⟩ Q:=
 .inl ⟨rfl,ZZ hy hl hr⟩
theorem XA{w k id len:Nat}{b:AV}{ys el:List AV}(hy:Els h w b ys)(ho:h[id]?=some (.row w el true))(he:el.length=len)(hl:len+ys.length<=4294967296)
  (hr:R E (.ops l::ks) ⟨(k,.slice w h.length 0 (len+ys.length) false)::s,m,h.set id .dead++[.row w (el++ys) true]⟩ Q):JC E w (some k) (some (.slice w id 0 len false)) (some b) l ks ⟨s,m,h⟩ Q:=by
 refine⟨hy.1, ?_⟩;simp only[hy.2];refine⟨rfl,hl, ?_⟩;rw[ho];exact⟨rfl,by omega,.inl ⟨rfl,rfl,he,hr⟩⟩
theorem qh2{ck:List qC}{w k:Nat}{b:AV}{ys:List AV}(hy:Els h w b ys)(hl:ys.length<=4294967296)(hc:ckVs ⟨(k,.slice w h.length 0 ys.length false)::s,m,h++[.row w ys true]⟩ ck)(hr:R E (.ops l::ks) ⟨(k,.slice w h.length 0 ys.length false)::s,m,h++[.row w ys true]⟩ Q):ZV E ck w (some k) (some .nils) (some b) l ks ⟨s,m,h⟩ Q:=by
 refine .inr ⟨hy.1, ?_⟩;simp only[hy.2];exact⟨hl,hc,hr⟩
theorem qh3{ck:List qC}{w k id len:Nat}{b:AV}{ys el:List AV}(hy:Els h w b ys)(ho:h[id]?=some (.row w el true))(he:el.length=len)(hl:len+ys.length<=4294967296)
  (hc:ckVs ⟨(k,.slice w h.length 0 (len+ys.length) false)::s,m,h.set id .dead++[.row w (el++ys) true]⟩ ck) (hr:R E (.ops l::ks) ⟨(k,.slice w h.length 0 (len+ys.length) false)::s,m,h.set id .dead++[.row w (el++ys) true]⟩ Q):ZV E ck w (some k) (some (.slice w id 0 len false)) (some b) l ks ⟨s,m,h⟩ Q:=by
 refine .inr ⟨hy.1, ?_⟩;simp only[hy.2];refine⟨rfl,hl, ?_⟩;rw[ho];exact⟨rfl,by omega,.inl ⟨rfl,rfl,he,hc,hr⟩⟩
theorem WD{w k id id2 len:Nat}{c2:Bool}{x:AV}{el:List AV}(h2:h[id2]?=some (.row w [x] true))(ho:h[id]?=some (.row w el true))(he:el.length=len)(hl:len<4294967296)
  (hr:R E (.ops l::ks) ⟨(k,.slice w h.length 0 (len+1) false)::s,m,h.set id .dead++[.row w (el++[x]) true]⟩ Q):JC E w (some k) (some (.slice w id 0 len false)) (some (.slice w id2 0 1 c2)) l ks ⟨s,m,h⟩ Q:=
 XA (Els.row h2 rfl) ho he (by simp;omega) hr
theorem Els.part{w id off n:Nat}{el:List AV}{c rw':Bool}(ho:h[id]?=some (.row w el rw'))(hn:off+n<=el.length):Els h w (.slice w id off n c) ((el.drop off).take n):=
 ⟨rfl,XO (h:=toH h) ho hn⟩
def Apx(E:Ev)(w:Nat)(d:Option Nat)(a b:Option AV)(l:List qC)(ks:List Fr1)(st:VSt)(Q:qi->VSt->Prop):Prop:=match a,b with
 | some (.slice w' id off len false),some b=>w'=w/\Jl w b/\(match z9 (toH st.h) b with
  | some ys=>(match st.h[id]? with
   | some (.row w2 el true)=>w2=w/\off+len+ys.length<=el.length/\0<el.length/\
     jy {st with h:=st.h.set id .dead} d (.row w ((el.drop off).take len++(ys++el.drop (off+len+ys.length))) true) (.slice w st.h.length 0 (len+ys.length) false) λst'=>R E (.ops l::ks) st' Q
   | _=>False)
  | none=>False)
 | _,_=>False
@[go_sem] theorem qs2{w:Nat}:Go1 E (.mk i d g (.appx w x y) ck) l ks ⟨s,m,h⟩ Q=Apx E w d (ev (toE s) x) (ev (toE s) y) l ks ⟨s,m,h⟩ Q:=by
 unfold Go1 j4 jw Apx;simp only[qC.o,qC.d,AOp.isCall,qC.apC,AOp.isApp,Bool.false_and,bFt,if_false]
 all_goals rfl
theorem qh5{w k id off len:Nat}{b:AV}{ys el:List AV}(hy:Els h w b ys)(ho:h[id]?=some (.row w el true))(hl:off+len+ys.length<=el.length)(hp:0<el.length)
  (hr:R E (.ops l::ks) ⟨(k,.slice w h.length 0 (len+ys.length) false)::s,m,h.set id .dead++[.row w ((el.drop off).take len++(ys++el.drop (off+len+ys.length))) true]⟩ Q):
  Apx E w (some k) (some (.slice w id off len false)) (some b) l ks ⟨s,m,h⟩ Q:=by
 refine⟨rfl,hy.1, ?_⟩;simp only[hy.2,ho];exact⟨trivial,hl,hp,hr⟩
def Slx(E:Ev)(w:Nat)(d:Option Nat)(a:Option AV)(lo hi:Option Ao)(l:List qC)(ks:List Fr1)(st:VSt)(Q:qi->VSt->Prop):Prop:=match a with
 | some (.slice w' id off len false)=>(match st.h[id]? with
  | some (.row _ el _)=>0<el.length/\(match bnd (toE st.s) hi len 0 (el.length-off)with
   | some b=>(match bnd (toE st.s) lo 0 0 b with
    | some a=>w'=w/\R E (.ops l::ks) (st.put d (.slice w id (off+a) (b-a) false)) Q
    | none=>False)
   | none=>False)
  | _=>False)
 | _=>False
@[go_sem] theorem qtZ{w:Nat}{lo hi:Option Ao}:Go1 E (.mk i d g (.slcx w x lo hi) ck) l ks ⟨s,m,h⟩ Q=Slx E w d (ev (toE s) x) lo hi l ks ⟨s,m,h⟩ Q:=by
 unfold Go1 j4 jw Slx;simp only[qC.o,qC.d,AOp.isCall,qC.apC,AOp.isApp,Bool.false_and,bFt,if_false]
 all_goals rfl
theorem qqP{w w2 k id off len a b:Nat}{lo hi:Option Ao}{el:List AV}{rw':Bool}(ho:h[id]?=some (.row w2 el rw'))(hp:0<el.length)(hb:bnd (toE s) hi len 0 (el.length-off)=some b)(ha:bnd (toE s) lo 0 0 b=some a)
  (hr:R E (.ops l::ks) ⟨(k,.slice w id (off+a) (b-a) false)::s,m,h⟩ Q):Slx E w (some k) (some (.slice w id off len false)) lo hi l ks ⟨s,m,h⟩ Q:=by
 unfold Slx;simp only[ho,hb,ha];exact⟨hp,trivial,hr⟩
def Slm(E:Ev)(w:Nat)(d:Option Nat)(a:Option AV)(lo hi mx:Ao)(l:List qC)(ks:List Fr1)(st:VSt)(Q:qi->VSt->Prop):Prop:=match a with
 | some (.slice w' id _ len _)=>(match st.h[id]? with
  | some (.row _ el _)=>0<el.length/\(match bnd (toE st.s) (some mx) 0 0 len with
   | some c=>(match bnd (toE st.s) (some hi) 0 0 c with
    | some b=>(match bnd (toE st.s) (some lo) 0 0 b with
     | some _=>w'=w/\R E (.ops l::ks) (st.put d .any) Q
     | none=>False)
    | none=>False)
   | none=>False)
  | _=>False)
 | _=>False
@[go_sem] theorem qtY{w:Nat}{lo hi mx:Ao}:Go1 E (.mk i d g (.slcm w x lo hi mx) ck) l ks ⟨s,m,h⟩ Q=Slm E w d (ev (toE s) x) lo hi mx l ks ⟨s,m,h⟩ Q:=by
 unfold Go1 j4 jw Slm;simp only[qC.o,qC.d,AOp.isCall,qC.apC,AOp.isApp,Bool.false_and,bFt,if_false]
 all_goals rfl
theorem qqO{w w2 k id off len a b c:Nat}{lo hi mx:Ao}{el:List AV}{rw' cl:Bool}(ho:h[id]?=some (.row w2 el rw'))(hp:0<el.length)(hc:bnd (toE s) (some mx) 0 0 len=some c)(hb:bnd (toE s) (some hi) 0 0 c=some b)(ha:bnd (toE s) (some lo) 0 0 b=some a)
  (hr:R E (.ops l::ks) ⟨(k,.any)::s,m,h⟩ Q):Slm E w (some k) (some (.slice w id off len cl)) lo hi mx l ks ⟨s,m,h⟩ Q:=by
 unfold Slm;simp only[ho,hb,ha,hc];exact⟨hp,trivial,hr⟩
def Clr(E:Ev)(w:Nat)(z:AV)(a:Option AV)(l:List qC)(ks:List Fr1)(st:VSt)(Q:qi->VSt->Prop):Prop:=match a with
 | some (.slice w' id off len _)=>w'=w/\(match st.h[id]? with
  | some (.row w2 el true)=>w2=w/\off+len<=el.length/\0<el.length/\R E (.ops l::ks) {st with h:=st.h.set id (.row w (el.take off++(List.replicate len z++el.drop (off+len))) true)} Q
  | _=>False)
 | _=>False
@[go_sem] theorem qs9{w:Nat}{z:AV}:Go1 E (.mk i d g (.clear w z x) ck) l ks ⟨s,m,h⟩ Q=Clr E w z (ev (toE s) x) l ks ⟨s,m,h⟩ Q:=by
 unfold Go1 j4 jw Clr;simp only[qC.o,qC.d,AOp.isCall,qC.apC,AOp.isApp,Bool.false_and,bFt,if_false]
 all_goals rfl
theorem qjZ{w id off len:Nat}{z:AV}{c:Bool}{el:List AV}(ho:h[id]?=some (.row w el true))(hl:off+len<=el.length)(hp:0<el.length)
  (hr:R E (.ops l::ks) ⟨s,m,h.set id (.row w (el.take off++(List.replicate len z++el.drop (off+len))) true)⟩ Q):Clr E w z (some (.slice w id off len c)) l ks ⟨s,m,h⟩ Q:=by
 unfold Clr;simp only[ho];exact⟨trivial,trivial,hl,hp,hr⟩
theorem qI{ck:List qC}{k:Nat}{vs:List AV}{e:Nat}(hp:Pure E.Γ k vs v)(hr:R E (.ops l::ks) ⟨(e,v)::s,m,h⟩ Q):wJ E (some (k,vs)) ck (some e) l ks ⟨s,m,h⟩ Q:=by
 cases ck
 ·exact SCall.pure hp hr
 ·exact Or.inl (SCallK.ofP (SCallP.pure hp hr))
theorem J4{ck:List qC}{k:Nat}{vs vs':List AV}{e:Nat}(hc:Cvs h vs vs')(hp:Pure E.Γ k vs' v)(hl:v.leaf=true)(hr:R E (.ops l::ks) ⟨(e,v)::s,m,h⟩ Q):wJ E (some (k,vs)) ck (some e) l ks ⟨s,m,h⟩ Q:=by
 cases ck
 ·exact SCall.lend hc hp hl hr
 ·exact Or.inl (SCallK.ofP (SCallP.lend hc hp hl hr))
def Fin(vs:Option (List AV))(h:List qA)(v:AV):Prop:=match vs with
 | some vs=>Cv h (jS vs) v
 | none=>False
@[go_sem] theorem qsP{res:List jh}:XS res v .ret ⟨s,m,h⟩=Fin (jM (wG ⟨s,m,h⟩) res) h v:=by
 simp[XS,Fin];all_goals rfl
@[go_sem] theorem qv1:jM (wG ⟨s,m,h⟩) []=some []:=nr rfl
@[go_sem] theorem qv0{r:jh}{res:List jh}:jM (wG ⟨s,m,h⟩) (r::res)=VV (wm (wG ⟨s,m,h⟩) r) (jM (wG ⟨s,m,h⟩) res):=by
 simp only[jM];unfold VV;cases wm (wG ⟨s,m,h⟩) r<;>cases jM (wG ⟨s,m,h⟩) res<;>rfl
@[go_sem] theorem qvZ:wm (wG ⟨s,m,h⟩) (.t n)=get s n:=nr rfl
@[go_sem] theorem qvY:wm (wG ⟨s,m,h⟩) (.l t sh)=Xp 0 sh (get m t):=by
 show (get m t).bind _=_;cases get m t<;>rfl
theorem qN{v':AV}(ht:v.tree=true)(he:v'=v):Fin (some [v']) h v:=by subst he;exact .refl ht
theorem zT{v' w':AV}{vs:List AV}(ht:v.tree=true)(he:.tup (v'::w'::vs)=v):Fin (some (v'::w'::vs)) h v:=by subst he;exact .refl ht
theorem J7{v':AV}(hc:Cv h v' v):Fin (some [v']) h v:=hc
end
attribute [irreducible] Go1 Grd Put Cnd wJ JD YP Lst QM YO Bsl Mks Sto JC ZV Fin
section
variable {E:Ev} {ρ:Ren} {st:VSt} {sr:St} {ks:List Fr1} {Q:qi->VSt->Prop} {s m s' m':qp} {h h':List qA} {b:Nat}
def Qm(s:qp):qp->Prop
 |[]=>True
 | (n,v)::r=>get s n=some v/\Qm s r
theorem qC8:∀{s':qp},Qm s s'->∀n v,get s' n=some v->get s n=some v
 |[],_,n,v,hv=>by cases hv
 | (k,x)::r,hs,n,v,hv=>by
  rw[WQ]at hv;split at hv
  ·rename_i e;subst e;cases hv;exact hs.1
  ·exact qC8 hs.2 n v hv
theorem Can.sub(h1:Qm s s')(h2:Qm m m'):Can b ⟨s,m,h⟩ ⟨s',m',h⟩:=λρ sr hS hb=>
 ⟨sr,ρ,λ_ _ _ _ h=>h,⟨λn v hv=>hS.s n v (qC8 h1 n v hv),λn v hv=>hS.l n v (qC8 h2 n v hv),hS.h⟩,Fm.refl _ _ _,hb⟩
inductive VR2(μ:List (Option Nat)):AV->AV->Prop
 | tree {v} (ht:v.tree=true):VR2 μ v v
 | ptr {id id' i j} (hm:μ[id']?=some (some id)):VR2 μ (.ptr id i j) (.ptr id' i j)
 | slice {w id id' off len c} (hm:μ[id']?=some (some id)):VR2 μ (.slice w id off len c) (.slice w id' off len c)
 | map {id id'} (hm:μ[id']?=some (some id)):VR2 μ (.map id) (.map id')
 | ph {w id' c} (hm:μ[id']?=some none):VR2 μ .nils (.slice w id' 0 0 c)
 | ph2 {w id' c} (hm:μ[id']?=some none):VR2 μ (.lst w [] true) (.slice w id' 0 0 c)
 | nilL {w c}:VR2 μ .nils (.lst w [] c)
 | clip {w xs} (ht:AV.trees xs=true):VR2 μ (.lst w xs true) (.lst w xs false)
 | agg {cs ds} (hl:cs.length=ds.length) (hc:∀p∈cs.zip ds,VR2 μ p.1 p.2):VR2 μ (.agg cs) (.agg ds)
 | fn {g cs ds} (hl:cs.length=ds.length) (hc:∀p∈cs.zip ds,VR2 μ p.1 p.2):VR2 μ (.fn g cs) (.fn g ds)
 | tup {cs ds} (hl:cs.length=ds.length) (hc:∀p∈cs.zip ds,VR2 μ p.1 p.2):VR2 μ (.tup cs) (.tup ds)
def VR2s(μ:List (Option Nat))(as bs:List AV):Prop:=as.length=bs.length/\∀p∈as.zip bs,VR2 μ p.1 p.2
theorem VR2s.nil{μ:List (Option Nat)}:VR2s μ [] []:=⟨rfl,λp hp=>by simp at hp⟩
theorem VR2s.cons{μ:List (Option Nat)}{a b:AV}{as bs:List AV}(x:VR2 μ a b)(y:VR2s μ as bs):VR2s μ (a::as) (b::bs):=⟨by simp[y.1],λp hp=>by
 simp only[List.zip_cons_cons,mCo]at hp;rcases hp with rfl | hp
 ·exact x
 ·exact y.2 p hp⟩
theorem qLE{as:List AV}(h:AV.trees as=true){a:AV}(ha:a∈as):a.tree=true:=by
 induction as with
 | nil=>cases ha
 | cons x as ih=>
  simp only[AV.trees,bAt]at h;rcases mCo.1 ha with rfl | ha
  ·exact h.1
  ·exact ih h.2 ha
theorem VR2s.trees{μ:List (Option Nat)}{as:List AV}(h:AV.trees as=true):VR2s μ as as:=⟨rfl,λp hp=>by
 have e:p.1=p.2:=by
  obtain⟨i,hi,rfl⟩:=List.getElem_of_mem hp;simp
 have:p.1∈as:=(List.of_mem_zip hp).1;rw[<-e];exact .tree (qLE h this)⟩
def renum(μ:List (Option Nat))(ρ:Ren):Ren:=λi=>match μ[i]? with
 | some (some j)=>ρ j
 | some none=>some none
 | none=>none
theorem VR2.rel{μ:List (Option Nat)}{v v':AV}(hv:VR2 μ v v'):∀{r:AV},RelV ρ v r->RelV (renum μ ρ) v' r:=by
 have list:∀{cs ds rs:List AV},cs.length=ds.length->(∀p∈cs.zip ds,∀{r:AV},RelV ρ p.1 r->RelV (renum μ ρ) p.2 r)->RelVs ρ cs rs->RelVs (renum μ ρ) ds rs:=by
  intro cs
  induction cs with
  | nil=>
   intro ds rs hl _ hr;have:ds=[]:=lEz (by simpa using hl.symm);subst this;simpa only [RelVs]using hr
  | cons c cs ih=>
   intro ds rs hl hi hr;cases ds with
   | nil=>simp at hl
   | cons d ds=>
    simp only[RelVs]at hr|-;obtain⟨r,rs,rfl,h1,h2⟩:=hr;exact⟨r,rs,rfl,hi (c,d) (by simp) h1,ih (by simpa using hl) (λp hp=>hi p (by simp only[List.zip_cons_cons];exact mCm _ hp)) h2⟩
 induction hv with
 | tree ht=>exact λhr=>QI _ _ ht hr
 | ptr hm=>intro r hr;simp only[RelV]at hr|-;obtain⟨a,h1,rfl⟩:=hr;exact⟨a,by simp only[renum,hm];exact h1,rfl⟩
 | slice hm=>
  intro r hr;simp only[RelV]at hr|-;rcases hr with⟨a,h1,rfl⟩ | ⟨h1,h2⟩
  ·exact .inl ⟨a,by simp only[renum,hm];exact h1,rfl⟩
  ·exact .inr ⟨by simp only[renum,hm];exact h1,h2⟩
 | map hm=>intro r hr;simp only[RelV]at hr|-;obtain⟨a,h1,rfl⟩:=hr;exact⟨a,by simp only[renum,hm];exact h1,rfl⟩
 | ph hm=>intro r hr;simp only[RelV]at hr|-;subst hr;simp[renum,hm]
 | ph2 hm=>
  intro r hr;simp only[RelV]at hr|-;rcases hr with⟨ys,c,rfl,hc,h2⟩ | ⟨_,rfl⟩
  ·simp only[RelVs]at h2;subst h2;rw[hc trivial];simp[renum,hm]
  ·simp[renum,hm]
 | nilL=>intro r hr;simp only[RelV]at hr|-;subst hr;simp
 | clip ht=>
  intro r hr;simp only[RelV]at hr|-;rcases hr with⟨ys,c,h1,_,h3⟩ | hr
  ·exact .inl ⟨ys,c,h1,by simp,Jz _ _ ht h3⟩
  ·exact .inr hr
 | agg hl hc ih=>intro r hr;simp only[RelV]at hr|-;obtain⟨rs,rfl,hr⟩:=hr;exact⟨rs,rfl,list hl (λp hp=>ih p hp) hr⟩
 | fn hl hc ih=>intro r hr;simp only[RelV]at hr|-;obtain⟨rs,rfl,hr⟩:=hr;exact⟨rs,rfl,list hl (λp hp=>ih p hp) hr⟩
 | tup hl hc ih=>intro r hr;simp only[RelV]at hr|-;obtain⟨rs,rfl,hr⟩:=hr;exact⟨rs,rfl,list hl (λp hp=>ih p hp) hr⟩
theorem VR2s.rel{μ:List (Option Nat)}{as bs rs:List AV}(h:VR2s μ as bs)(hr:RelVs ρ as rs):RelVs (renum μ ρ) bs rs:=by
 have:=(VR2.tup h.1 h.2).rel (ρ:=ρ) (r:=.tup rs) (by simp only[RelV];exact⟨rs,rfl,hr⟩);simp only[RelV]at this;obtain⟨rs',h1,h2⟩:=this;cases h1;exact h2
def ZP(μ:List (Option Nat))(s:qp):qp->Prop
 |[]=>True
 | (n,v')::r=>(∃v,get s n=some v/\VR2 μ v v')/\ZP μ s r
theorem qC7{μ:List (Option Nat)}{e:Env}(hs:RelE ρ s e):∀{s':qp},ZP μ s s'->RelE (renum μ ρ) s' e
 |[],_,n,v,hv=>by cases hv
 | (k,x)::r,hc,n,v,hv=>by
  rw[WQ]at hv;split at hv
  ·rename_i q;subst q;cases hv;obtain⟨v0,h1,h2⟩:=hc.1;obtain⟨y,h3,h4⟩:=hs _ _ h1;exact⟨y,h3,h2.rel h4⟩
  ·exact qC7 hs hc.2 n v hv
inductive OR2(μ:List (Option Nat))(h:List qA):Option Nat->qA->Prop
 | dead {j}:OR2 μ h j .dead
 | ph {w}:OR2 μ h none (.row w [] true)
 | row {j w el el' rw'} (ho:h[j]?=some (.row w el rw')) (he:VR2s μ el el'):OR2 μ h (some j) (.row w el' rw')
 | map {j es} (ho:h[j]?=some (.map es)) (hk:AV.trees (es.map (·.1))=true) (hv:AV.trees (es.map (·.2))=true):OR2 μ h (some j) (.map es)
def Ju(μ:List (Option Nat))(h:List qA):List (Option Nat)->List qA->Prop
 |[],[]=>True
 | j::r,o::h'=>OR2 μ h j o/\Ju μ h r h'
 | _,_=>False
theorem qIY{μ:List (Option Nat)}:∀{r:List (Option Nat)}{h':List qA},Ju μ h r h'->r.length=h'.length
 |[],[],_=>rfl
 | _::_,_::_,k=>by simp[qIY k.2]
 |[],_::_,k=>k.elim
 | _::_,[],k=>k.elim
theorem VS{μ:List (Option Nat)}:∀{r:List (Option Nat)}{h':List qA},Ju μ h r h'->∀(i:Nat)(o:qA),h'[i]?=some o->∃j,r[i]?=some j/\OR2 μ h j o
 |[],[],_,i,o,hi=>by simp at hi
 | j::r,o'::h',k,i,o,hi=>by
  cases i with
  | zero=>simp only[List.getElem?_cons_zero,oSi]at hi|-;subst hi;exact⟨j,rfl,k.1⟩
  | succ i=>simp only[List.getElem?_cons_succ]at hi|-;exact VS k.2 i o hi
 |[],_::_,k,_,_,_=>k.elim
 | _::_,[],k,_,_,_=>k.elim
def Jo:List (Option Nat)->Bool
 |[]=>true
 | none::r=>Jo r
 | some j::r=>(r.all λx=>match x with | some k=> !Nat.beq j k | none=>true)&&Jo r
theorem qBB:∀{μ:List (Option Nat)},Jo μ=true->∀(i k j:Nat),μ[i]?=some (some j)->μ[k]?=some (some j)->i=k
 |[],_,i,k,j,hi,_=>by simp at hi
 | none::r,hd,i,k,j,hi,hk=>by
  cases i with
  | zero=>simp at hi
  | succ i=>
   cases k with
   | zero=>simp at hk
   | succ k=>simp only[List.getElem?_cons_succ]at hi hk;rw[qBB (by simpa only [Jo]using hd) i k j hi hk]
 | some a::r,hd,i,k,j,hi,hk=>by
  simp only[Jo,bAt,lAt]at hd;have ne:∀k,r[k]?=some (some a)->False:=λk hk=>by
   have:=hd.1 _ (lMo hk);simp only[Nat.beq_refl,Bool.not_true]at this;cases this
  cases i with
  | zero=>
   simp only[List.getElem?_cons_zero,oSi]at hi;subst hi;cases k with
   | zero=>rfl
   | succ k=>simp only[List.getElem?_cons_succ]at hk;exact(ne k hk).elim
  | succ i=>
   simp only[List.getElem?_cons_succ]at hi;cases k with
   | zero=>simp only[List.getElem?_cons_zero,oSi]at hk;subst hk;exact(ne i hi).elim
   | succ k=>simp only[List.getElem?_cons_succ]at hk;rw[qBB hd.2 i k j hi hk]
theorem qJ4{μ:List (Option Nat)}{hr:AH}(hd:Jo μ=true)(ho:Ju μ h μ h')(hH:zH ρ h hr):zH (_root_.Go.Ab.renum μ ρ) h' hr/\Fm 0 ρ hr (_root_.Go.Ab.renum μ ρ) hr:=by
 refine⟨⟨λi o hi=>?_,λi k a o o' q1 q2 hi hk d1 d2=>?_,λi hi=>?_,λi a q=>?_⟩,⟨λa o q _=>q,λi a q=>?_,λ_ q=>q,λi hi=>by omega⟩⟩
 ·obtain⟨j,hj,hor⟩:=VS ho i o hi;cases hor with
  | dead=>trivial
  | ph=>exact .inl ⟨by simp only[_root_.Go.Ab.renum,hj],rfl,rfl⟩
  | @row j w el el' rw' ho' he=>
   rcases hH.obj _ _ ho' with⟨q1,rfl,q3⟩ | ⟨i',el2,q1,q2,q3⟩
   ·have:el'=[]:=lEz (by rw[<-he.1];rfl);exact .inl ⟨by simp only[_root_.Go.Ab.renum,hj];exact q1,this,q3⟩
   ·exact .inr ⟨i',el2,by simp only[_root_.Go.Ab.renum,hj];exact q1,q2,he.rel q3⟩
  | @map j es ho' hk hv=>
   obtain⟨i',es',q1,q2,q3⟩:=hH.obj _ _ ho';exact⟨i',es',by simp only[_root_.Go.Ab.renum,hj];exact q1,q2,Jz _ _ hk q3.1,Jz _ _ hv q3.2⟩
 ·obtain⟨j1,hj1,hor1⟩:=VS ho i o hi;obtain⟨j2,hj2,hor2⟩:=VS ho k o' hk;simp only[_root_.Go.Ab.renum,hj1,hj2]at q1 q2;have live:∀{j:Option Nat}{o:qA},OR2 μ h j o->o≠.dead->∀j',j=some j'->∃o2,h[j']?=some o2/\o2≠.dead:=by
   intro j o hor hd j' hj';subst hj';cases hor with
   | dead=>exact absurd rfl hd
   | row ho' _=>exact⟨_,ho',by simp⟩
   | map ho' _ _=>exact⟨_,ho',by simp⟩
  cases j1 with
  | none=>cases q1
  | some j1=>
   cases j2 with
   | none=>cases q2
   | some j2=>
    obtain⟨o1,e1,n1⟩:=live hor1 d1 j1 rfl;obtain⟨o2,e2,n2⟩:=live hor2 d2 j2 rfl;have:=hH.inj j1 j2 a _ _ q1 q2 e1 e2 n1 n2;subst this;exact qBB hd i k j1 hj1 hj2
 ·have:=qIY ho;have hi:h'.length<=i:=hi;simp only[_root_.Go.Ab.renum,gEn (show μ.length<=i by omega)]
 ·simp only[_root_.Go.Ab.renum]at q;split at q
  ·exact hH.is _ a q
  ·cases q
  ·cases q
 ·simp only[_root_.Go.Ab.renum]at q;split at q
  ·exact .inl ⟨_,q⟩
  ·cases q
  ·cases q
theorem Can.renum(μ:List (Option Nat))(hd:Jo μ=true)(ho:Ju μ h μ h')(h1:ZP μ s s')(h2:ZP μ m m'):Can 0 ⟨s,m,h⟩ ⟨s',m',h'⟩:=λρ sr hS _=>by
 obtain⟨q1,q2⟩:=qJ4 hd ho hS.h;exact⟨sr,_,λ_ _ _ _ h=>h,⟨qC7 hS.s h1,qC7 hS.l h2,q1⟩,q2,nZl _⟩
@[go_sem] theorem qv6:Qm s []=True:=nr rfl
@[go_sem] theorem qv5{n:Nat}{v:AV}{r:qp}:Qm s ((n,v)::r)=(get s n=some v/\Qm s r):=nr rfl
@[go_sem] theorem quM{α:Type}{I:α->Prop}{stt:α->VSt}{me:α->Nat}{a:α}{n:Nat}:Q6 E I stt me a ks Q (.exit n) st=Z8 E (.exit n) (exK (.exit n) ks) st Q:=by
 simp only[Q6,Z8];all_goals rfl
@[go_sem] theorem quN{α:Type}{I:α->Prop}{stt:α->VSt}{me:α->Nat}{a:α}:Q6 E I stt me a ks Q .ret st=Q .ret st:=by
 simp only[Q6,Qz]
theorem qd{α:Type}{I:α->Prop}{stt:α->VSt}{me:α->Nat}{a:α}(a':α)(h1:I a')(h2:me a'<me a)(h3:Can E.b st (stt a')):Q6 E I stt me a ks Q .nrm st:=⟨a',h1,h2,h3⟩
end
set_option maxRecDepth 10000
def Qc(w:Nat)(sh:Option Nat):qJ:=⟨2,19,[.t 4],
 .seq (.reg true [⟨0,some 4,none,.mov (.c (.int .i64 0)),[]⟩]) (.seq (.seq (.reg true [⟨0,some 6,none,.mov (.t 0),[]⟩,
⟨1,some 7,none,.len (.t 6),[]⟩,
⟨2,some 8,none,.mov (.c (.int .i64 0)),[]⟩]) (.blk 0 (.loop (.seq (.reg true [⟨0,some 9,none,.bin .lss (.t 8) (.t 7),[]⟩]) (.seq (.cond (.t 9) (.skip) (.exit 0)) (.seq (.blk 1 (.seq (.reg true [⟨0,some 10,none,.mov (.t 8),[]⟩,
⟨1,some 5,none,.mov (.t 10),[]⟩]) (.seq (.reg true [⟨0,some 11,none,.mov (.t 1),[]⟩,
⟨1,some 12,none,.mov (.t 0),[]⟩,
⟨2,some 13,none,.mov (.t 5),[]⟩,
⟨3,some 14,none,.iaddr w (.t 12) (.t 13),[]⟩,
⟨4,some 15,none,.load sh (.t 14),[]⟩,
⟨5,some 16,none,.callv (.t 11) [.t 15],[]⟩]) (.cond (.t 16) (.seq (.reg true [⟨0,some 17,none,.mov (.t 5),[]⟩,
⟨1,some 4,none,.mov (.t 17),[]⟩]) (.ret)) (.skip))))) (.reg true [⟨0,some 18,none,.bin .add (.t 8) (.c (.int .i64 1)),[]⟩,
⟨1,some 8,none,.mov (.t 18),[]⟩]))))))) (.seq (.reg true [⟨0,some 4,none,.mov (.c (.int .i64 (-1))),[]⟩]) (.ret)))⟩
def Qw(g:Nat):qJ:=⟨2,9,[.t 4],
 .seq (.reg true [⟨0,some 4,none,.mov (.c (.bool false)),[]⟩]) (.seq (.reg true [⟨0,some 5,none,.mov (.t 0),[]⟩,
⟨1,some 6,none,.mov (.t 1),[]⟩,
⟨2,some 7,none,.call g [.t 5,.t 6],[]⟩,
⟨3,some 8,none,.bin .geq (.t 7) (.c (.int .i64 0)),[]⟩,
⟨4,some 4,none,.mov (.t 8),[]⟩]) (.ret))⟩
def szS(w:Nat)(sh:Option Nat)(g:Nat):qJ:=⟨2,27,[.t 4],
 .seq (.reg true [⟨0,some 4,none,.mov (.c (.int .i64 0)),[]⟩]) (.seq (.reg true [⟨0,some 6,none,.mov (.t 1),[]⟩,
⟨1,some 7,none,.mov (.t 0),[]⟩,
⟨2,some 8,none,.len (.t 7),[]⟩,
⟨3,some 9,none,.bin .sub (.t 6) (.t 8),[]⟩,
⟨4,some 1,none,.mov (.t 9),[]⟩]) (.seq (.seq (.reg true [⟨0,some 10,none,.mov (.t 1),[]⟩,
⟨1,some 11,none,.bin .lss (.t 10) (.c (.int .i64 0)),[]⟩]) (.cond (.t 11) (.seq (.reg true [⟨0,some 4,none,.mov (.c (.int .i64 (-1))),[]⟩]) (.ret)) (.skip))) (.seq (.seq (.reg true [⟨0,some 5,none,.mov (.c (.int .i64 0)),[]⟩]) (.blk 0 (.loop (.seq (.seq (.reg true [⟨0,some 12,none,.mov (.t 5),[]⟩,
⟨1,some 13,none,.mov (.t 0),[]⟩,
⟨2,some 14,none,.len (.t 13),[]⟩,
⟨3,some 15,none,.bin .lss (.t 12) (.t 14),[]⟩]) (.cond (.t 15) (.skip) (.exit 0))) (.seq (.blk 1 (.seq (.reg true [⟨0,some 18,none,.mov (.t 0),[]⟩,
⟨1,some 19,none,.mov (.t 5),[]⟩,
⟨2,some 20,none,.iaddr w (.t 18) (.t 19),[]⟩,
⟨3,some 21,none,.load sh (.t 20),[]⟩,
⟨4,some 22,none,.mov (.t 1),[]⟩,
⟨5,some 23,none,.call g [.t 21,.t 22],[]⟩,
⟨6,some 1,none,.mov (.t 23),[]⟩]) (.seq (.reg true [⟨0,some 24,none,.mov (.t 1),[]⟩,
⟨1,some 25,none,.bin .lss (.t 24) (.c (.int .i64 0)),[]⟩]) (.cond (.t 25) (.seq (.reg true [⟨0,some 4,none,.mov (.c (.int .i64 (-1))),[]⟩]) (.ret)) (.skip))))) (.reg true [⟨0,some 16,none,.mov (.t 5),[]⟩,
⟨1,some 17,none,.bin .add (.t 16) (.c (.int .i64 1)),[]⟩,
⟨2,some 5,none,.mov (.t 17),[]⟩])))))) (.seq (.reg true [⟨0,some 26,none,.mov (.t 1),[]⟩,
⟨1,some 4,none,.mov (.t 26),[]⟩]) (.ret)))))⟩
def Vx:qJ:=⟨2,12,[.t 4],
 .seq (.reg true [⟨0,some 4,none,.mov (.c (.int .i64 0)),[]⟩]) (.seq (.reg true [⟨0,some 5,none,.mov (.t 1),[]⟩,
⟨1,some 6,none,.mov (.t 0),[]⟩,
⟨2,some 7,none,.len (.t 6),[]⟩,
⟨3,some 8,none,.bin .sub (.t 5) (.t 7),[]⟩,
⟨4,some 1,none,.mov (.t 8),[]⟩]) (.seq (.seq (.reg true [⟨0,some 9,none,.mov (.t 1),[]⟩,
⟨1,some 10,none,.bin .lss (.t 9) (.c (.int .i64 0)),[]⟩]) (.cond (.t 10) (.seq (.reg true [⟨0,some 4,none,.mov (.c (.int .i64 (-1))),[]⟩]) (.ret)) (.skip))) (.seq (.reg true [⟨0,some 11,none,.mov (.t 1),[]⟩,
⟨1,some 4,none,.mov (.t 11),[]⟩]) (.ret))))⟩
def toS(w:Nat)(sh:Option Nat)(z:AV)(g:Nat):qJ:=⟨1,23,[.t 2],
 .seq (.reg true [⟨0,some 2,none,.mov (.c (.nils)),[]⟩]) (.seq (.reg true [⟨0,some 5,none,.mov (.t 0),[]⟩,
⟨1,some 6,none,.len (.t 5),[]⟩,
⟨2,some 7,none,.mksl w z (.t 6) (.t 6),[]⟩,
⟨3,some 3,none,.mov (.t 7),[]⟩]) (.seq (.seq (.reg true [⟨0,some 4,none,.mov (.c (.int .i64 0)),[]⟩]) (.blk 0 (.loop (.seq (.seq (.reg true [⟨0,some 8,none,.mov (.t 4),[]⟩,
⟨1,some 9,none,.mov (.t 0),[]⟩,
⟨2,some 10,none,.len (.t 9),[]⟩,
⟨3,some 11,none,.bin .lss (.t 8) (.t 10),[]⟩]) (.cond (.t 11) (.skip) (.exit 0))) (.seq (.blk 1 (.reg true [⟨0,some 14,none,.mov (.t 3),[]⟩,
⟨1,some 15,none,.mov (.t 4),[]⟩,
⟨2,some 16,none,.mov (.t 0),[]⟩,
⟨3,some 17,none,.mov (.t 4),[]⟩,
⟨4,some 18,none,.iaddr w (.t 16) (.t 17),[]⟩,
⟨5,some 19,none,.load sh (.t 18),[]⟩,
⟨6,some 20,none,.call g [.t 19],[]⟩,
⟨7,some 21,none,.iaddr w (.t 14) (.t 15),[]⟩,
⟨8,none,none,.store w (.t 21) (.t 20),[]⟩])) (.reg true [⟨0,some 12,none,.mov (.t 4),[]⟩,
⟨1,some 13,none,.bin .add (.t 12) (.c (.int .i64 1)),[]⟩,
⟨2,some 4,none,.mov (.t 13),[]⟩])))))) (.seq (.reg true [⟨0,some 22,none,.mov (.t 3),[]⟩,
⟨1,some 2,none,.mov (.t 22),[]⟩]) (.ret))))⟩
def toS0:qJ:=⟨1,22,[.t 2],
 .seq (.reg true [⟨0,some 2,none,.mov (.c (.nils)),[]⟩]) (.seq (.reg true [⟨0,some 5,none,.mov (.t 0),[]⟩,
⟨1,some 6,none,.len (.t 5),[]⟩,
⟨2,some 7,none,.mksl 1 (.int .i64 0) (.t 6) (.t 6),[]⟩,
⟨3,some 3,none,.mov (.t 7),[]⟩]) (.seq (.seq (.reg true [⟨0,some 4,none,.mov (.c (.int .i64 0)),[]⟩]) (.blk 0 (.loop (.seq (.seq (.reg true [⟨0,some 8,none,.mov (.t 4),[]⟩,
⟨1,some 9,none,.mov (.t 0),[]⟩,
⟨2,some 10,none,.len (.t 9),[]⟩,
⟨3,some 11,none,.bin .lss (.t 8) (.t 10),[]⟩]) (.cond (.t 11) (.skip) (.exit 0))) (.seq (.blk 1 (.reg true [⟨0,some 14,none,.mov (.t 3),[]⟩,
⟨1,some 15,none,.mov (.t 4),[]⟩,
⟨2,some 16,none,.mov (.t 0),[]⟩,
⟨3,some 17,none,.mov (.t 4),[]⟩,
⟨4,some 18,none,.iaddr 1 (.t 16) (.t 17),[]⟩,
⟨5,some 19,none,.load none (.t 18),[]⟩,
⟨6,some 20,none,.iaddr 1 (.t 14) (.t 15),[]⟩,
⟨7,none,none,.store 1 (.t 20) (.t 19),[]⟩])) (.reg true [⟨0,some 12,none,.mov (.t 4),[]⟩,
⟨1,some 13,none,.bin .add (.t 12) (.c (.int .i64 1)),[]⟩,
⟨2,some 4,none,.mov (.t 13),[]⟩])))))) (.seq (.reg true [⟨0,some 21,none,.mov (.t 3),[]⟩,
⟨1,some 2,none,.mov (.t 21),[]⟩]) (.ret))))⟩
def eqS(w:Nat)(sh:Option Nat)(g:Nat):qJ:=⟨2,27,[.t 4],
 .seq (.reg true [⟨0,some 4,none,.mov (.c (.bool false)),[]⟩]) (.seq (.seq (.reg true [⟨0,some 6,none,.mov (.t 0),[]⟩,
⟨1,some 7,none,.len (.t 6),[]⟩,
⟨2,some 8,none,.mov (.t 1),[]⟩,
⟨3,some 9,none,.len (.t 8),[]⟩,
⟨4,some 10,none,.bin .neq (.t 7) (.t 9),[]⟩]) (.cond (.t 10) (.seq (.reg true [⟨0,some 4,none,.mov (.c (.bool false)),[]⟩]) (.ret)) (.skip))) (.seq (.seq (.reg true [⟨0,some 5,none,.mov (.c (.int .i64 0)),[]⟩]) (.blk 0 (.loop (.seq (.seq (.reg true [⟨0,some 11,none,.mov (.t 5),[]⟩,
⟨1,some 12,none,.mov (.t 0),[]⟩,
⟨2,some 13,none,.len (.t 12),[]⟩,
⟨3,some 14,none,.bin .lss (.t 11) (.t 13),[]⟩]) (.cond (.t 14) (.skip) (.exit 0))) (.seq (.blk 1 (.seq (.reg true [⟨0,some 17,none,.mov (.t 0),[]⟩,
⟨1,some 18,none,.mov (.t 5),[]⟩,
⟨2,some 19,none,.iaddr w (.t 17) (.t 18),[]⟩,
⟨3,some 20,none,.load sh (.t 19),[]⟩,
⟨4,some 21,none,.mov (.t 1),[]⟩,
⟨5,some 22,none,.mov (.t 5),[]⟩,
⟨6,some 23,none,.iaddr w (.t 21) (.t 22),[]⟩,
⟨7,some 24,none,.load sh (.t 23),[]⟩,
⟨8,some 25,none,.call g [.t 20,.t 24],[]⟩,
⟨9,some 26,none,.not (.t 25),[]⟩]) (.cond (.t 26) (.seq (.reg true [⟨0,some 4,none,.mov (.c (.bool false)),[]⟩]) (.ret)) (.skip)))) (.reg true [⟨0,some 15,none,.mov (.t 5),[]⟩,
⟨1,some 16,none,.bin .add (.t 15) (.c (.int .i64 1)),[]⟩,
⟨2,some 5,none,.mov (.t 16),[]⟩])))))) (.seq (.reg true [⟨0,some 4,none,.mov (.c (.bool true)),[]⟩]) (.ret))))⟩
def eqS0:qJ:=⟨2,26,[.t 4],
 .seq (.reg true [⟨0,some 4,none,.mov (.c (.bool false)),[]⟩]) (.seq (.seq (.reg true [⟨0,some 6,none,.mov (.t 0),[]⟩,
⟨1,some 7,none,.len (.t 6),[]⟩,
⟨2,some 8,none,.mov (.t 1),[]⟩,
⟨3,some 9,none,.len (.t 8),[]⟩,
⟨4,some 10,none,.bin .neq (.t 7) (.t 9),[]⟩]) (.cond (.t 10) (.seq (.reg true [⟨0,some 4,none,.mov (.c (.bool false)),[]⟩]) (.ret)) (.skip))) (.seq (.seq (.reg true [⟨0,some 5,none,.mov (.c (.int .i64 0)),[]⟩]) (.blk 0 (.loop (.seq (.seq (.reg true [⟨0,some 11,none,.mov (.t 5),[]⟩,
⟨1,some 12,none,.mov (.t 0),[]⟩,
⟨2,some 13,none,.len (.t 12),[]⟩,
⟨3,some 14,none,.bin .lss (.t 11) (.t 13),[]⟩]) (.cond (.t 14) (.skip) (.exit 0))) (.seq (.blk 1 (.seq (.reg true [⟨0,some 17,none,.mov (.t 0),[]⟩,
⟨1,some 18,none,.mov (.t 5),[]⟩,
⟨2,some 19,none,.iaddr 1 (.t 17) (.t 18),[]⟩,
⟨3,some 20,none,.load none (.t 19),[]⟩,
⟨4,some 21,none,.mov (.t 1),[]⟩,
⟨5,some 22,none,.mov (.t 5),[]⟩,
⟨6,some 23,none,.iaddr 1 (.t 21) (.t 22),[]⟩,
⟨7,some 24,none,.load none (.t 23),[]⟩,
⟨8,some 25,none,.bin .neq (.t 20) (.t 24),[]⟩]) (.cond (.t 25) (.seq (.reg true [⟨0,some 4,none,.mov (.c (.bool false)),[]⟩]) (.ret)) (.skip)))) (.reg true [⟨0,some 15,none,.mov (.t 5),[]⟩,
⟨1,some 16,none,.bin .add (.t 15) (.c (.int .i64 1)),[]⟩,
⟨2,some 5,none,.mov (.t 16),[]⟩])))))) (.seq (.reg true [⟨0,some 4,none,.mov (.c (.bool true)),[]⟩]) (.ret))))⟩
theorem jn{n:Int}(h: -9223372036854775808<=n)(h':n<=9223372036854775807):IntKind.i64.wrap n=n:=IntWalk.i64_in n ⟨h,h'⟩
theorem j0{n:Nat}(h:n<4611686018427387904):IntKind.i64.wrap ((n:Int)+1)=((n+1:Nat):Int):=by
 rw[jn (by omega) (by omega)];rfl
structure Sh{α:Type}(enc:α->AV)(w:Nat)(sh:Option Nat):Prop where
 tree:∀x,(enc x).tree=true
 len:∀x,(enc x).cells.length=w
 part:∀x,(enc x).part 0 sh=some (enc x)
 pos:0<w
 agg:∀x,(∃cs,enc x=.agg cs)↔sh≠none
def qQ(n:Int):AV:=.int .i64 n
theorem shI:Sh qQ 1 none:=⟨λ_=>rfl,λ_=>rfl,λ_=>rfl,by decide,λ_=>by simp[qQ]⟩
theorem qb{α:Type}{enc:α->AV}(h:∀x,(enc x).tree=true)(xs:List α):AV.trees (xs.map enc)=true:=by
 induction xs with
 | nil=>rfl
 | cons x xs ih=>simp[AV.trees,h,ih]
section
variable {Γ:Nat->Option AFn} {α:Type} {enc:α->AV} {w:Nat} {sh:Option Nat} {g gc:Nat}
def W7(Γ:Nat->Option AFn)(f:AV)(as:List AV)(v:AV):Prop:=∃g cs,f=.fn g cs/\Pure Γ g (as++cs) v
def J8(p:α->Bool):List α->Nat->Int
 |[],_=> -1
 | x::xs,i=>if p x then i else J8 p xs (i+1)
theorem qHE(p:α->Bool):∀(xs:List α)(i:Nat),decide (0<=J8 p xs i)=xs.any p
 |[],i=>by simp[J8]
 | x::xs,i=>by
  simp only[J8,List.any_cons];by_cases h:p x=true
  ·simp[h]
  ·simp only[h,bFt,if_false,Bool.false_or];simpa[h]using qHE p xs (i+1)
theorem ql7(hs:Sh enc w sh)(hg:Γ g=some (.fn (Qc w sh)))(f:AV)(p:α->Bool)(hft:f.tree=true)(xs:List α)(hf:∀x∈xs,W7 Γ f [enc x] (.bool (p x)))(hl:xs.length<=1048576):
  Pure Γ g [.lst w (xs.map enc) false,f] (.int .i64 (J8 p xs 0)):=by
 refine Pure.intro [] [] hg (by kernel_rfl) rfl (by simp[AV.trees,AV.tree,qb hs.tree,hft]) rfl ?_;simp only[Qc,qM,go_sem,Nat.reduceEqDiff,reduceIte];refine Sem.loop (λi:Nat=>i<=xs.length/\J8 p xs 0=J8 p (xs.drop i) i)
  (λi=>(⟨[(0,.lst w (xs.map enc) false),(1,f),(7,.int .i64 xs.length),(8,.int .i64 (i:Nat))],[],[]⟩:VSt)) (λi=>xs.length-i) 0 (by kernel_rfl) ⟨nZl _,by simp⟩ ?_ ?_
 ·exact Can.sub (by simp[go_sem]) trivial
 ·rintro i ⟨hi,hI⟩;simp only[go_sem,Nat.reduceEqDiff,reduceIte];apply qU<;>intro hc<;>simp only[hc,go_sem,Nat.reduceEqDiff,reduceIte]
  ·have hlt:i<xs.length:=by have:=odT hc;omega
   simp only[gMp,gEg hlt,oMs,hs.part,go_sem,Nat.reduceEqDiff,reduceIte,Bool.not_true];obtain⟨g,cs,rfl,h2⟩:=hf xs[i] (gMm hlt);simp only[go_sem];refine qI h2 ?_;simp only[go_sem,Nat.reduceEqDiff,reduceIte];have hd:xs.drop i=xs[i]::xs.drop (i+1):=by simp
   apply qU<;>intro hc<;>simp only[hc,go_sem,Nat.reduceEqDiff,reduceIte]
   ·refine qN rfl ?_;rw[hI,hd];simp[J8,hc]
   ·simp only[j0 (show i<4611686018427387904 by omega)];refine qd (i+1) ⟨by omega, ?_⟩ (by omega) (Can.sub (by simp[go_sem]) trivial);rw[hI,hd];simp[J8,hc]
  ·have hge:i=xs.length:=by have:=odF hc;omega
   subst hge;refine qN rfl ?_;rw[hI];simp[J8]
theorem WK(hs:Sh enc w sh)(hg:Γ g=some (.fn (Qw gc)))(hgc:Γ gc=some (.fn (Qc w sh)))(f:AV)(p:α->Bool)(hft:f.tree=true)(xs:List α)(hf:∀x∈xs,W7 Γ f [enc x] (.bool (p x)))(hl:xs.length<=1048576):
  Pure Γ g [.lst w (xs.map enc) false,f] (.bool (xs.any p)):=by
 refine Pure.intro [] [] hg rfl rfl (by simp[AV.trees,AV.tree,qb hs.tree,hft]) rfl ?_;simp only[Qw,qM,go_sem,Nat.reduceEqDiff,reduceIte,Bool.not_true];refine qI (ql7 hs hgc f p hft xs hf hl) ?_;simp only[go_sem,Nat.reduceEqDiff,reduceIte];exact qN rfl (by rw[qHE])
def wP(n:Nat)(left:Nat):Int:=if n<=left then((left-n:Nat):Int)else-1
theorem Jb{n l:Nat}(h:n<=l):wP n l=((l-n:Nat):Int):=iP h
theorem Qe{n l:Nat}(h:l<n):wP n l= -1:=iN (by omega)
theorem QA{n l:Nat}:wP n l<0↔l<n:=by
 by_cases h:n<=l
 ·rw[Jb h];omega
 ·rw[Qe (by omega)];omega
theorem qH7{a b l:Nat}(h:a<=l):wP (a+b) l=wP b (l-a):=by
 by_cases h2:a+b<=l
 ·rw[Jb h2,Jb (by omega)];congr 1;omega
 ·rw[Qe (by omega),Qe (by omega)]
theorem qK4(hg:Γ g=some (.fn Vx))(hs:∀x,(enc x).tree=true)(xs:List α)(left:Nat)(hl:left<=1048576)(hx:xs.length<=140737488355328):Pure Γ g [.lst w (xs.map enc) false,.int .i64 left] (.int .i64 (wP xs.length left)):=by
 refine Pure.intro [] [] hg rfl rfl (by simp[AV.trees,AV.tree,qb hs]) rfl ?_;simp only[Vx,qM,go_sem,Nat.reduceEqDiff,reduceIte];rw[jn (by simp;omega) (by simp;omega)];apply qU<;>intro hc<;>simp only[hc,go_sem,Nat.reduceEqDiff,reduceIte]
 ·have:=odT hc;refine qN rfl ?_;simp only[lMp]at this;rw[Qe (by omega)]
 ·have:=odF hc;refine qN rfl ?_;simp only[lMp]at this|-;rw[Jb (by omega)];congr 1;omega
def zD{α:Type}(f:α->Nat):List α->Nat
 |[]=>0
 | x::xs=>f x+zD f xs
theorem jr{α:Type}{f:α->Nat}:∀{xs:List α}{x:α},x∈xs->f x<=zD f xs
 | y::ys,x,h=>by
  simp only[zD];rcases mCo.1 h with rfl | h
  ·omega
  ·have:=jr (f:=f) h;omega
theorem qK5(hs:Sh enc w sh)(hg:Γ g=some (.fn (szS w sh gc)))(sz:α->Nat)(xs:List α)(hc:∀x∈xs,∀left:Nat,left<=1048576->Pure Γ gc [enc x,.int .i64 left] (.int .i64 (wP (sz x) left)))
  (left:Nat) (hl:left<=1048576) (hx:xs.length<=140737488355328):Pure Γ g [.lst w (xs.map enc) false,.int .i64 left] (.int .i64 (wP (xs.length+zD sz xs) left)):=by
 refine Pure.intro [] [] hg (by kernel_rfl) rfl (by simp[AV.trees,AV.tree,qb hs.tree]) rfl ?_;simp only[szS,qM,go_sem,Nat.reduceEqDiff,reduceIte];rw[jn (by simp;omega) (by simp;omega)];apply qU<;>intro hc1<;>simp only[hc1,go_sem,Nat.reduceEqDiff,reduceIte]
 ·have:=odT hc1;refine qN rfl ?_;simp only[lMp]at this;rw[Qe (by omega)]
 ·have h0:=odF hc1;simp only[lMp]at h0;refine Sem.loop (λa:Nat×Nat=>a.1<=xs.length/\a.2<=1048576/\wP (xs.length+zD sz xs) left=wP (zD sz (xs.drop a.1)) a.2)
   (λa=>(⟨[(0,.lst w (xs.map enc) false),(1,.int .i64 (a.2:Nat)),(5,.int .i64 (a.1:Nat))],[],[]⟩:VSt)) (λa=>xs.length-a.1) (0,left-xs.length) (by kernel_rfl) ⟨nZl _,by simp only;omega, ?_⟩ ?_ ?_
  ·exact qH7 (by omega)
  ·refine Can.sub ?_ trivial;simp only[go_sem,Nat.reduceEqDiff,reduceIte,lMp,oSi,AV.int.injEq,true_and,and_true];refine⟨by omega,rfl⟩
  ·rintro⟨i,lf⟩ ⟨hi,hlf,hI⟩;simp only at hi hlf hI;simp only[go_sem,Nat.reduceEqDiff,reduceIte];apply qU<;>intro hc2<;>simp only[hc2,go_sem,Nat.reduceEqDiff,reduceIte]
   ·have hlt:i<xs.length:=by have:=odT hc2;(try simp only[lMp]at this);omega
    simp only[gMp,gEg hlt,oMs,hs.part,go_sem,Nat.reduceEqDiff,reduceIte,Bool.not_true];refine qI (hc xs[i] (gMm hlt) lf hlf) ?_;simp only[go_sem,Nat.reduceEqDiff,reduceIte];have hd:xs.drop i=xs[i]::xs.drop (i+1):=by simp
    apply qU<;>intro hc3<;>simp only[hc3,go_sem,Nat.reduceEqDiff,reduceIte]
    ·have:=odT hc3;refine qN rfl ?_;rw[QA]at this;rw[hI,hd,Qe (by simp only[zD];omega)]
    ·have:=odF hc3;have hle:sz xs[i]<=lf:=by rw[QA]at this;omega
     simp only[j0 (show i<4611686018427387904 by omega)];refine qd (i+1,lf-sz xs[i]) ⟨by simp only;omega,by simp only;omega, ?_⟩ (by simp only;omega) (Can.sub ?_ trivial)
     ·simp only;rw[hI,hd];exact qH7 hle
     ·simp only[go_sem,Nat.reduceEqDiff,reduceIte,oSi,AV.int.injEq,true_and,and_true];rw[Jb hle]
   ·have hge:i=xs.length:=by have:=odF hc2;(try simp only[lMp]at this);omega
    subst hge;refine qN rfl ?_;rw[hI,List.drop_length];rw[Jb (by simp[zD])];simp[zD]
theorem Cv.row{h:List qA}{w id n:Nat}{el:List AV}{c:Bool}(ho:h[id]?=some (.row w el true))(hn:el.length=n)(ht:AV.trees el=true)(hw:0<w):Cv h (.slice w id 0 n c) (.lst w el false):=by
 have e:(el.drop 0).take n=el:=by rw[List.drop_zero,<-hn,lTl]
 refine .slc ho (by omega) hw (by rw[e]) ?_;rw[e];intro p hp;have q:p.1=p.2:=by
  obtain⟨i,hi,rfl⟩:=List.getElem_of_mem hp;simp
 rw[<-q];exact .refl (qLE ht (List.of_mem_zip hp).1)
theorem qKR{α:Type}{f:α->AV}{z:AV}{xs:List α}{i:Nat}(hi:i<xs.length):((xs.take i).map f++List.replicate (xs.length-i) z).set i (f xs[i])=(xs.take (i+1)).map f++List.replicate (xs.length-(i+1)) z:=by
 have e:xs.length-i=(xs.length-(i+1))+1:=by omega
 have hl:((xs.take i).map f).length=i:=by simp;omega
 rw[e,List.replicate_succ,lSr _ _ (by omega),hl,nSs,lSz,lTs hi,lMa,lAa];rfl
theorem qGM{α:Type}{f:α->AV}{z:AV}{xs:List α}{i:Nat}(hi:i<xs.length):((xs.take i).map f++List.replicate (xs.length-i) z)[i]?=some z:=by
 have hl:((xs.take i).map f).length=i:=by simp;omega
 rw[gAr (by omega),hl,nSs];rw[List.getElem?_replicate,iP (by omega)]
theorem qDE{z:AV}(hs:Sh enc w sh)(hz:z.tree=true)(hzl:z.cells.length=w)(hza:(∃cs,z=.agg cs)↔sh≠none)(hg:Γ g=some (.fn (toS w sh z gc)))(xs:List α)(hc:∀x∈xs,Pure Γ gc [enc x] (enc x))(hl:xs.length<=1048576):
  Pure Γ g [.lst w (xs.map enc) false] (.lst w (xs.map enc) false):=by
 have ht:AV.trees (xs.map enc)=true:=qb hs.tree xs;refine Pure.intro [] [] hg (by simp[toS,qP.ok,AOp.ok,Zd,Ao.ok,AV.tree,hz,qC.o,qC.d,qC.ck,AOp.isCall]) rfl (by simp[AV.trees,AV.tree,ht]) (by simp[AV.tree,ht]) ?_;simp only[toS,qM,go_sem,Nat.reduceEqDiff,reduceIte];refine Jc (by simp only[lMp,LIM];omega) ?_;simp only[go_sem,Nat.reduceEqDiff,reduceIte];refine Sem.loop (λi:Nat=>i<=xs.length)
  (λi=>(⟨[(0,.lst w (xs.map enc) false),(3,.slice w 0 0 xs.length false),(4,.int .i64 (i:Nat))],[],[.row w ((xs.take i).map enc++List.replicate (xs.length-i) z) true]⟩:VSt)) (λi=>xs.length-i) 0
  (by simp[Fr1.ok,qP.ok,AOp.ok,Zd,Ao.ok,AV.tree,qC.o,qC.d,qC.ck,AOp.isCall]) (nZl _) ?_ ?_
 ·simp only[List.take_zero,List.map_nil,lNa,Nat.sub_zero,lMp,lNi];exact Can.sub (by simp[go_sem]) trivial
 ·intro i hi;simp only[go_sem,Nat.reduceEqDiff,reduceIte];apply qU<;>intro hc2<;>simp only[hc2,go_sem,Nat.reduceEqDiff,reduceIte]
  ·have hlt:i<xs.length:=by have:=odT hc2;(try simp only[lMp]at this);omega
   simp only[gMp,gEg hlt,oMs,hs.part,go_sem,Nat.reduceEqDiff,reduceIte,Bool.not_true];refine qI (hc xs[i] (gMm hlt)) ?_;simp only[go_sem,Nat.reduceEqDiff,reduceIte,qW hlt,nZa];refine zx (hs.len _) rfl (qGM hlt) (Zr hzl (hs.len _) (by rw[hza,hs.agg]) hs.pos) ?_;rw[qKR hlt];simp only[go_sem,Nat.reduceEqDiff,reduceIte,j0 (show i<4611686018427387904 by omega)];exact qd (i+1) (by omega) (by omega) (Can.sub (by simp[go_sem]) trivial)
  ·have hge:i=xs.length:=by have:=odF hc2;(try simp only[lMp]at this);omega
   subst hge;refine J7 ?_;simp only[lTl,nSs,List.replicate_zero,lAn];exact Cv.row rfl (by simp) ht hs.pos
theorem qq0(hg:Γ g=some (.fn toS0))(xs:List Int)(hl:xs.length<=1048576):Pure Γ g [.lst 1 (xs.map qQ) false] (.lst 1 (xs.map qQ) false):=by
 have ht:AV.trees (xs.map qQ)=true:=qb shI.tree xs;refine Pure.intro [] [] hg (by kernel_rfl) rfl (by simp[AV.trees,AV.tree,ht]) (by simp[AV.tree,ht]) ?_;simp only[toS0,qM,go_sem,Nat.reduceEqDiff,reduceIte];refine Jc (by simp only[lMp,LIM];omega) ?_;simp only[go_sem,Nat.reduceEqDiff,reduceIte];refine Sem.loop (λi:Nat=>i<=xs.length)
  (λi=>(⟨[(0,.lst 1 (xs.map qQ) false),(3,.slice 1 0 0 xs.length false),(4,.int .i64 (i:Nat))],[],[.row 1 ((xs.take i).map qQ++List.replicate (xs.length-i) (.int .i64 0)) true]⟩:VSt)) (λi=>xs.length-i) 0
  (by kernel_rfl) (nZl _) ?_ ?_
 ·simp only[List.take_zero,List.map_nil,lNa,Nat.sub_zero,lMp,lNi];exact Can.sub (by simp[go_sem]) trivial
 ·intro i hi;simp only[go_sem,Nat.reduceEqDiff,reduceIte];apply qU<;>intro hc2<;>simp only[hc2,go_sem,Nat.reduceEqDiff,reduceIte]
  ·have hlt:i<xs.length:=by have:=odT hc2;(try simp only[lMp]at this);omega
   simp only[gMp,gEg hlt,oMs,shI.part,go_sem,Nat.reduceEqDiff,reduceIte,qW hlt,nZa];refine zx (shI.len _) rfl (qGM hlt) (Zr (k:=1) rfl (shI.len _) (by simp[qQ]) (by decide)) ?_;rw[qKR hlt];simp only[go_sem,Nat.reduceEqDiff,reduceIte,j0 (show i<4611686018427387904 by omega)];exact qd (i+1) (by omega) (by omega) (Can.sub (by simp[go_sem]) trivial)
  ·have hge:i=xs.length:=by have:=odF hc2;(try simp only[lMp]at this);omega
   subst hge;refine J7 ?_;simp only[lTl,nSs,List.replicate_zero,lAn];exact Cv.row rfl (by simp) ht (by decide)
theorem qBG(hs:Sh enc w sh)(hg:Γ g=some (.fn (eqS w sh gc)))(xs:List α)(hc:∀x∈xs,Pure Γ gc [enc x,enc x] (.bool true))(hl:xs.length<=1073741824):
  Pure Γ g [.lst w (xs.map enc) false,.lst w (xs.map enc) false] (.bool true):=by
 have ht:AV.trees (xs.map enc)=true:=qb hs.tree xs;refine Pure.intro [] [] hg (by kernel_rfl) rfl (by simp[AV.trees,AV.tree,ht]) rfl ?_;simp only[eqS,qM,go_sem,Nat.reduceEqDiff,reduceIte,Bool.not_true,decide_true];refine Sem.loop (λi:Nat=>i<=xs.length)
  (λi=>(⟨[(0,.lst w (xs.map enc) false),(1,.lst w (xs.map enc) false),(5,.int .i64 (i:Nat))],[],[]⟩:VSt)) (λi=>xs.length-i) 0
  (by kernel_rfl) (nZl _) ?_ ?_
 ·exact Can.sub (by simp[go_sem]) trivial
 ·intro i hi;simp only[go_sem,Nat.reduceEqDiff,reduceIte];apply qU<;>intro hc2<;>simp only[hc2,go_sem,Nat.reduceEqDiff,reduceIte]
  ·have hlt:i<xs.length:=by have:=odT hc2;(try simp only[lMp]at this);omega
   simp only[gMp,gEg hlt,oMs,hs.part,go_sem,Nat.reduceEqDiff,reduceIte,Bool.not_true];refine qI (hc xs[i] (gMm hlt)) ?_;simp only[go_sem,Nat.reduceEqDiff,reduceIte,Bool.not_true,j0 (show i<4611686018427387904 by omega)];exact qd (i+1) (by omega) (by omega) (Can.sub (by simp[go_sem]) trivial)
  ·exact qN rfl rfl
theorem qlB(hg:Γ g=some (.fn eqS0))(xs:List Int)(hl:xs.length<=1073741824):Pure Γ g [.lst 1 (xs.map qQ) false,.lst 1 (xs.map qQ) false] (.bool true):=by
 have ht:AV.trees (xs.map qQ)=true:=qb shI.tree xs;refine Pure.intro [] [] hg (by kernel_rfl) rfl (by simp[AV.trees,AV.tree,ht]) rfl ?_;simp only[eqS0,qM,go_sem,Nat.reduceEqDiff,reduceIte,Bool.not_true,decide_true];refine Sem.loop (λi:Nat=>i<=xs.length)
  (λi=>(⟨[(0,.lst 1 (xs.map qQ) false),(1,.lst 1 (xs.map qQ) false),(5,.int .i64 (i:Nat))],[],[]⟩:VSt)) (λi=>xs.length-i) 0
  (by kernel_rfl) (nZl _) ?_ ?_
 ·exact Can.sub (by simp[go_sem]) trivial
 ·intro i hi;simp only[go_sem,Nat.reduceEqDiff,reduceIte];apply qU<;>intro hc2<;>simp only[hc2,go_sem,Nat.reduceEqDiff,reduceIte]
  ·have hlt:i<xs.length:=by have:=odT hc2;(try simp only[lMp]at this);omega
   simp only[gMp,gEg hlt,oMs,go_sem,Nat.reduceEqDiff,reduceIte,Bool.not_true,qQ,decide_true,eq_self];simp only[j0 (show i<4611686018427387904 by omega)];exact qd (i+1) (by omega) (by omega) (Can.sub (by simp[go_sem]) trivial)
  ·exact qN rfl rfl
end
def Q5(g:Nat):List (Nat×qJ)->Option AFn
 |[]=>none
 | (k,F)::r=>bif Nat.beq k g then some (.fn F)else Q5 g r
attribute [go_sem] Bool.not_true Bool.not_false bFt lCo lNi List.getElem?_cons_zero List.getElem?_cons_succ decide_true eq_self lMp
attribute [go_sem] reduceIte Nat.reduceAdd Nat.reduceEqDiff
abbrev iI(n:Int):AV:=.int .i64 n
abbrev sQ(w id n:Nat):AV:=.slice w id 0 n false
abbrev lQ(xs:List Int):AV:=.lst 1 (xs.map qQ) false
attribute [go_sem] Nat.reduceBEq
theorem wsA{n:Int}(h: -9223372036854775808<=n:=by omega)(h':n<=9223372036854775807:=by omega):IntKind.i64.wrap n=n:=jn h h'
theorem wuA{n:Nat}(h:n<4611686018427387904:=by omega):IntKind.i64.wrap ((n:Int)+1)=((n+1:Nat):Int):=j0 h
theorem csA{b:Nat}{s s' m m':qp}{h:List qA}(h1:Qm s s':=by simp[go_sem])(h2:Qm m m':=by simp[go_sem]):Can b ⟨s,m,h⟩ ⟨s',m',h⟩:=Can.sub h1 h2
theorem lqA{E:Ev}{ks:List Fr1}{Q:qi->VSt->Prop}{st:VSt}{α:Type}{I:α->Prop}{stt:α->VSt}{me:α->Nat}{a:α}(a':α)(h1:I a':=by omega)(h2:me a'<me a:=by omega)(h3:Can E.b st (stt a'):=by exact csA):Q6 E I stt me a ks Q .nrm st:=qd a' h1 h2 h3
theorem lsA{E:Ev}{l:List qC}{ks:List Fr1}{s m:qp}{h:List qA}{Q:qi->VSt->Prop}{t k:Nat}{v:AV}{cs:List AV}(hr:R E (.ops l::ks) ⟨s,(t,v)::m,h⟩ Q)(h1:cs.length=k:=by rfl)(h2:v.cells.length=k:=by first | rfl | simp only[go_sem])(h3:∃cs,v=.agg cs:=by exact⟨_,rfl⟩)(h4:0<k:=by decide):Lst E t 0 k (some (.agg cs)) (some v) l ks ⟨s,m,h⟩ Q:=Q7 h1 h2 h3 h4 hr
mutual
def lay:AV->Nat->AV×List qA
 |.lst w xs _,n=>(.slice w n 0 xs.length false,.row w (qT xs (n+1)).1 true::(qT xs (n+1)).2)
 |.agg xs,n=>(.agg (qT xs n).1,(qT xs n).2)
 |.tup xs,n=>(.tup (qT xs n).1,(qT xs n).2)
 | v,_=>(v,[])
def qT:List AV->Nat->List AV×List qA
 |[],_=>([],[])
 | x::xs,n=>((lay x n).1::(qT xs (n+(lay x n).2.length)).1,(lay x n).2++(qT xs (n+(lay x n).2.length)).2)
end
mutual
def AV.pl:AV->Bool
 |.lst _ xs _ |.agg xs |.tup xs=>AV.pls xs
 |.bool _ |.int _ _ |.str _ |.nilp |.nils |.nilm |.nilf |.nili=>true
 | _=>false
def AV.pls:List AV->Bool
 |[]=>true
 | x::xs=>AV.pl x&&AV.pls xs
end
mutual
def AV.rows:AV->Nat
 |.lst _ xs _=>AV.rowss xs+1
 |.agg xs |.tup xs=>AV.rowss xs
 | _=>0
def AV.rowss:List AV->Nat
 |[]=>0
 | x::xs=>AV.rows x+AV.rowss xs
end
mutual
theorem jR:∀(t:AV)(n:Nat),(lay t n).2.length=t.rows
 |.lst _ xs _,n=>by simp only[lay,lCo,AV.rows,wO xs]
 |.agg xs,n=>by simp only[lay,AV.rows,wO xs]
 |.tup xs,n=>by simp only[lay,AV.rows,wO xs]
 |.bool _,_ |.int _ _,_ |.str _,_ |.nilp,_ |.nils,_ |.nilm,_ |.nilf,_ |.nili,_ |.any,_=>rfl
 |.ptr _ _ _,_ |.slice _ _ _ _ _,_ |.map _,_ |.ept _ _,_ |.fn _ _,_ |.iface _ _,_=>rfl
theorem wO:∀(xs:List AV)(n:Nat),(qT xs n).2.length=AV.rowss xs
 |[],_=>rfl
 | x::xs,n=>by simp only[qT,lAp,jR x,wO xs,AV.rowss]
end
theorem Ja:∀(xs:List AV)(n:Nat),(qT xs n).1.length=xs.length
 |[],_=>rfl
 | x::xs,n=>by simp only[qT,lCo,Ja xs]
theorem qHX:∀(xs ys:List AV)(n:Nat),qT (xs++ys) n=((qT xs n).1++(qT ys (n+AV.rowss xs)).1,(qT xs n).2++(qT ys (n+AV.rowss xs)).2)
 |[],ys,n=>by simp[qT,AV.rowss]
 | x::xs,ys,n=>by
  simp only[lCa,qT,qHX xs ys,AV.rowss,jR,Nat.add_assoc,lAa]
theorem qJ8:∀(xs ys:List AV),AV.rowss (xs++ys)=AV.rowss xs+AV.rowss ys
 |[],ys=>by simp[AV.rowss]
 | x::xs,ys=>by simp only[lCa,AV.rowss,qJ8 xs ys];omega
section
variable {ρ ρ':Ren}
def Sh2(ρ:Ren)(a:Nat)(ρ':Ren)(b n:Nat):Prop:=∀i,i<n->ρ' (b+i)=ρ (a+i)
theorem Sh2.sub{a b n:Nat}(h:Sh2 ρ a ρ' b n)(k m:Nat)(hk:k+m<=n):Sh2 ρ (a+k) ρ' (b+k) m:=λi hi=>by
 have:=h (k+i) (by omega);rw[show a+k+i=a+(k+i) by omega,show b+k+i=b+(k+i) by omega];exact this
mutual
theorem qHU:∀(t:AV)(a b:Nat)(r:AV),t.pl=true->Sh2 ρ a ρ' b t.rows->RelV ρ (lay t a).1 r->RelV ρ' (lay t b).1 r
 |.lst w xs _,a,b,r,_,hs,h=>by
  have h0:=hs 0 (by simp only[AV.rows];omega);simp only[nAz]at h0;simp only[lay,RelV]at h|-;rw[h0];exact h
 |.agg xs,a,b,r,hp,hs,h=>by
  simp only[lay,RelV]at h|-;obtain⟨ds,h1,h2⟩:=h;exact⟨ds,h1,Y3 xs a b ds hp hs h2⟩
 |.tup xs,a,b,r,hp,hs,h=>by
  simp only[lay,RelV]at h|-;obtain⟨ds,h1,h2⟩:=h;exact⟨ds,h1,Y3 xs a b ds hp hs h2⟩
 |.bool _,_,_,_,_,_,h |.int _ _,_,_,_,_,_,h |.str _,_,_,_,_,_,h |.nilp,_,_,_,_,_,h |.nils,_,_,_,_,_,h |.nilm,_,_,_,_,_,h |.nilf,_,_,_,_,_,h |.nili,_,_,_,_,_,h=>by
  simpa only [lay,RelV]using h
 |.any,_,_,_,hp,_,_ |.ptr _ _ _,_,_,_,hp,_,_ |.slice _ _ _ _ _,_,_,_,hp,_,_ |.map _,_,_,_,hp,_,_ |.ept _ _,_,_,_,hp,_,_ |.fn _ _,_,_,_,hp,_,_ |.iface _ _,_,_,_,hp,_,_=>by cases hp
theorem Y3:∀(xs:List AV)(a b:Nat)(rs:List AV),AV.pls xs=true->Sh2 ρ a ρ' b (AV.rowss xs)->RelVs ρ (qT xs a).1 rs->RelVs ρ' (qT xs b).1 rs
 |[],_,_,_,_,_,h=>by simpa only [qT,RelVs]using h
 | x::xs,a,b,rs,hp,hs,h=>by
  simp only[AV.pls,bAt]at hp;simp only[qT,RelVs,jR]at h|-;obtain⟨u,us,h1,h2,h3⟩:=h;simp only[AV.rowss]at hs;exact⟨u,us,h1,qHU x a b u hp.1 (by simpa using hs.sub 0 x.rows (by omega)) h2,Y3 xs _ _ us hp.2 (hs.sub x.rows (AV.rowss xs) (by omega)) h3⟩
end
def Lies(ρ:Ren)(a:Nat)(os:List qA)(hr:AH):Prop:=∀i o,os[i]?=some o->RelO ρ (a+i) hr o
theorem Lies.app{a:Nat}{os os':List qA}{hr:AH}:Lies ρ a (os++os') hr↔Lies ρ a os hr/\Lies ρ (a+os.length) os' hr:=by
 constructor
 ·intro h;refine⟨λi o hi=>h i o ?_,λi o hi=>?_⟩
  ·rw[gAl (gSi.1 hi).1];exact hi
  ·have:=h (os.length+i) o (by rw[gAr (by omega)];simpa using hi);rw[show a+os.length+i=a+(os.length+i) by omega];exact this
 ·rintro⟨h1,h2⟩ i o hi;rcases Nat.lt_or_ge i os.length with q | q
  ·rw[gAl q]at hi;exact h1 i o hi
  ·rw[gAr q]at hi;have:=h2 _ _ hi;rw[show a+os.length+(i-os.length)=a+i by omega]at this;exact this
theorem Lies.cons{a:Nat}{o:qA}{os:List qA}{hr:AH}:Lies ρ a (o::os) hr↔RelO ρ a hr o/\Lies ρ (a+1) os hr:=by
 have:=Lies.app (ρ:=ρ) (a:=a) (os:=[o]) (os':=os) (hr:=hr);rw[List.singleton_append]at this;rw[this];constructor
 ·rintro⟨h1,h2⟩;exact⟨h1 0 o rfl,h2⟩
 ·rintro⟨h1,h2⟩;refine⟨λi x hi=>?_,h2⟩;cases i with
  | zero=>simp at hi;subst hi;exact h1
  | succ i=>simp at hi
mutual
theorem qHT{hr hr':AH}:∀(t:AV)(a b:Nat),t.pl=true->Sh2 ρ a ρ' b t.rows->(∀i x o,i<t.rows->ρ (a+i)=some (some x)->hr x=some o->hr' x=some o)->Lies ρ a (lay t a).2 hr->Lies ρ' b (lay t b).2 hr'
 |.lst w xs _,a,b,hp,hs,hh,h=>by
  simp only[lay,Lies.cons]at h|-;simp only[AV.rows]at hs hh;obtain⟨h1,h2⟩:=h;refine⟨?_,Y2 xs (a+1) (b+1) hp (hs.sub 1 _ (by omega)) (λi x o hi hx hx2=>hh (1+i) x o (by omega) (by rw[<-Nat.add_assoc];exact hx) hx2) h2⟩;have h0:=hs 0 (by omega);simp only[nAz]at h0;rcases h1 with⟨q1,q2,q3⟩ | ⟨i',el',q1,q2,q3⟩
  ·refine .inl ⟨by rw[h0];exact q1, ?_,q3⟩;have l1:=Ja xs (a+1);have l2:=Ja xs (b+1);rw[q2]at l1;exact lEz (by rw[l2,<-l1];rfl)
  ·exact .inr ⟨i',el',by rw[h0];exact q1,hh 0 i' _ (by omega) q1 q2,Y3 xs _ _ _ hp (hs.sub 1 _ (by omega)) q3⟩
 |.agg xs,a,b,hp,hs,hh,h=>by
  simp only[lay]at h|-;exact Y2 xs a b hp hs hh h
 |.tup xs,a,b,hp,hs,hh,h=>by
  simp only[lay]at h|-;exact Y2 xs a b hp hs hh h
 |.bool _,_,_,_,_,_,_ |.int _ _,_,_,_,_,_,_ |.str _,_,_,_,_,_,_ |.nilp,_,_,_,_,_,_ |.nils,_,_,_,_,_,_ |.nilm,_,_,_,_,_,_ |.nilf,_,_,_,_,_,_ |.nili,_,_,_,_,_,_=>by
  intro i o hi;simp[lay]at hi
 |.any,_,_,hp,_,_,_ |.ptr _ _ _,_,_,hp,_,_,_ |.slice _ _ _ _ _,_,_,hp,_,_,_ |.map _,_,_,hp,_,_,_ |.ept _ _,_,_,hp,_,_,_ |.fn _ _,_,_,hp,_,_,_ |.iface _ _,_,_,hp,_,_,_=>by cases hp
theorem Y2{hr hr':AH}:∀(xs:List AV)(a b:Nat),AV.pls xs=true->Sh2 ρ a ρ' b (AV.rowss xs)->(∀i x o,i<AV.rowss xs->ρ (a+i)=some (some x)->hr x=some o->hr' x=some o)->Lies ρ a (qT xs a).2 hr->Lies ρ' b (qT xs b).2 hr'
 |[],_,_,_,_,_,_=>by intro i o hi;simp[qT]at hi
 | x::xs,a,b,hp,hs,hh,h=>by
  simp only[AV.pls,bAt]at hp;simp only[AV.rowss]at hs hh;simp only[qT,Lies.app,jR]at h|-;exact⟨qHT x a b hp.1 (by simpa using hs.sub 0 x.rows (by omega)) (λi y o hi=>hh i y o (by omega)) h.1,
   Y2 xs _ _ hp.2 (hs.sub x.rows _ (by omega)) (λi y o hi hy=>hh (x.rows+i) y o (by omega) (by rw[<-Nat.add_assoc];exact hy)) h.2⟩
end
mutual
theorem qBU:∀(t:AV)(a:Nat)(r:AV),t.pl=true->RelV ρ (lay t a).1 r->r.nol=true
 |.lst w xs _,a,r,_,h=>by
  simp only[lay,RelV]at h;rcases h with⟨_,_,rfl⟩ | ⟨_,_,_,rfl | rfl⟩<;>rfl
 |.agg xs,a,r,hp,h=>by
  simp only[lay,RelV]at h;obtain⟨ds,rfl,h2⟩:=h;simp only[AV.nol];exact Xc xs a ds hp h2
 |.tup xs,a,r,hp,h=>by
  simp only[lay,RelV]at h;obtain⟨ds,rfl,h2⟩:=h;simp only[AV.nol];exact Xc xs a ds hp h2
 |.bool _,_,_,_,h |.int _ _,_,_,_,h |.str _,_,_,_,h |.nilp,_,_,_,h |.nils,_,_,_,h |.nilm,_,_,_,h |.nilf,_,_,_,h |.nili,_,_,_,h=>by
  simp only[lay,RelV]at h;subst h;rfl
 |.any,_,_,hp,_ |.ptr _ _ _,_,_,hp,_ |.slice _ _ _ _ _,_,_,hp,_ |.map _,_,_,hp,_ |.ept _ _,_,_,hp,_ |.fn _ _,_,_,hp,_ |.iface _ _,_,_,hp,_=>by cases hp
theorem Xc:∀(xs:List AV)(a:Nat)(rs:List AV),AV.pls xs=true->RelVs ρ (qT xs a).1 rs->AV.nols rs=true
 |[],_,_,_,h=>by simp only[qT,RelVs]at h;subst h;rfl
 | x::xs,a,rs,hp,h=>by
  simp only[AV.pls,bAt]at hp;simp only[qT,RelVs]at h;obtain⟨u,us,rfl,h2,h3⟩:=h;simp only[AV.nols,bAt];exact⟨qBU x a u hp.1 h2,Xc xs _ us hp.2 h3⟩
end
mutual
theorem WZ:∀(t:AV)(a i:Nat)(o:qA),t.pl=true->(lay t a).2[i]?=some o->∃w xs b,o=.row w (qT xs b).1 true/\AV.pls xs=true
 |.lst w xs _,a,i,o,hp,h=>by
  simp only[lay]at h;cases i with
  | zero=>simp at h;subst h;exact⟨w,xs,a+1,rfl,hp⟩
  | succ i=>exact Y4 xs (a+1) i o hp (by simpa using h)
 |.agg xs,a,i,o,hp,h=>by simp only[lay]at h;exact Y4 xs a i o hp h
 |.tup xs,a,i,o,hp,h=>by simp only[lay]at h;exact Y4 xs a i o hp h
 |.bool _,_,_,_,_,h |.int _ _,_,_,_,_,h |.str _,_,_,_,_,h |.nilp,_,_,_,_,h |.nils,_,_,_,_,h |.nilm,_,_,_,_,h |.nilf,_,_,_,_,h |.nili,_,_,_,_,h=>by
  simp[lay]at h
 |.any,_,_,_,hp,_ |.ptr _ _ _,_,_,_,hp,_ |.slice _ _ _ _ _,_,_,_,hp,_ |.map _,_,_,_,hp,_ |.ept _ _,_,_,_,hp,_ |.fn _ _,_,_,_,hp,_ |.iface _ _,_,_,_,hp,_=>by cases hp
theorem Y4:∀(xs:List AV)(a i:Nat)(o:qA),AV.pls xs=true->(qT xs a).2[i]?=some o->∃w ys b,o=.row w (qT ys b).1 true/\AV.pls ys=true
 |[],_,_,_,_,h=>by simp[qT]at h
 | x::xs,a,i,o,hp,h=>by
  simp only[AV.pls,bAt]at hp;simp only[qT]at h;rcases Nat.lt_or_ge i (lay x a).2.length with q | q
  ·rw[gAl q]at h;exact WZ x a i o hp.1 h
  ·rw[gAr q]at h;exact Y4 xs _ _ o hp.2 h
end
end
variable {Γ:Nat->Option AFn} {g:Nat} {vs vs' as:List AV} {h:List qA} {t t':AV}
def Fresh(Γ:Nat->Option AFn)(g:Nat)(as:List AV)(t:AV):Prop:=
 AV.trees as=true/\t.pl=true/\∀hr ar,RelVs ρ0 as ar->∃k r hr' ρ',Ex Γ k (.call g ar hr) (.res (.ok r) hr')/\zH ρ' (lay t 0).2 hr'/\RelV ρ' (lay t 0).1 r/\Fm 0 ρ0 hr ρ' hr'
def Jm(ρ:Ren)(n:Nat)(ρ':Ren):Ren:=λi=>if i<n then ρ i else ρ' (i-n)
theorem Yo{ρ ρ':Ren}{hr h1 h2:AH}{r:AV}(hp:t.pl=true)(hH:zH ρ h hr)(hH':zH ρ' (lay t 0).2 h1)(hv:RelV ρ' (lay t 0).1 r)
  (hnew:∀i a,ρ' i=some (some a)->hr.fr a) (hold:∀a o,hr a=some o->h2 a=some o) (hsame:∀i a o,ρ' i=some (some a)->h1 a=some o->h2 a=some o) (hfr:∀a,h2.fr a->hr.fr a):
  zH (Jm ρ h.length ρ') (h++(lay t h.length).2) h2/\RelV (Jm ρ h.length ρ') (lay t h.length).1 r/\Fm h.length ρ hr (Jm ρ h.length ρ') h2:=by
 have sh:Sh2 ρ' 0 (Jm ρ h.length ρ') h.length t.rows:=λi hi=>by
  simp only[Jm,nZa];rw[iN (by omega),Nat.add_sub_cancel_left]
 have lies:Lies ρ' 0 (lay t 0).2 h1:=λi o hi=>by rw[nZa];exact hH'.obj i o hi
 have lies2:Lies (Jm ρ h.length ρ') h.length (lay t h.length).2 h2:=qHT t 0 h.length hp sh (λi x o _ hx ho=>hsame _ x o hx ho) lies;have lo:∀i,i<h.length->Jm ρ h.length ρ' i=ρ i:=λi hi=>by simp only[Jm,iP hi]
 have hi':∀i,h.length<=i->Jm ρ h.length ρ' i=ρ' (i-h.length):=λi hi=>by simp only[Jm];rw[iN (by omega)]
 have le:ρ.le (Jm ρ h.length ρ'):=λi a hia=>by
  have:i<h.length:=by
   rcases Nat.lt_or_ge i h.length with q | q
   ·exact q
   ·rw[hH.out i q]at hia;cases hia
  rw[lo i this];exact hia
 refine⟨⟨λi o hi=>?_,λi j a o o' h1' h2' hi hj d1 d2=>?_,λi hi=>?_,λi a ha=>?_⟩,qHU t 0 h.length r hp sh hv,⟨λa o ho _=>hold a o ho,λi a ha=>?_,hfr,λi hi=>lo i hi⟩⟩
 ·rcases Nat.lt_or_ge i h.length with q | q
  ·rw[gAl q]at hi;exact(hH.obj i o hi).mono le λa o' _ ho=>hold a o' ho
  ·rw[gAr q]at hi;have:=lies2 _ _ hi;rwa[show h.length+(i-h.length)=i by omega]at this
 ·have get0:∀{i:Nat}{o:qA},(lay t h.length).2[i]?=some o->∃o2,(lay t 0).2[i]?=some o2/\o2≠.dead:=λ{i o} hio=>by
   have hl:i<(lay t 0).2.length:=by
    have:=(gSi.1 hio).1;rw[jR]at this|-;exact this
   refine⟨_,gEg hl, ?_⟩;obtain⟨w,xs,b,e,_⟩:=WZ t 0 i _ hp (gEg hl);rw[e];simp
  rcases Nat.lt_or_ge i h.length with q1 | q1<;>rcases Nat.lt_or_ge j h.length with q2 | q2
  ·rw[lo i q1]at h1';rw[lo j q2]at h2';rw[gAl q1]at hi;rw[gAl q2]at hj;exact hH.inj i j a o o' h1' h2' hi hj d1 d2
  ·rw[lo i q1]at h1';rw[hi' j q2]at h2';obtain⟨x,hx⟩:=hH.is i a h1';have:=(hnew _ a h2').1;rw[this]at hx;cases hx
  ·rw[hi' i q1]at h1';rw[lo j q2]at h2';obtain⟨x,hx⟩:=hH.is j a h2';have:=(hnew _ a h1').1;rw[this]at hx;cases hx
  ·rw[hi' i q1]at h1';rw[hi' j q2]at h2';rw[gAr q1]at hi;rw[gAr q2]at hj;obtain⟨o2,g1,g2⟩:=get0 hi;obtain⟨o3,g3,g4⟩:=get0 hj;have:=hH'.inj _ _ a o2 o3 h1' h2' g1 g3 g2 g4;omega
 ·simp only[lAp,jR]at hi;rw[hi' i (by omega)];exact hH'.out _ (by rw[jR];omega)
 ·rcases Nat.lt_or_ge i h.length with q | q
  ·rw[lo i q]at ha;obtain⟨o,ho⟩:=hH.is i a ha;exact⟨o,hold a o ho⟩
  ·rw[hi' i q]at ha;obtain⟨o,ho⟩:=hH'.is _ a ha;exact⟨o,hsame _ a o ha ho⟩
 ·rcases Nat.lt_or_ge i h.length with q | q
  ·rw[lo i q]at ha;exact .inl ⟨i,ha⟩
  ·rw[hi' i q]at ha;exact .inr (hnew _ a ha)
theorem Fm.new0{ρ':Ren}{hr hr':AH}(h:Fm 0 ρ0 hr ρ' hr'){i a:Nat}(ha:ρ' i=some (some a)):hr.fr a:=by
 rcases h.new i a ha with⟨j,hj⟩ | q
 ·cases hj
 ·exact q
theorem SCallK.fresh{K:AV->List qA->Prop}(hp:Fresh Γ g vs t)(hk:K (lay t h.length).1 (h++(lay t h.length).2)):SCallK Γ g vs h K:=λρ hr ar hH hv=>by
 unfold Fresh at hp;obtain⟨t1,t2,hp⟩:=hp;obtain⟨k,r,hr',ρ',h1,h2,h3,h4⟩:=hp hr ar (Jz _ _ t1 hv);obtain⟨q1,q2,q3⟩:=Yo (h2:=hr') t2 hH h2 h3 (λi a ha=>h4.new0 ha) (λa o ho=>h4.pres a o ho (λi hi=>by cases hi)) (λ_ _ _ _ ho=>ho) h4.fr;exact⟨k,r,hr',_,_,_,h1,hk,q1,q2,q3,by simp,λa o ho=>h4.pres a o ho (λi hi=>by cases hi)⟩
theorem SCall.fresh{K:AV->List qA->Prop}(hp:Fresh Γ g vs t)(hk:K (lay t h.length).1 (h++(lay t h.length).2)):SCall Γ g vs h K:=λρ hr ar hH hv=>by
 unfold Fresh at hp;obtain⟨t1,t2,hp⟩:=hp;obtain⟨k,r,hr',ρ',h1,h2,h3,h4⟩:=hp hr ar (Jz _ _ t1 hv);obtain⟨q1,q2,q3⟩:=Yo (h2:=hr') t2 hH h2 h3 (λi a ha=>h4.new0 ha) (λa o ho=>h4.pres a o ho (λi hi=>by cases hi)) (λ_ _ _ _ ho=>ho) h4.fr;exact⟨k,r,hr',_,_,_,h1,hk,q1,q2,q3,by simp⟩
theorem SCall.freshL{K:AV->List qA->Prop}(hc:Cvs h vs vs')(hp:Fresh Γ g vs' t)(hk:K (lay t h.length).1 (h++(lay t h.length).2)):SCall Γ g vs h K:=λρ hr ar hH hv=>by
 unfold Fresh at hp;obtain⟨t1,t2,hp⟩:=hp;obtain⟨KK,hKK⟩:=qBI hr;obtain⟨rs',g1,g2,g3⟩:=hc.conv hH (K:=KK) (λi a w el ha ho=>by
  rcases hH.obj i _ ho with⟨q,_⟩ | ⟨i',el',q1,q2,_⟩
  ·rw[q]at ha;cases ha
  ·rw[q1]at ha;cases ha;exact(hKK _).2 ⟨_,q2,rfl⟩) hv
 obtain⟨k,r,hr',ρ',h1,h2,h3,h4⟩:=hp (hr.kill KK) rs' g3;have hnew:∀i a,ρ' i=some (some a)->hr.fr a:=λi a ha=>(AH.fr_kill (h4.new0 ha)).1;have hrow:∀a,(jU ρ' (lay t 0).2 (List.range t.rows)).contains a=true->∀o,hr' a=some o->o.nol=true:=λa ha o ho=>by
  rw[lCm,JS]at ha;obtain⟨i,w,el,_,q2,q3⟩:=ha;obtain⟨w',xs,b,e,hpx⟩:=WZ t 0 i _ t2 q3;cases e;rcases h2.obj i _ q3 with⟨q,_⟩ | ⟨i',el',p1,p2,p3⟩
  ·rw[q]at q2;cases q2
  ·rw[p1]at q2;cases q2;rw[p2]at ho;cases ho;simp only[qA.nol,Bool.true_and];exact Xc _ _ _ hpx p3
 have hin:∀i a o,ρ' i=some (some a)->hr' a=some o->(jU ρ' (lay t 0).2 (List.range t.rows)).contains a=true:=λi a o ha ho=>by
  have hi:i<(lay t 0).2.length:=by
   rcases Nat.lt_or_ge i (lay t 0).2.length with q | q
   ·exact q
   ·rw[h2.out i q]at ha;cases ha
  obtain⟨w,xs,b,e,_⟩:=WZ t 0 i _ t2 (gEg hi);rw[lCm,JS];exact⟨i,w,_,lMr.2 (by rw[jR]at hi;exact hi),ha,by rw[gEg hi,e]⟩
 have hx:=Ex.brn KK (jU ρ' (lay t 0).2 (List.range t.rows)) hKK g1 g2 (qBU t 0 r t2 h3) (λa o ha _ ho=>hrow a ha o ho) h1;obtain⟨q1,q2,q3⟩:=Yo (h2:=hr.join hr' (jU ρ' (lay t 0).2 (List.range t.rows))) t2 hH h2 h3 hnew (λa o ho=>AH.join_old' ho) (λi a o ha ho=>by
  rw[AH.join_new' (hnew i a ha).1,iP (hin i a o ha ho)];exact ho) (λa ha=>(AH.fr_join ha).1)
 exact⟨k,r,_,_,_,_,hx,hk,q1,q2,q3,by simp⟩
theorem SCallK.freshL{K:AV->List qA->Prop}(hc:Cvs h vs vs')(hp:Fresh Γ g vs' t)(hk:K (lay t h.length).1 (h++(lay t h.length).2)):SCallK Γ g vs h K:=λρ hr ar hH hv=>by
 unfold Fresh at hp;obtain⟨t1,t2,hp⟩:=hp;obtain⟨KK,hKK⟩:=qBI hr;obtain⟨rs',g1,g2,g3⟩:=hc.conv hH (K:=KK) (λi a w el ha ho=>by
  rcases hH.obj i _ ho with⟨q,_⟩ | ⟨i',el',q1,q2,_⟩
  ·rw[q]at ha;cases ha
  ·rw[q1]at ha;cases ha;exact(hKK _).2 ⟨_,q2,rfl⟩) hv
 obtain⟨k,r,hr',ρ',h1,h2,h3,h4⟩:=hp (hr.kill KK) rs' g3;have hnew:∀i a,ρ' i=some (some a)->hr.fr a:=λi a ha=>(AH.fr_kill (h4.new0 ha)).1;have hrow:∀a,(jU ρ' (lay t 0).2 (List.range t.rows)).contains a=true->∀o,hr' a=some o->o.nol=true:=λa ha o ho=>by
  rw[lCm,JS]at ha;obtain⟨i,w,el,_,q2,q3⟩:=ha;obtain⟨w',xs,b,e,hpx⟩:=WZ t 0 i _ t2 q3;cases e;rcases h2.obj i _ q3 with⟨q,_⟩ | ⟨i',el',p1,p2,p3⟩
  ·rw[q]at q2;cases q2
  ·rw[p1]at q2;cases q2;rw[p2]at ho;cases ho;simp only[qA.nol,Bool.true_and];exact Xc _ _ _ hpx p3
 have hin:∀i a o,ρ' i=some (some a)->hr' a=some o->(jU ρ' (lay t 0).2 (List.range t.rows)).contains a=true:=λi a o ha ho=>by
  have hi:i<(lay t 0).2.length:=by
   rcases Nat.lt_or_ge i (lay t 0).2.length with q | q
   ·exact q
   ·rw[h2.out i q]at ha;cases ha
  obtain⟨w,xs,b,e,_⟩:=WZ t 0 i _ t2 (gEg hi);rw[lCm,JS];exact⟨i,w,_,lMr.2 (by rw[jR]at hi;exact hi),ha,by rw[gEg hi,e]⟩
 have hx:=Ex.brn KK (jU ρ' (lay t 0).2 (List.range t.rows)) hKK g1 g2 (qBU t 0 r t2 h3) (λa o ha _ ho=>hrow a ha o ho) h1;obtain⟨q1,q2,q3⟩:=Yo (h2:=hr.join hr' (jU ρ' (lay t 0).2 (List.range t.rows))) t2 hH h2 h3 hnew (λa o ho=>AH.join_old' ho) (λi a o ha ho=>by
  rw[AH.join_new' (hnew i a ha).1,iP (hin i a o ha ho)];exact ho) (λa ha=>(AH.fr_join ha).1)
 exact⟨k,r,_,_,_,_,hx,hk,q1,q2,q3,by simp,λa o ho=>AH.join_old' ho⟩
end Go.Ab
namespace Go.Ab
open Go
section
variable {Γ:Nat->Option AFn} {g:Nat}
def W5(vs:Option (List AV))(h:List qA)(t:AV):Prop:=match vs with
 | some vs=>∃μ,Jo μ=true/\Ju μ h μ (lay t 0).2/\VR2 μ (jS vs) (lay t 0).1
 | none=>False
def Yu(res:List jh)(t:AV):qi->VSt->Prop:=λe st=>(e=.nrm\/e=.ret)/\W5 (jM (wG st) res) st.h t
@[go_sem] theorem qsM{res:List jh}{t:AV}{s m:qp}{h:List qA}:Yu res t .ret ⟨s,m,h⟩=W5 (jM (wG ⟨s,m,h⟩) res) h t:=by
 simp[Yu]
theorem Fresh.intro{F:qJ}{as:List AV}{t:AV}(fz bp:List Nat)(hg:Γ g=some (.fn F))(hok:F.body.ok=true)(hn:as.length=F.np)(ht:AV.trees as=true)(hp:t.pl=true)
  (hR:R ⟨Γ,0,fz,bp⟩ [.code F.body] ⟨qM 0 as,[],[]⟩ (Yu F.res t)):Fresh Γ g as t:=by
 unfold Fresh;refine⟨ht,hp,λhr ar har=>?_⟩;have hS:zV ρ0 ⟨qM 0 as,[],[]⟩ {s:=params 0 ar,l:=Env.empty,h:=hr}:=⟨Vd har,(λn v h=>by cases h),⟨(λi o h=>by simp at h),(λi j a o o' h=>by cases h),(λ_ _=>rfl),(λi a h=>by cases h)⟩⟩;obtain⟨k,e,sr',ρ',st',g1,⟨he,hq⟩,g3,g4,_⟩:=Sem.of (by simpa only [lAc,List.all_nil,Bool.and_true,Fr1.ok]using hok) hR ρ0 _ hS (nZl _);have hb:Ex Γ k (.code F.body {s:=params 0 ar,l:=Env.empty,h:=hr}) (.st e sr'):=by
  cases g1 with
  | code h h'=>cases h';exact h
  | codeX h he' hx h'=>cases e<;>simp[exK]at hx
  | codeE h he' hx=>exact h
 unfold W5 at hq;split at hq
 ·rename_i vs hvs;obtain⟨μ,m1,m2,m3⟩:=hq;obtain⟨rs,q1,q2⟩:=Vl g3 hvs;have hx:=Ex.fn hg (by rw[har.length];exact hn) hb he q1;obtain⟨r1,r2⟩:=qJ4 m1 m2 g3.h;exact⟨k+1,_,_,_,hx,r1,m3.rel (qCM q2),g4.trans r2⟩
 ·exact hq.elim
mutual
theorem qHQ{μ:List (Option Nat)}:∀(t:AV)(a b:Nat),t.pl=true->(∀i,i<t.rows->μ[b+i]?=some (some (a+i)))->VR2 μ (lay t a).1 (lay t b).1
 |.lst w xs _,a,b,_,h=>by
  simp only[lay];exact .slice (by have:=h 0 (by simp only[AV.rows];omega);simpa using this)
 |.agg xs,a,b,hp,h=>by
  simp only[lay];have:=Xa xs a b hp h;exact .agg this.1 this.2
 |.tup xs,a,b,hp,h=>by
  simp only[lay];have:=Xa xs a b hp h;exact .tup this.1 this.2
 |.bool _,_,_,_,_ |.int _ _,_,_,_,_ |.str _,_,_,_,_ |.nilp,_,_,_,_ |.nils,_,_,_,_ |.nilm,_,_,_,_ |.nilf,_,_,_,_ |.nili,_,_,_,_=>by
  simp only[lay];exact .tree rfl
 |.any,_,_,hp,_ |.ptr _ _ _,_,_,hp,_ |.slice _ _ _ _ _,_,_,hp,_ |.map _,_,_,hp,_ |.ept _ _,_,_,hp,_ |.fn _ _,_,_,hp,_ |.iface _ _,_,_,hp,_=>by cases hp
theorem Xa{μ:List (Option Nat)}:∀(xs:List AV)(a b:Nat),AV.pls xs=true->(∀i,i<AV.rowss xs->μ[b+i]?=some (some (a+i)))->VR2s μ (qT xs a).1 (qT xs b).1
 |[],_,_,_,_=>VR2s.nil
 | x::xs,a,b,hp,h=>by
  simp only[AV.pls,bAt]at hp;simp only[AV.rowss]at h;simp only[qT,jR];refine .cons (qHQ x a b hp.1 λi hi=>h i (by omega)) (Xa xs _ _ hp.2 λi hi=>?_);rw[show b+x.rows+i=b+(x.rows+i) by omega,show a+x.rows+i=a+(x.rows+i) by omega];exact h _ (by omega)
end
mutual
theorem qHP{μ:List (Option Nat)}{h:List qA}:∀(t:AV)(a b:Nat),t.pl=true->(∀i,i<t.rows->μ[b+i]?=some (some (a+i)))->(∀i o,(lay t a).2[i]?=some o->h[a+i]?=some o)->
  ∀i o,(lay t b).2[i]?=some o->OR2 μ h (some (a+i)) o
 |.lst w xs _,a,b,hp,hm,hh,i,o,hi=>by
  simp only[lay]at hi hh;simp only[AV.rows]at hm;have hm':∀i,i<AV.rowss xs->μ[b+1+i]?=some (some (a+1+i)):=λi hi=>by
   rw[show b+1+i=b+(i+1) by omega,show a+1+i=a+(i+1) by omega];exact hm _ (by omega)
  cases i with
  | zero=>
   simp only[List.getElem?_cons_zero,oSi]at hi;subst hi;exact .row (hh 0 _ rfl) (Xa xs _ _ hp hm')
  | succ i=>
   have:=XZ xs (a+1) (b+1) hp hm' (λi o hi=>by
    rw[show a+1+i=a+(i+1) by omega];exact hh (i+1) o (by simpa using hi)) i o (by simpa using hi)
   rw[show a+1+i=a+(i+1) by omega]at this;exact this
 |.agg xs,a,b,hp,hm,hh,i,o,hi=>by
  simp only[lay]at hi hh;exact XZ xs a b hp hm hh i o hi
 |.tup xs,a,b,hp,hm,hh,i,o,hi=>by
  simp only[lay]at hi hh;exact XZ xs a b hp hm hh i o hi
 |.bool _,_,_,_,_,_,_,_,h |.int _ _,_,_,_,_,_,_,_,h |.str _,_,_,_,_,_,_,_,h |.nilp,_,_,_,_,_,_,_,h |.nils,_,_,_,_,_,_,_,h |.nilm,_,_,_,_,_,_,_,h |.nilf,_,_,_,_,_,_,_,h |.nili,_,_,_,_,_,_,_,h=>by
  simp[lay]at h
 |.any,_,_,hp,_,_,_,_,_ |.ptr _ _ _,_,_,hp,_,_,_,_,_ |.slice _ _ _ _ _,_,_,hp,_,_,_,_,_ |.map _,_,_,hp,_,_,_,_,_ |.ept _ _,_,_,hp,_,_,_,_,_ |.fn _ _,_,_,hp,_,_,_,_,_ |.iface _ _,_,_,hp,_,_,_,_,_=>by cases hp
theorem XZ{μ:List (Option Nat)}{h:List qA}:∀(xs:List AV)(a b:Nat),AV.pls xs=true->(∀i,i<AV.rowss xs->μ[b+i]?=some (some (a+i)))->(∀i o,(qT xs a).2[i]?=some o->h[a+i]?=some o)->
  ∀i o,(qT xs b).2[i]?=some o->OR2 μ h (some (a+i)) o
 |[],_,_,_,_,_,_,_,hi=>by simp[qT]at hi
 | x::xs,a,b,hp,hm,hh,i,o,hi=>by
  simp only[AV.pls,bAt]at hp;simp only[AV.rowss]at hm;simp only[qT,jR]at hi hh;rcases Nat.lt_or_ge i x.rows with q | q
  ·rw[gAl (by rw[jR];exact q)]at hi;exact qHP x a b hp.1 (λi hi=>hm i (by omega)) (λi o hi=>hh i o (by rw[gAl (gSi.1 hi).1];exact hi)) i o hi
  ·rw[gAr (by rw[jR];exact q),jR]at hi;have:=XZ xs (a+x.rows) (b+x.rows) hp.2 (λi hi=>by
    rw[show b+x.rows+i=b+(x.rows+i) by omega,show a+x.rows+i=a+(x.rows+i) by omega];exact hm _ (by omega)) (λi o hi=>by
    rw[show a+x.rows+i=a+(x.rows+i) by omega];exact hh _ o (by rw[gAr (by rw[jR];omega),jR,Nat.add_sub_cancel_left];exact hi)) (i-x.rows) o hi
   rw[show a+x.rows+(i-x.rows)=a+i by omega]at this;exact this
end
theorem qCE{μ:List (Option Nat)}{h:List qA}:∀{r:List (Option Nat)}{h':List qA},r.length=h'.length->(∀(i:Nat)(j:Option Nat)(o:qA),r[i]?=some j->h'[i]?=some o->OR2 μ h j o)->Ju μ h r h'
 |[],[],_,_=>trivial
 | j::r,o::h',hl,hh=>⟨hh 0 j o rfl rfl,qCE (by simpa using hl) λi j o h1 h2=>hh (i+1) j o (by simpa using h1) (by simpa using h2)⟩
 |[],_::_,hl,_=>by simp at hl
 | _::_,[],hl,_=>by simp at hl
theorem qBA:∀{l:List Nat},l.Nodup->Jo (l.map some)=true
 |[],_=>rfl
 | x::l,h=>by
  rw[List.nodup_cons]at h;simp only[lMc,Jo,bAt,lAt];refine⟨λy hy=>?_,qBA h.2⟩;obtain⟨z,hz,rfl⟩:=List.mem_map.1 hy;have:x≠z:=λe=>h.1 (by rw[e];exact hz);have hb:Nat.beq x z=false:=by
   rw[<-Bool.not_eq_true];intro q;exact this (Nat.eq_of_beq_eq_true q)
  show (!Nat.beq x z)=true;rw[hb];rfl
theorem XR{vs:List AV}{h pre post:List qA}{t:AV}(hp:t.pl=true)(hv:jS vs=(lay t pre.length).1)(hh:h=pre++((lay t pre.length).2++post)):W5 (some vs) h t:=by
 have hm:∀i,i<t.rows->((List.range' pre.length t.rows).map some)[0+i]?=some (some (pre.length+i)):=λi hi=>by
  rw[gMp,List.getElem?_range' (by omega)];simp
 refine⟨(List.range' pre.length t.rows).map some,qBA (List.nodup_range'),qCE (by simp[jR]) λi j o h1 h2=>?_, ?_⟩
 ·have hi:i<t.rows:=by have:=(gSi.1 h2).1;rw[jR]at this;exact this
  have:=hm i hi;rw[nZa]at this;rw[this]at h1;cases h1;refine qHP t pre.length 0 hp hm (λi o hi=>?_) i o h2;rw[hh,gAr (by omega),Nat.add_sub_cancel_left,gAl (gSi.1 hi).1];exact hi
 ·rw[hv];exact qHQ t _ _ hp hm
mutual
def AV.cn:AV->Bool
 |.lst w xs c=>decide (0<w)&& !c&&AV.cns xs
 |.agg xs |.tup xs=>AV.cns xs
 | _=>true
def AV.cns:List AV->Bool
 |[]=>true
 | x::xs=>AV.cn x&&AV.cns xs
end
theorem qrF{h:List qA}{a b:AV}{as bs:List AV}(x:Cv h a b)(y:∀p∈as.zip bs,Cv h p.1 p.2):∀p∈(a::as).zip (b::bs),Cv h p.1 p.2:=λp hp=>by
 simp only[List.zip_cons_cons,mCo]at hp;rcases hp with rfl | hp
 ·exact x
 ·exact y p hp
mutual
theorem qHR{h:List qA}:∀(t:AV)(a:Nat),t.pl=true->t.cn=true->(∀i o,(lay t a).2[i]?=some o->h[a+i]?=some o)->Cv h (lay t a).1 t
 |.lst w xs c,a,hp,hc,hh=>by
  simp only[AV.cn,bAt,dTe,bNt]at hc;obtain⟨⟨h0,rfl⟩,hc⟩:=hc;simp only[lay]at hh|-;have l:=Ja xs (a+1);refine .slc (hh 0 _ rfl) (by omega) h0 (by rw[List.drop_zero,<-l,lTl,l]) ?_;rw[List.drop_zero,<-l,lTl];exact Xb xs (a+1) hp hc λi o hi=>by
   rw[show a+1+i=a+(i+1) by omega];exact hh (i+1) o (by simpa using hi)
 |.agg xs,a,hp,hc,hh=>by
  simp only[lay]at hh|-;exact .agg (Ja xs a) (Xb xs a hp hc hh)
 |.tup xs,a,hp,hc,hh=>by
  simp only[lay]at hh|-;exact .tup (Ja xs a) (Xb xs a hp hc hh)
 |.bool _,_,_,_,_ |.int _ _,_,_,_,_ |.str _,_,_,_,_ |.nilp,_,_,_,_ |.nils,_,_,_,_ |.nilm,_,_,_,_ |.nilf,_,_,_,_ |.nili,_,_,_,_=>by
  simp only[lay];exact .refl rfl
 |.any,_,hp,_,_ |.ptr _ _ _,_,hp,_,_ |.slice _ _ _ _ _,_,hp,_,_ |.map _,_,hp,_,_ |.ept _ _,_,hp,_,_ |.fn _ _,_,hp,_,_ |.iface _ _,_,hp,_,_=>by cases hp
theorem Xb{h:List qA}:∀(xs:List AV)(a:Nat),AV.pls xs=true->AV.cns xs=true->(∀i o,(qT xs a).2[i]?=some o->h[a+i]?=some o)->∀p∈(qT xs a).1.zip xs,Cv h p.1 p.2
 |[],_,_,_,_=>λp hp=>by simp at hp
 | x::xs,a,hp,hc,hh=>by
  simp only[AV.pls,bAt]at hp;simp only[AV.cns,bAt]at hc;simp only[qT,jR]at hh|-;refine qrF (qHR x a hp.1 hc.1 λi o hi=>hh i o (by rw[gAl (gSi.1 hi).1];exact hi)) (Xb xs _ hp.2 hc.2 λi o hi=>?_);rw[show a+x.rows+i=a+(x.rows+i) by omega];exact hh _ o (by rw[gAr (by rw[jR];omega),jR,Nat.add_sub_cancel_left];exact hi)
end
end
section
variable {E:Ev} {ks:List Fr1} {s m:qp} {h:List qA} {Q:qi->VSt->Prop} {l:List qC}
theorem J3{ck:List qC}{k e:Nat}{vs:List AV}{t:AV}(hp:Fresh E.Γ k vs t)(hr:R E (.ops l::ks) ⟨(e,(lay t h.length).1)::s,m,h++(lay t h.length).2⟩ Q):wJ E (some (k,vs)) ck (some e) l ks ⟨s,m,h⟩ Q:=by
 unfold wJ;cases ck
 ·exact SCall.fresh hp hr
 ·exact Or.inl (SCallK.fresh hp hr)
theorem XG{ck:List qC}{k e:Nat}{vs vs':List AV}{t:AV}(hc:Cvs h vs vs')(hp:Fresh E.Γ k vs' t)(hr:R E (.ops l::ks) ⟨(e,(lay t h.length).1)::s,m,h++(lay t h.length).2⟩ Q):wJ E (some (k,vs)) ck (some e) l ks ⟨s,m,h⟩ Q:=by
 unfold wJ;cases ck
 ·exact SCall.freshL hc hp hr
 ·exact Or.inl (SCallK.freshL hc hp hr)
end
section
variable {α:Type} {enc:α->AV} {w:Nat} {sh:Option Nat} {Γ:Nat->Option AFn} {g gc:Nat}
theorem jT(h:∀x,(enc x).pl=true):∀xs:List α,AV.pls (xs.map enc)=true
 |[]=>rfl
 | x::xs=>by simp only[lMc,AV.pls,h x,jT h xs,Bool.and_self]
theorem j8(h:∀x,(enc x).cn=true):∀xs:List α,AV.cns (xs.map enc)=true
 |[]=>rfl
 | x::xs=>by simp only[lMc,AV.cns,h x,j8 h xs,Bool.and_self]
theorem qmV{t:AV}{n:Nat}(hp:t.pl=true):(lay t n).1.cells.length=t.cells.length:=by
 cases t<;>first
  | rfl
  | (cases hp;done)
  | (simp only[lay,AV.cells];exact Ja _ _)
theorem lI(ys:List Int):∀n,qT (ys.map qQ) n=(ys.map qQ,[]):=by
 induction ys with
 | nil=>intro n;rfl
 | cons y ys ih=>intro n;simp only[lMc,qT,qQ,lay,lNi,nAz,lNa,ih]
theorem qpU(ys:List Int):AV.rowss (ys.map qQ)=0:=by
 have:=wO (ys.map qQ) 0;rw[lI]at this;exact this.symm
theorem qHS{xs:List AV}{c:Bool}{n:Nat}:(lay (.lst w xs c) n).1=.slice w n 0 xs.length false:=nr rfl
section
variable {E:Ev} {ks:List Fr1} {s m:qp} {h:List qA} {Q:qi->VSt->Prop} {l:List qC}
end
end
section
variable {Γ:Nat->Option AFn} {g:Nat} {w:Nat} {z:AV}
def Yf(w:Nat):qJ:=⟨1,8,[.t 2],.seq (.reg true [⟨0,some 2,none,.mov (.c (.nils)),[]⟩]) (.seq (.seq (.reg true [⟨0,some 3,none,.mov (.t 0),[]⟩,
⟨1,some 4,none,.isnil 1 false (.t 3),[]⟩]) (.cond (.t 4) (.seq (.reg true [⟨0,some 2,none,.mov (.c (.nils)),[]⟩]) (.ret)) (.skip))) (.seq (.reg true [⟨0,some 5,none,.mov (.c (.lst w [] true)),[]⟩,
⟨1,some 6,none,.mov (.t 0),[]⟩,
⟨2,some 7,none,.app w (.t 5) (.t 6),[]⟩,
⟨3,some 2,none,.mov (.t 7),[]⟩]) (.ret)))⟩
theorem qFU(hg:Γ g=some (.fn (Yf w)))(h:AH):Ex Γ 1 (.call g [.nils] h) (.res (.ok .nils) h):=by
 refine .fn (st:=⟨((((params 0 [.nils]).set 2 .nils).set 3 .nils).set 4 (.bool true)).set 2 .nils,Env.empty,h⟩) (e:=.ret) hg rfl ?_ (.inr rfl) rfl;refine .seqN (.reg (.step rfl ⟨.nils,rfl,rfl⟩ trivial .nil) (.inl rfl)) (.seqX (.seqN (.reg (.step rfl ⟨.nils,rfl,rfl⟩ trivial (.step rfl ⟨.bool true,rfl,rfl⟩ trivial .nil)) (.inl rfl)) ?_) (by simp));exact .cond (t:=true) rfl (.seqN (.reg (.step rfl ⟨.nils,rfl,rfl⟩ trivial .nil) (.inl rfl)) .ret)
theorem qjY(hg:Γ g=some (.fn (Yf w)))(h:AH)(id:Nat):Ex Γ 1 (.call g [.slice w id 0 0 false] h) (.res (.ok (.lst w [] true)) h):=by
 refine .fn (st:=⟨(((((((params 0 [.slice w id 0 0 false]).set 2 .nils).set 3 (.slice w id 0 0 false)).set 4 (.bool false)).set 5 (.lst w [] true)).set 6 (.slice w id 0 0 false)).set 7 (.lst w [] true)).set 2 (.lst w [] true),Env.empty,h⟩) (e:=.ret) hg rfl ?_ (.inr rfl) rfl;refine .seqN (.reg (.step rfl ⟨.nils,rfl,rfl⟩ trivial .nil) (.inl rfl)) (.seqN (.seqN (.reg (.step rfl ⟨.slice w id 0 0 false,rfl,rfl⟩ trivial (.step rfl ⟨.bool false,rfl,rfl⟩ trivial .nil)) (.inl rfl)) (.cond (t:=false) rfl .cskip)) (.seqN (.reg ?_ (.inl rfl)) .ret));refine .step rfl ⟨.lst w [] true,rfl,rfl⟩ trivial (.step rfl ⟨.slice w id 0 0 false,rfl,rfl⟩ trivial (.step (st':=⟨((((((params 0 [.slice w id 0 0 false]).set 2 .nils).set 3 (.slice w id 0 0 false)).set 4 (.bool false)).set 5 (.lst w [] true)).set 6 (.slice w id 0 0 false)).set 7 (.lst w [] true),Env.empty,h⟩) rfl ?_ trivial (.step rfl ⟨.lst w [] true,rfl,rfl⟩ trivial .nil)));exact⟨.lst w [] true,.slice w id 0 0 false,rfl,rfl,[],rfl,rfl,rfl,rfl⟩
theorem qpL(hr:AH):zH ρ0 [] hr:=⟨(λi o h=>by simp at h),(λi j a o o' h=>by cases h),(λ_ _=>rfl),(λi a h=>by cases h)⟩
theorem Yg(hg:Γ g=some (.fn (Yf w))){xs:List AV}(hf:∀n,qT xs n=(xs,[]))(hp:AV.pls xs=true)(ht:AV.trees xs=true)(hl:xs.length<=4194304):
  Fresh Γ g [.lst w xs false] (.lst w xs false):=by
 cases xs with
 | cons x xs=>
  refine Fresh.intro [] [] hg rfl rfl (by simp only[AV.trees,AV.tree]at ht|-;simp[ht]) hp ?_;simp only[Yf,qM,go_sem];refine ZZ Els.lst (by simp only[lCo]at hl|-;omega) ?_;simp only[go_sem];exact XR (pre:=[]) (post:=[]) hp (by simp[jS,lay]) (by simp[lay,hf])
 | nil=>
  refine⟨rfl,rfl,λhr ar har=>?_⟩;have hn:∀hr',zH (ρ0.ext 0 none) [.row w [] true] hr':=λhr'=>(qpL hr').nil;simp only[RelVs,RelV]at har;obtain⟨r,rs,rfl,hr0,rfl⟩:=har;have hfm:∀hr':AH,(∀a o,hr a=some o->hr' a=some o)->(∀a,hr'.fr a->hr.fr a)->Fm 0 ρ0 hr (ρ0.ext 0 none) hr':=λhr' h1 h2=>⟨λa o q _=>h1 a o q,(λi a q=>by
   by_cases e:i=0
   ·subst e;rw[Ren.ext_same]at q;cases q
   ·rw[Ren.ext_ne _ _ e]at q;cases q),h2,λi hi=>by omega⟩
  rcases hr0 with⟨ys,c,rfl,_,hys⟩ | ⟨_,rfl⟩
  ·subst hys;obtain⟨id,hid⟩:=hr.fresh;have hx1:Ex Γ 1 (.call g [.nils] hr) (.res (.ok (.lst w [] true)) (hr.kill [])):=.frzR [] (λi hi=>by simp at hi) .nils (qFU hg hr);refine⟨1,_,_,ρ0.ext 0 none,.nilc id hid (λi o q=>by rw[AH.kill_at];simpa using q) (λi o q=>q) rfl hx1 (qjY hg _ id),hn _,by simp[lay,RelV,Ren.ext_same],hfm _ (λa o q=>q) λa q=>AH.fr_tomb (AH.fr_tomb' q)⟩
  ·exact⟨1,_,_,ρ0.ext 0 none,qFU hg hr,hn _,by simp[lay,RelV,Ren.ext_same],hfm _ (λa o q=>q) λa q=>q⟩
theorem qIW{μ:List (Option Nat)}{h:List qA}:∀{r1 r2:List (Option Nat)}{h1 h2:List qA},Ju μ h r1 h1->Ju μ h r2 h2->Ju μ h (r1++r2) (h1++h2)
 |[],_,[],_,_,k=>k
 | _::_,_,_::_,_,j,k=>⟨j.1,qIW j.2 k⟩
 |[],_,_::_,_,j,_=>j.elim
 | _::_,_,[],_,j,_=>j.elim
theorem qIX{μ:List (Option Nat)}{h:List qA}{xs:List AV}{a b:Nat}(hp:AV.pls xs=true)(hm:∀i,i<AV.rowss xs->μ[b+i]?=some (some (a+i)))(hh:∀i o,(qT xs a).2[i]?=some o->h[a+i]?=some o):
  Ju μ h ((List.range' a (AV.rowss xs)).map some) (qT xs b).2:=by
 refine qCE (by simp[wO]) λi j o h1 h2=>?_;have hi:i<AV.rowss xs:=by have:=(gSi.1 h2).1;rw[wO]at this;exact this
 rw[gMp,List.getElem?_range' (by omega)]at h1;simp only[Nat.one_mul,oMs,oSi]at h1;subst h1;exact XZ xs a b hp hm hh i o h2
def rmu(b n:Nat):List (Option Nat):=(List.range' 0 b).map some++some (b+n+2)::(List.range' (b+1) n).map some
theorem qpS{b n i:Nat}(hi:i<b):(rmu b n)[i]?=some (some i):=by
 unfold rmu;rw[gAl (by simpa using hi),gMp,List.getElem?_range' (by omega)];simp
theorem qpQ{b n:Nat}:(rmu b n)[b]?=some (some (b+n+2)):=by
 unfold rmu;rw[gAr (by simp)];simp
theorem qJ6{b n i:Nat}(hi:i<n):(rmu b n)[b+1+i]?=some (some (b+1+i)):=by
 unfold rmu;rw[gAr (by simp;omega)];have e:b+1+i-((List.range' 0 b).map some).length=i+1:=by simp;omega
 rw[e,List.getElem?_cons_succ,gMp,List.getElem?_range' (by omega)];simp
theorem qpR{b n:Nat}:Jo (rmu b n)=true:=by
 have e:rmu b n=(List.range' 0 b++(b+n+2)::List.range' (b+1) n).map some:=by simp[rmu]
 rw[e];refine qBA ?_;rw[List.nodup_append];refine⟨List.nodup_range', ?_, ?_⟩
 ·rw[List.nodup_cons];refine⟨?_,List.nodup_range'⟩;simp only[List.mem_range'_1];omega
 ·intro x hx y hy;simp only[List.mem_range'_1,mCo]at hx hy;rcases hy with rfl | hy<;>omega
theorem Can.round{ps ts:List AV}{x:qA}{s s' m m':qp}{b n:Nat}(hps:AV.pls ps=true)(hts:AV.pls ts=true)(hb:AV.rowss ps=b)(hn:AV.rowss ts=n)(h1:ZP (rmu b n) s s')(h2:ZP (rmu b n) m m'):
  Can 0 ⟨s,m,(qT ps 0).2++.dead::((qT ts (b+1)).2++[x,.row w (qT ts (b+1)).1 true])⟩ ⟨s',m',(qT ps 0).2++.row w (qT ts (b+1)).1 true::(qT ts (b+1)).2⟩:=by
 subst hb hn;have hlp:=wO ps 0;have hlt:=wO ts (AV.rowss ps+1);refine Can.renum (rmu (AV.rowss ps) (AV.rowss ts)) qpR (qIW (qIX hps (λi hi=>by rw[nZa];exact qpS hi) λi o hi=>?_) ⟨?_,qIX hts (λi hi=>qJ6 hi) λi o hi=>?_⟩) h1 h2
 ·rw[nZa,gAl (gSi.1 hi).1];exact hi
 ·refine .row (el:=(qT ts (AV.rowss ps+1)).1) (rw':=true) ?_ ⟨rfl,λp hp=>?_⟩
  ·rw[gAr (by omega),show AV.rowss ps+AV.rowss ts+2-(qT ps 0).2.length=AV.rowss ts+1+1 by omega,List.getElem?_cons_succ,gAr (by omega),hlt,
    show AV.rowss ts+1-AV.rowss ts=1 by omega]
   rfl
  ·exact(Xa ts (AV.rowss ps+1) (AV.rowss ps+1) hts (λi hi=>qJ6 hi)).2 p hp
 ·have hi':=(gSi.1 hi).1;rw[gAr (by omega),show AV.rowss ps+1+i-(qT ps 0).2.length=i+1 by omega,List.getElem?_cons_succ,gAl hi'];exact hi
theorem qmO{A:List qA}{o:qA}:(A++[o])[A.length]?=some o:=List.getElem?_concat_length
theorem Can.push{ps A:List AV}{t:AV}{s s' m m':qp}{h h':List qA}{b n:Nat}(hps:AV.pls ps=true)(hA:AV.pls A=true)(ht:t.pl=true)(hb:AV.rowss ps=b)(hn:AV.rowss A+t.rows=n)
  (hh:h=(qT ps 0).2++.dead::((qT A (b+1)).2++((lay t (b+1+AV.rowss A)).2++[.row w [(lay t (b+1+AV.rowss A)).1] true,.row w ((qT A (b+1)).1++[(lay t (b+1+AV.rowss A)).1]) true])))
  (hh':h'=(qT ps 0).2++.row w (qT (A++[t]) (b+1)).1 true::(qT (A++[t]) (b+1)).2) (h1:ZP (rmu b n) s s') (h2:ZP (rmu b n) m m'):Can 0 ⟨s,m,h⟩ ⟨s',m',h'⟩:=by
 have hp:AV.pls (A++[t])=true:=by
  have:∀B:List AV,AV.pls B=true->AV.pls (B++[t])=true:=by
   intro B
   induction B with
   | nil=>intro _;simp only[lNa,AV.pls,ht,Bool.and_true]
   | cons y B ih=>
    intro hB;simp only[AV.pls,bAt]at hB;simp only[lCa,AV.pls,hB.1,ih hB.2,Bool.and_self]
  exact this A hA
 have r:=Can.round (w:=w) (x:=.row w [(lay t (b+1+AV.rowss A)).1] true) (s:=s) (s':=s') (m:=m) (m':=m') (b:=b) (n:=n) hps hp hb (by rw[qJ8];simp only[AV.rowss,nAz];exact hn) h1 h2;subst hh hh';simp only[qHX,qT,lAn,lAa]at r|-;exact r
end
end Go.Ab
