/- Texts AbL .. AbO2: the abstract machine, its laws and contracts of functions: lemmas for the statement. No condition. -/
import Derived.Attr
import Derived.IntWalk
import Derived.KernelRfl
import Derived.Test.YtmjjilcgafiafaaGreatP0
set_option linter.unusedSimpArgs false
set_option linter.unusedVariables false
namespace Go.Ab
open Go
variable {Γ:Nat->Option AFn}
theorem Ex.le{k:Nat}{j:Job}{r:Out}(h:Ex Γ k j r):∀{k'},k<=k'->Ex Γ k' j r:=by
 induction h with
 | nil=>exact λ_=>.nil
 | skip hw _ ih=>exact λhk=>.skip hw (ih hk)
 | step hw hs hc _ ih=>exact λhk=>.step hw hs hc (ih hk)
 | call hw he _ hc _ ih1 ih2=>exact λhk=>.call hw he (ih1 hk) hc (ih2 hk)
 | callP hw he _ ih=>exact λhk=>.callP hw he (ih hk)
 | panic hw he hv=>exact λ_=>.panic hw he hv
 | cskip=>exact λ_=>.cskip
 | reg _ hp ih=>exact λhk=>.reg (ih hk) hp
 | seqN _ _ ih1 ih2=>exact λhk=>.seqN (ih1 hk) (ih2 hk)
 | seqX _ he ih=>exact λhk=>.seqX (ih hk) he
 | cond hc _ ih=>exact λhk=>.cond hc (ih hk)
 | blk _ ih=>exact λhk=>.blk (ih hk)
 | loopN _ _ ih1 ih2=>exact λhk=>.loopN (ih1 hk) (ih2 hk)
 | loopX _ he ih=>exact λhk=>.loopX (ih hk) he
 | exit=>exact λ_=>.exit
 | ret=>exact λ_=>.ret
 | @fn k g F as h st e vs hg hn _ he hr ih=>
  intro k' hk;cases k' with
  | zero=>omega
  | succ k'=>exact .fn hg hn (ih (by omega)) he hr
 | @fnP k g F as h st v hg hn _ ih=>
  intro k' hk;cases k' with
  | zero=>omega
  | succ k'=>exact .fnP hg hn (ih (by omega))
 | ext hg hr=>exact λ_=>.ext hg hr
 | frz K hf _ ih=>exact λhk=>.frz K hf (ih hk)
 | cvh K id w el el' rw' hK hid ho hl hc _ ih=>exact λhk=>.cvh K id w el el' rw' hK hid ho hl hc (ih hk)
 | frzA K hK hl hc _ ih=>exact λhk=>.frzA K hK hl hc (ih hk)
 | frzR K hK hc _ ih=>exact λhk=>.frzR K hK hc (ih hk)
 | brw K hK hl hc ht _ ih=>exact λhk=>.brw K hK hl hc ht (ih hk)
 | nilc id hid hh1 hh2 ht _ _ ih1 ih2=>exact λhk=>.nilc id hid hh1 hh2 ht (ih1 hk) (ih2 hk)
 | brn K S hK hl hc hv hn _ ih=>exact λhk=>.brn K S hK hl hc hv hn (ih hk)
 | drop hh ht _ ih=>exact λhk=>.drop hh ht (ih hk)
 | trim n ho _ ih=>exact λhk=>.trim n ho (ih hk)
section
variable {st:St} {Q:qn->St->Prop}
end
end Go.Ab
namespace Go.Ab
open Go
abbrev qt:=List (Nat×AV)
def get:qt->Nat->Option AV
 |[],_=>none
 | (k,v)::r,n=>if k=n then some v else get r n
def toE(s:qt):Env:=λn=>get s n
structure VSt where
 s:qt
 l:qt
 h:List qA
def toH(h:List qA):AH:=⟨λi=>h[i]?,λ_=>false,h.length,λ_i hi=>⟨gEn hi,rfl⟩⟩
abbrev Ren:=Nat->Option (Option Nat)
mutual
def RelV(ρ:Ren):AV->AV->Prop
 |.ptr id i j,r=>∃id',ρ id=some (some id')/\r=.ptr id' i j
 |.slice w id off len clip,r=>(∃id',ρ id=some (some id')/\r=.slice w id' off len clip)\/(ρ id=some none/\off=0/\len=0/\(r=.nils\/r=.lst w [] true))
 |.lst w xs clip,r=>(∃ys c,r=.lst w ys c/\(clip=true->c=true)/\RelVs ρ xs ys)\/(xs=[]/\r=.nils)
 |.ept x j,r=>∃y,r=.ept y j/\RelV ρ x y
 |.map id,r=>∃id',ρ id=some (some id')/\r=.map id'
 |.fn g cs,r=>∃ds,r=.fn g ds/\RelVs ρ cs ds
 |.iface t x,r=>∃y,r=.iface t y/\RelV ρ x y
 |.agg cs,r=>∃ds,r=.agg ds/\RelVs ρ cs ds
 |.tup cs,r=>∃ds,r=.tup ds/\RelVs ρ cs ds
 |.bool b,r=>r=.bool b
 |.int k n,r=>r=.int k n
 |.str s,r=>r=.str s
 |.nilp,r=>r=.nilp
 |.nils,r=>r=.nils
 |.nilm,r=>r=.nilm
 |.nilf,r=>r=.nilf
 |.nili,r=>r=.nili
 |.any,r=>r=.any
def RelVs(ρ:Ren):List AV->List AV->Prop
 |[],r=>r=[]
 | a::as,r=>∃b bs,r=b::bs/\RelV ρ a b/\RelVs ρ as bs
end
def Ren.le(ρ ρ':Ren):Prop:=∀i a,ρ i=some a->ρ' i=some a
section
variable {ρ ρ':Ren}
theorem RelVs.length:∀{as bs:List AV},RelVs ρ as bs->bs.length=as.length
 |[],_,h=>by simp only[RelVs]at h;simp[h]
 | a::as,_,h=>by
  simp only[RelVs]at h;obtain⟨b,bs,rfl,_,h3⟩:=h;simp[RelVs.length h3]
theorem RelVs.iff:∀{as bs:List AV},RelVs ρ as bs↔bs.length=as.length/\∀(i:Nat)(a b:AV),as[i]?=some a->bs[i]?=some b->RelV ρ a b
 |[],bs=>by
  simp only[RelVs];constructor
  ·rintro rfl;exact⟨rfl,λi a v h=>by simp at h⟩
  ·rintro⟨h,_⟩;exact lEz (by simpa using h)
 | a::as,bs=>by
  simp only[RelVs];constructor
  ·rintro⟨u,us,rfl,h2,h3⟩;have:=(RelVs.iff).1 h3;refine⟨by simp[this.1],λi x y hx hy=>?_⟩;cases i with
   | zero=>simp at hx hy;subst hx hy;exact h2
   | succ i=>exact this.2 i x y (by simpa using hx) (by simpa using hy)
  ·rintro⟨h1,h2⟩;cases bs with
   | nil=>simp at h1
   | cons u us=>
    refine⟨u,us,rfl,h2 0 a u rfl rfl,(RelVs.iff).2 ⟨by simpa using h1,λi x y hx hy=>h2 (i+1) x y (by simpa using hx) (by simpa using hy)⟩⟩
theorem RelVs.get{as bs:List AV}(h:RelVs ρ as bs){i:Nat}{a:AV}(ha:as[i]?=some a):∃b,bs[i]?=some b/\RelV ρ a b:=by
 rw[RelVs.iff]at h;have hi:i<bs.length:=by rw[h.1];exact(gSi.1 ha).1
 exact⟨bs[i],gEg hi,h.2 i a _ ha (gEg hi)⟩
theorem RelVs.append{as bs us vs:List AV}(h:RelVs ρ as us)(k:RelVs ρ bs vs):RelVs ρ (as++bs) (us++vs):=by
 induction as generalizing us with
 | nil=>simp only[RelVs]at h;subst h;simpa using k
 | cons a as ih=>
  simp only[RelVs]at h;obtain⟨u,us,rfl,h2,h3⟩:=h;simp only[lCa,RelVs];exact⟨u,us++vs,rfl,h2,ih h3⟩
theorem RelVs.take{as us:List AV}(h:RelVs ρ as us)(n:Nat):RelVs ρ (as.take n) (us.take n):=by
 rw[RelVs.iff]at h|-;refine⟨by simp[h.1],λi a v ha hv=>?_⟩;rw[gTk]at ha hv;split at ha
 ·rename_i hi;rw[iP hi]at hv;exact h.2 i a v ha hv
 ·cases ha
theorem RelVs.drop{as us:List AV}(h:RelVs ρ as us)(n:Nat):RelVs ρ (as.drop n) (us.drop n):=by
 rw[RelVs.iff]at h|-;refine⟨by simp[h.1],λi a v ha hv=>?_⟩;rw[gDr]at ha hv;exact h.2 _ a v ha hv
theorem RelVs.set{as us:List AV}{x y:AV}(h:RelVs ρ as us)(n:Nat)(hx:RelV ρ x y):RelVs ρ (as.set n x) (us.set n y):=by
 rw[RelVs.iff]at h|-;refine⟨by simp[h.1],λi a v ha hv=>?_⟩;rw[gSt]at ha hv;split at ha
 ·rename_i hi;rw[iP hi]at hv;subst hi;rw[h.1]at hv;split at ha
  ·rename_i hl;rw[iP hl]at hv;cases ha;cases hv;exact hx
  ·cases ha
 ·rename_i hi;rw[iN hi]at hv;exact h.2 i a v ha hv
theorem RelVs.one{x y:AV}(h:RelV ρ x y):RelVs ρ [x] [y]:=by simp only[RelVs];exact⟨y,[],rfl,h,rfl⟩
theorem RelVs.replicate{x y:AV}(h:RelV ρ x y)(n:Nat):RelVs ρ (List.replicate n x) (List.replicate n y):=by
 rw[RelVs.iff];refine⟨by simp,λi a v ha hv=>?_⟩;rw[List.getElem?_replicate]at ha hv;split at ha
 ·rename_i hi;rw[iP hi]at hv;cases ha;cases hv;exact h
 ·cases ha
mutual
theorem RelV.mono(hρ:∀i a,ρ i=some a->ρ' i=some a):∀(a b:AV),RelV ρ a b->RelV ρ' a b
 |.bool _,_,h=>by simpa only [RelV]using h
 |.int _ _,_,h=>by simpa only [RelV]using h
 |.str _,_,h=>by simpa only [RelV]using h
 |.nilp,_,h=>by simpa only [RelV]using h
 |.nils,_,h=>by simpa only [RelV]using h
 |.nilm,_,h=>by simpa only [RelV]using h
 |.nilf,_,h=>by simpa only [RelV]using h
 |.nili,_,h=>by simpa only [RelV]using h
 |.any,_,h=>by simpa only [RelV]using h
 |.ptr _ _ _,_,h=>by
  simp only[RelV]at h|-;obtain⟨p,h1,h2⟩:=h;exact⟨p,hρ _ _ h1,h2⟩
 |.map _,_,h=>by
  simp only[RelV]at h|-;obtain⟨p,h1,h2⟩:=h;exact⟨p,hρ _ _ h1,h2⟩
 |.slice _ _ _ _ _,_,h=>by
  simp only[RelV]at h|-;rcases h with⟨p,h1,h2⟩ | ⟨h1,h2⟩
  ·exact .inl ⟨p,hρ _ _ h1,h2⟩
  ·exact .inr ⟨hρ _ _ h1,h2⟩
 |.lst w xs _,_,h=>by
  simp only[RelV]at h|-;rcases h with⟨ys,c,h1,h2,h3⟩ | h
  ·exact .inl ⟨ys,c,h1,h2,RelVs.mono hρ xs ys h3⟩
  ·exact .inr h
 |.ept x _,_,h=>by
  simp only[RelV]at h|-;obtain⟨y,h1,h2⟩:=h;exact⟨y,h1,RelV.mono hρ x y h2⟩
 |.fn _ cs,_,h=>by
  simp only[RelV]at h|-;obtain⟨ds,h1,h2⟩:=h;exact⟨ds,h1,RelVs.mono hρ cs _ h2⟩
 |.iface _ x,_,h=>by
  simp only[RelV]at h|-;obtain⟨u,h1,h2⟩:=h;exact⟨u,h1,RelV.mono hρ x u h2⟩
 |.agg cs,_,h=>by
  simp only[RelV]at h|-;obtain⟨ds,h1,h2⟩:=h;exact⟨ds,h1,RelVs.mono hρ cs _ h2⟩
 |.tup cs,_,h=>by
  simp only[RelV]at h|-;obtain⟨ds,h1,h2⟩:=h;exact⟨ds,h1,RelVs.mono hρ cs _ h2⟩
theorem RelVs.mono(hρ:∀i a,ρ i=some a->ρ' i=some a):∀(as bs:List AV),RelVs ρ as bs->RelVs ρ' as bs
 |[],_,h=>by simpa only [RelVs]using h
 | a::as,bs,h=>by
  simp only[RelVs]at h|-;obtain⟨b,bs,h1,h2,h3⟩:=h;exact⟨b,bs,h1,RelV.mono hρ a b h2,RelVs.mono hρ as bs h3⟩
end
mutual
theorem Jc:∀(a:AV),a.tree=true->RelV ρ a a
 |.bool _,_ |.int _ _,_ |.str _,_ |.nilp,_ |.nils,_ |.nilm,_ |.nilf,_ |.nili,_=>by simp only[RelV]
 |.any,h=>by simp[AV.tree]at h
 |.ptr _ _ _,h=>by simp[AV.tree]at h
 |.map _,h=>by simp[AV.tree]at h
 |.slice _ _ _ _ _,h=>by simp[AV.tree]at h
 |.lst w xs c,h=>by simp only[RelV];simp only[AV.tree]at h;exact .inl ⟨xs,c,rfl,id,Z5 xs h⟩
 |.ept x _,h=>by simp only[RelV];simp only[AV.tree]at h;exact⟨x,rfl,Jc x h⟩
 |.iface _ x,h=>by simp only[RelV];simp only[AV.tree]at h;exact⟨x,rfl,Jc x h⟩
 |.fn _ cs,h=>by simp only[RelV];simp only[AV.tree]at h;exact⟨cs,rfl,Z5 cs h⟩
 |.agg cs,h=>by simp only[RelV];simp only[AV.tree]at h;exact⟨cs,rfl,Z5 cs h⟩
 |.tup cs,h=>by simp only[RelV];simp only[AV.tree]at h;exact⟨cs,rfl,Z5 cs h⟩
theorem Z5:∀(as:List AV),AV.trees as=true->RelVs ρ as as
 |[],_=>by simp only[RelVs]
 | a::as,h=>by
  simp only[RelVs];simp only[AV.trees,bAt]at h;exact⟨a,as,rfl,Jc a h.1,Z5 as h.2⟩
end
theorem RelV.cells{a b:AV}(h:RelV ρ a b):RelVs ρ a.cells b.cells:=by
 cases a
 case agg cs=>simp only[RelV]at h;obtain⟨ds,rfl,h⟩:=h;exact h
 case tup cs=>simp only[RelV]at h;obtain⟨ds,rfl,h⟩:=h;simp only[AV.cells,RelVs]
 case any=>simp only[RelV]at h;subst h;simp only[AV.cells,RelVs]
 all_goals
  have hh:=h;simp only[RelV]at hh
  first
   | (subst hh;exact RelVs.one h)
   | (rcases hh with⟨_,_,rfl⟩ | ⟨_,_,_,rfl | rfl⟩;exact RelVs.one h;exact RelVs.one h;exact RelVs.one h)
   | (rcases hh with⟨_,_,rfl,_⟩ | ⟨_,rfl⟩;exact RelVs.one h;exact RelVs.one h)
   | (obtain⟨_,_,rfl⟩:=hh;exact RelVs.one h)
   | (obtain⟨_,rfl,_⟩:=hh;exact RelVs.one h)
theorem RelV.cellsLen{a b:AV}(h:RelV ρ a b):b.cells.length=a.cells.length:=h.cells.length
theorem RelV.part{a b x:AV}{j:Nat}{sh:Option Nat}(h:RelV ρ a b)(hp:a.part j sh=some x):∃y,b.part j sh=some y/\RelV ρ x y:=by
 have hc:=h.cells;cases sh with
 | none=>
  simp only[AV.part]at hp|-;exact hc.get hp
 | some k=>
  simp only[AV.part]at hp|-;split at hp
  ·rename_i hk;cases hp;rw[iP (by rw[hc.length];exact hk)];refine⟨_,rfl, ?_⟩;simp only[RelV];exact⟨_,rfl,(hc.drop j).take k⟩
  ·cases hp
theorem RelV.put{a b x y a':AV}{j:Nat}(h:RelV ρ a b)(hx:RelV ρ x y)(hp:a.put j x=some a'):∃b',b.put j y=some b'/\RelV ρ a' b':=by
 have hcl:=hx.cellsLen;by_cases hag:∃cs,a=.agg cs
 ·obtain⟨cs,rfl⟩:=hag;simp only[RelV]at h;obtain⟨ds,rfl,h⟩:=h;simp only[AV.put]at hp|-;split at hp
  ·rename_i hk;cases hp;rw[iP (by rw[hcl,h.length];exact hk)];refine⟨_,rfl, ?_⟩;simp only[RelV];refine⟨_,rfl,(h.take j).append (hx.cells.append ?_)⟩;rw[hcl];exact h.drop _
  ·cases hp
 ·have ha:a.put j x=if j=0/\a.cells.length=1 then(match x.cells with |[y]=>some y | _=>none)else none:=by
   cases a<;>first | rfl | exact absurd ⟨_,rfl⟩ hag
  have hb:b.put j y=if j=0/\b.cells.length=1 then(match y.cells with |[y]=>some y | _=>none)else none:=by
   have:¬∃ds,b=.agg ds:=by
    rintro⟨ds,rfl⟩;cases a<;>simp[RelV]at h;exact hag ⟨_,rfl⟩
   cases b<;>first | rfl | exact absurd ⟨_,rfl⟩ this
  rw[ha]at hp;rw[hb,h.cellsLen];split at hp
  ·rename_i hk;rw[iP hk];have hxc:=hx.cells;split at hp
   ·rename_i z hz;cases hp;rw[hz]at hxc;simp only[RelVs]at hxc;obtain⟨b',bs,q1,q2,rfl⟩:=hxc;rw[q1];exact⟨b',rfl,q2⟩
   ·cases hp
  ·cases hp
end
def RelEs(ρ:Ren)(es es':List (AV×AV)):Prop:=RelVs ρ (es.map (·.1)) (es'.map (·.1))/\RelVs ρ (es.map (·.2)) (es'.map (·.2))
def RelO(ρ:Ren)(i:Nat)(hr:AH):qA->Prop
 |.dead=>True
 |.row w el rw=>(ρ i=some none/\el=[]/\rw=true)\/∃i' el',ρ i=some (some i')/\hr i'=some (.row w el' rw)/\RelVs ρ el el'
 |.map es=>∃i' es',ρ i=some (some i')/\hr i'=some (.map es')/\RelEs ρ es es'
structure zL(ρ:Ren)(h:List qA)(hr:AH):Prop where
 obj:∀i o,h[i]?=some o->RelO ρ i hr o
 inj:∀i j a o o',ρ i=some (some a)->ρ j=some (some a)->h[i]?=some o->h[j]?=some o'->o≠.dead->o'≠.dead->i=j
 out:∀i,h.length<=i->ρ i=none
 is:∀i a,ρ i=some (some a)->∃o,hr a=some o
def RelE(ρ:Ren)(s:qt)(e:Env):Prop:=∀n v,get s n=some v->∃r,lk e n=some r/\RelV ρ v r
structure zY(ρ:Ren)(st:VSt)(sr:St):Prop where
 s:RelE ρ st.s sr.s
 l:RelE ρ st.l sr.l
 h:zL ρ st.h sr.h
def Ao.ok:Ao->Bool
 |.c v=>v.tree
 | _=>true
def Ao.ok?:Option Ao->Bool
 | some x=>x.ok
 | none=>true
def AOp.ok:AOp->Bool
 |.mov x |.nilchk x |.isnil _ _ x |.not x |.conv _ x |.faddr _ x |.ext x _ |.len x |.mlen x |.panic x |.load _ x |.lbox _ x |.hbox _ x |.lstore _ _ _ x=>x.ok
 |.pick a b c=>a.ok&&b.ok&&c.ok
 |.lalloc z |.halloc _ z=>z.tree
 |.build z ps=>z.tree&&ps.all λp=>p.2.2.ok
 |.bslice _ z _ ps=>z.tree&&ps.all λp=>p.2.ok
 |.lload _ _ _ |.nop _ |.mkmap=>true
 |.store _ x y |.bin _ x y |.beq _ x y |.seq _ _ x y |.iaddr _ x y |.aidx _ _ _ x y |.app _ x y |.appx _ x y |.max x y |.min x y=>x.ok&&y.ok
 |.mksl _ z x y=>z.tree&&x.ok&&y.ok
 |.slc _ x a b c=>x.ok&&Ao.ok? a&&Ao.ok? b&&Ao.ok? c
 |.slcx _ x a b=>x.ok&&Ao.ok? a&&Ao.ok? b
 |.slcm _ x a b c=>x.ok&&a.ok&&b.ok&&c.ok
 |.mkfn _ xs=>xs.all Ao.ok
 |.call _ xs=>xs.all Ao.ok
 |.callv x xs=>x.ok&&xs.all Ao.ok
 |.clear _ z x=>z.tree&&x.ok
 |.look z x y _=>z.tree&&x.ok&&y.ok
 |.mupd x y z=>x.ok&&y.ok&&z.ok
section
variable {ρ:Ren} {s l:qt} {h:List qA} {es el:Env} {hr:AH}
theorem zP(hs:RelE ρ s es){x:Ao}(hx:x.ok=true){v:AV}(hv:ev (toE s) x=some v):∃r,ev es x=some r/\RelV ρ v r:=by
 cases x with
 | t n=>exact hs n v hv
 | c c=>cases hv;exact⟨_,rfl,Jc _ hx⟩
 | f g=>cases hv;exact⟨_,rfl,by simp only[RelV];exact⟨[],rfl,by simp only[RelVs]⟩⟩
theorem Y5(hs:RelE ρ s es):∀{xs:List Ao},xs.all Ao.ok=true->∀{vs:List AV},evs (toE s) xs=some vs->∃rs,evs es xs=some rs/\RelVs ρ vs rs
 |[],_,vs,hv=>by cases hv;exact⟨[],rfl,by simp only[RelVs]⟩
 | x::xs,hx,vs,hv=>by
  simp only[lAc,bAt]at hx;simp only[evs]at hv;split at hv
  ·rename_i v vs' h1 h2;cases hv;obtain⟨r,q1,q2⟩:=zP hs hx.1 h1;obtain⟨rs,q3,q4⟩:=Y5 hs hx.2 h2;refine⟨r::rs,by simp only[evs,q1,q3], ?_⟩;simp only[RelVs];exact⟨r,rs,rfl,q2,q4⟩
  ·cases hv
theorem JR(hs:RelE ρ s es){x:Ao}(hx:x.ok=true){k:IntKind}{n:Int}(hv:ev (toE s) x=some (.int k n)):ev es x=some (.int k n):=by
 obtain⟨r,h1,h2⟩:=zP hs hx hv;simp only[RelV]at h2;rw[h1,h2]
theorem WT(hs:RelE ρ s es){x:Ao}(hx:x.ok=true){b:Bool}(hv:ev (toE s) x=some (.bool b)):ev es x=some (.bool b):=by
 obtain⟨r,h1,h2⟩:=zP hs hx hv;simp only[RelV]at h2;rw[h1,h2]
theorem j0(hs:RelE ρ s es){x:Option Ao}(hx:Ao.ok? x=true){a b c n:Nat}(hv:bnd (toE s) x a b c=some n):bnd es x a b c=some n:=by
 cases x with
 | none=>exact hv
 | some x=>
  simp only[bnd]at hv|-;split at hv
  ·rename_i k m hk;rw[JR hs hx hk];exact hv
  ·cases hv
theorem qF3(hh:zL ρ h hr){v r:AV}(hv:RelV ρ v r){xs:List (AV×AV)}(he:wz (toH h) v=some xs):∃ys,wz hr r=some ys/\RelEs ρ xs ys:=by
 cases v<;>simp only[wz,reduceCtorEq]at he
 case nilm=>simp only[RelV]at hv;subst hv;cases he;exact⟨[],rfl,by simp[RelEs,RelVs]⟩
 case map id=>
  simp only[RelV]at hv;obtain⟨id',h1,rfl⟩:=hv;simp only[wz];split at he
  ·rename_i es ho;cases he;obtain⟨i',es',q1,q2,q3⟩:=hh.obj _ _ ho;rw[h1]at q1;cases q1;rw[q2];exact⟨es',rfl,q3⟩
  ·cases he
theorem qG6{a b a' b':AV}{t:Bool}(hk:Q6 a b=some t)(ha:RelV ρ a a')(hb:RelV ρ b b'):Q6 a' b'=some t:=by
 cases a<;>cases b<;>simp only[Q6,reduceCtorEq]at hk<;>simp only[RelV]at ha hb<;>subst ha hb<;>exact hk
theorem Xh{k k':AV}(hk:RelV ρ k k'):∀{xs ys:List (AV×AV)}{n:Nat}{r:Option (Nat×AV)},RelEs ρ xs ys->we k xs n=some r->
  (r=none/\we k' ys n=some none)\/∃i v v',r=some (i,v)/\we k' ys n=some (some (i,v'))/\RelV ρ v v'
 |[],ys,n,r,h,hf=>by
  obtain⟨h1,_⟩:=h;have:ys=[]:=by simpa using h1.length
  subst this;simp only[we]at hf;split at hf
  ·cases hf;simp only[RelV]at hk;subst hk;exact .inl ⟨rfl,rfl⟩
  ·cases hf
 | (a,v)::xs,ys,n,r,h,hf=>by
  obtain⟨h1,h2⟩:=h;cases ys with
  | nil=>have:=h1.length;simp at this
  | cons y ys=>
   obtain⟨a',v'⟩:=y;simp only[lMc,RelVs,List.cons.injEq]at h1 h2;obtain⟨_,_,⟨rfl,rfl⟩,q1,q2⟩:=h1;obtain⟨_,_,⟨rfl,rfl⟩,q3,q4⟩:=h2;simp only[we]at hf|-;split at hf
   ·rename_i hq;cases hf;rw[qG6 hq hk q1];exact .inr ⟨n,v,v',rfl,rfl,q3⟩
   ·rename_i hq;rw[qG6 hq hk q1];exact Xh hk ⟨q2,q4⟩ hf
   ·cases hf
theorem qF1(hh:zL ρ h hr){v r:AV}(hv:RelV ρ v r){xs:List AV}(he:z7 (toH h) v=some xs):∃ys,z7 hr r=some ys/\RelVs ρ xs ys:=by
 cases v<;>simp only[z7,reduceCtorEq]at he
 case nils=>simp only[RelV]at hv;subst hv;cases he;exact⟨[],rfl,by simp only[RelVs]⟩
 case str a=>simp only[RelV]at hv;subst hv;cases he;exact⟨_,rfl,Z5 _ (by induction a with | nil=>rfl | cons x a ih=>simpa[AV.trees,AV.tree]using ih)⟩
 case lst w xs c=>
  cases he;simp only[RelV]at hv;rcases hv with⟨ys,c',rfl,_,h2⟩ | ⟨rfl,rfl⟩
  ·exact⟨ys,rfl,h2⟩
  ·exact⟨[],rfl,by simp only[RelVs]⟩
 case slice w id off len clip=>
  simp only[RelV]at hv;split at he
  ·rename_i h0;cases he;subst h0;rcases hv with⟨id',h1,rfl⟩ | ⟨h1,rfl,_,rfl | rfl⟩<;>exact⟨[],by simp[z7],by simp only[RelVs]⟩
  split at he
  ·rename_i w' el rw' ho;split at he
   ·rename_i hl;cases he;rcases hv with⟨id',h1,rfl⟩ | ⟨h1,rfl,rfl,rfl | rfl⟩
    ·rcases hh.obj _ _ ho with⟨q,_⟩ | ⟨i',el',q1,q2,q3⟩
     ·rw[q]at h1;cases h1
     ·rw[h1]at q1;cases q1;rw[Xd q2 (by rw[q3.length];exact hl)];exact⟨_,rfl,(q3.drop off).take len⟩
    ·exact⟨[],rfl,by simp[RelVs]⟩
    ·exact⟨[],rfl,by simp[RelVs]⟩
   ·cases he
  ·cases he
theorem qEQ(hs:RelE ρ s es):∀{ps:List (Nat×Nat×Ao)},(ps.all λp=>p.2.2.ok)=true->∀{z z' v:AV},RelV ρ z z'->jf (toE s) z ps=some v->∃r,jf es z' ps=some r/\RelV ρ v r
 |[],_,z,z',v,hz,hb=>by cases hb;exact⟨z',rfl,hz⟩
 | (off,sz,x)::ps,hp,z,z',v,hz,hb=>by
  simp only[lAc,bAt]at hp;simp only[jf]at hb;split at hb
  ·rename_i a ha;obtain⟨a',h1,h2⟩:=zP hs hp.1 ha;split at hb
   ·rename_i hl;split at hb
    ·rename_i z2 hz2;obtain⟨z2',h3,h4⟩:=hz.put h2 hz2;obtain⟨r,h5,h6⟩:=qEQ hs hp.2 h4 hb;refine⟨r, ?_,h6⟩;simp only[jf,h1];rw[iP (by rw[h2.cellsLen];exact hl),h3];exact h5
    ·cases hb
   ·cases hb
  ·cases hb
theorem qGB(hs:RelE ρ s es){w:Nat}:∀{ps:List (Nat×Ao)},(ps.all λp=>p.2.ok)=true->∀{z z' v:List AV},RelVs ρ z z'->jD (toE s) w z ps=some v->∃r,jD es w z' ps=some r/\RelVs ρ v r
 |[],_,z,z',v,hz,hb=>by cases hb;exact⟨z',rfl,hz⟩
 | (i,x)::ps,hp,z,z',v,hz,hb=>by
  simp only[lAc,bAt]at hp;simp only[jD]at hb;split at hb
  ·rename_i a ha;obtain⟨a',h1,h2⟩:=zP hs hp.1 ha;split at hb
   ·rename_i hl;obtain⟨r,h5,h6⟩:=qGB hs hp.2 (hz.set i h2) hb;refine⟨r, ?_,h6⟩;simp only[jD,h1];rw[iP (by rw[h2.cellsLen,hz.length];exact hl)];exact h5
   ·cases hb
  ·cases hb
end
def wo(o:AOp)(st:VSt):Option AV:=match o with
 |.isnil 1 n x=>(match ev (toE st.s) x with
  | some (.lst _ (_::_) _)=>some (.bool n)
  | some .nils=>some (.bool !n)
  | _=>none)
 |.slcx _ _ _ _=>none
 |.slcm _ _ _ _ _=>none
 | o=>val o (toE st.s) (toE st.l) (toH st.h)
section
variable {ρ:Ren} {st:VSt} {sr:St}
theorem qs1{st:VSt}{o:AOp}(h:∀n x,o≠.isnil 1 n x)(h2:∀w x a b,o≠.slcx w x a b:=by intros;nofun)(h3:∀w x a b c,o≠.slcm w x a b c:=by intros;nofun):wo o st=val o (toE st.s) (toE st.l) (toH st.h):=by
 unfold wo;split
 ·exact absurd rfl (h _ _)
 ·exact absurd rfl (h2 _ _ _ _)
 ·exact absurd rfl (h3 _ _ _ _ _)
 ·rfl
theorem qHI(hh:zL ρ st.h sr.h){id i j:Nat}{sh:Option Nat}{r v:AV}(hp:RelV ρ (.ptr id i j) r)
  (hv:(match (toH st.h) id with | some (.row _ el _)=>(el[i]?).bind (·.part j sh) | _=>none)=some v):
  ∃id' y,r=.ptr id' i j/\(match sr.h id' with | some (.row _ el _)=>(el[i]?).bind (·.part j sh) | _=>none)=some y/\RelV ρ v y:=by
 simp only[RelV]at hp;obtain⟨id',h1,rfl⟩:=hp;split at hv
 ·rename_i w el rw' ho;simp only[Option.bind_eq_some_iff]at hv;obtain⟨x,hx,hp⟩:=hv;rcases hh.obj _ _ ho with⟨q,_⟩ | ⟨i',el',q1,q2,q3⟩
  ·rw[q]at h1;cases h1
  ·rw[h1]at q1;cases q1;obtain⟨y,g1,g2⟩:=q3.get hx;obtain⟨z,g3,g4⟩:=g2.part hp;exact⟨id',z,rfl,by rw[q2];simp only[g1,oBs,g3],g4⟩
 ·cases hv
theorem qA8:∀{as bs:List AV},RelVs ρ as bs->bs.map dig=as.map dig
 |[],_,h=>by simp only[RelVs]at h;subst h;rfl
 | a::as,_,h=>by
  simp only[RelVs]at h;obtain⟨b,bs,rfl,h1,h2⟩:=h;simp only[lMc,qA8 h2,List.cons.injEq,and_true];cases a<;>simp only[RelV]at h1<;>first
   | (subst h1;rfl)
   | (rcases h1 with⟨_,_,rfl⟩ | ⟨_,_,_,rfl | rfl⟩;rfl;rfl;rfl)
   | (rcases h1 with⟨_,_,rfl,_⟩ | ⟨_,rfl⟩;rfl;rfl)
   | (obtain⟨_,_,rfl⟩:=h1;rfl)
   | (obtain⟨_,rfl,_⟩:=h1;rfl)
theorem qJ0{a b a' b':AV}{t:Bool}(hk:Jm a b=some t)(ha:RelV ρ a a')(hb:RelV ρ b b'):Jm a' b'=some t:=by
 cases a<;>cases b<;>simp only[Jm,reduceCtorEq]at hk<;>simp only[RelV]at ha hb<;>subst ha hb<;>exact hk
theorem qE7:∀{cs ds rs qs:List AV}{b:Bool},RelVs ρ cs rs->RelVs ρ ds qs->wZ cs ds=some b->wZ rs qs=some b/\True
 |[],[],rs,qs,b,h,k,hb=>by simp only[RelVs]at h k;subst h k;exact⟨hb,trivial⟩
 | a::as,c::cs,rs,qs,b,h,k,hb=>by
  simp only[RelVs]at h k;obtain⟨r,rs,rfl,h1,h2⟩:=h;obtain⟨q,qs,rfl,k1,k2⟩:=k;simp only[wZ]at hb|-;split at hb
  ·rename_i hq;rw[qJ0 hq h1 k1];exact qE7 h2 k2 hb
  ·rename_i hq;rw[qJ0 hq h1 k1];exact⟨hb,trivial⟩
  ·cases hb
 |[],_::_,_,_,_,_,_,hb=>by simp[wZ]at hb
 | _::_,[],_,_,_,_,_,hb=>by simp[wZ]at hb
theorem qK8(hS:zY ρ st sr){o:AOp}(ho:o.ok=true){v:AV}(hv:wo o st=some v):∃r,val o sr.s sr.l sr.h=some r/\RelV ρ v r:=by
  have hs:=hS.s;cases o
  case isnil tag neg x=>
    simp only[AOp.ok]at ho;by_cases ht:tag=1
    · subst ht;simp only[wo]at hv;split at hv
      · rename_i w y ys c h1;cases hv;obtain⟨r,h3,h4⟩:=zP hs ho h1;simp only[RelV,RelVs]at h4;rcases h4 with⟨_,c',rfl,_,b,bs,rfl,_⟩ | ⟨h4,_⟩
        · exact⟨.bool neg,by simp only[val,h3,oBs,AV.isNil,oMs];cases neg<;>rfl,by simp only[RelV]⟩
        · cases h4
      · rename_i h1;cases hv;obtain⟨r,h3,h4⟩:=zP hs ho h1;simp only[RelV]at h4;subst h4;exact⟨.bool !neg,by simp only[val,h3,oBs,AV.isNil,oMs];cases neg<;>rfl,by simp only[RelV]⟩
      · cases hv
    · have hv:val (.isnil tag neg x) (toE st.s) (toE st.l) (toH st.h)=some v:=by
        unfold wo at hv;split at hv
        · rename_i heq;cases heq;exact absurd rfl ht
        · rename_i heq;cases heq
        · rename_i heq;cases heq
        · exact hv
      simp only[val,oMi,Option.bind_eq_some_iff]at hv|-;obtain⟨b,⟨a,h1,h2⟩,rfl⟩:=hv;obtain⟨r,h3,h4⟩:=zP hs ho h1;refine⟨_,⟨b,⟨r,h3, ?_⟩,rfl⟩,by simp only[RelV]⟩;unfold AV.isNil at h2;split at h2
      all_goals
        first
          | (cases h2;done)
          | (exact absurd rfl ht)
          | (cases h2;simp only[RelV]at h4
             first
               | (subst h4;rfl)
               | (obtain⟨_,_,rfl⟩:=h4;rfl)
               | (obtain⟨_,rfl,_⟩:=h4;rfl))
  case slcx=>cases hv
  case slcm=>cases hv
  all_goals (rw[qs1 (by intro _ _ h;cases h) (by intro _ _ _ _ h;cases h) (by intro _ _ _ _ _ h;cases h)]at hv)
  case mov x=>exact zP hs ho hv
  case pick c a b=>
    simp only[AOp.ok,bAt]at ho;simp only[val]at hv|-;split at hv
    · rename_i hc;rw[WT hs ho.1.1 hc];exact zP hs ho.1.2 hv
    · rename_i hc;rw[WT hs ho.1.1 hc];exact zP hs ho.2 hv
    · cases hv
  case build z ps=>
    simp only[AOp.ok,bAt]at ho;exact qEQ hs ho.2 (Jc z ho.1) hv
  case lload t off sh=>
    simp only[val,Option.bind_eq_some_iff]at hv|-;obtain⟨c,h1,h2⟩:=hv;obtain⟨r,h3,h4⟩:=hS.l t c h1;obtain⟨y,h5,h6⟩:=h4.part h2;exact⟨y,⟨r,h3,h5⟩,h6⟩
  case load sh p=>
    simp only[val]at hv|-;split at hv
    · rename_i id i j hp;obtain⟨r,h3,h4⟩:=zP hs ho hp;obtain⟨id',y,rfl,h5,h6⟩:=qHI hS.h h4 hv;rw[h3];exact⟨y,h5,h6⟩
    · rename_i x j hp;obtain⟨r,h3,h4⟩:=zP hs ho hp;simp only[RelV]at h4;obtain⟨y,rfl,h4⟩:=h4;rw[h3];exact h4.part hv
    · cases hv
  case nilchk x=>
    simp only[val]at hv|-;split at hv
    all_goals
      first
        | (cases hv;done)
        | (rename_i hx
           cases hv;obtain⟨r,h3,h4⟩:=zP hs ho hx;have h5:=h4;simp only[RelV]at h4
           first
             | (obtain⟨_,_,rfl⟩:=h4;rw[h3];exact⟨_,rfl,h5⟩)
             | (obtain⟨_,rfl,_⟩:=h4;rw[h3];exact⟨_,rfl,h5⟩))
  case bin op x y=>
    simp only[AOp.ok,bAt]at ho;simp only[val]at hv|-;split at hv
    · rename_i k a k' b hx hy;rw[JR hs ho.1 hx,JR hs ho.2 hy];simp only;split at hv
      · rename_i hk;rw[iP hk];refine⟨v,hv,Jc _ ?_⟩;unfold wg at hv;split at hv<;>first
          | (cases hv;done)
          | (cases hv;rfl)
          | (split at hv<;>cases hv<;>rfl)
      · cases hv
    · cases hv
  case beq neg x y=>
    simp only[AOp.ok,bAt]at ho;simp only[val]at hv|-;split at hv
    · rename_i a b hx hy;rw[WT hs ho.1 hx,WT hs ho.2 hy];cases hv;exact⟨_,rfl,by simp only[RelV]⟩
    · cases hv
  case seq neg k x y=>
    simp only[AOp.ok,bAt]at ho;simp only[val]at hv|-;split at hv
    · rename_i cs ds hx hy;obtain⟨r,h3,h4⟩:=zP hs ho.1 hx;obtain⟨q,h5,h6⟩:=zP hs ho.2 hy;simp only[RelV]at h4 h6;obtain⟨rs,rfl,h4⟩:=h4;obtain⟨qs,rfl,h6⟩:=h6;rw[h3,h5];split at hv
      · rename_i hk;simp only[oMi]at hv;obtain⟨b,hb,rfl⟩:=hv;obtain⟨e1,e2⟩:=qE7 h4 h6 hb;have e3:rs.map dig=cs.map dig:=qA8 h4;have e4:qs.map dig=ds.map dig:=qA8 h6;simp only[e3,e4,iP hk,e1,oMs];exact⟨_,rfl,by simp only[RelV]⟩
      · cases hv
    · cases hv
  case not x=>
    simp only[val]at hv|-;split at hv
    · rename_i a hx;rw[WT hs ho hx];cases hv;exact⟨_,rfl,by simp only[RelV]⟩
    · cases hv
  case conv k x=>
    simp only[val]at hv|-;split at hv
    · rename_i a n hx;rw[JR hs ho hx];cases hv;exact⟨_,rfl,by simp only[RelV]⟩
    · cases hv
  case slc w x lo hi mx=>
    simp only[AOp.ok,bAt]at ho;obtain⟨⟨⟨o1,o2⟩,o3⟩,o4⟩:=ho;simp only[val]at hv|-;split at hv
    · rename_i hx;obtain⟨r,h3,h4⟩:=zP hs o1 hx;simp only[RelV]at h4;subst h4;rw[h3];split at hv
      · rename_i n0 n1 n2 q0 q1 q2;cases hv;cases mx with
        | none=>
          simp only[j0 hs o3 q1,j0 hs o2 q2];exact⟨_,rfl,by simp only[RelV]⟩
        | some m=>
          simp only at q0;simp only[j0 hs o4 q0,j0 hs o3 q1,j0 hs o2 q2];exact⟨_,rfl,by simp only[RelV]⟩
      · cases hv
    · rename_i w' id off len clip hx;obtain⟨r,h3,h4⟩:=zP hs o1 hx;simp only[RelV]at h4;split at hv
      · rename_i b hb;split at hv
        · rename_i a ha;have hb':=j0 hs o3 hb;have ha':=j0 hs o2 ha;rcases h4 with⟨id',h5,rfl⟩ | ⟨h5,rfl,rfl,h6⟩
          · rw[h3];simp only[hb',ha'];split at hv
            · split at hv
              · rename_i hw;cases hv;simp only[iP hw];refine⟨_,rfl, ?_⟩;simp only[RelV];exact .inl ⟨id',h5,rfl⟩
              · cases hv
            · rename_i m;split at hv
              · rename_i M hM;split at hv
                · rename_i hw;cases hv;simp only[j0 hs o4 hM,iP hw];refine⟨_,rfl, ?_⟩;simp only[RelV];exact .inl ⟨id',h5,rfl⟩
                · cases hv
              · cases hv
          · rw[h3];have hb0:b=0:=by
              cases hi with
              | none=>simp only[bnd]at hb;cases hb;rfl
              | some y=>
                simp only[bnd]at hb;split at hb
                · split at hb
                  · cases hb;omega
                  · cases hb
                · cases hb
            subst hb0;have ha0:a=0:=by
              cases lo with
              | none=>simp only[bnd]at ha;cases ha;rfl
              | some y=>
                simp only[bnd]at ha;split at ha
                · split at ha
                  · cases ha;omega
                  · cases ha
                · cases ha
            subst ha0;rcases h6 with rfl | rfl
            · simp only[hb',ha'];split at hv
              · split at hv
                · cases hv;refine⟨_,rfl, ?_⟩;simp[RelV,h5]
                · cases hv
              · rename_i m;split at hv
                · rename_i M hM;split at hv
                  · cases hv;simp only[j0 hs o4 hM];refine⟨_,rfl, ?_⟩;simp[RelV,h5]
                  · cases hv
                · cases hv
            · simp only[lNi,hb',ha'];split at hv
              · split at hv
                · rename_i hw;cases hv;refine⟨.lst w [] true, ?_, ?_⟩
                  · simp[hw.1]
                  · simp[RelV,h5]
                · cases hv
              · rename_i m;split at hv
                · rename_i M hM;split at hv
                  · rename_i hw;cases hv;simp only[j0 hs o4 hM,iP hw];refine⟨_,rfl, ?_⟩;simp[RelV,h5]
                  · cases hv
                · cases hv
        · cases hv
      · cases hv
    · rename_i w' xs clip hx;obtain⟨r,h3,h4⟩:=zP hs o1 hx;simp only[RelV]at h4;split at hv
      · rename_i b hb;split at hv
        · rename_i a ha;have hb':=j0 hs o3 hb;have ha':=j0 hs o2 ha;rcases h4 with⟨ys,c',rfl,hcc,h5⟩ | ⟨rfl,rfl⟩
          · rw[h3];simp only[h5.length,hb',ha'];split at hv
            · split at hv
              · rename_i hw;cases hv;simp only[iP hw];refine⟨_,rfl, ?_⟩;simp only[RelV];refine .inl ⟨_,_,rfl,λhq=>?_,(h5.drop a).take (b-a)⟩;simp only[bAt]at hq|-;exact⟨hcc hq.1,hq.2⟩
              · cases hv
            · rename_i m;split at hv
              · rename_i M hM;split at hv
                · rename_i hw;cases hv;simp only[j0 hs o4 hM,iP hw];refine⟨_,rfl, ?_⟩;simp only[RelV];exact .inl ⟨_,_,rfl,λ_=>rfl,(h5.drop a).take (b-a)⟩
                · cases hv
              · cases hv
          · rw[h3];have hb0:b=0:=by
              cases hi with
              | none=>simp only[bnd,lNi]at hb;cases hb;rfl
              | some y=>
                simp only[bnd,lNi]at hb;split at hb
                · split at hb
                  · cases hb;omega
                  · cases hb
                · cases hb
            subst hb0;have ha0:a=0:=by
              cases lo with
              | none=>simp only[bnd]at ha;cases ha;rfl
              | some y=>
                simp only[bnd]at ha;split at ha
                · split at ha
                  · cases ha;omega
                  · cases ha
                · cases ha
            subst ha0;simp only[lNi]at hb';simp only[hb',ha'];split at hv
            · split at hv
              · cases hv;refine⟨_,rfl, ?_⟩;simp[RelV]
              · cases hv
            · rename_i m;split at hv
              · rename_i M hM;split at hv
                · cases hv;simp only[j0 hs o4 hM];refine⟨_,rfl, ?_⟩;simp[RelV]
                · cases hv
              · cases hv
        · cases hv
      · cases hv
    · cases hv
  case faddr off x=>
    simp only[val]at hv|-;split at hv
    · rename_i id i j hx;cases hv;obtain⟨r,h3,h4⟩:=zP hs ho hx;simp only[RelV]at h4;obtain⟨id',h5,rfl⟩:=h4;rw[h3];refine⟨_,rfl, ?_⟩;simp only[RelV];exact⟨id',h5,rfl⟩
    · rename_i y j hx;cases hv;obtain⟨r,h3,h4⟩:=zP hs ho hx;simp only[RelV]at h4;obtain⟨y',rfl,h5⟩:=h4;rw[h3];refine⟨_,rfl, ?_⟩;simp only[RelV];exact⟨y',rfl,h5⟩
    · cases hv
  case iaddr w x i=>
    simp only[AOp.ok,bAt]at ho;simp only[val]at hv|-;split at hv
    · rename_i w' id off len cl k n hx hi;obtain⟨r,h3,h4⟩:=zP hs ho.1 hx;rw[h3,JR hs ho.2 hi];simp only[RelV]at h4;split at hv
      · rename_i hc;cases hv;rcases h4 with⟨id',h5,rfl⟩ | ⟨_,_,rfl,_⟩
        · simp only[iP hc];refine⟨_,rfl, ?_⟩;simp only[RelV];exact⟨id',h5,rfl⟩
        · omega
      · cases hv
    · rename_i w' xs cl k n hx hi;obtain⟨r,h3,h4⟩:=zP hs ho.1 hx;rw[h3,JR hs ho.2 hi];simp only[RelV]at h4;split at hv
      · rename_i hc;simp only[oMi]at hv;obtain⟨y,h6,rfl⟩:=hv;rcases h4 with⟨ys,c',rfl,_,h5⟩ | ⟨rfl,rfl⟩
        · obtain⟨z,h7,h8⟩:=h5.get h6;simp only[iP hc,h7,oMs];refine⟨_,rfl, ?_⟩;simp only[RelV];exact⟨z,rfl,h8⟩
        · simp at h6
      · cases hv
    · cases hv
  case aidx n w sh x i=>
    simp only[AOp.ok,bAt]at ho;simp only[val]at hv|-;split at hv
    · rename_i cs k m hx hi;obtain⟨r,h3,h4⟩:=zP hs ho.1 hx;rw[h3,JR hs ho.2 hi];have h5:=h4;simp only[RelV]at h4;obtain⟨ds,rfl,h6⟩:=h4;simp only;split at hv
      · rename_i hc;rw[iP hc];exact h5.part hv
      · cases hv
    · cases hv
  case ext x i=>
    simp only[val]at hv|-;split at hv
    · rename_i vs hx;obtain⟨r,h3,h4⟩:=zP hs ho hx;simp only[RelV]at h4;obtain⟨ds,rfl,h6⟩:=h4;rw[h3];exact h6.get hv
    · cases hv
  case mkfn g caps=>
    simp only[val,oMi]at hv|-;obtain⟨vs,h1,rfl⟩:=hv;obtain⟨rs,h2,h3⟩:=Y5 hs ho h1;refine⟨_,⟨rs,h2,rfl⟩, ?_⟩;simp only[RelV];exact⟨rs,rfl,h3⟩
  case len x=>
    simp only[val]at hv|-;split at hv
    · rename_i hx;cases hv;obtain⟨r,h3,h4⟩:=zP hs ho hx;simp only[RelV]at h4;subst h4;rw[h3];exact⟨_,rfl,by simp only[RelV]⟩
    · rename_i w id off len c hx;cases hv;obtain⟨r,h3,h4⟩:=zP hs ho hx;simp only[RelV]at h4;rw[h3];rcases h4 with⟨id',h5,rfl⟩ | ⟨_,_,rfl,rfl | rfl⟩
      · exact⟨_,rfl,by simp only[RelV]⟩
      · exact⟨_,rfl,by simp only[RelV];rfl⟩
      · exact⟨_,rfl,by simp only[RelV];rfl⟩
    · rename_i w xs c hx;cases hv;obtain⟨r,h3,h4⟩:=zP hs ho hx;simp only[RelV]at h4;rw[h3];rcases h4 with⟨ys,c',rfl,_,h5⟩ | ⟨rfl,rfl⟩
      · exact⟨_,rfl,by simp only[RelV,h5.length]⟩
      · exact⟨_,rfl,by simp only[RelV];rfl⟩
    · cases hv
  case mlen x=>
    simp only[val,oMi,Option.bind_eq_some_iff]at hv|-;obtain⟨es,⟨a,h1,h2⟩,rfl⟩:=hv;obtain⟨r,h3,h4⟩:=zP hs ho h1;obtain⟨ys,h5,h6⟩:=qF3 hS.h h4 h2;refine⟨_,⟨ys,⟨r,h3,h5⟩,rfl⟩, ?_⟩;have:=h6.1.length;simp only[lMp]at this;simp only[RelV,this]
  case max x y=>
    simp only[AOp.ok,bAt]at ho;simp only[val]at hv|-;split at hv
    · rename_i k a k' b hx hy;rw[JR hs ho.1 hx,JR hs ho.2 hy];simp only;split at hv
      · rename_i hk;rw[iP hk];cases hv;exact⟨_,rfl,by simp only[RelV]⟩
      · cases hv
    · cases hv
  case min x y=>
    simp only[AOp.ok,bAt]at ho;simp only[val]at hv|-;split at hv
    · rename_i k a k' b hx hy;rw[JR hs ho.1 hx,JR hs ho.2 hy];simp only;split at hv
      · rename_i hk;rw[iP hk];cases hv;exact⟨_,rfl,by simp only[RelV]⟩
      · cases hv
    · cases hv
  case look z m k ok=>
    simp only[AOp.ok,bAt]at ho;obtain⟨⟨o1,o2⟩,o3⟩:=ho;simp only[val]at hv|-;split at hv
    · rename_i mv kv hm hk;obtain⟨r,h3,h4⟩:=zP hs o2 hm;obtain⟨kr,h5,h6⟩:=zP hs o3 hk;rw[h3,h5];split at hv
      · rename_i es he;obtain⟨ys,g1,g2⟩:=qF3 hS.h h4 he;simp only[g1];split at hv
        · rename_i i v1 hf;rcases Xh h6 g2 hf with⟨q,_⟩ | ⟨i',v2,v3,q1,q2,q3⟩
          · cases q
          · cases q1;rw[q2];simp only;refine⟨_,rfl, ?_⟩;cases hv;cases ok
            · exact q3
            · simp only[if_true,RelV];refine⟨_,rfl, ?_⟩;simp only[RelVs];exact⟨_,_,rfl,q3,_,_,rfl,by simp only[RelV],rfl⟩
        · rename_i hf;rcases Xh h6 g2 hf with⟨_,q⟩ | ⟨i',v2,v3,q1,_⟩
          · rw[q];simp only;refine⟨_,rfl, ?_⟩;cases hv;cases ok
            · exact Jc z o1
            · simp only[if_true,RelV];refine⟨_,rfl, ?_⟩;simp only[RelVs];exact⟨_,_,rfl,Jc z o1,_,_,rfl,by simp only[RelV],rfl⟩
          · cases q1
        · cases hv
      · cases hv
    · cases hv
  case nop t=>
    simp only[val,oMi]at hv|-;obtain⟨c,h1,rfl⟩:=hv;obtain⟨r,h3,_⟩:=hS.l t c h1;exact⟨_,⟨r,h3,rfl⟩,by simp only[RelV]⟩
  all_goals (simp only[val,reduceCtorEq]at hv)
end
structure Fm(b:Nat)(ρ:Ren)(hr:AH)(ρ':Ren)(hr':AH):Prop where
 pres:∀a o,hr a=some o->(∀i,ρ i≠some (some a))->hr' a=some o
 new:∀i a,ρ' i=some (some a)->(∃j,ρ j=some (some a))\/hr.fr a
 fr:∀a,hr'.fr a->hr.fr a
 base:∀i,i<b->ρ' i=ρ i
theorem Fm.refl(b:Nat)(ρ:Ren)(hr:AH):Fm b ρ hr ρ hr:=⟨λ_ _ h _=>h,λi _ h=>.inl ⟨i,h⟩,λ_ h=>h,λ_ _=>rfl⟩
theorem Fm.trans{b:Nat}{ρ ρ' ρ'':Ren}{hr hr' hr'':AH}(x:Fm b ρ hr ρ' hr')(y:Fm b ρ' hr' ρ'' hr''):Fm b ρ hr ρ'' hr'' where
 pres:=λa o h1 h2=>y.pres a o (x.pres a o h1 h2) λi hi=>by
  rcases x.new i a hi with⟨j,hj⟩ | hf
  ·exact h2 j hj
  ·rw[hf.1]at h1;cases h1
 new:=λi a hi=>by
  rcases y.new i a hi with⟨j,hj⟩ | hf
  ·exact x.new j a hj
  ·exact .inr (x.fr a hf)
 fr:=λa h=>x.fr a (y.fr a h)
 base:=λi hi=>(y.base i hi).trans (x.base i hi)
def Ren.ext(ρ:Ren)(n:Nat)(x:Option Nat):Ren:=λi=>if i=n then some x else ρ i
theorem Ren.ext_le{ρ:Ren}{n:Nat}{x:Option Nat}(h:ρ n=none):ρ.le (ρ.ext n x):=λi a hi=>by
 unfold Ren.ext;rw[iN (by rintro rfl;rw[h]at hi;cases hi)];exact hi
theorem Ren.ext_same(ρ:Ren)(n:Nat)(x:Option Nat):ρ.ext n x n=some x:=by simp[Ren.ext]
theorem Ren.ext_ne(ρ:Ren){n i:Nat}(x:Option Nat)(h:i≠n):ρ.ext n x i=ρ i:=by simp[Ren.ext,h]
section
variable {ρ ρ':Ren} {h:List qA} {hr hr':AH}
theorem RelEs.mono(hρ:ρ.le ρ'){es es':List (AV×AV)}(k:RelEs ρ es es'):RelEs ρ' es es':=⟨RelVs.mono hρ _ _ k.1,RelVs.mono hρ _ _ k.2⟩
theorem RelO.mono{i:Nat}(hρ:ρ.le ρ')(hh:∀a o,ρ i=some (some a)->hr a=some o->hr' a=some o):∀{o:qA},RelO ρ i hr o->RelO ρ' i hr' o
 |.dead,_=>trivial
 |.row _ _ _,k=>by
  rcases k with⟨q1,q2⟩ | ⟨i',el',q1,q2,q3⟩
  ·exact .inl ⟨hρ _ _ q1,q2⟩
  ·exact .inr ⟨i',el',hρ _ _ q1,hh _ _ q1 q2,RelVs.mono hρ _ _ q3⟩
 |.map _,⟨i',es',q1,q2,q3⟩=>⟨i',es',hρ _ _ q1,hh _ _ q1 q2,q3.mono hρ⟩
theorem RelE.mono(hρ:ρ.le ρ'){s:qt}{e:Env}(k:RelE ρ s e):RelE ρ' s e:=λn v hv=>let ⟨r,q1,q2⟩:=k n v hv;⟨r,q1,RelV.mono hρ _ _ q2⟩
theorem WV{s:qt}{d n:Nat}{v:AV}:get ((d,v)::s) n=if d=n then some v else get s n:=rfl
theorem RelE.cons{s:qt}{e:Env}(k:RelE ρ s e){d:Nat}{v r:AV}(hv:RelV ρ v r):RelE ρ ((d,v)::s) (e.set d r):=λn x hx=>by
 rw[WV]at hx;rw[wh];split at hx
 ·rename_i hd;rw[iP hd];cases hx;exact⟨r,rfl,hv⟩
 ·rename_i hd;rw[iN hd];exact k n x hx
def wI(s:qt)(d:Option Nat)(v:AV):qt:=match d with
 | some d=>(d,v)::s
 | none=>s
theorem RelE.put{s:qt}{e:Env}(k:RelE ρ s e){d:Option Nat}{v r:AV}(hv:RelV ρ v r):RelE ρ (wI s d v) (jm e d r):=by
 cases d with
 | none=>exact k
 | some d=>exact k.cons hv
theorem ZA{h:List qA}{i:Nat}{o:qA}(k:h[i]?=some o):i<h.length:=(gSi.1 k).1
theorem zL.none_at(hh:zL ρ h hr):ρ h.length=none:=hh.out _ (nLr _)
theorem zL.new(hh:zL ρ h hr){a:Nat}(ha:hr.fr a){o o':qA}(ho:RelO (ρ.ext h.length (some a)) h.length (hr.upd a o') o):zL (ρ.ext h.length (some a)) (h++[o]) (hr.upd a o') where
 obj:=λi x hx=>by
  by_cases hi:i=h.length
  ·subst hi;rw[gAr (nLr _),nSs]at hx;simp only[List.getElem?_cons_zero,oSi]at hx;subst hx;exact ho
  ·have hlt:i<h.length:=by
    have:=ZA hx;simp only[lAp,lCo,lNi]at this;omega
   rw[gAl hlt]at hx;refine(hh.obj i x hx).mono (Ren.ext_le hh.none_at) λa' o'' _ h2=>?_;exact AH.get_upd ha.1 h2
 inj:=λi j x o1 o2 h1 h2 hi hj d1 d2=>by
  have key:∀i o1,(h++[o])[i]?=some o1->i≠h.length->h[i]?=some o1:=λi o1 hi hn=>by
   have:=ZA hi;simp only[lAp,lCo,lNi]at this;rwa[gAl (by omega)]at hi
  by_cases e1:i=h.length<;>by_cases e2:j=h.length
  ·rw[e1,e2]
  ·subst e1;rw[Ren.ext_same]at h1;rw[Ren.ext_ne _ _ e2]at h2;cases h1;obtain⟨q,hq⟩:=hh.is j _ h2;rw[ha.1]at hq;cases hq
  ·subst e2;rw[Ren.ext_same]at h2;rw[Ren.ext_ne _ _ e1]at h1;cases h2;obtain⟨q,hq⟩:=hh.is i _ h1;rw[ha.1]at hq;cases hq
  ·rw[Ren.ext_ne _ _ e1]at h1;rw[Ren.ext_ne _ _ e2]at h2;exact hh.inj i j x _ _ h1 h2 (key _ _ hi e1) (key _ _ hj e2) d1 d2
 out:=λi hi=>by
  simp only[lAp,lCo,lNi]at hi;rw[Ren.ext_ne _ _ (by omega)];exact hh.out i (by omega)
 is:=λi x hx=>by
  by_cases e:i=h.length
  ·subst e;rw[Ren.ext_same]at hx;cases hx;exact⟨o',AH.upd_same _ _ _⟩
  ·rw[Ren.ext_ne _ _ e]at hx;obtain⟨q,hq⟩:=hh.is i x hx;exact⟨q,AH.get_upd ha.1 hq⟩
theorem Fm.mkNew{b:Nat}(_hh:zL ρ h hr)(hb:b<=h.length){a:Nat}(ha:hr.fr a){o':qA}:Fm b ρ hr (ρ.ext h.length (some a)) (hr.upd a o') where
 pres:=λx o h1 _=>AH.get_upd ha.1 h1
 new:=λi x hx=>by
  by_cases e:i=h.length
  ·subst e;rw[Ren.ext_same]at hx;cases hx;exact .inr ha
  ·rw[Ren.ext_ne _ _ e]at hx;exact .inl ⟨i,hx⟩
 fr:=λx hx=>AH.fr_of hx
 base:=λi hi=>Ren.ext_ne _ _ (by omega)
theorem zL.nil(hh:zL ρ h hr){w:Nat}:zL (ρ.ext h.length none) (h++[.row w [] true]) hr where
 obj:=λi x hx=>by
  by_cases hi:i=h.length
  ·subst hi;rw[gAr (nLr _),nSs]at hx;simp only[List.getElem?_cons_zero,oSi]at hx;subst hx;exact .inl ⟨Ren.ext_same _ _ _,rfl,rfl⟩
  ·have hlt:i<h.length:=by
    have:=ZA hx;simp only[lAp,lCo,lNi]at this;omega
   rw[gAl hlt]at hx;exact(hh.obj i x hx).mono (Ren.ext_le hh.none_at) λa' o'' _ h2=>h2
 inj:=λi j x o1 o2 h1 h2 hi hj d1 d2=>by
  have key:∀i o1,(h++[qA.row w [] true])[i]?=some o1->i≠h.length->h[i]?=some o1:=λi o1 hi hn=>by
   have:=ZA hi;simp only[lAp,lCo,lNi]at this;rwa[gAl (by omega)]at hi
  by_cases e1:i=h.length
  ·subst e1;rw[Ren.ext_same]at h1;cases h1
  by_cases e2:j=h.length
  ·subst e2;rw[Ren.ext_same]at h2;cases h2
  rw[Ren.ext_ne _ _ e1]at h1;rw[Ren.ext_ne _ _ e2]at h2;exact hh.inj i j x _ _ h1 h2 (key _ _ hi e1) (key _ _ hj e2) d1 d2
 out:=λi hi=>by
  simp only[lAp,lCo,lNi]at hi;rw[Ren.ext_ne _ _ (by omega)];exact hh.out i (by omega)
 is:=λi x hx=>by
  by_cases e:i=h.length
  ·subst e;rw[Ren.ext_same]at hx;cases hx
  ·rw[Ren.ext_ne _ _ e]at hx;exact hh.is i x hx
theorem Fm.mkNil{b:Nat}(_hh:zL ρ h hr)(hb:b<=h.length):Fm b ρ hr (ρ.ext h.length none) hr where
 pres:=λx o h1 _=>h1
 new:=λi x hx=>by
  by_cases e:i=h.length
  ·subst e;rw[Ren.ext_same]at hx;cases hx
  ·rw[Ren.ext_ne _ _ e]at hx;exact .inl ⟨i,hx⟩
 fr:=λx hx=>hx
 base:=λi hi=>Ren.ext_ne _ _ (by omega)
theorem Ww{h:List qA}{id i:Nat}{o o':qA}(k:(h.set id o')[i]?=some o):(i=id/\o=o'/\id<h.length)\/(i≠id/\h[i]?=some o):=by
 rw[gSt]at k;split at k
 ·rename_i e;split at k
  ·rename_i hl;cases k;exact .inl ⟨e.symm,rfl,hl⟩
  ·cases k
 ·rename_i e;exact .inr ⟨λq=>e q.symm,k⟩
theorem zL.giveUp(hh:zL ρ h hr)(id:Nat):zL ρ (h.set id .dead) hr where
 obj:=λi x hx=>by
  rcases Ww hx with⟨_,rfl,_⟩ | ⟨_,hx⟩
  ·trivial
  ·exact hh.obj i x hx
 inj:=λi j x o1 o2 h1 h2 hi hj d1 d2=>by
  rcases Ww hi with⟨_,rfl,_⟩ | ⟨_,hi⟩
  ·exact absurd rfl d1
  rcases Ww hj with⟨_,rfl,_⟩ | ⟨_,hj⟩
  ·exact absurd rfl d2
  exact hh.inj i j x _ _ h1 h2 hi hj d1 d2
 out:=λi hi=>hh.out i (by simpa using hi)
 is:=hh.is
theorem zL.write(hh:zL ρ h hr){id a:Nat}{o o1 o':qA}(hid:ρ id=some (some a))(ho:h[id]?=some o)(hd:o≠.dead)(hn:RelO ρ id (hr.upd a o') o1):zL ρ (h.set id o1) (hr.upd a o') where
 obj:=λi x hx=>by
  rcases Ww hx with⟨rfl,rfl,_⟩ | ⟨hne,hx⟩
  ·exact hn
  ·by_cases hxd:x=.dead
   ·subst hxd;trivial
   refine(hh.obj i x hx).mono (λ_ _ q=>q) λa' o'' q1 q2=>?_;rw[AH.upd_ne _ _ (λe=>hne ?_)]
   ·exact q2
   ·subst e;exact hh.inj i id a' _ _ q1 hid hx ho hxd hd
 inj:=λi j x o2 o3 h1 h2 hi hj d1 d2=>by
  have key:∀i o2,(h.set id o1)[i]?=some o2->o2≠qA.dead->∃o3,h[i]?=some o3/\o3≠qA.dead:=λi o2 hi hd2=>by
   rcases Ww hi with⟨rfl,rfl,_⟩ | ⟨_,hi⟩
   ·exact⟨o,ho,hd⟩
   ·exact⟨o2,hi,hd2⟩
  obtain⟨p1,q1,q2⟩:=key i o2 hi d1;obtain⟨p2,q3,q4⟩:=key j o3 hj d2;exact hh.inj i j x _ _ h1 h2 q1 q3 q2 q4
 out:=λi hi=>hh.out i (by simpa using hi)
 is:=λi x hx=>by
  by_cases e:x=a
  ·subst e;exact⟨o',AH.upd_same _ _ _⟩
  ·obtain⟨q,hq⟩:=hh.is i x hx;exact⟨q,by rw[AH.upd_ne _ _ e];exact hq⟩
theorem Fm.write{b:Nat}(_hh:zL ρ h hr){id a:Nat}{o':qA}(hid:ρ id=some (some a)):Fm b ρ hr ρ (hr.upd a o') where
 pres:=λx o h1 h2=>by
  rw[AH.upd_ne _ _ (by rintro rfl;exact h2 id hid)];exact h1
 new:=λi x hx=>.inl ⟨i,hx⟩
 fr:=λx hx=>AH.fr_of hx
 base:=λ_ _=>rfl
theorem zL.move(hh:zL ρ h hr){id a:Nat}{o:qA}(hid:ρ id=some (some a))(ho:h[id]?=some o)(hd:o≠.dead):zL (ρ.ext h.length (some a)) (h.set id .dead++[o]) hr where
 obj:=λi x hx=>by
  by_cases hi:i=h.length
  ·subst hi;rw[gAr (by simp)]at hx;simp only[lLs,nSs,List.getElem?_cons_zero,oSi]at hx;subst hx;have hk:=(hh.obj id o ho).mono (Ren.ext_le (x:=some a) hh.none_at) λa' o'' _ h2=>h2;have e:ρ.ext h.length (some a) id=some (some a):=by rw[Ren.ext_ne _ _ (Nat.ne_of_lt (ZA ho))];exact hid
   cases o with
   | dead=>trivial
   | row w el rw'=>
    rcases hk with⟨q,_⟩ | ⟨i',el',q1,q2,q3⟩
    ·rw[e]at q;cases q
    ·rw[e]at q1;cases q1;exact .inr ⟨a,el',Ren.ext_same _ _ _,q2,q3⟩
   | map es=>
    obtain⟨i',es',q1,q2,q3⟩:=hk;rw[e]at q1;cases q1;exact⟨a,es',Ren.ext_same _ _ _,q2,q3⟩
  ·have hlt:i<(h.set id .dead).length:=by
    have:=ZA hx;simp only[lAp,lCo,lNi,lLs]at this|-;omega
   rw[gAl hlt]at hx;exact((hh.giveUp id).obj i x hx).mono (Ren.ext_le hh.none_at) λa' o'' _ h2=>h2
 inj:=λi j x o1 o2 h1 h2 hi hj d1 d2=>by
  have key:∀i o1,(h.set id qA.dead++[o])[i]?=some o1->i≠h.length->o1≠qA.dead->h[i]?=some o1/\i≠id:=λi o1 hi hn hd1=>by
   have:=ZA hi;simp only[lAp,lCo,lNi,lLs]at this;rw[gAl (by simp;omega)]at hi;rcases Ww hi with⟨_,rfl,_⟩ | ⟨q1,q2⟩
   ·exact absurd rfl hd1
   ·exact⟨q2,q1⟩
  by_cases e1:i=h.length<;>by_cases e2:j=h.length
  ·rw[e1,e2]
  ·subst e1;obtain⟨q1,q2⟩:=key _ _ hj e2 d2;rw[Ren.ext_same]at h1;rw[Ren.ext_ne _ _ e2]at h2;cases h1;exact absurd (hh.inj j id a _ _ h2 hid q1 ho d2 hd) q2
  ·subst e2;obtain⟨q1,q2⟩:=key _ _ hi e1 d1;rw[Ren.ext_same]at h2;rw[Ren.ext_ne _ _ e1]at h1;cases h2;exact absurd (hh.inj i id a _ _ h1 hid q1 ho d1 hd) q2
  ·rw[Ren.ext_ne _ _ e1]at h1;rw[Ren.ext_ne _ _ e2]at h2;exact hh.inj i j x _ _ h1 h2 (key _ _ hi e1 d1).1 (key _ _ hj e2 d2).1 d1 d2
 out:=λi hi=>by
  simp only[lAp,lCo,lNi,lLs]at hi;rw[Ren.ext_ne _ _ (by omega)];exact hh.out i (by omega)
 is:=λi x hx=>by
  by_cases e:i=h.length
  ·subst e;rw[Ren.ext_same]at hx;cases hx;exact hh.is id _ hid
  ·rw[Ren.ext_ne _ _ e]at hx;exact hh.is i x hx
theorem Fm.move{b:Nat}(_hh:zL ρ h hr)(hb:b<=h.length){id a:Nat}(hid:ρ id=some (some a)):Fm b ρ hr (ρ.ext h.length (some a)) hr where
 pres:=λx o h1 _=>h1
 new:=λi x hx=>by
  by_cases e:i=h.length
  ·subst e;rw[Ren.ext_same]at hx;cases hx;exact .inl ⟨id,hid⟩
  ·rw[Ren.ext_ne _ _ e]at hx;exact .inl ⟨i,hx⟩
 fr:=λx hx=>hx
 base:=λi hi=>Ren.ext_ne _ _ (by omega)
end
def VSt.put(st:VSt)(d:Option Nat)(v:AV):VSt:={st with s:=wI st.s d v}
def wH(st:VSt)(d:Option Nat)(o:qA)(v:AV)(K:VSt->Prop):Prop:=K {s:=wI st.s d v,l:=st.l,h:=st.h++[o]}
def Ya(w:Nat)(a:AV)(ys:List AV)(d:Option Nat)(st:VSt)(K:VSt->Prop):Prop:=
  match a with
  |.nils=>ys.length<=LIM/\wH st d (.row w ys true) (.slice w st.h.length 0 ys.length false) K
  |.slice w' id off len clip=>w'=w/\len+ys.length<=LIM/\
    (match st.h[id]? with
    | some (.row w2 el true)=>w2=w/\off+len<=el.length/\
      ((off=0/\clip=false/\el.length=len/\wH {st with h:=st.h.set id .dead} d (.row w (el++ys) true) (.slice w st.h.length 0 (len+ys.length) false) K)\/
       (0<ys.length/\clip=false/\wH {st with h:=st.h.set id .dead} d (.row w ((el.drop off).take len++ys) true) (.slice w st.h.length 0 (len+ys.length) false) K)\/
       (0<ys.length/\clip=true/\wH st d (.row w ((el.drop off).take len++ys) true) (.slice w st.h.length 0 (len+ys.length) false) K)\/
       (ys.length=0/\K (st.put d a)))
    | _=>False)
  |.lst w' xs clip=>w'=w/\((xs=[]/\clip=true/\ys.length<=LIM/\wH st d (.row w ys true) (.slice w st.h.length 0 ys.length false) K)\/
      if ys.length=0 then K (st.put d a)else xs.length+ys.length<=LIM/\clip=true/\wH st d (.row w (xs++ys) true) (.slice w st.h.length 0 (xs.length+ys.length) false) K)
  | _=>False
def wB(o:AOp)(d:Option Nat)(st:VSt)(K:VSt->Prop):Prop:=
 match o with
 |.lalloc z=>match d with
  | some t=>K {st with l:=(t,z)::st.l}
  | none=>False
 |.lbox k x=>match d,ev (toE st.s) x with
  | some t,some v=>v.cells.length=k/\K {st with l:=(t,v)::st.l}
  | _,_=>False
 |.lstore t off k x=>match get st.l t,ev (toE st.s) x with
  | some c,some v=>v.cells.length=k/\(match c.put off v with
   | some c'=>K {st with l:=(t,c')::st.l}
   | none=>False)
  | _,_=>False
 |.halloc w z=>wH st d (.row w [z] true) (.ptr st.h.length 0 0) K
 |.hbox w x=>match ev (toE st.s) x with
  | some v=>v.cells.length=w/\wH st d (.row w [v] true) (.ptr st.h.length 0 0) K
  | none=>False
 |.bslice w z n ps=>match jD (toE st.s) w (List.replicate n z) ps with
  | some el=>wH st d (.row w el true) (.slice w st.h.length 0 n false) K
  | none=>False
 |.mksl w z l c=>match ev (toE st.s) l,ev (toE st.s) c with
  | some (.int _ n),some (.int _ m)=>0<=n/\n<=m/\m<=(LIM:Int)/\wH st d (.row w (List.replicate n.toNat z) true) (.slice w st.h.length 0 n.toNat false) K
  | _,_=>False
 |.store k p x=>match ev (toE st.s) p,ev (toE st.s) x with
  | some (.ptr id i j),some v=>v.cells.length=k/\(match st.h[id]? with
   | some (.row w el true)=>(match el[i]? with
    | some e=>(match e.put j v with
     | some e'=>K {st with h:=st.h.set id (.row w (el.set i e') true)}
     | none=>False)
    | none=>False)
   | _=>False)
  | _,_=>False
 |.app w x y=>match ev (toE st.s) x,ev (toE st.s) y with
  | some a,some b=>Jn w b/\(match z7 (toH st.h) b with
   | some ys=>Ya w a ys d st K
   | none=>False)
  | _,_=>False
 |.appx w x y=>match ev (toE st.s) x,ev (toE st.s) y with
  | some (.slice w' id off len false),some b=>w'=w/\Jn w b/\(match z7 (toH st.h) b with
   | some ys=>(match st.h[id]? with
    | some (.row w2 el true)=>w2=w/\off+len+ys.length<=el.length/\0<el.length/\
      wH {st with h:=st.h.set id .dead} d (.row w ((el.drop off).take len++(ys++el.drop (off+len+ys.length))) true) (.slice w st.h.length 0 (len+ys.length) false) K
    | _=>False)
   | none=>False)
  | _,_=>False
 |.slcx w x lo hi=>match ev (toE st.s) x with
  | some (.slice w' id off len false)=>(match st.h[id]? with
   | some (.row _ el _)=>0<el.length/\(match bnd (toE st.s) hi len 0 (el.length-off)with
    | some b=>(match bnd (toE st.s) lo 0 0 b with
     | some a=>w'=w/\K (st.put d (.slice w id (off+a) (b-a) false))
     | none=>False)
    | none=>False)
   | _=>False)
  | _=>False
 |.slcm w x lo hi mx=>match ev (toE st.s) x with
  | some (.slice w' id _ len _)=>(match st.h[id]? with
   | some (.row _ el _)=>0<el.length/\(match bnd (toE st.s) (some mx) 0 0 len with
    | some c=>(match bnd (toE st.s) (some hi) 0 0 c with
     | some b=>(match bnd (toE st.s) (some lo) 0 0 b with
      | some _=>w'=w/\K (st.put d .any)
      | none=>False)
     | none=>False)
    | none=>False)
   | _=>False)
  | _=>False
 |.clear w z x=>match ev (toE st.s) x with
  | some (.slice w' id off len _)=>w'=w/\(match st.h[id]? with
   | some (.row w2 el true)=>w2=w/\off+len<=el.length/\0<el.length/\K {st with h:=st.h.set id (.row w (el.take off++(List.replicate len z++el.drop (off+len))) true)}
   | _=>False)
  | _=>False
 |.mkmap=>wH st d (.map []) (.map st.h.length) K
 |.mupd m k v=>match ev (toE st.s) m,ev (toE st.s) k,ev (toE st.s) v with
  | some (.map id),some k',some v'=>(match st.h[id]? with
   | some (.map es)=>(match we k' es 0 with
    | some (some (i,_))=>K {st with h:=st.h.set id (.map (es.set i (k',v')))}
    | some none=>K {st with h:=st.h.set id (.map (es++[(k',v')]))}
    | none=>False)
   | _=>False)
  | _,_,_=>False
 |.call _ _ |.callv _ _ |.panic _=>False
 | o=>match wo o st with
  | some v=>K (st.put d v)
  | none=>False
section
variable {ρ:Ren} {st:VSt} {sr:St} {b:Nat}
theorem Step.of_val{o:AOp}{d:Option Nat}{st:St}{v:AV}(hv:val o st.s st.l st.h=some v):Step o d st (st.put d v):=by
 cases o<;>first
  | (simp only[val,reduceCtorEq]at hv;done)
  | exact⟨v,hv,rfl⟩
theorem qJ8{w:Nat}{v r:AV}(h:RelV ρ v r)(k:Jn w v):Jn w r:=by
 cases v<;>simp only[RelV]at h
 case slice=>rcases h with⟨_,_,rfl⟩ | ⟨_,_,_,rfl | rfl⟩;exact k;trivial;exact k
 case lst=>rcases h with⟨_,_,rfl,_⟩ | ⟨_,rfl⟩;exact k;trivial
 all_goals first
  | (subst h;exact k)
  | (obtain⟨_,_,rfl⟩:=h;trivial)
  | (obtain⟨_,rfl,_⟩:=h;trivial)
theorem QM{d:Option Nat}{o o':qA}{v:AV}{v':Nat->AV}{K:VSt->Prop}(hS:zY ρ st sr)(hb:b<=st.h.length)(hk:wH st d o v K)
  (ho:∀a,RelO (ρ.ext st.h.length (some a)) st.h.length (sr.h.upd a o') o) (hv:∀a,RelV (ρ.ext st.h.length (some a)) v (v' a)):
  ∃sr' ρ' st',New sr d o' v' sr'/\K st'/\zY ρ' st' sr'/\Fm b ρ sr.h ρ' sr'.h/\b<=st'.h.length:=by
 obtain⟨a,ha⟩:=sr.h.fresh;refine⟨_,ρ.ext st.h.length (some a),_,⟨a,ha,rfl⟩,hk,⟨?_, ?_, ?_⟩,Fm.mkNew hS.h hb ha, ?_⟩
 ·exact(hS.s.mono (Ren.ext_le hS.h.none_at)).put (hv a)
 ·exact hS.l.mono (Ren.ext_le hS.h.none_at)
 ·exact hS.h.new ha (ho a)
 ·simp only[lAp];omega
theorem Qi{w a:Nat}{el el':List AV}(hS:zL ρ st.h sr.h)(h:RelVs ρ el el'):RelO (ρ.ext st.h.length (some a)) st.h.length (sr.h.upd a (.row w el' true)) (.row w el true):=
 .inr ⟨a,el',Ren.ext_same _ _ _,AH.upd_same _ _ _,RelVs.mono (Ren.ext_le hS.none_at) _ _ h⟩
theorem ZO{ρ:Ren}{n a w off len:Nat}{cl:Bool}:RelV (ρ.ext n (some a)) (.slice w n off len cl) (.slice w a off len cl):=by
 simp only[RelV];exact .inl ⟨a,Ren.ext_same _ _ _,rfl⟩
theorem qIZ{ρ:Ren}{n a:Nat}:RelV (ρ.ext n (some a)) (.ptr n 0 0) (.ptr a 0 0):=by
 simp only[RelV];exact⟨a,Ren.ext_same _ _ _,rfl⟩
def qD6(b:Nat)(ρ:Ren)(sr:St)(o:AOp)(d:Option Nat)(K:VSt->Prop):Prop:=
 ∃sr' ρ' st',Step o d sr sr'/\K st'/\zY ρ' st' sr'/\Fm b ρ sr.h ρ' sr'.h/\b<=st'.h.length
theorem Wk{w:Nat}{y c:AV}{ys zs:List AV}{d:Option Nat}{K:VSt->Prop}(hS:zY ρ st sr)(hb:b<=st.h.length)(hc:c=.nils\/c=.lst w [] true)(hy:z7 sr.h y=some zs)(hw:Jn w y)
  (hyz:RelVs ρ ys zs) (h1:ys.length<=LIM) (h2:wH st d (.row w ys true) (.slice w st.h.length 0 ys.length false) K):
  ∃sr' ρ' st',App w c y sr d sr'/\K st'/\zY ρ' st' sr'/\Fm b ρ sr.h ρ' sr'.h/\b<=st'.h.length:=by
 have hlen:=hyz.length;by_cases h0:ys.length=0
 ·have:ys=[]:=lEz h0;subst this;refine⟨sr.put d c,ρ.ext st.h.length none,_,⟨zs,hy,hw, ?_⟩,h2,⟨?_, ?_, ?_⟩,Fm.mkNil hS.h hb, ?_⟩
  ·rcases hc with rfl | rfl
   ·simp only[hlen,lNi,if_true]
   ·simp only[hlen,lNi,if_true,and_self]
  ·refine(hS.s.mono (Ren.ext_le hS.h.none_at)).put ?_;simp[RelV,Ren.ext_same,hc]
  ·exact hS.l.mono (Ren.ext_le hS.h.none_at)
  ·exact hS.h.nil
  ·simp only[lAp];omega
 ·obtain⟨sr',ρ',st',q1,q2⟩:=QM (o':=.row w zs true) (v':=λid=>.slice w id 0 zs.length false) hS hb h2 (λa=>Qi hS.h hyz) (λa=>by rw[hlen];exact ZO);refine⟨sr',ρ',st',⟨zs,hy,hw, ?_⟩,q2⟩;rw[hlen]at q1|-;rcases hc with rfl | rfl
  ·simp only[];rw[iN h0];exact⟨h1,q1⟩
  ·simp only[lNa,lNi,nZa,true_and];rw[iN h0];exact⟨h1,q1⟩
theorem qs0{w:Nat}{y:AV}{a c:AV}{ys zs:List AV}{d:Option Nat}{K:VSt->Prop}(hS:zY ρ st sr)(hb:b<=st.h.length)(ha:RelV ρ a c)(hy:z7 sr.h y=some zs)(hw:Jn w y)
  (hyz:RelVs ρ ys zs) (hk:Ya w a ys d st K):∃sr' ρ' st',App w c y sr d sr'/\K st'/\zY ρ' st' sr'/\Fm b ρ sr.h ρ' sr'.h/\b<=st'.h.length:=by
 have hlen:=hyz.length;unfold Ya at hk;split at hk
 ·--nil
  simp only[RelV]at ha;subst ha;exact Wk hS hb (.inl rfl) hy hw hyz hk.1 hk.2
 ·--a row
  rename_i w' id off len clip;obtain⟨rfl,hlim,hk⟩:=hk;split at hk
  ·rename_i w2 el hid;obtain⟨rfl,hoff,hk⟩:=hk;have hra:=ha;simp only[RelV]at ha;have hob:=hS.h.obj _ _ hid;have hS1:zY ρ {st with h:=st.h.set id .dead} sr:=⟨hS.s,hS.l,hS.h.giveUp id⟩;have hb1:b<=(st.h.set id qA.dead).length:=by rw[lLs];exact hb
   rcases ha with⟨a',ha,rfl⟩ | ⟨ha,rfl,rfl,hc0⟩
   ·rcases hob with⟨q,_⟩ | ⟨i',el',q1,q2,q3⟩
    ·rw[ha]at q;cases q
    rw[ha]at q1;cases q1;have hel:z7 sr.h (.slice w2 a' off len clip)=some ((el'.drop off).take len):=by
     exact Xd q2 (by rw[q3.length];exact hoff)
    have hS2:zY ρ {st with h:=st.h.set id .dead} {sr with h:=sr.h.upd a' .dead}:=⟨hS.s,hS.l,hS.h.write ha hid (by simp) trivial⟩;have hel2:RelVs ρ ((el.drop off).take len++ys) ((el'.drop off).take len++zs):=((q3.drop off).take len).append hyz;have grow:ys.length≠0->clip=false->wH {st with h:=st.h.set id .dead} d (.row w2 ((el.drop off).take len++ys) true) (.slice w2 st.h.length 0 (len+ys.length) false) K->
      ∃sr' ρ' st',App w2 (.slice w2 a' off len clip) y sr d sr'/\K st'/\zY ρ' st' sr'/\Fm b ρ sr.h ρ' sr'.h/\b<=st'.h.length:=by
     clear hk;intro h0 hc hk;subst hc;have e:st.h.length=(st.h.set id qA.dead).length:=by rw[lLs]
     rw[e]at hk;obtain⟨sr',ρ',st',g1,g2,g3,g4,g5⟩:=QM (b:=b) (o':=.row w2 ((el'.drop off).take len++zs) true) (v':=λid=>.slice w2 id 0 (len+zs.length) false) hS2 hb1 hk
      (λa=>Qi hS2.h hel2) (λa=>by rw[hlen];exact ZO)
     refine⟨sr',ρ',st',⟨zs,hy,hw,rfl, ?_⟩,g2,g3,(Fm.write hS.h ha).trans g4,g5⟩;rw[hlen]at g1|-;rw[iN h0];refine⟨hlim,_,hel, ?_⟩;simp only[bFt,if_false];exact⟨⟨_,q2⟩,g1⟩
    rcases hk with⟨rfl,rfl,hl,hk⟩ | ⟨h0,rfl,hk⟩ | ⟨h0,rfl,hk⟩ | ⟨h0,hk⟩
    ·by_cases h0:ys.length=0
     ·have hys:ys=[]:=lEz h0;subst hys;refine⟨sr.put d (.slice w2 a' 0 len false),ρ.ext st.h.length (some a'),_,⟨zs,hy,hw,rfl, ?_⟩,hk,⟨?_, ?_, ?_⟩,Fm.move hS.h hb ha, ?_⟩
      ·simp only[hlen,lNi,if_true]
      ·refine(hS.s.mono (Ren.ext_le hS.h.none_at)).put ?_;simp only[lNi,nAz];exact ZO
      ·exact hS.l.mono (Ren.ext_le hS.h.none_at)
      ·have:=hS.h.move ha hid (by simp);rw[<-lAn el]at this;exact this
      ·simp only[lAp,lLs];omega
     ·refine grow h0 rfl ?_;have:(el.drop 0).take len=el:=by rw[List.drop_zero,<-hl,lTl]
      rw[this];exact hk
    ·exact grow (by omega) rfl hk
    ·obtain⟨sr',ρ',st',g1,g2,g3,g4,g5⟩:=QM (b:=b) (o':=.row w2 ((el'.drop off).take len++zs) true) (v':=λid=>.slice w2 id 0 (len+zs.length) false) hS hb hk
      (λa=>Qi hS.h hel2) (λa=>by rw[hlen];exact ZO)
     refine⟨sr',ρ',st',⟨zs,hy,hw,rfl, ?_⟩,g2,g3,g4,g5⟩;rw[hlen]at g1|-;rw[iN (by omega)];refine⟨hlim,_,hel, ?_⟩;simp only[if_true];exact g1
    ·refine⟨sr.put d (.slice w2 a' off len clip),ρ,_,⟨zs,hy,hw,rfl, ?_⟩,hk,⟨hS.s.put hra,hS.l,hS.h⟩,Fm.refl _ _ _,hb⟩;rw[hlen,iP h0]
   ·have hel:el=[]:=by
     rcases hob with⟨_,q,_⟩ | ⟨i',el',q1,q2,q3⟩
     ·exact q
     ·rw[ha]at q1;cases q1
    subst hel;have e:st.h.length=(st.h.set id qA.dead).length:=by rw[lLs]
    simp only[List.drop_nil,List.take_nil,lNa,nZa]at hk hlim;rcases hk with⟨_,rfl,hl,hk⟩ | ⟨h0,rfl,hk⟩ | ⟨h0,rfl,hk⟩ | ⟨h0,hk⟩
    ·rw[e]at hk;exact Wk hS1 hb1 hc0 hy hw hyz hlim hk
    ·rw[e]at hk;exact Wk hS1 hb1 hc0 hy hw hyz hlim hk
    ·exact Wk hS hb hc0 hy hw hyz hlim hk
    ·refine⟨sr.put d c,ρ,_,⟨zs,hy,hw, ?_⟩,hk,⟨hS.s.put hra,hS.l,hS.h⟩,Fm.refl _ _ _,hb⟩;rcases hc0 with rfl | rfl
     ·simp only[hlen,h0,if_true]
     ·simp only[hlen,h0,if_true,and_self]
  ·exact hk.elim
 ·rename_i w' xs clip;obtain⟨rfl,hk⟩:=hk;have hra:=ha;simp only[RelV]at ha;rcases hk with⟨rfl,rfl,hlim,hk⟩ | hk
  ·refine Wk hS hb ?_ hy hw hyz hlim hk;rcases ha with⟨xs',c',rfl,hc,hx⟩ | ⟨_,rfl⟩
   ·simp only[RelVs]at hx;subst hx;rw[hc rfl];exact .inr rfl
   ·exact .inl rfl
  split at hk
  ·rename_i h0;rcases ha with⟨xs',c',rfl,hc,hx⟩ | ⟨rfl,rfl⟩
   ·refine⟨sr.put d (.lst w' xs' c'),ρ,_,⟨zs,hy,hw,rfl, ?_⟩,hk,⟨hS.s.put hra,hS.l,hS.h⟩,Fm.refl _ _ _,hb⟩;rw[hlen,iP h0]
   ·refine⟨sr.put d .nils,ρ,_,⟨zs,hy,hw, ?_⟩,hk,⟨hS.s.put hra,hS.l,hS.h⟩,Fm.refl _ _ _,hb⟩;simp only[hlen,h0,if_true]
  ·rename_i h0;obtain⟨hlim,rfl,hk⟩:=hk;rcases ha with⟨xs',c',rfl,hc,hx⟩ | ⟨rfl,rfl⟩
   ·obtain⟨sr',ρ',st',g1,g2,g3,g4,g5⟩:=QM (b:=b) (o':=.row w' (xs'++zs) true) (v':=λid=>.slice w' id 0 (xs'.length+zs.length) false) hS hb hk
     (λa=>Qi hS.h (hx.append hyz)) (λa=>by rw[hlen,hx.length];exact ZO)
    refine⟨sr',ρ',st',⟨zs,hy,hw,rfl, ?_⟩,g2,g3,g4,g5⟩;rw[hlen,hx.length]at g1|-;rw[iN h0];exact⟨hlim,hc rfl,g1⟩
   ·simp only[lNa,lNi,nZa]at hk hlim;exact Wk hS hb (.inl rfl) hy hw hyz hlim hk
 ·exact hk.elim
theorem UW{o:AOp}{d:Option Nat}{K:VSt->Prop}(hS:zY ρ st sr)(hb:b<=st.h.length)(ho:o.ok=true)(hk:wB o d st K):qD6 b ρ sr o d K:=by
 have valc:(match wo o st with | some v=>K (st.put d v) | none=>False)->qD6 b ρ sr o d K:=by
  intro hk;split at hk
  ·rename_i v hv;obtain⟨r,h1,h2⟩:=qK8 hS ho hv;exact⟨sr.put d r,ρ,_,Step.of_val h1,hk,⟨hS.s.put h2,hS.l,hS.h⟩,Fm.refl _ _ _,hb⟩
  ·exact hk.elim
 have hs:=hS.s;unfold wB at hk;split at hk
 ·rename_i z;split at hk
  ·rename_i t;exact⟨_,ρ,_,⟨t,rfl,rfl⟩,hk,⟨hS.s,hS.l.cons (Jc z ho),hS.h⟩,Fm.refl _ _ _,hb⟩
  ·exact hk.elim
 ·rename_i k x;split at hk
  ·rename_i t v hv;obtain⟨r,h1,h2⟩:=zP hs ho hv;exact⟨_,ρ,_,⟨t,r,rfl,h1,by rw[h2.cellsLen];exact hk.1,rfl⟩,hk.2,⟨hS.s,hS.l.cons h2,hS.h⟩,Fm.refl _ _ _,hb⟩
  ·exact hk.elim
 ·rename_i t off k x;split at hk
  ·rename_i c v hc hv;obtain⟨h0,hk⟩:=hk;obtain⟨r,h1,h2⟩:=zP hs ho hv;obtain⟨cr,h3,h4⟩:=hS.l t c hc;split at hk
   ·rename_i c' hp;obtain⟨cr',h5,h6⟩:=h4.put h2 hp;exact⟨_,ρ,_,⟨cr,r,cr',h3,h1,by rw[h2.cellsLen];exact h0,h5,rfl⟩,hk,⟨hS.s,hS.l.cons h6,hS.h⟩,Fm.refl _ _ _,hb⟩
   ·exact hk.elim
  ·exact hk.elim
 ·rename_i w z;exact QM hS hb hk (λa=>Qi hS.h (RelVs.one (Jc z ho))) (λa=>qIZ)
 ·rename_i w x;split at hk
  ·rename_i v hv;obtain⟨r,h1,h2⟩:=zP hs ho hv;obtain⟨sr',ρ',st',g1,g2⟩:=QM (o':=.row w [r] true) (v':=λid=>.ptr id 0 0) hS hb hk.2 (λa=>Qi hS.h (RelVs.one h2)) (λa=>qIZ);exact⟨sr',ρ',st',⟨r,h1,by rw[h2.cellsLen];exact hk.1,g1⟩,g2⟩
  ·exact hk.elim
 ·rename_i w z n ps;simp only[AOp.ok,bAt]at ho;split at hk
  ·rename_i el hel;obtain⟨el',h1,h2⟩:=qGB hs ho.2 (RelVs.replicate (Jc z ho.1) n) hel;obtain⟨sr',ρ',st',g1,g2⟩:=QM (o':=.row w el' true) (v':=λid=>.slice w id 0 n false) hS hb hk (λa=>Qi hS.h h2) (λa=>ZO);exact⟨sr',ρ',st',⟨el',h1,g1⟩,g2⟩
  ·exact hk.elim
 ·rename_i w z l c;simp only[AOp.ok,bAt]at ho;split at hk
  ·rename_i k n k' m hl hc;obtain⟨q1,q2,q3,hk⟩:=hk;obtain⟨sr',ρ',st',g1,g2⟩:=QM (o':=.row w (List.replicate n.toNat z) true) (v':=λid=>.slice w id 0 n.toNat false) hS hb hk (λa=>Qi hS.h (RelVs.replicate (Jc z ho.1.1) _)) (λa=>ZO);exact⟨sr',ρ',st',⟨k,k',n,m,JR hs ho.1.2 hl,JR hs ho.2 hc,q1,q2,q3,g1⟩,g2⟩
  ·exact hk.elim
 ·rename_i k p x;simp only[AOp.ok,bAt]at ho;split at hk
  ·rename_i id i j v hp hv;obtain⟨h0,hk⟩:=hk;obtain⟨pr,h1,h2⟩:=zP hs ho.1 hp;obtain⟨r,h3,h4⟩:=zP hs ho.2 hv;simp only[RelV]at h2;obtain⟨a,ha,rfl⟩:=h2;split at hk
   ·rename_i w el hid;split at hk
    ·rename_i e he;split at hk
     ·rename_i e' hp';rcases hS.h.obj _ _ hid with⟨q,_⟩ | ⟨i',el',q1,q2,q3⟩
      ·rw[ha]at q;cases q
      rw[ha]at q1;cases q1;obtain⟨er,g1,g2⟩:=q3.get he;obtain⟨er',g3,g4⟩:=g2.put h4 hp';refine⟨{sr with h:=sr.h.upd a (.row w (el'.set i er') true)},ρ,_,⟨a,i,j,r,w,el',er,er',h1,h3,by rw[h4.cellsLen];exact h0,q2,g1,g3,rfl⟩,hk,⟨hS.s,hS.l, ?_⟩,Fm.write hS.h ha, ?_⟩
      ·exact hS.h.write ha hid (by simp) (.inr ⟨a,_,ha,AH.upd_same _ _ _,q3.set i g4⟩)
      ·rw[lLs];exact hb
     ·exact hk.elim
    ·exact hk.elim
   ·exact hk.elim
  ·exact hk.elim
 ·rename_i w x y;simp only[AOp.ok,bAt]at ho;split at hk
  ·rename_i a c ha hc;obtain⟨ar,h1,h2⟩:=zP hs ho.1 ha;obtain⟨cr,h3,h4⟩:=zP hs ho.2 hc;obtain⟨hw,hk⟩:=hk;split at hk
   ·rename_i ys hys;obtain⟨zs,h5,h6⟩:=qF1 hS.h h4 hys;obtain⟨sr',ρ',st',g1,g2⟩:=qs0 hS hb h2 h5 (qJ8 h4 hw) h6 hk;exact⟨sr',ρ',st',⟨ar,cr,h1,h3,g1⟩,g2⟩
   ·exact hk.elim
  ·exact hk.elim
 ·rename_i w x y;simp only[AOp.ok,bAt]at ho;split at hk
  ·rename_i w' id off len c ha hc;obtain⟨ar,h1,h2⟩:=zP hs ho.1 ha;obtain⟨cr,h3,h4⟩:=zP hs ho.2 hc;obtain⟨rfl,hw,hk⟩:=hk;split at hk
   ·rename_i ys hys;obtain⟨zs,h5,h6⟩:=qF1 hS.h h4 hys;split at hk
    ·rename_i w2 el hid;obtain⟨rfl,hoff,hpos,hk⟩:=hk;simp only[RelV]at h2;have hob:=hS.h.obj _ _ hid;rcases h2 with⟨a,ha',rfl⟩ | ⟨ha',_⟩
     ·rcases hob with⟨q,_⟩ | ⟨i',el',q1,q2,q3⟩
      ·rw[ha']at q;cases q
      rw[ha']at q1;cases q1;have hlen:=h6.length;have hS2:zY ρ {st with h:=st.h.set id .dead} {sr with h:=sr.h.upd a .dead}:=⟨hS.s,hS.l,hS.h.write ha' hid (by simp) trivial⟩;have hb1:b<=(st.h.set id qA.dead).length:=by rw[lLs];exact hb
      have e:st.h.length=(st.h.set id qA.dead).length:=by rw[lLs]
      rw[e]at hk;have hel2:RelVs ρ ((el.drop off).take len++(ys++el.drop (off+len+ys.length))) ((el'.drop off).take len++(zs++el'.drop (off+len+zs.length))):=by
       rw[hlen];exact((q3.drop off).take len).append (h6.append (q3.drop _))
      obtain⟨sr',ρ',st',g1,g2,g3,g4,g5⟩:=QM (b:=b) (o':=.row w2 ((el'.drop off).take len++(zs++el'.drop (off+len+zs.length))) true) (v':=λid=>.slice w2 id 0 (len+zs.length) false) hS2 hb1 hk
       (λa=>Qi hS2.h hel2) (λa=>by rw[hlen];exact ZO)
      exact⟨sr',ρ',st',⟨_,cr,h1,h3,zs,a,off,len,el',h5,qJ8 h4 hw,rfl,q2,by rw[hlen,q3.length];exact hoff,g1⟩,g2,g3,(Fm.write hS.h ha').trans g4,g5⟩
     ·rcases hob with⟨_,q,_⟩ | ⟨i',el',q1,q2,q3⟩
      ·subst q;simp at hpos
      ·rw[ha']at q1;cases q1
    ·exact hk.elim
   ·exact hk.elim
  ·exact hk.elim
 ·rename_i w x lo hi;simp only[AOp.ok,bAt]at ho;split at hk
  ·rename_i w' id off len ha;obtain⟨ar,h1,h2⟩:=zP hs ho.1.1 ha;split at hk
   ·rename_i w2 el rw' hid;obtain⟨hpos,hk⟩:=hk;split at hk
    ·rename_i n2 hb2;split at hk
     ·rename_i n1 hb1;obtain⟨rfl,hk⟩:=hk;simp only[RelV]at h2;have hob:=hS.h.obj _ _ hid;rcases h2 with⟨a,ha',rfl⟩ | ⟨ha',_⟩
      ·rcases hob with⟨q,_⟩ | ⟨i',el',q1,q2,q3⟩
       ·rw[ha']at q;cases q
       rw[ha']at q1;cases q1;have hb2':=j0 hs ho.2 hb2;have hb1':=j0 hs ho.1.2 hb1;rw[<-q3.length]at hb2';refine⟨sr.put d (.slice w' a (off+n1) (n2-n1) false),ρ,_,Step.of_val (by simp only[val,h1,q2,hb2',hb1',if_true]),hk,⟨hS.s.put ?_,hS.l,hS.h⟩,Fm.refl _ _ _,hb⟩;simp only[RelV];exact .inl ⟨a,ha',rfl⟩
      ·rcases hob with⟨_,q,_⟩ | ⟨i',el',q1,q2,q3⟩
       ·subst q;simp at hpos
       ·rw[ha']at q1;cases q1
     ·exact hk.elim
    ·exact hk.elim
   ·exact hk.elim
  ·exact hk.elim
 ·rename_i w x lo hi mx;simp only[AOp.ok,bAt]at ho;split at hk
  ·rename_i w' id off len cl ha;obtain⟨ar,h1,h2⟩:=zP hs ho.1.1.1 ha;split at hk
   ·rename_i w2 el rw' hid;obtain⟨hpos,hk⟩:=hk;split at hk
    ·rename_i n3 hb3;split at hk
     ·rename_i n2 hb2;split at hk
      ·rename_i n1 hb1;obtain⟨rfl,hk⟩:=hk;simp only[RelV]at h2;have hob:=hS.h.obj _ _ hid;rcases h2 with⟨a,ha',rfl⟩ | ⟨ha',_⟩
       ·have hb3':=j0 (x:=some mx) hs ho.2 hb3;have hb2':=j0 (x:=some hi) hs ho.1.2 hb2;have hb1':=j0 (x:=some lo) hs ho.1.1.2 hb1;exact⟨sr.put d .any,ρ,_,Step.of_val (by simp only[val,h1,hb3',hb2',hb1',if_true]),hk,⟨hS.s.put (by simp only[RelV]),hS.l,hS.h⟩,Fm.refl _ _ _,hb⟩
       ·rcases hob with⟨_,q,_⟩ | ⟨i',el',q1,q2,q3⟩
        ·subst q;simp at hpos
        ·rw[ha']at q1;cases q1
      ·exact hk.elim
     ·exact hk.elim
    ·exact hk.elim
   ·exact hk.elim
  ·exact hk.elim
 ·rename_i w z x;simp only[AOp.ok,bAt]at ho;split at hk
  ·rename_i w' id off len cl ha;obtain⟨ar,h1,h2⟩:=zP hs ho.2 ha;obtain⟨rfl,hk⟩:=hk;split at hk
   ·rename_i w2 el hid;obtain⟨rfl,hoff,hpos,hk⟩:=hk;simp only[RelV]at h2;have hob:=hS.h.obj _ _ hid;rcases h2 with⟨a,ha',rfl⟩ | ⟨ha',_⟩
    ·rcases hob with⟨q,_⟩ | ⟨i',el',q1,q2,q3⟩
     ·rw[ha']at q;cases q
     rw[ha']at q1;cases q1;have hel:z7 sr.h (.slice w2 a off len cl)=some ((el'.drop off).take len):=Xd q2 (by rw[q3.length];exact hoff);refine⟨{sr with h:=sr.h.upd a (.row w2 (el'.take off++(List.replicate len z++el'.drop (off+len))) true)},ρ,_,⟨_,_,h1,hel,rfl,el',q2,rfl⟩,hk,⟨hS.s,hS.l, ?_⟩,Fm.write hS.h ha', ?_⟩
     ·exact hS.h.write ha' hid (by simp) (.inr ⟨a,_,ha',AH.upd_same _ _ _,(q3.take off).append ((RelVs.replicate (Jc z ho.1) len).append (q3.drop _))⟩)
     ·rw[lLs];exact hb
    ·rcases hob with⟨_,q,_⟩ | ⟨i',el',q1,q2,q3⟩
     ·subst q;simp at hpos
     ·rw[ha']at q1;cases q1
   ·exact hk.elim
  ·exact hk.elim
 ·exact QM (o':=.map []) (v':=.map) hS hb hk (λa=>⟨a,[],Ren.ext_same _ _ _,AH.upd_same _ _ _,by simp[RelEs,RelVs]⟩) (λa=>by simp only[RelV];exact⟨a,Ren.ext_same _ _ _,rfl⟩)
 ·rename_i m k v;simp only[AOp.ok,bAt]at ho;split at hk
  ·rename_i id k' v' hm hkk hv;obtain⟨mr,h1,h2⟩:=zP hs ho.1.1 hm;obtain⟨kr,h3,h4⟩:=zP hs ho.1.2 hkk;obtain⟨vr,h5,h6⟩:=zP hs ho.2 hv;simp only[RelV]at h2;obtain⟨a,ha,rfl⟩:=h2;split at hk
   ·rename_i es hid;obtain⟨i',es',q1,q2,q3⟩:=hS.h.obj _ _ hid;rw[ha]at q1;cases q1;split at hk
    ·rename_i i v0 hf;rcases Xh h4 q3 hf with⟨q,_⟩ | ⟨i2,v2,v3,g1,g2,g3⟩
     ·cases q
     cases g1;refine⟨{sr with h:=sr.h.upd a (.map (es'.set i (kr,vr)))},ρ,_,⟨a,kr,vr,es',h1,h3,h5,q2, ?_⟩,hk,⟨hS.s,hS.l,hS.h.write ha hid (by simp) ⟨a,_,ha,AH.upd_same _ _ _, ?_⟩⟩,Fm.write hS.h ha, ?_⟩
     ·rw[g2]
     ·constructor
      ·rw[List.map_set,List.map_set];exact q3.1.set i h4
      ·rw[List.map_set,List.map_set];exact q3.2.set i h6
     ·rw[lLs];exact hb
    ·rename_i hf;rcases Xh h4 q3 hf with⟨_,q⟩ | ⟨i2,v2,v3,g1,_⟩
     ·refine⟨{sr with h:=sr.h.upd a (.map (es'++[(kr,vr)]))},ρ,_,⟨a,kr,vr,es',h1,h3,h5,q2, ?_⟩,hk,⟨hS.s,hS.l,hS.h.write ha hid (by simp) ⟨a,_,ha,AH.upd_same _ _ _, ?_⟩⟩,Fm.write hS.h ha, ?_⟩
      ·rw[q]
      ·constructor
       ·rw[lMa,lMa];exact q3.1.append (RelVs.one h4)
       ·rw[lMa,lMa];exact q3.2.append (RelVs.one h6)
      ·rw[lLs];exact hb
     ·cases g1
    ·exact hk.elim
   ·exact hk.elim
  ·exact hk.elim
 all_goals first
  | exact hk.elim
  | exact valc hk
end
structure LF where
 d:Nat
 g:Option (Nat×Bool)
 sh:Option Nat
 p:Nat
def onEq:Option Nat->Option Nat->Bool
 | none,none=>true
 | some a,some b=>Nat.beq a b
 | _,_=>false
def gEqX:Option (Nat×Bool)->Option (Nat×Bool)->Bool
 | none,none=>true
 | some (a,true),some (b,true)=>Nat.beq a b
 | some (a,false),some (b,false)=>Nat.beq a b
 | _,_=>false
def LF.eq(a b:LF):Bool:=Nat.beq a.d b.d&&gEqX a.g b.g&&onEq a.sh b.sh&&Nat.beq a.p b.p
theorem qp5{a b:Option Nat}(h:onEq a b=true):a=b:=by
 unfold onEq at h;split at h
 ·rfl
 ·rw[Nat.eq_of_beq_eq_true h]
 ·cases h
theorem qnM{a b:Option (Nat×Bool)}(h:gEqX a b=true):a=b:=by
 unfold gEqX at h;split at h
 ·rfl
 ·rw[Nat.eq_of_beq_eq_true h]
 ·rw[Nat.eq_of_beq_eq_true h]
 ·cases h
theorem LF.eq_eq{a b:LF}(h:a.eq b=true):a=b:=by
 cases a;cases b;simp only[LF.eq,bAt]at h;obtain⟨⟨⟨h1,h2⟩,h3⟩,h4⟩:=h;rw[Nat.eq_of_beq_eq_true h1,qnM h2,qp5 h3,Nat.eq_of_beq_eq_true h4]
def Qe(c:qG):Option LF:=match c.d,c.o with
 | some d,.load sh (.t p)=>some ⟨d,c.g,sh,p⟩
 | _,_=>none
def LF.keeps(f:LF)(d:Option Nat):Bool:=match d with
 | none=>true
 | some d=> !Nat.beq d f.d&& !Nat.beq d f.p&&(match f.g with | some (n,_)=> !Nat.beq d n | none=>true)
def LF.own(f:LF):Bool:= !Nat.beq f.d f.p&&(match f.g with | some (n,_)=> !Nat.beq f.d n | none=>true)
def AOp.isCall:AOp->Bool
 |.call _ _ |.callv _ _=>true
 | _=>false
def AOp.isApp:AOp->Bool
 |.app _ _ _=>true
 | _=>false
def AOp.isLoc:AOp->Bool
 |.lalloc _ |.lbox _ _ |.lstore _ _ _ _=>true
 | _=>false
def AOp.isNew:AOp->Bool
 |.halloc _ _ |.hbox _ _ |.bslice _ _ _ _=>true
 | _=>false
def qG.apC(c:qG):Bool:=c.o.isApp&& !c.ck.isEmpty
def AOp.quiet:AOp->Bool
 |.mov _ |.pick _ _ _ |.build _ _ |.lload _ _ _ |.load _ _ |.nilchk _ |.bin _ _ _ |.beq _ _ _ |.seq _ _ _ _ |.isnil _ _ _ |.not _ |.conv _ _ |.slc _ _ _ _ _ |.faddr _ _ |.iaddr _ _ _ |.aidx _ _ _ _ _ |.ext _ _ |.mkfn _ _ |.len _ |.mlen _ |.max _ _ |.min _ _ |.look _ _ _ _ |.nop _=>true
 | _=>false
def XM(c:qG)(F:List LF):List LF:=match Qe c with
 | some f=>if f.own then f::F else F
 | none=>F
def wt(ck:List qG)(f:LF):Bool:=ck.any λk=>match Qe k with | some f'=>LF.eq f' f | none=>false
def QT:List LF->List qG->Bool
 | _,[]=>true
 | F,c::l=>
  let F':=F.filter λf=>f.keeps c.d
  (c.ck.isEmpty || ((c.o.isCall || c.o.isApp)&&c.ck.all λk=>match Qe k with | some f=>F'.any (LF.eq f) | none=>false))&&
   QT (if c.o.isCall then(if c.ck.isEmpty then []else F'.filter (wt c.ck))else if c.apC then F'.filter (wt c.ck)else if c.o.quiet then XM c F' else if c.o.isLoc then F' else if c.o.isNew then F' else []) l
mutual
def qP.ok:qP->Bool
 |.skip |.exit _ |.ret=>true
 |.reg _ l=>(l.all λc=>c.o.ok)&&QT [] l
 |.seq a b=>a.ok&&b.ok
 |.cond c a b=>c.ok&&a.ok&&b.ok
 |.blk _ a |.loop a=>a.ok
end
def SCall(Γ:Nat->Option AFn)(g:Nat)(vs:List AV)(h:List qA)(K:AV->List qA->Prop):Prop:=
 ∀ρ hr ar,zL ρ h hr->RelVs ρ vs ar->∃k r hr' ρ' v h',Ex Γ k (.call g ar hr) (.res (.ok r) hr')/\K v h'/\zL ρ' h' hr'/\RelV ρ' v r/\Fm h.length ρ hr ρ' hr'/\h.length<=h'.length
def SCallK(Γ:Nat->Option AFn)(g:Nat)(vs:List AV)(h:List qA)(K:AV->List qA->Prop):Prop:=
 ∀ρ hr ar,zL ρ h hr->RelVs ρ vs ar->∃k r hr' ρ' v h',Ex Γ k (.call g ar hr) (.res (.ok r) hr')/\K v h'/\zL ρ' h' hr'/\RelV ρ' v r/\Fm h.length ρ hr ρ' hr'/\h.length<=h'.length/\∀a o,hr a=some o->hr' a=some o
def SCallP(Γ:Nat->Option AFn)(g:Nat)(vs:List AV)(h:List qA)(K:AV->Prop):Prop:=
 ∀ρ hr ar,zL ρ h hr->RelVs ρ vs ar->∃k r hr' v,Ex Γ k (.call g ar hr) (.res (.ok r) hr')/\hr'.f=hr.f/\(∀a,hr'.fr a->hr.fr a)/\K v/\RelV ρ v r
inductive Fr1 where
 | code (c:qP)
 | ops (l:List qG)
 | blk (n:Nat)
structure Ev where
 Γ:Nat->Option AFn
 b:Nat
 fz:List Nat
 bp:List Nat
def QY(n:Nat)(st:VSt):VSt:=match get st.s n with
 | some (.ptr id 0 0)=>(match st.h[id]? with
  | some (.row w [v] true)=>if 0<w then{s:=(n,.ept v 0)::st.s,l:=st.l,h:=st.h.set id .dead}else st
  | _=>st)
 | some (.slice w id 0 len c)=>(match st.h[id]? with
  | some (.row w' el true)=>if 0<w/\w'=w/\el.length=len then{s:=(n,.lst w el c)::st.s,l:=st.l,h:=st.h.set id .dead}else st
  | _=>st)
 | _=>st
def QZ:List Nat->VSt->VSt
 |[],st=>st
 | n::r,st=>QZ r (QY n st)
mutual
def qP.sz:qP->Nat
 |.skip=>1
 |.reg _ l=>2+l.length
 |.seq a b=>1+a.sz+b.sz
 |.cond _ a b=>1+a.sz+b.sz
 |.blk _ a=>2+a.sz
 |.loop _=>1
 |.exit _=>1
 |.ret=>1
end
def Fr1.sz:Fr1->Nat
 |.code c=>c.sz
 |.ops l=>1+l.length
 |.blk _=>1
def szF:List Fr1->Nat
 |[]=>0
 | f::r=>f.sz+szF r
def exK:qn->List Fr1->Option (List Fr1)
 | _,[]=>none
 |.exit m,.blk n::ks=>if m=n then some ks else exK (.exit m) ks
 | e,_::ks=>exK e ks
theorem Q2:∀{e:qn}{ks ks':List Fr1},exK e ks=some ks'->szF ks'<szF ks
 | e,[],ks',h=>by cases e<;>simp[exK]at h
 |.exit m,.blk n::ks,ks',h=>by
  simp only[exK]at h;split at h
  ·cases h;simp only[szF,Fr1.sz];omega
  ·have:=Q2 h;simp only[szF,Fr1.sz];omega
 |.exit m,.code c::ks,ks',h=>by have:=Q2 (e:=.exit m) (ks:=ks) (by simpa only [exK]using h);simp only[szF];omega
 |.exit m,.ops c::ks,ks',h=>by have:=Q2 (e:=.exit m) (ks:=ks) (by simpa only [exK]using h);simp only[szF];omega
 |.nrm,f::ks,ks',h=>by have:=Q2 (e:=.nrm) (ks:=ks) (by simpa only [exK]using h);simp only[szF];omega
 |.ret,f::ks,ks',h=>by have:=Q2 (e:=.ret) (ks:=ks) (by simpa only [exK]using h);simp only[szF];omega
 |.pan v,f::ks,ks',h=>by have:=Q2 (e:=.pan v) (ks:=ks) (by simpa only [exK]using h);simp only[szF];omega
inductive ExF(Γ:Nat->Option AFn):Nat->List Fr1->St->qn->St->Prop
 | nil {k s}:ExF Γ k [] s .nrm s
 | code {k c ks s s1 e s2} (h:Ex Γ k (.code c s) (.st .nrm s1)) (h':ExF Γ k ks s1 e s2):ExF Γ k (.code c::ks) s e s2
 | codeX {k c ks ks' s s1 e e1 s2} (h:Ex Γ k (.code c s) (.st e1 s1)) (he:e1≠.nrm) (hx:exK e1 ks=some ks') (h':ExF Γ k ks' s1 e s2):ExF Γ k (.code c::ks) s e s2
 | codeE {k c ks s s1 e1} (h:Ex Γ k (.code c s) (.st e1 s1)) (he:e1≠.nrm) (hx:exK e1 ks=none):ExF Γ k (.code c::ks) s e1 s1
 | ops {k l ks s s1 e s2} (h:Ex Γ k (.ops l s) (.st .nrm s1)) (h':ExF Γ k ks s1 e s2):ExF Γ k (.ops l::ks) s e s2
 | blk {k n ks s e s2} (h':ExF Γ k ks s e s2):ExF Γ k (.blk n::ks) s e s2
def Sem(E:Ev)(ks:List Fr1)(st:VSt)(Q:qn->VSt->Prop):Prop:=
 ∀ρ sr,zY ρ st sr->E.b<=st.h.length->∃k e sr' ρ' st',ExF E.Γ k ks sr e sr'/\Q e st'/\zY ρ' st' sr'/\Fm E.b ρ sr.h ρ' sr'.h/\E.b<=st'.h.length
def qGD:List qG->Nat
 | c::_=>c.d.getD 0
 |[]=>0
def AV.flat:List AV->Prop
 |[]=>True
 |.int _ _::r=>AV.flat r
 | _=>False
def AV.rigid:AV->Prop
 |.agg cs=>AV.flat cs
 |.ptr _ _ _ |.map _ |.bool _ |.int _ _ |.str _ |.nilp |.nils |.nilm |.nilf |.nili=>True
 |.slice _ _ off len _=>¬(off=0/\len=0)
 | _=>False
def ckV(st:VSt)(k:qG):Prop:=match Qe k with
 | some f=>f.g=none/\∃v,get st.s f.d=some v/\wo (.load f.sh (.t f.p)) st=some v/\v.rigid
 | none=>False
def ckVs(st:VSt):List qG->Prop
 |[]=>True
 | c::l=>ckV st c/\ckVs st l
def qK7(E:Ev)(o:AOp)(ck:List qG)(d:Option Nat)(st:VSt)(K:VSt->Prop):Prop:=
 match jC (toE st.s) o with
 | some (g,vs)=>match ck with
  |[]=>SCall E.Γ g vs st.h (λv h'=>K {s:=wI st.s d v,l:=st.l,h:=h'})
  | c::l=>SCallK E.Γ g vs st.h (λv h'=>K {s:=wI st.s d v,l:=st.l,h:=h'})\/SCall E.Γ g vs st.h (λv h'=>ckVs {s:=wI st.s d v,l:=st.l,h:=h'} (c::l)/\K {s:=wI st.s d v,l:=st.l,h:=h'})
 | none=>False
def ckE(s:qt)(k:qG):Bool:=match Qe k with
 | some f=>(match get s f.p with | some (.ept _ _)=>true | _=>false)
 | none=>false
def qDL(c:AOp)(ck:List qG)(d:Option Nat)(st:VSt)(K:VSt->Prop):Prop:=match c with
 |.app w x y=>(match ev (toE st.s) x with
  | some (.lst w' [] true)=>w'=w/\wB (.app w x y) d st K
  | some (.slice _ _ _ _ _)=>(ck.all (ckE st.s))=true/\wB (.app w x y) d st K
  | _=>False)\/wB (.app w x y) d st (λst'=>ckVs st' ck/\K st')
 | _=>False
def wJ(E:Ev)(c:qG)(st:VSt)(K:VSt->Prop):Prop:=if c.o.isCall then qK7 E c.o c.ck c.d st K else if c.apC then qDL c.o c.ck c.d st K else wB c.o c.d st K
def qDM(E:Ev)(c:qG)(st:VSt)(K:VSt->Prop):Prop:=
 match c.g with
 | none=>wJ E c st K
 | some (n,t)=>match get st.s n with
  | some (.bool c')=>if c'=t then wJ E c st K else K (st.put c.d .undef)
  | some (.tup [])=>K (st.put c.d .undef)
  | _=>False
def R(E:Ev)(ks:List Fr1)(st:VSt)(Q:qn->VSt->Prop):Prop:=
 match ks with
 |[]=>Q .nrm st
 |.blk _::ks=>R E ks st Q
 |.ops []::ks=>R E ks st Q
 |.ops (c::l)::ks=>qDM E c st λst'=>R E (.ops l::ks) st' Q
 |.code .skip::ks=>R E ks st Q
 |.code (.reg p l)::ks=>if E.bp.contains (qGD l)then Sem E (.code (.reg p l)::ks) st Q else R E (.ops l::ks) (QZ E.fz st) Q
 |.code (.seq a b)::ks=>R E (.code a::.code b::ks) st Q
 |.code (.cond c a b)::ks=>match ev (toE st.s) c with
  | some (.bool t)=>if t=true then R E (.code a::ks) st Q else R E (.code b::ks) st Q
  | _=>False
 |.code (.blk n a)::ks=>R E (.code a::.blk n::ks) st Q
 |.code (.loop a)::ks=>Sem E (.code (.loop a)::ks) st Q
 |.code (.exit n)::ks=>(match h:exK (.exit n) ks with
  | some ks'=>R E ks' st Q
  | none=>Q (.exit n) st)
 |.code .ret::ks=>(match h:exK .ret ks with
  | some ks'=>R E ks' st Q
  | none=>Q .ret st)
termination_by szF ks
decreasing_by
 all_goals simp only[szF,Fr1.sz,qP.sz,lCo,lNi]
 all_goals first
  | omega
  | (have:=Q2 h;omega)
theorem ExF.le{Γ:Nat->Option AFn}{k:Nat}{ks:List Fr1}{s s':St}{e:qn}(h:ExF Γ k ks s e s'):∀{k'},k<=k'->ExF Γ k' ks s e s':=by
 induction h with
 | nil=>exact λ_=>.nil
 | code h _ ih=>exact λhk=>.code (h.le hk) (ih hk)
 | codeX h he hx _ ih=>exact λhk=>.codeX (h.le hk) he hx (ih hk)
 | codeE h he hx=>exact λhk=>.codeE (h.le hk) he hx
 | ops h _ ih=>exact λhk=>.ops (h.le hk) (ih hk)
 | blk _ ih=>exact λhk=>.blk (ih hk)
theorem Y6{e:qn}{c:qP}{ks:List Fr1}:exK e (.code c::ks)=exK e ks:=by cases e<;>rfl
theorem Q1:∀ks,exK .ret ks=none
 |[]=>rfl
 |.code _::ks=>by rw[Y6];exact Q1 ks
 |.ops _::ks=>Q1 ks
 |.blk _::ks=>Q1 ks
theorem ExF.seq{Γ:Nat->Option AFn}{k:Nat}{a b:qP}{ks:List Fr1}{s s':St}{e:qn}(h:ExF Γ k (.code a::.code b::ks) s e s'):ExF Γ k (.code (.seq a b)::ks) s e s':=by
 cases h with
 | code ha h'=>
  cases h' with
  | code hb h'=>exact .code (.seqN ha hb) h'
  | codeX hb he hx h'=>exact .codeX (.seqN ha hb) he hx h'
  | codeE hb he hx=>exact .codeE (.seqN ha hb) he hx
 | codeX ha he hx h'=>rw[Y6]at hx;exact .codeX (.seqX ha he) he hx h'
 | codeE ha he hx=>rw[Y6]at hx;exact .codeE (.seqX ha he) he hx
theorem ExF.blkC{Γ:Nat->Option AFn}{k n:Nat}{a:qP}{ks:List Fr1}{s s':St}{e:qn}(h:ExF Γ k (.code a::.blk n::ks) s e s'):ExF Γ k (.code (.blk n a)::ks) s e s':=by
 cases h with
 | code ha h'=>
  cases h' with
  | blk h'=>exact .code (.blk ha) h'
 | codeX ha he hx h'=>
  rename_i ks' s1 e1;cases e1 with
  | nrm=>exact absurd rfl he
  | exit m=>
   simp only[exK]at hx;split at hx
   ·rename_i hm;cases hx;have:=Ex.blk (n:=n) ha;simp only[ZZ,iP hm]at this;exact .code this h'
   ·rename_i hm;have:=Ex.blk (n:=n) ha;simp only[ZZ,iN hm]at this;exact .codeX this (by simp) hx h'
  | ret=>rw[Q1]at hx;cases hx
  | pan v=>exact .codeX (.blk ha) (by simp[ZZ]) hx h'
 | codeE ha he hx=>
  cases e with
  | nrm=>exact absurd rfl he
  | exit m=>
   simp only[exK]at hx;split at hx
   ·cases hx
   ·rename_i hm;have:=Ex.blk (n:=n) ha;simp only[ZZ,iN hm]at this;exact .codeE this (by simp) hx
  | ret=>exact .codeE (.blk ha) (by simp[]) (Q1 _)
  | pan v=>exact .codeE (.blk ha) (by simp[]) hx
def LFok(sr:St)(f:LF):Prop:=Again sr (.mk 0 (some f.d) f.g (.load f.sh (.t f.p)) [])
section
variable {E:Ev} {ρ:Ren} {st:VSt} {sr:St}
theorem VT{s:Env}{d:Option Nat}{v:AV}{n:Nat}(h:∀e,d=some e->e≠n):lk (jm s d v) n=lk s n:=by
 cases d with
 | none=>rfl
 | some e=>show lk (s.set e v) n=_;rw[wh,iN (h e rfl)]
theorem qKX{s:Env}{d:Option Nat}{v:AV}{g:Option (Nat×Bool)}(h:∀e,d=some e->∀n t,g=some (n,t)->e≠n):zT (jm s d v) g=zT s g:=by
 cases g with
 | none=>rfl
 | some p=>
  obtain⟨n,t⟩:=p;simp only[zT,VT (v:=v) (s:=s) (λe he=>h e he n t rfl)]
theorem qoB{f:LF}{d:Option Nat}(h:f.keeps d=true):∀e,d=some e->e≠f.d/\e≠f.p/\∀n t,f.g=some (n,t)->e≠n:=by
 rintro e rfl;simp only[LF.keeps,bAt,bNt]at h;obtain⟨⟨h1,h2⟩,h3⟩:=h;have ne:∀{a b:Nat},Nat.beq a b=false->a≠b:=λ{a b} q r=>by subst r;rw[Nat.beq_refl]at q;cases q
 refine⟨ne h1,ne h2,λn t hg=>?_⟩;rw[hg]at h3;simp only[bNt]at h3;exact ne h3
theorem LFok.put{f:LF}{d:Option Nat}{v:AV}(hk:f.keeps d=true)(h:LFok sr f):LFok (sr.put d v) f:=by
 have hn:=qoB hk;unfold LFok Again at h|-;simp only[qG.g,qG.d,qG.o]at h|-;have hw:zT (sr.put d v).s f.g=zT sr.s f.g:=qKX λe he n t hg=>(hn e he).2.2 n t hg;rw[hw];split at h
 ·obtain⟨d',v',h1,h2,h3⟩:=h;refine⟨d',v',h1, ?_, ?_⟩
  ·cases h1;show lk (jm sr.s d v) f.d=_;rw[VT λe he=>(hn e he).1];exact h2
  ·rw[<-h3];have:ev (sr.put d v).s (.t f.p)=ev sr.s (.t f.p):=VT λe he=>(hn e he).2.1;simp only[val,this];rfl
 ·trivial
 ·exact h.elim
theorem LFok.heap{f:LF}{hr':AH}(he:∀a o,sr.h a=some o->hr' a=some o)(h:LFok sr f):LFok {sr with h:=hr'} f:=by
 unfold LFok Again at h|-;simp only[qG.g,qG.d,qG.o]at h|-;split at h
 ·obtain⟨d',v',h1,h2,h3⟩:=h;refine⟨d',v',h1,h2, ?_⟩;simp only[val]at h3|-;split at h3
  ·rename_i id i j hp;cases hq:sr.h id with
   | none=>simp[hq]at h3
   | some o=>rw[he _ _ hq];simpa[hq]using h3
  ·rename_i x j hp;exact h3
  ·cases h3
 ·trivial
 ·exact h.elim
theorem LFok.loc{f:LF}{sr1:St}(e1:sr1.s=sr.s)(e2:sr1.h=sr.h)(h:LFok sr f):LFok sr1 f:=by
 unfold LFok Again at h|-;simp only[qG.g,qG.d,qG.o,val]at h|-;rw[e1,e2];exact h
theorem Step.loc{o:AOp}{d:Option Nat}{sr1:St}(hs:Step o d sr sr1)(hl:o.isLoc=true):sr1.s=sr.s/\sr1.h=sr.h:=by
 cases o<;>first
  | (cases hl;done)
  | (obtain⟨_,_,rfl⟩:=hs;exact⟨rfl,rfl⟩)
  | (obtain⟨_,_,_,_,_,rfl⟩:=hs;exact⟨rfl,rfl⟩)
  | (obtain⟨_,_,_,_,_,_,_,rfl⟩:=hs;exact⟨rfl,rfl⟩)
theorem LFok.upd{f:LF}{id:Nat}{o:qA}(hn:sr.h id=none)(h:LFok sr f):LFok {sr with h:=sr.h.upd id o} f:=by
 unfold LFok Again at h|-;simp only[qG.g,qG.d,qG.o]at h|-;split at h
 ·obtain⟨d',v',h1,h2,h3⟩:=h;exact⟨d',v',h1,h2,YV hn h3⟩
 ·trivial
 ·exact h.elim
theorem LFok.app{f:LF}{w:Nat}{x y:Ao}{d:Option Nat}{sr1:St}{r:AV}(hs:Step (.app w x y) d sr sr1)(hx:ev sr.s x=some r)(hr:RelV ρ (.lst w [] true) r)(hk:f.keeps d=true)(h:LFok sr f):LFok sr1 f:=by
 obtain⟨a,b,h1,h2,ys,h3,h4,h5⟩:=hs;rw[hx]at h1;cases h1;have new:∀{o:qA}{v:Nat->AV},New sr d o v sr1->LFok sr1 f:=by
  rintro o v ⟨id,hid,rfl⟩;exact LFok.put hk (LFok.upd hid.1 h)
 simp only[RelV,RelVs]at hr;rcases hr with⟨_,c,rfl,_,rfl⟩ | ⟨_,rfl⟩
 ·obtain⟨_,h5⟩:=h5;split at h5
  ·rw[h5];exact LFok.put hk h
  ·exact new h5.2.2
 ·replace h5:if ys.length=0 then sr1=sr.put d .nils else ys.length<=LIM/\New sr d (.row w ys true) (λid=>.slice w id 0 ys.length false) sr1:=h5;split at h5
  ·rw[h5];exact LFok.put hk h
  ·exact new h5.2
theorem Step.app_s{w:Nat}{x y:Ao}{d:Option Nat}{sr1:St}(hs:Step (.app w x y) d sr sr1):∃v h',sr1={sr with h:=h'}.put d v:=by
 obtain⟨a,b,h1,h2,ys,h3,h4,h5⟩:=hs;have new:∀{o:qA}{v:Nat->AV}{h0:AH},New {sr with h:=h0} d o v sr1->∃v h',sr1={sr with h:=h'}.put d v:=by
  rintro o v h0 ⟨id,hid,rfl⟩;exact⟨v id,h0.upd id o,rfl⟩
 have stay:∀{v:AV},sr1=sr.put d v->∃v h',sr1={sr with h:=h'}.put d v:=λ{v} e=>⟨v,sr.h,e⟩;split at h5
 ·split at h5
  ·exact stay h5
  ·exact new (h0:=sr.h) h5.2
 ·obtain⟨_,h5⟩:=h5;split at h5
  ·exact stay h5
  ·obtain⟨_,xs,_,h5⟩:=h5;split at h5
   ·exact new (h0:=sr.h) h5
   ·exact new h5.2
 ·obtain⟨_,h5⟩:=h5;split at h5
  ·exact stay h5
  ·exact new (h0:=sr.h) h5.2.2
 ·exact h5.elim
theorem LFok.ept{f:LF}{w:Nat}{x y:Ao}{d:Option Nat}{sr1:St}{v:AV}{j:Nat}(hs:Step (.app w x y) d sr sr1)(hp:lk sr.s f.p=some (.ept v j))(hk:f.keeps d=true)(h:LFok sr f):LFok sr1 f:=by
 obtain⟨u,h',rfl⟩:=hs.app_s;refine LFok.put hk ?_;unfold LFok Again at h|-;simp only[qG.g,qG.d,qG.o]at h|-;split at h
 ·obtain⟨d',v',h1,h2,h3⟩:=h;refine⟨d',v',h1,h2, ?_⟩;have e:ev sr.s (.t f.p)=some (.ept v j):=hp;simp only[val,e]at h3|-;exact h3
 ·trivial
 ·exact h.elim
theorem LFok.newO{o:AOp}{f:LF}{d:Option Nat}{sr1:St}(hs:Step o d sr sr1)(hn:o.isNew=true)(hk:f.keeps d=true)(h:LFok sr f):LFok sr1 f:=by
 have new:∀{o:qA}{v:Nat->AV},New sr d o v sr1->LFok sr1 f:=by
  rintro o v ⟨id,hid,rfl⟩;exact LFok.put hk (LFok.upd hid.1 h)
 cases o<;>first
  | (simp only[AOp.isNew,bFt]at hn;done)
  | exact new hs
  | exact new hs.choose_spec.2
  | exact new hs.choose_spec.2.2
theorem LFok.new{c:qG}{f:LF}{v:AV}(hf:Qe c=some f)(ho:f.own=true)
  (h:(zT sr.s c.g=some true/\val c.o sr.s sr.l sr.h=some v)\/zT sr.s c.g=some false):LFok (sr.put c.d v) f:=by
 unfold Qe at hf;split at hf
 ·rename_i d sh p hd hc;simp only[oSi]at hf;subst hf;simp only[LF.own,bAt,bNt]at ho;obtain⟨h1,h2⟩:=ho;have ne:∀{a b:Nat},Nat.beq a b=false->a≠b:=λ{a b} q r=>by subst r;rw[Nat.beq_refl]at q;cases q
  have hw:zT (sr.put c.d v).s c.g=zT sr.s c.g:=qKX λe he n t hg=>by
   rw[hd]at he;cases he;rw[hg]at h2;simp only[bNt]at h2;exact ne h2
  show (match zT (sr.put c.d v).s c.g with
   | some true=>∃d' v',some d=some d'/\lk (sr.put c.d v).s d'=some v'/\val (.load sh (.t p)) (sr.put c.d v).s (sr.put c.d v).l (sr.put c.d v).h=some v'
   | some false=>True
   | none=>False)
  rw[hw];rcases h with⟨h3,h4⟩ | h3
  ·rw[h3];refine⟨d,v,rfl, ?_, ?_⟩
   ·rw[hd];show lk (sr.s.set d v) d=_;rw[wh,iP rfl]
   ·rw[<-h4,hc];have:ev (sr.put c.d v).s (.t p)=ev sr.s (.t p):=VT λe he=>by rw[hd]at he;cases he;exact ne h1
    simp only[val,this];rfl
  ·rw[h3];trivial
 ·cases hf
theorem XU{F:List LF}(hF:∀f∈F,LFok sr f):∀{ck:List qG},(ck.all λk=>match Qe k with | some f=>F.any (LF.eq f) | none=>false)=true->Checks sr ck
 |[],_=>trivial
 | c::ck,h=>by
  simp only[lAc,bAt]at h;refine⟨?_,XU hF h.2⟩;have h1:=h.1;split at h1
  ·rename_i f hf;rw[List.any_eq_true]at h1;obtain⟨f',q1,q2⟩:=h1;have:=LF.eq_eq q2;subst this;have:=hF _ q1;unfold Qe at hf;split at hf
   ·rename_i d sh p hd hc;simp only[oSi]at hf;subst hf;unfold LFok Again at this;unfold Again;rw[hd,hc];exact this
   ·cases hf
  ·cases h1
theorem Step.quiet{o:AOp}{d:Option Nat}{s s':St}(hs:Step o d s s')(hq:o.quiet=true):∃v,val o s.s s.l s.h=some v/\s'=s.put d v:=by
 cases o<;>first
  | (simp only[AOp.quiet,bFt]at hq;done)
  | exact hs
theorem qlX(hS:zY ρ st sr){o:AOp}(ho:o.ok=true){g:Nat}{vs:List AV}(hc:jC (toE st.s) o=some (g,vs)):∃ar,jC sr.s o=some (g,ar)/\RelVs ρ vs ar:=by
 cases o<;>simp only[jC,reduceCtorEq]at hc
 case call g' args=>
  simp only[oMi,Prod.mk.injEq]at hc;obtain⟨as,h1,rfl,rfl⟩:=hc;obtain⟨rs,h2,h3⟩:=Y5 hS.s ho h1;exact⟨rs,by simp only[jC,h2,oMs],h3⟩
 case callv x args=>
  simp only[AOp.ok,bAt]at ho;split at hc
  ·rename_i g' cs as h1 h2;cases hc;obtain⟨r,q1,q2⟩:=zP hS.s ho.1 h1;simp only[RelV]at q2;obtain⟨ds,rfl,q2⟩:=q2;obtain⟨rs,q3,q4⟩:=Y5 hS.s ho.2 h2;exact⟨rs++ds,by simp only[jC,q1,q3],q4.append q2⟩
  ·cases hc
theorem zL.grow{h h':List qA}{ρ':Ren}{hr hr':AH}(hh:zL ρ h hr)(hf:Fm h.length ρ hr ρ' hr'):ρ.le ρ':=λi a hi=>by
 have hlt:i<h.length:=by
  rcases Nat.lt_or_ge i h.length with q | q
  ·exact q
  ·rw[hh.out i q]at hi;cases hi
 rw[hf.base i hlt];exact hi
theorem AV.flat.one{ρ:Ren}:∀{cs rs:List AV},AV.flat cs->RelVs ρ cs rs->rs=cs
 |[],rs,_,h=>by simp only[RelVs]at h;exact h
 |.int k n::cs,rs,hf,h=>by
  simp only[RelVs,RelV]at h;obtain⟨b,bs,rfl,rfl,h3⟩:=h;rw[AV.flat.one (cs:=cs) hf h3]
theorem AV.rigid.one{ρ:Ren}:∀{v r r':AV},v.rigid->RelV ρ v r->RelV ρ v r'->r=r'
 |.ptr _ _ _,_,_,_,h,h'=>by
  simp only[RelV]at h h';obtain⟨a,h1,rfl⟩:=h;obtain⟨b,h2,rfl⟩:=h';rw[h1]at h2;cases h2;rfl
 |.map _,_,_,_,h,h'=>by
  simp only[RelV]at h h';obtain⟨a,h1,rfl⟩:=h;obtain⟨b,h2,rfl⟩:=h';rw[h1]at h2;cases h2;rfl
 |.slice _ _ _ _ _,_,_,hn,h,h'=>by
  simp only[RelV]at h h';rcases h with⟨a,h1,rfl⟩ | ⟨_,q1,q2,_⟩
  ·rcases h' with⟨b,h2,rfl⟩ | ⟨_,q1,q2,_⟩
   ·rw[h1]at h2;cases h2;rfl
   ·exact absurd ⟨q1,q2⟩ hn
  ·exact absurd ⟨q1,q2⟩ hn
 |.agg _,_,_,hn,h,h'=>by
  simp only[RelV]at h h';obtain⟨a,rfl,h1⟩:=h;obtain⟨b,rfl,h2⟩:=h';rw[AV.flat.one hn h1,AV.flat.one hn h2]
 |.bool _,_,_,_,h,h' |.int _ _,_,_,_,h,h' |.str _,_,_,_,h,h' |.nilp,_,_,_,h,h' |.nils,_,_,_,h,h' |.nilm,_,_,_,h,h' |.nilf,_,_,_,h,h' |.nili,_,_,_,h,h'=>by
  simp only[RelV]at h h';rw[h,h']
 |.lst _ _ _,_,_,hn,_,_ |.ept _ _,_,_,hn,_,_ |.fn _ _,_,_,hn,_,_ |.iface _ _,_,_,hn,_,_ |.tup _,_,_,hn,_,_ |.any,_,_,hn,_,_=>hn.elim
theorem ckVs.ok{st:VSt}{sr:St}{ρ:Ren}(hS:zY ρ st sr):∀{ck:List qG}{f:LF},ckVs st ck->wt ck f=true->LFok sr f
 |[],_,_,h=>by cases h
 | k::ck,f,hk,h=>by
  unfold wt at h;simp only[List.any_cons,Bool.or_eq_true]at h;rcases h with h | h
  ·have h1:=hk.1;unfold ckV at h1;split at h
   ·rename_i f' hf';have:=LF.eq_eq h;subst this;rw[hf']at h1;obtain⟨hg,v,q1,q2,q3⟩:=h1;obtain⟨r,a1,a2⟩:=hS.s _ _ q1;obtain⟨r',b1,b2⟩:=qK8 hS (by rfl) q2;have:=q3.one a2 b2;subst this;unfold LFok Again;simp only[qG.g,qG.d,qG.o,hg,zT];exact⟨_,_,rfl,a1,b1⟩
   ·cases h
  ·exact ckVs.ok hS hk.2 h
def xl(E:Ev):List qG->VSt->(VSt->Prop)->Prop
 |[],st,K=>K st
 | c::l,st,K=>qDM E c st λst'=>xl E l st' K
theorem QN{b:Nat}:∀{l:List qG}{F:List LF}{ρ:Ren}{st:VSt}{sr:St}{K:VSt->Prop},(l.all λc=>c.o.ok)=true->QT F l=true->(∀f∈F,LFok sr f)->zY ρ st sr->b<=st.h.length->xl E l st K->
  ∃k sr' ρ' st',Ex E.Γ k (.ops l sr) (.st .nrm sr')/\K st'/\zY ρ' st' sr'/\Fm b ρ sr.h ρ' sr'.h/\b<=st'.h.length
 |[],F,ρ,st,sr,K,_,_,_,hS,hb,hx=>⟨0,sr,ρ,st,.nil,hx,hS,Fm.refl _ _ _,hb⟩
 | c::l,F,ρ,st,sr,K,hok,hck,hF,hS,hb,hx=>by
  simp only[lAc,bAt]at hok;simp only[QT,bAt,Bool.or_eq_true]at hck;obtain⟨hok1,hok2⟩:=hok;obtain⟨hck1,hck2⟩:=hck
  --the guard says no
  have skip:∀{K':VSt->Prop},zT sr.s c.g=some false->K' (st.put c.d .undef)->(∀st',K' st'->xl E l st' K)->
    ∃k sr' ρ' st',Ex E.Γ k (.ops (c::l) sr) (.st .nrm sr')/\K st'/\zY ρ' st' sr'/\Fm b ρ sr.h ρ' sr'.h/\b<=st'.h.length:=by
   intro K' hw hk hK;have hS1:zY ρ (st.put c.d .undef) (sr.put c.d .undef):=⟨hS.s.put (by simp[RelV,RelVs]),hS.l,hS.h⟩;have hF1:∀f∈(if c.o.isCall then(if c.ck.isEmpty then []else(F.filter λf=>f.keeps c.d).filter (wt c.ck))else if c.apC then(F.filter (λf=>f.keeps c.d)).filter (wt c.ck)else if c.o.quiet then XM c (F.filter λf=>f.keeps c.d)else if c.o.isLoc then F.filter (λf=>f.keeps c.d)else if c.o.isNew then F.filter (λf=>f.keeps c.d)else []),LFok (sr.put c.d .undef) f:=by
    have h0:∀f∈F.filter (λf=>f.keeps c.d),LFok (sr.put c.d .undef) f:=λf hf=>by
     rw[mFi]at hf;exact(hF f hf.1).put hf.2
    intro f hf;split at hf
    ·split at hf
     ·cases hf
     ·exact h0 f (mFi.1 hf).1
    ·split at hf
     ·exact h0 f (mFi.1 hf).1
     ·split at hf
      ·unfold XM at hf;split at hf
       ·rename_i f1 hf1;split at hf
        ·rename_i hown;rcases mCo.1 hf with rfl | hf
         ·exact LFok.new hf1 hown (.inr hw)
         ·exact h0 f hf
        ·exact h0 f hf
       ·exact h0 f hf
      ·split at hf
       ·exact h0 f hf
       ·split at hf
        ·exact h0 f hf
        ·cases hf
   obtain⟨k,sr',ρ',st',g1,g2,g3,g4,g5⟩:=QN hok2 hck2 hF1 hS1 hb (hK _ hk);exact⟨k,sr',ρ',st',.skip hw g1,g2,g3,g4,g5⟩
  --the operation is done
  have run:∀{K':VSt->Prop},zT sr.s c.g=some true->wJ E c st K'->(∀st',K' st'->xl E l st' K)->
    ∃k sr' ρ' st',Ex E.Γ k (.ops (c::l) sr) (.st .nrm sr')/\K st'/\zY ρ' st' sr'/\Fm b ρ sr.h ρ' sr'.h/\b<=st'.h.length:=by
   intro K' hw hk hK;unfold wJ at hk;by_cases hcall:c.o.isCall=true
   ·rw[iP hcall]at hk hck2;unfold qK7 at hk;split at hk
    ·rename_i g vs hc;obtain⟨ar,ha1,ha2⟩:=qlX hS hok1 hc;by_cases hck0:c.ck.isEmpty=true
     ·have hckn0:c.ck=[]:=by simpa using hck0
      rw[hckn0]at hk;simp only at hk;rw[iP hck0]at hck2;obtain⟨k,r,hr',ρ',v,h',q1,q2,q3,q4,q5,q6⟩:=hk ρ sr.h ar hS.h ha2;have hle:=hS.h.grow (h':=h') q5;have hS1:zY ρ' {s:=wI st.s c.d v,l:=st.l,h:=h'} ({sr with h:=hr'}.put c.d r):=⟨(hS.s.mono hle).put q4,hS.l.mono hle,q3⟩;have hF1:∀f∈([]:List LF),LFok ({sr with h:=hr'}.put c.d r) f:=λf hf=>by cases hf
      obtain⟨k2,sr',ρ2,st',g1,g2,g3,g4,g5⟩:=QN hok2 hck2 hF1 hS1 (nLt hb q6) (hK _ q2);have hckn:c.ck=[]:=by simpa using hck0
      refine⟨max k k2,sr',ρ2,st',.call hw ha1 (q1.le (Nat.le_max_left _ _)) (by rw[hckn];trivial) (g1.le (Nat.le_max_right _ _)),g2,g3, ?_,g5⟩;exact Fm.trans ⟨q5.pres,q5.new,q5.fr,λi hi=>q5.base i (by omega)⟩ g4
     ·have hck0:c.ck.isEmpty=false:=by simpa using hck0
      simp only[hck0,bFt,if_false]at hck2;have chk:∀{sr1:St},(∀f∈(F.filter λf=>f.keeps c.d).filter (wt c.ck),LFok sr1 f)->Checks sr1 c.ck:=λ{sr1} hF1=>by
       rcases hck1 with q | q
       ·rw[hck0]at q;cases q
       ·refine XU hF1 ?_;have q2:=q.2;rw[lAt]at q2|-;intro k hk;have:=q2 k hk;split at this
        ·rename_i f hf
         try simp only[hf]
         rw[List.any_eq_true]at this|-;obtain⟨f',g1,g2⟩:=this;refine⟨f',mFi.2 ⟨g1, ?_⟩,g2⟩;unfold wt;rw[List.any_eq_true];exact⟨k,hk,by rw[hf];exact g2⟩
        ·cases this
      have hk2:SCallK E.Γ g vs st.h (λv h'=>K' {s:=wI st.s c.d v,l:=st.l,h:=h'})\/SCall E.Γ g vs st.h (λv h'=>ckVs {s:=wI st.s c.d v,l:=st.l,h:=h'} c.ck/\K' {s:=wI st.s c.d v,l:=st.l,h:=h'}):=by
       cases e:c.ck with
       | nil=>rw[e]at hck0;cases hck0
       | cons a b=>rw[e]at hk;exact hk
      rcases hk2 with hk | hk
      ·obtain⟨k,r,hr',ρ',v,h',q1,q2,q3,q4,q5,q6,q7⟩:=hk ρ sr.h ar hS.h ha2;have hle:=hS.h.grow (h':=h') q5;have hS1:zY ρ' {s:=wI st.s c.d v,l:=st.l,h:=h'} ({sr with h:=hr'}.put c.d r):=⟨(hS.s.mono hle).put q4,hS.l.mono hle,q3⟩;have hF1:∀f∈(F.filter λf=>f.keeps c.d).filter (wt c.ck),LFok ({sr with h:=hr'}.put c.d r) f:=λf hf=>by
        rw[mFi,mFi]at hf;exact(LFok.heap q7 (hF f hf.1.1)).put hf.1.2
       obtain⟨k2,sr',ρ2,st',g1,g2,g3,g4,g5⟩:=QN hok2 hck2 hF1 hS1 (nLt hb q6) (hK _ q2);refine⟨max k k2,sr',ρ2,st',.call hw ha1 (q1.le (Nat.le_max_left _ _)) (chk hF1) (g1.le (Nat.le_max_right _ _)),g2,g3, ?_,g5⟩;exact Fm.trans ⟨q5.pres,q5.new,q5.fr,λi hi=>q5.base i (by omega)⟩ g4
      ·obtain⟨k,r,hr',ρ',v,h',q1,⟨qc,q2⟩,q3,q4,q5,q6⟩:=hk ρ sr.h ar hS.h ha2;have hle:=hS.h.grow (h':=h') q5;have hS1:zY ρ' {s:=wI st.s c.d v,l:=st.l,h:=h'} ({sr with h:=hr'}.put c.d r):=⟨(hS.s.mono hle).put q4,hS.l.mono hle,q3⟩;have hF1:∀f∈(F.filter λf=>f.keeps c.d).filter (wt c.ck),LFok ({sr with h:=hr'}.put c.d r) f:=λf hf=>ckVs.ok hS1 qc (mFi.1 hf).2;obtain⟨k2,sr',ρ2,st',g1,g2,g3,g4,g5⟩:=QN hok2 hck2 hF1 hS1 (nLt hb q6) (hK _ q2);refine⟨max k k2,sr',ρ2,st',.call hw ha1 (q1.le (Nat.le_max_left _ _)) (chk hF1) (g1.le (Nat.le_max_right _ _)),g2,g3, ?_,g5⟩;exact Fm.trans ⟨q5.pres,q5.new,q5.fr,λi hi=>q5.base i (by omega)⟩ g4
    ·exact hk.elim
   ·rw[iN hcall]at hk hck2;by_cases happ:c.apC=true
    ·rw[iP happ]at hk hck2;simp only[qG.apC,bAt,bNt]at happ;unfold qDL at hk;split at hk
     ·rename_i w x y hco;rcases hk with hk | hk;rotate_left
      ·rw[hco]at hok1;obtain⟨sr1,ρ1,st1,q1,⟨qc,q2⟩,q3,q4,q5⟩:=UW hS hb hok1 hk;have hF1:∀f∈(F.filter (λf=>f.keeps c.d)).filter (wt c.ck),LFok sr1 f:=λf hf=>ckVs.ok q3 qc (mFi.1 hf).2;have hch:Checks sr1 c.ck:=by
        rcases hck1 with q | q
        ·rw[happ.2]at q;cases q
        ·refine XU hF1 ?_;have q2:=q.2;rw[lAt]at q2|-;intro k hk;have:=q2 k hk;split at this
         ·rename_i f hf
          try simp only[hf]
          rw[List.any_eq_true]at this|-;obtain⟨f',g1,g2⟩:=this;refine⟨f',mFi.2 ⟨g1, ?_⟩,g2⟩;unfold wt;rw[List.any_eq_true];exact⟨k,hk,by rw[hf];exact g2⟩
         ·cases this
       obtain⟨k2,sr',ρ2,st',e1,e2,e3,e4,e5⟩:=QN hok2 hck2 hF1 q3 q5 (hK _ q2);exact⟨k2,sr',ρ2,st',.step hw (by rw[hco];exact q1) hch e1,e2,e3,q4.trans e4,e5⟩
      split at hk
      ·rename_i w' hx0;obtain⟨rfl,hk⟩:=hk;rw[hco]at hok1;obtain⟨sr1,ρ1,st1,q1,q2,q3,q4,q5⟩:=UW hS hb hok1 hk;simp only[AOp.ok,bAt]at hok1;obtain⟨r,g1,g2⟩:=zP hS.s hok1.1 hx0;have hF1:∀f∈F.filter (λf=>f.keeps c.d),LFok sr1 f:=λf hf=>by
        rw[mFi]at hf;exact LFok.app q1 g1 g2 hf.2 (hF f hf.1)
       obtain⟨k2,sr',ρ2,st',e1,e2,e3,e4,e5⟩:=QN hok2 hck2 (λf hf=>hF1 f (mFi.1 hf).1) q3 q5 (hK _ q2);have hch:Checks sr1 c.ck:=by
        rcases hck1 with q | q
        ·rw[happ.2]at q;cases q
        ·exact XU hF1 q.2
       exact⟨k2,sr',ρ2,st',.step hw (by rw[hco];exact q1) hch e1,e2,e3,q4.trans e4,e5⟩
      ·obtain⟨hke,hk⟩:=hk;rw[hco]at hok1;obtain⟨sr1,ρ1,st1,q1,q2,q3,q4,q5⟩:=UW hS hb hok1 hk;have hF1:∀f∈(F.filter (λf=>f.keeps c.d)).filter (wt c.ck),LFok sr1 f:=λf hf=>by
        rw[mFi,mFi]at hf;obtain⟨⟨f1,f2⟩,f3⟩:=hf;unfold wt at f3;rw[List.any_eq_true]at f3;obtain⟨k,k1,k2⟩:=f3;have k3:=lAt.1 hke k k1;unfold ckE at k3;split at k2
        ·rename_i f' hf';have:=LF.eq_eq k2;subst this;rw[hf']at k3;simp only at k3;split at k3
         ·rename_i v j hg;obtain⟨r,p1,p2⟩:=hS.s _ _ hg;simp only[RelV]at p2;obtain⟨y,rfl,_⟩:=p2;exact LFok.ept q1 p1 f2 (hF _ f1)
         ·cases k3
        ·cases k2
       have hch:Checks sr1 c.ck:=by
        rcases hck1 with q | q
        ·rw[happ.2]at q;cases q
        ·refine XU hF1 ?_;have q2:=q.2;rw[lAt]at q2|-;intro k hk;have:=q2 k hk;split at this
         ·rename_i f hf
          try simp only[hf]
          rw[List.any_eq_true]at this|-;obtain⟨f',g1,g2⟩:=this;refine⟨f',mFi.2 ⟨g1, ?_⟩,g2⟩;unfold wt;rw[List.any_eq_true];exact⟨k,hk,by rw[hf];exact g2⟩
         ·cases this
       obtain⟨k2,sr',ρ2,st',e1,e2,e3,e4,e5⟩:=QN hok2 hck2 hF1 q3 q5 (hK _ q2);exact⟨k2,sr',ρ2,st',.step hw (by rw[hco];exact q1) hch e1,e2,e3,q4.trans e4,e5⟩
      ·exact hk.elim
     ·exact hk.elim
    rw[iN happ]at hk hck2;have hckn:c.ck=[]:=by
     rcases hck1 with q | q
     ·simpa using q
     ·rcases q.1 with q1 | q1
      ·exact absurd q1 hcall
      ·simp only[qG.apC,q1,Bool.true_and]at happ;simpa using happ
    obtain⟨sr1,ρ1,st1,q1,q2,q3,q4,q5⟩:=UW hS hb hok1 hk;have hF1:∀f∈(if c.o.quiet then XM c (F.filter λf=>f.keeps c.d)else if c.o.isLoc then F.filter (λf=>f.keeps c.d)else if c.o.isNew then F.filter (λf=>f.keeps c.d)else []),LFok sr1 f:=by
     intro f hf;split at hf
     ·rename_i hq;obtain⟨v,hv,rfl⟩:=q1.quiet hq;have h0:∀f∈F.filter (λf=>f.keeps c.d),LFok (sr.put c.d v) f:=λf hf=>by
       rw[mFi]at hf;exact(hF f hf.1).put hf.2
      unfold XM at hf;split at hf
      ·rename_i f1 hf1;split at hf
       ·rename_i hown;rcases mCo.1 hf with rfl | hf
        ·exact LFok.new hf1 hown (.inl ⟨hw,hv⟩)
        ·exact h0 f hf
       ·exact h0 f hf
      ·exact h0 f hf
     ·split at hf
      ·rename_i hl;rw[mFi]at hf;obtain⟨e1,e2⟩:=q1.loc hl;exact(hF f hf.1).loc e1 e2
      split at hf
      ·rename_i hl;rw[mFi]at hf;exact LFok.newO q1 hl hf.2 (hF f hf.1)
      ·cases hf
    obtain⟨k2,sr',ρ2,st',g1,g2,g3,g4,g5⟩:=QN hok2 hck2 hF1 q3 q5 (hK _ q2);exact⟨k2,sr',ρ2,st',.step hw q1 (by rw[hckn];trivial) g1,g2,g3,q4.trans g4,g5⟩
  unfold xl qDM at hx;split at hx
  ·rename_i hg;exact run (by rw[hg];rfl) hx (λ_ h=>h)
  ·rename_i n t hg;split at hx
   ·rename_i c' hn;obtain⟨r,h1,h2⟩:=hS.s n _ hn;simp only[RelV]at h2;subst h2;have hw:zT sr.s c.g=some (c'==t):=by rw[hg];simp only[zT,h1]
    split at hx
    ·rename_i hc;subst hc;exact run (by rw[hw];simp) hx (λ_ h=>h)
    ·rename_i hc;refine skip (by rw[hw];simpa using hc) hx (λ_ h=>h)
   ·rename_i hn;obtain⟨r,h1,h2⟩:=hS.s n _ hn;simp only[RelV,RelVs]at h2;obtain⟨_,rfl,rfl⟩:=h2;exact skip (by rw[hg];simp only[zT,h1]) hx (λ_ h=>h)
   ·exact hx.elim
theorem qAB{ks:List Fr1}{Q:qn->VSt->Prop}:∀{l:List qG}{st:VSt},R E (.ops l::ks) st Q=xl E l st λst'=>R E ks st' Q
 |[],st=>by rw[R];rfl
 | c::l,st=>by
  rw[R];simp only[xl];congr 1;funext st';exact qAB
end
section
variable {E:Ev} {ρ:Ren} {st:VSt} {sr:St} {ks:List Fr1} {Q:qn->VSt->Prop}
theorem qG7(h:AH){a:Nat}{o:qA}(_ha:h a=some o):h.kill [a]=h.upd a .dead:=by
 apply AH.ext'
 ·intro i;rw[AH.kill_at,AH.upd_apply];simp
 ·intro i;rfl
theorem qGN(hS:zY ρ st sr){n id a:Nat}{w:Nat}{el el':List AV}{v v':AV}(hid:ρ id=some (some a))(ho:st.h[id]?=some (.row w el true))(hro:sr.h a=some (.row w el' true))
  {v0:AV} (hv0:lk sr.s n=some v0) (hc:zK sr.h [a] v0 v') (hv:RelV ρ v v'):
  ∃sr',Frz [a] sr sr'/\zY ρ {s:=(n,v)::st.s,l:=st.l,h:=st.h.set id .dead} sr'/\sr'.h=sr.h.upd a .dead:=by
 refine⟨{s:=sr.s.set n v',l:=sr.l,h:=sr.h.kill [a]},⟨λi hi=>?_,λt x hx=>?_,λt x hx=>⟨x,hx,.refl _⟩,rfl⟩,⟨hS.s.cons hv,hS.l, ?_⟩,qG7 _ hro⟩
 ·have:i=a:=by simpa using hi
  subst this;exact⟨_,hro,rfl⟩
 ·have hx2:lk (sr.s.set n v') t=some x:=hx;rw[wh]at hx2;split at hx2
  ·rename_i e;simp only[oSi]at hx2;rw[<-e,<-hx2];exact⟨v0,hv0,hc⟩
  ·exact⟨x,hx2,.refl _⟩
 ·show zL ρ _ (sr.h.kill [a]);rw[qG7 _ hro];exact hS.h.write hid ho (by simp) trivial
theorem qnK{b:Nat}(hS:zY ρ st sr)(hb:b<=st.h.length)(n:Nat):∃K sr',Frz K sr sr'/\zY ρ (QY n st) sr'/\Fm b ρ sr.h ρ sr'.h/\b<=(QY n st).h.length:=by
 have none:∃K sr',Frz K sr sr'/\zY ρ st sr'/\Fm b ρ sr.h ρ sr'.h/\b<=st.h.length:=by
  refine⟨[],sr,⟨λi hi=>by simp at hi,λt v h=>⟨v,h,.refl _⟩,λt v h=>⟨v,h,.refl _⟩, ?_⟩,hS,Fm.refl _ _ _,hb⟩;exact AH.ext' (λi=>by rw[AH.kill_at];simp) (λi=>rfl)
 unfold QY;split
 ·rename_i id hn;split
  ·rename_i w v ho;split
   ·rename_i hw;obtain⟨r,h1,h2⟩:=hS.s n _ hn;simp only[RelV]at h2;obtain⟨a,ha,rfl⟩:=h2;rcases hS.h.obj _ _ ho with⟨q,_⟩ | ⟨i',el',q1,q2,q3⟩
    ·rw[ha]at q;cases q
    rw[ha]at q1;cases q1;simp only[RelVs]at q3;obtain⟨v',_,rfl,q4,rfl⟩:=q3;obtain⟨sr',g1,g2,g3⟩:=qGN hS ha ho q2 h1 (.ptr (j:=0) (by simp) q2 hw (x:=v') rfl (.refl v')) (v:=.ept v 0) (by simp only[RelV];exact⟨v',rfl,q4⟩);exact⟨_,sr',g1,g2,by rw[g3];exact Fm.write hS.h ha,by rw[lLs];exact hb⟩
   ·exact none
  ·exact none
 ·rename_i w id len c hn;split
  ·rename_i w' el ho;split
   ·rename_i hw;obtain⟨hw,rfl,hlen⟩:=hw;obtain⟨r,h1,h2⟩:=hS.s n _ hn;simp only[RelV]at h2;rcases h2 with⟨a,ha,rfl⟩ | ⟨ha,_,rfl,hc0⟩
    ·rcases hS.h.obj _ _ ho with⟨q,_⟩ | ⟨i',el',q1,q2,q3⟩
     ·rw[ha]at q;cases q
     rw[ha]at q1;cases q1;have hl:=q3.length;have e:(el'.drop 0).take len=el':=by rw[List.drop_zero,<-hlen,<-hl,lTl]
     have hcv:zK sr.h [a] (.slice w' a 0 len c) (.lst w' el' c):=by
      refine .slc (by simp) q2 (by omega) hw (by rw[e]) ?_;rw[e];intro p hp;have:p.1=p.2:=by
       obtain⟨i,hi,rfl⟩:=List.getElem_of_mem hp;simp
      rw[this];exact .refl _
     obtain⟨sr',g1,g2,g3⟩:=qGN hS ha ho q2 h1 hcv (v:=.lst w' el c) (by simp only[RelV];exact .inl ⟨el',c,rfl,λh=>h,q3⟩);exact⟨_,sr',g1,g2,by rw[g3];exact Fm.write hS.h ha,by rw[lLs];exact hb⟩
    ·have:el=[]:=lEz hlen;subst this;refine⟨[],sr,⟨λi hi=>by simp at hi,λt v h=>⟨v,h,.refl _⟩,λt v h=>⟨v,h,.refl _⟩, ?_⟩,⟨?_,hS.l,hS.h.giveUp id⟩,Fm.refl _ _ _,by rw[lLs];exact hb⟩
     ·exact AH.ext' (λi=>by rw[AH.kill_at];simp) (λi=>rfl)
     ·intro t x hx;rw[WV]at hx;split at hx
      ·rename_i e;subst e;cases hx;refine⟨r,h1, ?_⟩;rcases hc0 with rfl | rfl<;>simp[RelV,RelVs]
      ·exact hS.s t x hx
   ·exact none
  ·exact none
 ·exact none
theorem qGM{b:Nat}:∀{fz:List Nat}{st:VSt}{sr:St},zY ρ st sr->b<=st.h.length->
  ∃sr',(∀Γ k c o,Ex Γ k (.code c sr') o->Ex Γ k (.code c sr) o)/\zY ρ (QZ fz st) sr'/\Fm b ρ sr.h ρ sr'.h/\b<=(QZ fz st).h.length
 |[],st,sr,hS,hb=>⟨sr,λ_ _ _ _ h=>h,hS,Fm.refl _ _ _,hb⟩
 | n::fz,st,sr,hS,hb=>by
  obtain⟨K,sr1,h1,h2,h3,h4⟩:=qnK hS hb n;obtain⟨sr',g1,g2,g3,g4⟩:=qGM (fz:=fz) h2 h4;exact⟨sr',λΓ k c o h=>.frz K h1 (g1 Γ k c o h),g2,h3.trans g3,g4⟩
def Fr1.ok:Fr1->Bool
 |.code c=>c.ok
 |.ops l=>(l.all λc=>c.o.ok)&&QT [] l
 |.blk _=>true
theorem Q0:∀{e:qn}{ks ks':List Fr1},exK e ks=some ks'->ks.all Fr1.ok=true->ks'.all Fr1.ok=true
 | e,[],ks',h,_=>by cases e<;>simp[exK]at h
 |.exit m,.blk n::ks,ks',h,hk=>by
  simp only[exK]at h;simp only[lAc,bAt]at hk;split at h
  ·cases h;exact hk.2
  ·exact Q0 h hk.2
 |.exit m,.code c::ks,ks',h,hk=>by simp only[lAc,bAt]at hk;exact Q0 (e:=.exit m) (ks:=ks) (by simpa only [exK]using h) hk.2
 |.exit m,.ops c::ks,ks',h,hk=>by simp only[lAc,bAt]at hk;exact Q0 (e:=.exit m) (ks:=ks) (by simpa only [exK]using h) hk.2
 |.nrm,f::ks,ks',h,hk=>by simp only[lAc,bAt]at hk;exact Q0 (e:=.nrm) (ks:=ks) (by simpa only [exK]using h) hk.2
 |.ret,f::ks,ks',h,hk=>by simp only[lAc,bAt]at hk;exact Q0 (e:=.ret) (ks:=ks) (by simpa only [exK]using h) hk.2
 |.pan v,f::ks,ks',h,hk=>by simp only[lAc,bAt]at hk;exact Q0 (e:=.pan v) (ks:=ks) (by simpa only [exK]using h) hk.2
theorem qjR:∀(n:Nat){ks:List Fr1}{st:VSt},szF ks=n->ks.all Fr1.ok=true->R E ks st Q->Sem E ks st Q:=by
 intro n
 induction n using Nat.strongRecOn with
 | _ n ih=>
 intro ks st hn hok hR;cases ks with
 | nil=>
  rw[R]at hR;exact λρ sr hS hb=>⟨0,_,sr,ρ,st,.nil,hR,hS,Fm.refl _ _ _,hb⟩
 | cons f ks=>
 simp only[lAc,bAt]at hok;obtain⟨hf,hok⟩:=hok;cases f with
 | blk m=>
  rw[R]at hR;have:=ih (szF ks) (by rw[<-hn];simp only[szF,Fr1.sz];omega) rfl hok hR;intro ρ sr hS hb;obtain⟨k,e,sr',ρ',st',g1,g2⟩:=this ρ sr hS hb;exact⟨k,e,sr',ρ',st',.blk g1,g2⟩
 | ops l=>
  rw[qAB]at hR;simp only[Fr1.ok,bAt]at hf;intro ρ sr hS hb;obtain⟨k,sr1,ρ1,st1,q1,q2,q3,q4,q5⟩:=QN hf.1 hf.2 (λf hf=>by cases hf) hS hb hR;obtain⟨k',e,sr',ρ',st',g1,g2,g3,g4,g5⟩:=ih (szF ks) (by rw[<-hn];simp only[szF,Fr1.sz];omega) rfl hok q2 ρ1 sr1 q3 q5;exact⟨max k k',e,sr',ρ',st',.ops (q1.le (Nat.le_max_left _ _)) (g1.le (Nat.le_max_right _ _)),g2,g3,q4.trans g4,g5⟩
 | code c=>
 simp only[Fr1.ok]at hf;cases c with
 | skip=>
  rw[R]at hR;have:=ih (szF ks) (by rw[<-hn];simp only[szF,Fr1.sz,qP.sz];omega) rfl hok hR;intro ρ sr hS hb;obtain⟨k,e,sr',ρ',st',g1,g2⟩:=this ρ sr hS hb;exact⟨k,e,sr',ρ',st',.code .cskip g1,g2⟩
 | reg p l=>
  rw[R]at hR;split at hR
  ·exact hR
  ·simp only[qP.ok,bAt]at hf;rw[qAB]at hR;intro ρ sr hS hb;obtain⟨sr0,f1,f2,f3,f4⟩:=qGM (fz:=E.fz) hS hb;obtain⟨k,sr1,ρ1,st1,q1,q2,q3,q4,q5⟩:=QN hf.1 hf.2 (λf hf=>by cases hf) f2 f4 hR;obtain⟨k',e,sr',ρ',st',g1,g2,g3,g4,g5⟩:=ih (szF ks) (by rw[<-hn];simp only[szF,Fr1.sz,qP.sz];omega) rfl hok q2 ρ1 sr1 q3 q5;exact⟨max k k',e,sr',ρ',st',.code (f1 _ _ _ _ (.reg (q1.le (Nat.le_max_left _ _)) (.inr rfl))) (g1.le (Nat.le_max_right _ _)),g2,g3,f3.trans (q4.trans g4),g5⟩
 | seq a b=>
  rw[R]at hR;simp only[qP.ok,bAt]at hf;have:=ih (szF (.code a::.code b::ks)) (by rw[<-hn];simp only[szF,Fr1.sz,qP.sz];omega) rfl (by simp only[lAc,Fr1.ok,hf.1,hf.2,hok,Bool.and_self]) hR;intro ρ sr hS hb;obtain⟨k,e,sr',ρ',st',g1,g2⟩:=this ρ sr hS hb;exact⟨k,e,sr',ρ',st',g1.seq,g2⟩
 | cond c a b=>
  rw[R]at hR;simp only[qP.ok,bAt]at hf;split at hR
  ·rename_i t hc;have key:Sem E (.code (if t then a else b)::ks) st Q:=by
    cases t
    ·exact ih (szF (.code b::ks)) (by rw[<-hn];simp only[szF,Fr1.sz,qP.sz];omega) rfl (by simp only[lAc,Fr1.ok,hok,Bool.and_true];exact hf.2) (by simpa using hR)
    ·exact ih (szF (.code a::ks)) (by rw[<-hn];simp only[szF,Fr1.sz,qP.sz];omega) rfl (by simp only[lAc,Fr1.ok,hok,Bool.and_true];exact hf.1.2) (by simpa using hR)
   intro ρ sr hS hb;obtain⟨k,e,sr',ρ',st',g1,g2⟩:=key ρ sr hS hb;have hc':=WT hS.s hf.1.1 hc;refine⟨k,e,sr',ρ',st', ?_,g2⟩;cases g1 with
   | code h h'=>exact .code (.cond hc' h) h'
   | codeX h he hx h'=>exact .codeX (.cond hc' h) he hx h'
   | codeE h he hx=>exact .codeE (.cond hc' h) he hx
  ·exact hR.elim
 | blk m a=>
  rw[R]at hR;have:=ih (szF (.code a::.blk m::ks)) (by rw[<-hn];simp only[szF,Fr1.sz,qP.sz];omega) rfl (by simp only[lAc,Fr1.ok,hok,Bool.and_true];exact hf) hR;intro ρ sr hS hb;obtain⟨k,e,sr',ρ',st',g1,g2⟩:=this ρ sr hS hb;exact⟨k,e,sr',ρ',st',g1.blkC,g2⟩
 | loop a=>rw[R]at hR;exact hR
 | exit m=>
  rw[R]at hR;split at hR
  ·rename_i ks' hx;have:=ih (szF ks') (by have:=Q2 hx;rw[<-hn];simp only[szF,Fr1.sz,qP.sz];omega) rfl (Q0 hx hok) hR;intro ρ sr hS hb;obtain⟨k,e,sr',ρ',st',g1,g2⟩:=this ρ sr hS hb;exact⟨k,e,sr',ρ',st',.codeX .exit (by simp) hx g1,g2⟩
  ·rename_i hx;exact λρ sr hS hb=>⟨0,_,sr,ρ,st,.codeE .exit (by simp) hx,hR,hS,Fm.refl _ _ _,hb⟩
 | ret=>
  rw[R]at hR;split at hR
  ·rename_i ks' hx;rw[Q1]at hx;cases hx
  ·rename_i hx;exact λρ sr hS hb=>⟨0,_,sr,ρ,st,.codeE .ret (by simp) hx,hR,hS,Fm.refl _ _ _,hb⟩
theorem Sem.of{st:VSt}(hok:ks.all Fr1.ok=true)(h:R E ks st Q):Sem E ks st Q:=qjR _ rfl hok h
def Can(b:Nat)(st st':VSt):Prop:=∀ρ sr,zY ρ st sr->b<=st.h.length->∃sr' ρ',(∀Γ k c o,Ex Γ k (.code c sr') o->Ex Γ k (.code c sr) o)/\zY ρ' st' sr'/\Fm b ρ sr.h ρ' sr'.h/\b<=st'.h.length
theorem Sem.can{c:qP}{st st':VSt}(hc:Can E.b st st')(h:Sem E (.code c::ks) st' Q):Sem E (.code c::ks) st Q:=by
 intro ρ sr hS hb;obtain⟨sr1,ρ1,a1,a2,a3,a4⟩:=hc ρ sr hS hb;obtain⟨k,e,sr',ρ',st2,g1,g2,g3,g4,g5⟩:=h ρ1 sr1 a2 a4;refine⟨k,e,sr',ρ',st2, ?_,g2,g3,a3.trans g4,g5⟩;cases g1 with
 | code h h'=>exact .code (a1 _ _ _ _ h) h'
 | codeX h he hx h'=>exact .codeX (a1 _ _ _ _ h) he hx h'
 | codeE h he hx=>exact .codeE (a1 _ _ _ _ h) he hx
def Q9{α:Type}(E:Ev)(I:α->Prop)(stt:α->VSt)(m:α->Nat)(a:α)(ks:List Fr1)(Q:qn->VSt->Prop):qn->VSt->Prop
 |.nrm,s=>∃a',I a'/\m a'<m a/\Can E.b s (stt a')
 | e,s=>match exK e ks with
  | some ks'=>R E ks' s Q
  | none=>Q e s
theorem Sem.loop{α:Type}{c:qP}(I:α->Prop)(stt:α->VSt)(m:α->Nat)(a0:α){st:VSt}(hok:(Fr1.code (.loop c)::ks).all Fr1.ok=true)(hi:I a0)(h0:Can E.b st (stt a0))
  (h:∀a,I a->R E [.code c] (stt a) (Q9 E I stt m a ks Q)):Sem E (.code (.loop c)::ks) st Q:=by
 simp only[lAc,bAt,Fr1.ok]at hok;have hc:c.ok=true:=by have:=hok.1;simpa only [qP.ok]using this
 have key:∀n a,m a=n->I a->Sem E (.code (.loop c)::ks) (stt a) Q:=by
  intro n
  induction n using Nat.strongRecOn with
  | _ n ih=>
  intro a hm hia ρ sr hS hb;obtain⟨k,e,sr1,ρ1,st1,g1,g2,g3,g4,g5⟩:=Sem.of (by simpa only [lAc,List.all_nil,Bool.and_true,Fr1.ok]using hc) (h a hia) ρ sr hS hb;have done:∀e1,e1≠.nrm->Ex E.Γ k (.code c sr) (.st e1 sr1)->Q9 E I stt m a ks Q e1 st1->
    ∃k e sr' ρ' st',ExF E.Γ k (.code (.loop c)::ks) sr e sr'/\Q e st'/\zY ρ' st' sr'/\Fm E.b ρ sr.h ρ' sr'.h/\E.b<=st'.h.length:=by
   intro e1 he hx hq;have hq:(match exK e1 ks with | some ks'=>R E ks' st1 Q | none=>Q e1 st1):=by
    cases e1 with
    | nrm=>exact absurd rfl he
    | _=>exact hq
   split at hq
   ·rename_i ks' hk;obtain⟨k2,e2,sr2,ρ2,st2,q1,q2,q3,q4,q5⟩:=Sem.of (Q0 hk hok.2) hq ρ1 sr1 g3 g5;exact⟨max k k2,e2,sr2,ρ2,st2,.codeX (.loopX (hx.le (Nat.le_max_left _ _)) he) he hk (q1.le (Nat.le_max_right _ _)),q2,q3,g4.trans q4,q5⟩
   ·rename_i hk;exact⟨k,e1,sr1,ρ1,st1,.codeE (.loopX hx he) he hk,hq,g3,g4,g5⟩
  cases g1 with
  | code hx h'=>
   cases h';obtain⟨a',hia',hlt,hcan⟩:=g2;obtain⟨sr2,ρ2,a1,a2,a3,a4⟩:=hcan ρ1 sr1 g3 g5;obtain⟨k2,e2,sr3,ρ3,st3,q1,q2,q3,q4,q5⟩:=ih (m a') (by omega) a' rfl hia' ρ2 sr2 a2 a4;refine⟨max k k2,e2,sr3,ρ3,st3, ?_,q2,q3,g4.trans (a3.trans q4),q5⟩;cases q1 with
   | code h h'=>exact .code (.loopN (hx.le (Nat.le_max_left _ _)) (a1 _ _ _ _ (h.le (Nat.le_max_right _ _)))) (h'.le (Nat.le_max_right _ _))
   | codeX h he hx' h'=>exact .codeX (.loopN (hx.le (Nat.le_max_left _ _)) (a1 _ _ _ _ (h.le (Nat.le_max_right _ _)))) he hx' (h'.le (Nat.le_max_right _ _))
   | codeE h he hx'=>exact .codeE (.loopN (hx.le (Nat.le_max_left _ _)) (a1 _ _ _ _ (h.le (Nat.le_max_right _ _)))) he hx'
  | codeX hx he hk h'=>cases h'<;>simp[exK]at hk
  | codeE hx he hk=>exact done _ he hx g2
 exact Sem.can h0 (key _ a0 rfl hi)
end
def ρ0:Ren:=λ_=>none
section
variable {ρ ρ':Ren}
mutual
theorem Qp:∀(a b:AV),a.tree=true->RelV ρ a b->RelV ρ' a b
 |.bool _,_,_,h |.int _ _,_,_,h |.str _,_,_,h |.nilp,_,_,h |.nils,_,_,h |.nilm,_,_,h |.nilf,_,_,h |.nili,_,_,h=>by simpa only [RelV]using h
 |.any,_,ht,_=>by simp[AV.tree]at ht
 |.ptr _ _ _,_,ht,_=>by simp[AV.tree]at ht
 |.map _,_,ht,_=>by simp[AV.tree]at ht
 |.slice _ _ _ _ _,_,ht,_=>by simp[AV.tree]at ht
 |.lst w xs _,_,ht,h=>by
  simp only[RelV]at h|-;simp only[AV.tree]at ht;rcases h with⟨ys,c,h1,h2,h3⟩ | h
  ·exact .inl ⟨ys,c,h1,h2,J3 xs ys ht h3⟩
  ·exact .inr h
 |.ept x _,_,ht,h=>by
  simp only[RelV]at h|-;simp only[AV.tree]at ht;obtain⟨y,h1,h2⟩:=h;exact⟨y,h1,Qp x y ht h2⟩
 |.fn _ cs,_,ht,h=>by
  simp only[RelV]at h|-;simp only[AV.tree]at ht;obtain⟨ds,h1,h2⟩:=h;exact⟨ds,h1,J3 cs _ ht h2⟩
 |.iface _ x,_,ht,h=>by
  simp only[RelV]at h|-;simp only[AV.tree]at ht;obtain⟨u,h1,h2⟩:=h;exact⟨u,h1,Qp x u ht h2⟩
 |.agg cs,_,ht,h=>by
  simp only[RelV]at h|-;simp only[AV.tree]at ht;obtain⟨ds,h1,h2⟩:=h;exact⟨ds,h1,J3 cs _ ht h2⟩
 |.tup cs,_,ht,h=>by
  simp only[RelV]at h|-;simp only[AV.tree]at ht;obtain⟨ds,h1,h2⟩:=h;exact⟨ds,h1,J3 cs _ ht h2⟩
theorem J3:∀(as bs:List AV),AV.trees as=true->RelVs ρ as bs->RelVs ρ' as bs
 |[],_,_,h=>by simpa only [RelVs]using h
 | a::as,bs,ht,h=>by
  simp only[RelVs]at h|-;simp only[AV.trees,bAt]at ht;obtain⟨b,bs,h1,h2,h3⟩:=h;exact⟨b,bs,h1,Qp a b ht.1 h2,J3 as bs ht.2 h3⟩
end
mutual
theorem UN:∀(a b:AV),a.tree=true->RelV ρ a b->b.tree=true
 |.bool _,_,_,h |.int _ _,_,_,h |.str _,_,_,h |.nilp,_,_,h |.nils,_,_,h |.nilm,_,_,h |.nilf,_,_,h |.nili,_,_,h=>by simp only[RelV]at h;subst h;rfl
 |.any,_,ht,_=>by simp[AV.tree]at ht
 |.ptr _ _ _,_,ht,_=>by simp[AV.tree]at ht
 |.map _,_,ht,_=>by simp[AV.tree]at ht
 |.slice _ _ _ _ _,_,ht,_=>by simp[AV.tree]at ht
 |.lst w xs _,_,ht,h=>by
  simp only[RelV]at h;simp only[AV.tree]at ht;rcases h with⟨ys,c,rfl,h2,h3⟩ | ⟨_,rfl⟩
  ·simp only[AV.tree];exact YT xs ys ht h3
  ·rfl
 |.ept x _,_,ht,h=>by
  simp only[RelV]at h;simp only[AV.tree]at ht;obtain⟨y,rfl,h2⟩:=h;simp only[AV.tree];exact UN x y ht h2
 |.fn _ cs,_,ht,h=>by
  simp only[RelV]at h;simp only[AV.tree]at ht;obtain⟨ds,rfl,h2⟩:=h;simp only[AV.tree];exact YT cs _ ht h2
 |.iface _ x,_,ht,h=>by
  simp only[RelV]at h;simp only[AV.tree]at ht;obtain⟨u,rfl,h2⟩:=h;simp only[AV.tree];exact UN x u ht h2
 |.agg cs,_,ht,h=>by
  simp only[RelV]at h;simp only[AV.tree]at ht;obtain⟨ds,rfl,h2⟩:=h;simp only[AV.tree];exact YT cs _ ht h2
 |.tup cs,_,ht,h=>by
  simp only[RelV]at h;simp only[AV.tree]at ht;obtain⟨ds,rfl,h2⟩:=h;simp only[AV.tree];exact YT cs _ ht h2
theorem YT:∀(as bs:List AV),AV.trees as=true->RelVs ρ as bs->AV.trees bs=true
 |[],_,_,h=>by simp only[RelVs]at h;subst h;rfl
 | a::as,bs,ht,h=>by
  simp only[RelVs]at h;simp only[AV.trees,bAt]at ht;obtain⟨b,bs,rfl,h2,h3⟩:=h;simp only[AV.trees,bAt];exact⟨UN a b ht.1 h2,YT as bs ht.2 h3⟩
end
mutual
theorem VQ:∀(a b:AV),a.leaf=true->RelV ρ a b->b=a
 |.bool _,_,_,h |.int _ _,_,_,h |.str _,_,_,h |.nilp,_,_,h |.nils,_,_,h |.nilm,_,_,h |.nilf,_,_,h |.nili,_,_,h=>by simp only[RelV]at h;exact h
 |.any,_,ht,_=>by simp[AV.leaf]at ht
 |.ptr _ _ _,_,ht,_=>by simp[AV.leaf]at ht
 |.map _,_,ht,_=>by simp[AV.leaf]at ht
 |.slice _ _ _ _ _,_,ht,_=>by simp[AV.leaf]at ht
 |.lst _ _ _,_,ht,_=>by simp[AV.leaf]at ht
 |.ept _ _,_,ht,_=>by simp[AV.leaf]at ht
 |.fn _ cs,_,ht,h=>by
  simp only[RelV]at h;simp only[AV.leaf]at ht;obtain⟨ds,rfl,h2⟩:=h;rw[VS cs _ ht h2]
 |.iface _ x,_,ht,h=>by
  simp only[RelV]at h;simp only[AV.leaf]at ht;obtain⟨u,rfl,h2⟩:=h;rw[VQ x u ht h2]
 |.agg cs,_,ht,h=>by
  simp only[RelV]at h;simp only[AV.leaf]at ht;obtain⟨ds,rfl,h2⟩:=h;rw[VS cs _ ht h2]
 |.tup cs,_,ht,h=>by
  simp only[RelV]at h;simp only[AV.leaf]at ht;obtain⟨ds,rfl,h2⟩:=h;rw[VS cs _ ht h2]
theorem VS:∀(as bs:List AV),AV.leafs as=true->RelVs ρ as bs->bs=as
 |[],_,_,h=>by simpa only [RelVs]using h
 | a::as,bs,ht,h=>by
  simp only[RelVs]at h;simp only[AV.leafs,bAt]at ht;obtain⟨b,bs,rfl,h2,h3⟩:=h;rw[VQ a b ht.1 h2,VS as bs ht.2 h3]
end
inductive Cv(h:List qA):AV->AV->Prop
 | refl {v} (ht:v.tree=true):Cv h v v
 | nils {w c}:Cv h .nils (.lst w [] c)
 | slc {w id off len clip el ts} (ho:h[id]?=some (.row w el true)) (hl:off+len<=el.length) (hw:0<w) (hs:((el.drop off).take len).length=ts.length) (hc:∀p∈((el.drop off).take len).zip ts,Cv h p.1 p.2):Cv h (.slice w id off len clip) (.lst w ts false)
 | ptr {id i j w el x t} (ho:h[id]?=some (.row w el true)) (hw:0<w) (he:el[i]?=some x) (hc:Cv h x t):Cv h (.ptr id i j) (.ept t j)
 | agg {cs ds} (hl:cs.length=ds.length) (hc:∀p∈cs.zip ds,Cv h p.1 p.2):Cv h (.agg cs) (.agg ds)
 | fn {g cs ds} (hl:cs.length=ds.length) (hc:∀p∈cs.zip ds,Cv h p.1 p.2):Cv h (.fn g cs) (.fn g ds)
 | tup {cs ds} (hl:cs.length=ds.length) (hc:∀p∈cs.zip ds,Cv h p.1 p.2):Cv h (.tup cs) (.tup ds)
 | sub {x y j sh} (ht:x.tree=true) (hp:x.part j sh=some y) (hy:0<y.cells.length):Cv h (.ept x j) (.ept y 0)
theorem Cv.conv{h:List qA}{hr:AH}(hh:zL ρ h hr){K:List Nat}(hK:∀i a w el,ρ i=some (some a)->h[i]?=some (.row w el true)->K.contains a=true){v t:AV}(hc:Cv h v t):
  ∀{r:AV},RelV ρ v r->∃r',zK hr K r r'/\RelV ρ0 t r':=by
 have list:∀{cs ds rs:List AV},cs.length=ds.length->(∀p∈cs.zip ds,∀{r:AV},RelV ρ p.1 r->∃r',zK hr K r r'/\RelV ρ0 p.2 r')->RelVs ρ cs rs->
   ∃rs',rs.length=rs'.length/\(∀p∈rs.zip rs',zK hr K p.1 p.2)/\RelVs ρ0 ds rs':=by
  intro cs
  induction cs with
  | nil=>
   intro ds rs hl _ hr;have:ds=[]:=lEz (by simpa using hl.symm);subst this;simp only[RelVs]at hr;subst hr;exact⟨[],rfl,λp hp=>by simp at hp,by simp only[RelVs]⟩
  | cons c cs ih=>
   intro ds rs hl hi hr;cases ds with
   | nil=>simp at hl
   | cons d ds=>
    simp only[RelVs]at hr;obtain⟨r,rs,rfl,h1,h2⟩:=hr;obtain⟨r',q1,q2⟩:=hi (c,d) (by simp) h1;obtain⟨rs',q3,q4,q5⟩:=ih (by simpa using hl) (λp hp=>hi p (by simp only[List.zip_cons_cons];exact mCm _ hp)) h2;refine⟨r'::rs',by simp[q3],λp hp=>?_,by simp only[RelVs];exact⟨r',rs',rfl,q2,q5⟩⟩;simp only[List.zip_cons_cons,mCo]at hp;rcases hp with rfl | hp
    ·exact q1
    ·exact q4 p hp
 induction hc with
 | refl ht=>exact λhr=>⟨_,.refl _,Qp _ _ ht hr⟩
 | @nils w c=>
  intro r hr;simp only[RelV]at hr;subst hr;exact⟨.lst w [] c,.nils,by simp only[RelV];exact .inl ⟨[],c,rfl,λh=>h,by simp only[RelVs]⟩⟩
 | @slc w id off len clip el ts ho hl hw hs hc ih=>
  intro r hr;simp only[RelV]at hr;rcases hr with⟨a,ha,rfl⟩ | ⟨ha,rfl,rfl,hc0⟩
  ·rcases hh.obj _ _ ho with⟨q,_⟩ | ⟨i',el',q1,q2,q3⟩
   ·rw[ha]at q;cases q
   rw[ha]at q1;cases q1;obtain⟨rs',g1,g2,g3⟩:=list hs (λp hp=>ih p hp) ((q3.drop off).take len);refine⟨.lst w rs' clip,.slc (hK _ _ _ _ ha ho) q2 (by rw[q3.length];exact hl) hw g1 g2, ?_⟩;simp only[RelV];exact .inl ⟨rs',clip,rfl,by simp,g3⟩
  ·have:ts=[]:=lEz (by rw[<-hs];simp);subst this;rcases hc0 with rfl | rfl
   ·exact⟨.lst w [] false,.nils,by simp only[RelV];exact .inl ⟨[],false,rfl,λh=>h,by simp only[RelVs]⟩⟩
   ·exact⟨.lst w [] true,.refl _,by simp only[RelV];exact .inl ⟨[],true,rfl,λ_=>rfl,by simp only[RelVs]⟩⟩
 | @ptr id i j w el x t ho hw he hc ih=>
  intro r hr;simp only[RelV]at hr;obtain⟨a,ha,rfl⟩:=hr;rcases hh.obj _ _ ho with⟨q,_⟩ | ⟨i',el',q1,q2,q3⟩
  ·rw[ha]at q;cases q
  rw[ha]at q1;cases q1;obtain⟨y,g1,g2⟩:=q3.get he;obtain⟨r',g3,g4⟩:=ih g2;exact⟨.ept r' j,.ptr (hK _ _ _ _ ha ho) q2 hw g1 g3,by simp only[RelV];exact⟨r',rfl,g4⟩⟩
 | sub ht hp hy=>
  intro r hr;have hr2:=Qp (ρ':=ρ0) _ _ (by simpa only [AV.tree]using ht) hr;simp only[RelV]at hr2;obtain⟨y',rfl,hr3⟩:=hr2;obtain⟨z,g1,g2⟩:=hr3.part hp;exact⟨.ept z 0,.sub g1 (by rw[g2.cellsLen];exact hy),by simp only[RelV];exact⟨z,rfl,g2⟩⟩
 | agg hl hc ih=>
  intro r hr;simp only[RelV]at hr;obtain⟨rs,rfl,hr⟩:=hr;obtain⟨rs',g1,g2,g3⟩:=list hl (λp hp=>ih p hp) hr;exact⟨.agg rs',.agg g1 g2,by simp only[RelV];exact⟨rs',rfl,g3⟩⟩
 | fn hl hc ih=>
  intro r hr;simp only[RelV]at hr;obtain⟨rs,rfl,hr⟩:=hr;obtain⟨rs',g1,g2,g3⟩:=list hl (λp hp=>ih p hp) hr;exact⟨.fn _ rs',.fn g1 g2,by simp only[RelV];exact⟨rs',rfl,g3⟩⟩
 | tup hl hc ih=>
  intro r hr;simp only[RelV]at hr;obtain⟨rs,rfl,hr⟩:=hr;obtain⟨rs',g1,g2,g3⟩:=list hl (λp hp=>ih p hp) hr;exact⟨.tup rs',.tup g1 g2,by simp only[RelV];exact⟨rs',rfl,g3⟩⟩
def Cvs(h:List qA)(as bs:List AV):Prop:=as.length=bs.length/\∀p∈as.zip bs,Cv h p.1 p.2
theorem Cvs.nil{h:List qA}:Cvs h [] []:=⟨rfl,λp hp=>by simp at hp⟩
theorem Cvs.cons{h:List qA}{a b:AV}{as bs:List AV}(x:Cv h a b)(y:Cvs h as bs):Cvs h (a::as) (b::bs):=⟨by simp[y.1],λp hp=>by
 simp only[List.zip_cons_cons,mCo]at hp;rcases hp with rfl | hp
 ·exact x
 ·exact y.2 p hp⟩
theorem Cvs.conv{h:List qA}{hr:AH}(hh:zL ρ h hr){K:List Nat}(hK:∀i a w el,ρ i=some (some a)->h[i]?=some (.row w el true)->K.contains a=true){vs ts rs:List AV}(hc:Cvs h vs ts)(hv:RelVs ρ vs rs):
  ∃rs',rs.length=rs'.length/\(∀p∈rs.zip rs',zK hr K p.1 p.2)/\RelVs ρ0 ts rs':=by
 have:=Cv.conv hh hK (v:=.tup vs) (t:=.tup ts) (.tup hc.1 hc.2) (r:=.tup rs) (by simp only[RelV];exact⟨rs,rfl,hv⟩);obtain⟨r',h1,h2⟩:=this;simp only[RelV]at h2;obtain⟨rs',rfl,h2⟩:=h2;cases h1 with
 | refl _=>exact⟨rs,rfl,λp hp=>by
   have:p.1=p.2:=by
    obtain⟨i,hi,rfl⟩:=List.getElem_of_mem hp;simp
   rw[this];exact .refl _,h2⟩
 | tup hl hc=>exact⟨rs',hl,hc,h2⟩
def Pure(Γ:Nat->Option AFn)(g:Nat)(as:List AV)(v:AV):Prop:=
 AV.trees as=true/\v.tree=true/\∀hr ar,RelVs ρ0 as ar->∃k r hr',Ex Γ k (.call g ar hr) (.res (.ok r) hr')/\hr'.f=hr.f/\(∀a,hr'.fr a->hr.fr a)/\RelV ρ0 v r
variable {Γ:Nat->Option AFn} {g:Nat} {vs vs':List AV} {h:List qA}
theorem SCallP.pure{K:AV->Prop}{v:AV}(hp:Pure Γ g vs v)(hk:K v):SCallP Γ g vs h K:=λρ hr ar hH hv=>by
 obtain⟨t1,t2,hp⟩:=hp;obtain⟨k,r,hr',h1,h2,h3,h4⟩:=hp hr ar (J3 _ _ t1 hv);exact⟨k,r,hr',v,h1,h2,h3,hk,Qp _ _ t2 h4⟩
theorem SCall.ofP{K:AV->List qA->Prop}(hp:SCallP Γ g vs h λv=>K v h):SCall Γ g vs h K:=λρ hr ar hH hv=>by
 obtain⟨k,r,hr',v,h1,h2,h3,h4,h5⟩:=hp ρ hr ar hH hv;refine⟨k,r,hr',ρ,v,h,h1,h4,⟨λi o hi=>(hH.obj i o hi).mono (λ_ _ q=>q) (λa o' _ q=>by rw[h2];exact q),hH.inj,hH.out,λi a hi=>by rw[h2];exact hH.is i a hi⟩,h5, ?_,nLr _⟩;exact⟨λa o q _=>by rw[h2];exact q,λi a hi=>.inl ⟨i,hi⟩,h3,λ_ _=>rfl⟩
theorem SCallK.ofP{K:AV->List qA->Prop}(hp:SCallP Γ g vs h λv=>K v h):SCallK Γ g vs h K:=λρ hr ar hH hv=>by
 obtain⟨k,r,hr',v,h1,h2,h3,h4,h5⟩:=hp ρ hr ar hH hv;refine⟨k,r,hr',ρ,v,h,h1,h4,⟨λi o hi=>(hH.obj i o hi).mono (λ_ _ q=>q) (λa o' _ q=>by rw[h2];exact q),hH.inj,hH.out,λi a hi=>by rw[h2];exact hH.is i a hi⟩,h5, ?_,nLr _,λa o q=>by rw[h2];exact q⟩;exact⟨λa o q _=>by rw[h2];exact q,λi a hi=>.inl ⟨i,hi⟩,h3,λ_ _=>rfl⟩
theorem SCall.pure{K:AV->List qA->Prop}{v:AV}(hp:Pure Γ g vs v)(hk:K v h):SCall Γ g vs h K:=SCall.ofP (SCallP.pure hp hk)
theorem qBF(hr:AH):∃K,All hr K:=by
 obtain⟨n,hn⟩:=hr.fin;refine⟨(List.range n).filter λi=>match hr i with | some o=>o.wr | none=>false,λid=>?_⟩;rw[lCm,mFi,lMr];constructor
 ·rintro⟨_,h⟩;split at h
  ·rename_i o ho;exact⟨o,ho,h⟩
  ·cases h
 ·rintro⟨o,ho,hw⟩;refine⟨?_,by rw[ho];exact hw⟩;rcases Nat.lt_or_ge id n with q | q
  ·exact q
  ·rw[(hn id q).1]at ho;cases ho
theorem SCallP.lend{K:AV->Prop}{v:AV}(hc:Cvs h vs vs')(hp:Pure Γ g vs' v)(hl:v.leaf=true)(hk:K v):SCallP Γ g vs h K:=λρ hr ar hH hv=>by
 obtain⟨t1,t2,hp⟩:=hp;obtain⟨KK,hKK⟩:=qBF hr;have hKr:∀i a w el,ρ i=some (some a)->h[i]?=some (.row w el true)->KK.contains a=true:=λi a w el ha ho=>by
  rcases hH.obj _ _ ho with⟨q,_⟩ | ⟨i',el',q1,q2,q3⟩
  ·rw[ha]at q;cases q
  ·rw[ha]at q1;cases q1;exact(hKK a).2 ⟨_,q2,rfl⟩
 obtain⟨rs',g1,g2,g3⟩:=hc.conv hH hKr hv;obtain⟨k,r,hr',h1,h2,h3,h4⟩:=hp (hr.kill KK) rs' g3;have hrv:=VQ _ _ hl h4;subst hrv;refine⟨k,r,hr.tomb hr',r,.brw KK hKK g1 g2 hl h1,rfl,λa ha=>?_,hk,Qp _ _ t2 h4⟩;exact(AH.fr_kill (h3 a (AH.fr_tomb ha))).1
theorem SCall.lend{K:AV->List qA->Prop}{v:AV}(hc:Cvs h vs vs')(hp:Pure Γ g vs' v)(hl:v.leaf=true)(hk:K v h):SCall Γ g vs h K:=SCall.ofP (SCallP.lend hc hp hl hk)
def only(ids:List Nat)(h:List qA):List qA:=h.mapIdx λi o=>if ids.contains i then o else .dead
def without(ids:List Nat)(h:List qA):List qA:=h.mapIdx λi o=>if ids.contains i then .dead else o
theorem Vq{ids:List Nat}{i:Nat}{o:qA}(hi:(only ids h)[i]?=some o)(hd:o≠.dead):ids.contains i=true/\h[i]?=some o:=by
 simp only[only,List.getElem?_mapIdx,oMi]at hi;obtain⟨x,h1,h2⟩:=hi;split at h2
 ·rename_i hc;subst h2;exact⟨hc,h1⟩
 ·exact absurd h2.symm hd
theorem qDH{ids:List Nat}{i:Nat}{o:qA}(hi:(without ids h)[i]?=some o)(hd:o≠.dead):ids.contains i=false/\h[i]?=some o:=by
 simp only[without,List.getElem?_mapIdx,oMi]at hi;obtain⟨x,h1,h2⟩:=hi;split at h2
 ·exact absurd h2.symm hd
 ·rename_i hc;subst h2;exact⟨by simpa using hc,h1⟩
def jo(ρ:Ren)(h:List qA):List Nat->List Nat
 |[]=>[]
 | i::r=>match ρ i,h[i]? with
  | some (some a),some (.row _ _ true)=>a::jo ρ h r
  | _,_=>jo ρ h r
theorem J0{ρ:Ren}{h:List qA}{a:Nat}:∀{ids:List Nat},a∈jo ρ h ids↔∃i w el,i∈ids/\ρ i=some (some a)/\h[i]?=some (.row w el true)
 |[]=>by simp[jo]
 | i::r=>by
  have ih:=J0 (ρ:=ρ) (h:=h) (a:=a) (ids:=r);simp only[jo];split
  ·rename_i b w el h1 h2;simp only[mCo,ih];constructor
   ·rintro(rfl | ⟨j,w,el,q1,q2,q3⟩)
    ·exact⟨i,w,el,.inl rfl,h1,h2⟩
    ·exact⟨j,w,el,.inr q1,q2,q3⟩
   ·rintro⟨j,w',el',rfl | q1,q2,q3⟩
    ·rw[h1]at q2;cases q2;exact .inl rfl
    ·exact .inr ⟨j,w',el',q1,q2,q3⟩
  ·rename_i hn;rw[ih];constructor
   ·rintro⟨j,w,el,q1,q2⟩;exact⟨j,w,el,mCm _ q1,q2⟩
   ·rintro⟨j,w',el',q1,q2,q3⟩;rcases mCo.1 q1 with rfl | q1
    ·exact(hn a w' el' q2 q3).elim
    ·exact⟨j,w',el',q1,q2,q3⟩
theorem zL.rows{h:List qA}{hr:AH}(hH:zL ρ h hr)(ids:List Nat):Rows hr (jo ρ h ids):=λa ha=>by
 rw[lCm,J0]at ha;obtain⟨i,w,el,_,q2,q3⟩:=ha;rcases hH.obj _ _ q3 with⟨q,_⟩ | ⟨i',el',g1,g2,g3⟩
 ·rw[q2]at q;cases q
 ·rw[q2]at g1;cases g1;exact⟨_,g2,rfl⟩
def wA(st:VSt):St:=⟨toE st.s,toE st.l,toH st.h⟩
def Xg(res:List jd)(v:AV):qn->VSt->Prop:=λe st=>(e=.nrm\/e=.ret)/\match jK (wA st) res with
 | some vs=>Cv st.h (zk vs) v
 | none=>False
def qN:Nat->List AV->qt
 | _,[]=>[]
 | n,a::as=>(n,a)::qN (n+1) as
theorem X3:∀{as ar:List AV}{n:Nat},RelVs ρ as ar->RelE ρ (qN n as) (params n ar)
 |[],ar,n,h=>λi v hi=>by cases hi
 | a::as,ar,n,h=>by
  simp only[RelVs]at h;obtain⟨r,rs,rfl,h1,h2⟩:=h;exact(X3 h2).cons h1
theorem qrD{st:VSt}{sr:St}(hS:zY ρ st sr){x:jd}{v:AV}(hv:JB (wA st) x=some v):∃r,JB sr x=some r/\RelV ρ v r:=by
 cases x with
 | t n=>exact hS.s n v hv
 | l t sh=>
  simp only[JB,Option.bind_eq_some_iff]at hv|-;obtain⟨c,h1,h2⟩:=hv;obtain⟨r,h3,h4⟩:=hS.l t c h1;obtain⟨y,h5,h6⟩:=h4.part h2;exact⟨y,⟨r,h3,h5⟩,h6⟩
 | h t sh=>
  simp only[JB]at hv|-;split at hv
  ·rename_i id i j hp;obtain⟨r,h3,h4⟩:=hS.s t _ hp;obtain⟨id',y,rfl,h5,h6⟩:=qHI hS.h h4 hv;rw[h3];exact⟨y,h5,h6⟩
  ·cases hv
theorem YA{st:VSt}{sr:St}(hS:zY ρ st sr):∀{l:List jd}{vs:List AV},jK (wA st) l=some vs->∃rs,jK sr l=some rs/\RelVs ρ vs rs
 |[],vs,h=>by cases h;exact⟨[],rfl,by simp only[RelVs]⟩
 | x::l,vs,h=>by
  simp only[jK]at h;split at h
  ·rename_i v vs' h1 h2;cases h;obtain⟨r,q1,q2⟩:=qrD hS h1;obtain⟨rs,q3,q4⟩:=YA hS h2;exact⟨r::rs,by simp only[jK,q1,q3],by simp only[RelVs];exact⟨r,rs,rfl,q2,q4⟩⟩
  ·cases h
theorem Vr{vs rs:List AV}(h:RelVs ρ vs rs):RelV ρ (zk vs) (zk rs):=by
 cases vs with
 | nil=>simp only[RelVs]at h;subst h;simp[zk,RelV,RelVs]
 | cons a vs=>
  cases vs with
  | nil=>
   simp only[RelVs]at h;obtain⟨r,_,rfl,h1,rfl⟩:=h;exact h1
  | cons b vs=>
   have h':=h;simp only[RelVs]at h;obtain⟨r,_,rfl,h1,s,rs,rfl,h2,h3⟩:=h;simp only[zk,RelV];exact⟨_,rfl,h'⟩
theorem AH.fr_of_tomb{h h':AH}{a:Nat}(k:(h.tomb h').fr a):h.fr a:=by
 obtain⟨h1,h2⟩:=k;have h2':(h.tb a || h'.tb a || ((h'.f a).isSome&&(h.f a).isNone))=false:=h2;simp only[Bool.or_eq_false_iff]at h2';exact⟨h1,h2'.1.1⟩
theorem Pure.intro{F:qK}{as:List AV}{v:AV}(fz bp:List Nat)(hg:Γ g=some (.fn F))(hok:F.body.ok=true)(hn:as.length=F.np)(ht:AV.trees as=true)(hv:v.tree=true)
  (hR:R ⟨Γ,0,fz,bp⟩ [.code F.body] ⟨qN 0 as,[],[]⟩ (Xg F.res v)):Pure Γ g as v:=by
 refine⟨ht,hv,λhr ar har=>?_⟩;have hS:zY ρ0 ⟨qN 0 as,[],[]⟩ {s:=params 0 ar,l:=Env.empty,h:=hr}:=⟨X3 har,(λn v h=>by cases h),⟨(λi o h=>by simp at h),(λi j a o o' h=>by cases h),(λ_ _=>rfl),(λi a h=>by cases h)⟩⟩;obtain⟨k,e,sr',ρ',st',g1,⟨he,hq⟩,g3,g4,_⟩:=Sem.of (by simpa only [lAc,List.all_nil,Bool.and_true,Fr1.ok]using hok) hR ρ0 _ hS (nZl _);have hb:Ex Γ k (.code F.body {s:=params 0 ar,l:=Env.empty,h:=hr}) (.st e sr'):=by
  cases g1 with
  | code h h'=>cases h';exact h
  | codeX h he' hx h'=>cases e<;>simp[exK]at hx
  | codeE h he' hx=>exact h
 split at hq
 ·rename_i vs hvs;obtain⟨rs,q1,q2⟩:=YA g3 hvs;have hx:=Ex.fn hg (by rw[har.length];exact hn) hb he q1;obtain⟨r',c1,c2⟩:=Cv.conv g3.h (K:=jo ρ' st'.h (List.range st'.h.length)) (λi a w el ha ho=>by
   rw[lCm,J0];exact⟨i,w,el,lMr.2 (ZA ho),ha,ho⟩) hq (Vr q2)
  have hx2:=Ex.frzR _ (g3.h.rows _) c1 hx;have hold:∀id o,hr id=some o->(sr'.h.kill (jo ρ' st'.h (List.range st'.h.length))) id=some o:=λid o ho=>by
   rw[AH.kill_at,iN]
   ·exact g4.pres id o ho (λi hi=>by cases hi)
   ·rw[lCm,J0];rintro⟨i,w,el,_,p2,_⟩;rcases g4.new i id p2 with⟨j,hj⟩ | hf
    ·cases hj
    ·have:hr id=none:=hf.1;rw[this]at ho;cases ho
  exact⟨k+1,r',_,.drop hold (UN _ _ hv c2) hx2,rfl,λa ha=>AH.fr_of_tomb ha,c2⟩
 ·exact hq.elim
end
attribute [irreducible] Pure
theorem nr{α:Sort _}{a b:α}(h:a=b):a=b:=h
def Go1(E:Ev)(c:qG)(l:List qG)(ks:List Fr1)(st:VSt)(Q:qn->VSt->Prop):Prop:=wJ E c st λst'=>R E (.ops l::ks) st' Q
def Grd(E:Ev)(v:Option AV)(t:Bool)(c:qG)(l:List qG)(ks:List Fr1)(st:VSt)(Q:qn->VSt->Prop):Prop:=match v with
 | some (.bool c')=>if c'=t then Go1 E c l ks st Q else R E (.ops l::ks) (st.put c.d .undef) Q
 | some (.tup [])=>R E (.ops l::ks) (st.put c.d .undef) Q
 | _=>False
def Put(E:Ev)(v:Option AV)(d:Option Nat)(l:List qG)(ks:List Fr1)(st:VSt)(Q:qn->VSt->Prop):Prop:=match v with
 | some v=>R E (.ops l::ks) (st.put d v) Q
 | none=>False
def Cnd(E:Ev)(v:Option AV)(a b:qP)(ks:List Fr1)(st:VSt)(Q:qn->VSt->Prop):Prop:=match v with
 | some (.bool t)=>if t=true then R E (.code a::ks) st Q else R E (.code b::ks) st Q
 | _=>False
def jz(E:Ev)(v:Option (Nat×List AV))(ck:List qG)(d:Option Nat)(l:List qG)(ks:List Fr1)(st:VSt)(Q:qn->VSt->Prop):Prop:=match v with
 | some (g,vs)=>match ck with
  |[]=>SCall E.Γ g vs st.h (λv h'=>R E (.ops l::ks) {s:=wI st.s d v,l:=st.l,h:=h'} Q)
  | c::r=>SCallK E.Γ g vs st.h (λv h'=>R E (.ops l::ks) {s:=wI st.s d v,l:=st.l,h:=h'} Q)\/SCall E.Γ g vs st.h (λv h'=>ckVs {s:=wI st.s d v,l:=st.l,h:=h'} (c::r)/\R E (.ops l::ks) {s:=wI st.s d v,l:=st.l,h:=h'} Q)
 | none=>False
def WA(E:Ev)(e:qn)(k:Option (List Fr1))(st:VSt)(Q:qn->VSt->Prop):Prop:=match k with
 | some ks=>R E ks st Q
 | none=>Q e st
def JN(E:Ev)(d:Option Nat)(o:qA)(v:AV)(l:List qG)(ks:List Fr1)(st:VSt)(Q:qn->VSt->Prop):Prop:=R E (.ops l::ks) ⟨wI st.s d v,st.l,st.h++[o]⟩ Q
section
variable {E:Ev} {ks:List Fr1} {s m:qt} {h:List qA} {st:VSt} {Q:qn->VSt->Prop} {a b:qP} {c x y z:Ao} {op:BinOp} {l:List qG} {n t off i:Nat} {d:Option Nat} {sh:Option Nat} {v:AV} {g:Option (Nat×Bool)} {ck:List qG}
@[go_sem] theorem qxD:R E [] st Q=Q .nrm st:=by rw[R]
@[go_sem] theorem qw8:R E (.blk n::ks) st Q=R E ks st Q:=by rw[R]
@[go_sem] theorem qxE:R E (.ops []::ks) st Q=R E ks st Q:=by rw[R]
@[go_sem] theorem qxL:R E (.code .skip::ks) st Q=R E ks st Q:=by rw[R]
@[go_sem] theorem qxK:R E (.code (.seq a b)::ks) st Q=R E (.code a::.code b::ks) st Q:=by rw[R]
@[go_sem] theorem qw9:R E (.code (.blk n a)::ks) st Q=R E (.code a::.blk n::ks) st Q:=by rw[R]
@[go_sem] theorem qxJ:R E (.code .ret::ks) st Q=Q .ret st:=by
 rw[R];split
 ·rename_i ks' hx;rw[Q1]at hx;cases hx
 ·rfl
@[go_sem] theorem qxB:R E (.code (.exit n)::ks) st Q=WA E (.exit n) (exK (.exit n) ks) st Q:=by
 rw[R];unfold WA;split<;>simp_all
@[go_sem] theorem qt0{e:qn}:WA E e (some ks) st Q=R E ks st Q:=nr rfl
@[go_sem] theorem qtZ{e:qn}:WA E e none st Q=Q e st:=nr rfl
@[go_sem] theorem qtY{e:qn}:exK e []=none:=by cases e<;>rfl
@[go_sem] theorem qtX{e:qn}:exK e (.code a::ks)=exK e ks:=Y6
@[go_sem] theorem qtW{m:Nat}:exK (.exit m) (.blk n::ks)=if m=n then some ks else exK (.exit m) ks:=nr rfl
@[go_sem] theorem qxC:R E (.code (.loop a)::ks) st Q=Sem E (.code (.loop a)::ks) st Q:=by rw[R]
theorem qI7{Γ:Nat->Option AFn}{b:Nat}{fz bp:List Nat}{p:Bool}:R ⟨Γ,b,fz,bp⟩ (.code (.reg p l)::ks) st Q=if bp.contains (qGD l)then Sem ⟨Γ,b,fz,bp⟩ (.code (.reg p l)::ks) st Q else R ⟨Γ,b,fz,bp⟩ (.ops l::ks) (QZ fz st) Q:=by rw[R]
@[go_sem] theorem qxH{Γ:Nat->Option AFn}{b:Nat}{p:Bool}:R ⟨Γ,b,[],[]⟩ (.code (.reg p l)::ks) st Q=R ⟨Γ,b,[],[]⟩ (.ops l::ks) st Q:=by rw[qI7];rfl
@[go_sem] theorem qxI{Γ:Nat->Option AFn}{b k:Nat}{fz:List Nat}{p:Bool}:R ⟨Γ,b,k::fz,[]⟩ (.code (.reg p l)::ks) st Q=R ⟨Γ,b,k::fz,[]⟩ (.ops l::ks) (QZ (k::fz) st) Q:=by rw[qI7];rfl
@[go_sem] theorem quF:QZ [] st=st:=nr rfl
@[go_sem] theorem quE{fz:List Nat}:QZ (n::fz) st=QZ fz (QY n st):=nr rfl
@[go_sem] theorem qxA:R E (.code (.cond c a b)::ks) ⟨s,m,h⟩ Q=Cnd E (ev (toE s) c) a b ks ⟨s,m,h⟩ Q:=by rw[R];rfl
@[go_sem] theorem qtM:Cnd E (some (.bool true)) a b ks st Q=R E (.code a::ks) st Q:=nr rfl
@[go_sem] theorem qtL:Cnd E (some (.bool false)) a b ks st Q=R E (.code b::ks) st Q:=nr rfl
theorem qT{t:Bool}(h1:t=true->R E (.code a::ks) st Q)(h2:t=false->R E (.code b::ks) st Q):Cnd E (some (.bool t)) a b ks st Q:=by cases t;exact h2 rfl;exact h1 rfl
theorem zH{t u:Bool}{c:qG}(h1:t=u->Go1 E c l ks st Q)(h2:t=(!u)->R E (.ops l::ks) (st.put c.d .undef) Q):Grd E (some (.bool t)) u c l ks st Q:=by
 unfold Grd;by_cases e:t=u
 ·simp only[iP e];exact h1 e
 ·simp only[iN e];exact h2 (by cases t<;>cases u<;>simp_all)
@[go_sem] theorem qxF{o:AOp}:R E (.ops (.mk i d none o ck::l)::ks) ⟨s,m,h⟩ Q=Go1 E (.mk i d none o ck) l ks ⟨s,m,h⟩ Q:=by rw[R];rfl
@[go_sem] theorem qxG{o:AOp}{t:Bool}:R E (.ops (.mk i d (some (n,t)) o ck::l)::ks) ⟨s,m,h⟩ Q=Grd E (get s n) t (.mk i d (some (n,t)) o ck) l ks ⟨s,m,h⟩ Q:=by rw[R];rfl
@[go_sem] theorem qvS{c:qG}:Grd E (some (.bool true)) true c l ks st Q=Go1 E c l ks st Q:=nr rfl
@[go_sem] theorem qvP{c:qG}:Grd E (some (.bool false)) false c l ks st Q=Go1 E c l ks st Q:=nr rfl
@[go_sem] theorem qvR{k:Nat}{o:AOp}:Grd E (some (.bool true)) false (.mk i (some k) g o ck) l ks ⟨s,m,h⟩ Q=R E (.ops l::ks) ⟨(k,.undef)::s,m,h⟩ Q:=nr rfl
@[go_sem] theorem qvQ{k:Nat}{o:AOp}:Grd E (some (.bool false)) true (.mk i (some k) g o ck) l ks ⟨s,m,h⟩ Q=R E (.ops l::ks) ⟨(k,.undef)::s,m,h⟩ Q:=nr rfl
@[go_sem] theorem qvT{k:Nat}{o:AOp}{t:Bool}:Grd E (some .undef) t (.mk i (some k) g o ck) l ks ⟨s,m,h⟩ Q=R E (.ops l::ks) ⟨(k,.undef)::s,m,h⟩ Q:=nr rfl
@[go_sem] theorem d_mk{o:AOp}:(qG.mk i d g o ck).d=d:=nr rfl
@[go_sem] theorem qxW{k:Nat}:VSt.put ⟨s,m,h⟩ (some k) v=⟨(k,v)::s,m,h⟩:=nr rfl
@[go_sem] theorem qI6{k:Nat}:Put E (some v) (some k) l ks ⟨s,m,h⟩ Q=R E (.ops l::ks) ⟨(k,v)::s,m,h⟩ Q:=nr rfl
@[go_sem] theorem qwP{k:Nat}{o:qA}:JN E (some k) o v l ks ⟨s,m,h⟩ Q=R E (.ops l::ks) ⟨(k,v)::s,m,h++[o]⟩ Q:=nr rfl
theorem codeE{E:Ev}{ks:List Fr1}{st:VSt}{Q:qn->VSt->Prop}{a b:qP}(h:a=b):R E (.code a::ks) st Q=R E (.code b::ks) st Q:=by rw[h]
def oP(i d:Nat)(x:AOp):qG:=.mk i (some d) none x []
def oM(i d t:Nat):qG:=.mk i (some d) none (.mov (.t t)) []
def oG(i d k:Nat)(b:Bool)(x:AOp):qG:=.mk i (some d) (some (k,b)) x []
def oN(i:Nat)(x:AOp):qG:=.mk i none none x []
@[go_sem] theorem qwV{i d:Nat}{x:AOp}:oP i d x=.mk i (some d) none x []:=nr rfl
@[go_sem] theorem qwT{i d t:Nat}:oM i d t=.mk i (some d) none (.mov (.t t)) []:=nr rfl
@[go_sem] theorem qwS{i d k:Nat}{b:Bool}{x:AOp}:oG i d k b x=.mk i (some d) (some (k,b)) x []:=nr rfl
@[go_sem] theorem qwU{i:Nat}{x:AOp}:oN i x=.mk i none none x []:=nr rfl
@[go_sem] theorem quL{k:Nat}:get ((k,v)::s) n=if k=n then some v else get s n:=nr rfl
@[go_sem] theorem ev_t:ev (toE s) (.t n)=get s n:=nr rfl
@[go_sem] theorem ev_c:ev (toE s) (.c v)=some v:=nr rfl
@[go_sem] theorem ev_f{k:Nat}:ev (toE s) (.f k)=some (.fn k []):=nr rfl
@[go_sem] theorem qtV:evs (toE s) []=some []:=nr rfl
def Vm:Option AV->Option (List AV)->Option (List AV)
 | some a,some b=>some (a::b)
 | _,_=>none
@[go_sem] theorem qwW{vs:List AV}:Vm (some v) (some vs)=some (v::vs):=nr rfl
@[go_sem] theorem qtU{xs:List Ao}:evs (toE s) (x::xs)=Vm (ev (toE s) x) (evs (toE s) xs):=by
 simp only[evs];cases ev (toE s) x<;>cases evs (toE s) xs<;>rfl
theorem ji{o:AOp}(hc:o.isCall=false)(hx:∀K,wB o d ⟨s,m,h⟩ K=match wo o ⟨s,m,h⟩with | some v=>K (VSt.put ⟨s,m,h⟩ d v) | none=>False)(ha:o.isApp=false:=by rfl):Go1 E (.mk i d g o ck) l ks ⟨s,m,h⟩ Q=Put E (wo o ⟨s,m,h⟩) d l ks ⟨s,m,h⟩ Q:=by
 unfold Go1 wJ;simp only[qG.o,qG.d,qG.apC,hc,ha,Bool.false_and,bFt,if_false,hx];rfl
@[go_sem] theorem qvF:Go1 E (.mk i d g (.mov x) ck) l ks ⟨s,m,h⟩ Q=Put E (ev (toE s) x) d l ks ⟨s,m,h⟩ Q:=ji rfl λ_=>rfl
def isn1:Bool->Option AV->Option AV
 | n,some (.lst _ (_::_) _)=>some (.bool n)
 | n,some .nils=>some (.bool !n)
 | _,_=>none
@[go_sem] theorem qv5{n c:Bool}{w:Nat}{x:AV}{xs:List AV}:isn1 n (some (.lst w (x::xs) c))=some (.bool n):=nr rfl
@[go_sem] theorem qu4{n:Bool}:Go1 E (.mk i d g (.isnil 1 n x) ck) l ks ⟨s,m,h⟩ Q=Put E (isn1 n (ev (toE s) x)) d l ks ⟨s,m,h⟩ Q:=by
 have e:wo (.isnil 1 n x) ⟨s,m,h⟩=isn1 n (ev (toE s) x):=by
  simp only[wo];generalize ev (toE s) x=o;rcases o with _ | v
  ·rfl
  cases v<;>first
   | rfl
   | (rename_i w xs c;cases xs<;>rfl)
 rw[<-e];exact ji rfl λ_=>rfl
def Vv:Option AV->Option AV->Option AV->Option AV
 | some (.bool true),a,_=>a
 | some (.bool false),_,a=>a
 | _,_,_=>none
@[go_sem] theorem qw7{a b:Option AV}:Vv (some (.bool true)) a b=a:=by cases a<;>rfl
@[go_sem] theorem qw6{a b:Option AV}:Vv (some (.bool false)) a b=b:=by cases a<;>rfl
@[go_sem] theorem qvJ:Go1 E (.mk i d g (.pick x y z) ck) l ks ⟨s,m,h⟩ Q=Put E (Vv (ev (toE s) x) (ev (toE s) y) (ev (toE s) z)) d l ks ⟨s,m,h⟩ Q:=by
 rw[ji rfl λ_=>rfl];congr 1;simp only[wo,val];unfold Vv;split<;>simp_all
@[go_sem] theorem quU{ps:List (Nat×Nat×Ao)}:Go1 E (.mk i d g (.build v ps) ck) l ks ⟨s,m,h⟩ Q=Put E (jf (toE s) v ps) d l ks ⟨s,m,h⟩ Q:=ji rfl λ_=>rfl
@[go_sem] theorem qw4{k:IntKind}{n:Int}:(AV.int k n).part 0 none=some (.int k n):=nr rfl
@[go_sem] theorem qw5{w i j:Nat}:(AV.ptr w i j).part 0 none=some (.ptr w i j):=nr rfl
@[go_sem] theorem qw3{x:AV}{j:Nat}:(AV.ept x j).part 0 none=some (.ept x j):=nr rfl
@[go_sem] theorem qw1{cs:List AV}{j:Nat}:(AV.agg cs).part j none=cs[j]?:=nr rfl
theorem Vu{cs:List AV}{j k:Nat}:(AV.agg cs).part j (some k)=if j+k<=cs.length then some (.agg ((cs.drop j).take k))else none:=rfl
def X2(off:Nat)(sh:Option Nat):Option AV->Option AV
 | some v=>v.part off sh
 | none=>none
@[go_sem] theorem qwX:X2 off sh (some v)=v.part off sh:=nr rfl
@[go_sem] theorem qu8:Go1 E (.mk i d g (.lload t off sh) ck) l ks ⟨s,m,h⟩ Q=Put E (X2 off sh (get m t)) d l ks ⟨s,m,h⟩ Q:=by
 rw[ji rfl λ_=>rfl];congr 1;show (get m t).bind _=_;cases get m t<;>rfl
def ZJ(sh:Option Nat)(j i:Nat):Option qA->Option AV
 | some (.row _ el _)=>X2 j sh el[i]?
 | _=>none
@[go_sem] theorem qwY{j i w:Nat}{el:List AV}{rw':Bool}:ZJ sh j i (some (.row w el rw'))=X2 j sh el[i]?:=nr rfl
def Xs(h:List qA)(sh:Option Nat):Option AV->Option AV
 | some (.ptr id i j)=>ZJ sh j i h[id]?
 | some (.ept x j)=>x.part j sh
 | _=>none
@[go_sem] theorem qv8{j:Nat}:Xs h sh (some (.ept v j))=v.part j sh:=nr rfl
@[go_sem] theorem qv9{id i j:Nat}:Xs h sh (some (.ptr id i j))=ZJ sh j i h[id]?:=nr rfl
@[go_sem] theorem qu9:Go1 E (.mk i d g (.load sh x) ck) l ks ⟨s,m,h⟩ Q=Put E (Xs h sh (ev (toE s) x)) d l ks ⟨s,m,h⟩ Q:=by
 rw[ji rfl λ_=>rfl];congr 1;simp only[wo,val];cases ev (toE s) x with
 | none=>rfl
 | some v=>
  cases v<;>try rfl
  rename_i id i j;show (match h[id]? with | some (.row _ el _)=>(el[i]?).bind (·.part j sh) | _=>none)=ZJ sh j i h[id]?;cases h[id]? with
  | none=>rfl
  | some o=>
   cases o<;>try rfl
   rename_i w el rw';simp only[ZJ];cases el[i]?<;>rfl
def nchk:Option AV->Option AV
 | some (.ptr a b c)=>some (.ptr a b c)
 | some (.ept x j)=>some (.ept x j)
 | some (.fn g cs)=>some (.fn g cs)
 | _=>none
@[go_sem] theorem qwO{a b c:Nat}:nchk (some (.ptr a b c))=some (.ptr a b c):=nr rfl
@[go_sem] theorem qwN{j:Nat}:nchk (some (.ept v j))=some (.ept v j):=nr rfl
@[go_sem] theorem qvG:Go1 E (.mk i d g (.nilchk x) ck) l ks ⟨s,m,h⟩ Q=Put E (nchk (ev (toE s) x)) d l ks ⟨s,m,h⟩ Q:=by
 rw[ji rfl λ_=>rfl];congr 1
def bin2(op:BinOp):Option AV->Option AV->Option AV
 | some (.int k a),some (.int k' b)=>if k=k' then wg op k a b else none
 | _,_=>none
@[go_sem] theorem qs6{k:IntKind}{a b:Int}:bin2 op (some (.int k a)) (some (.int k b))=wg op k a b:=by simp[bin2]
@[go_sem] theorem quS:Go1 E (.mk i d g (.bin op x y) ck) l ks ⟨s,m,h⟩ Q=Put E (bin2 op (ev (toE s) x) (ev (toE s) y)) d l ks ⟨s,m,h⟩ Q:=by
 rw[ji rfl λ_=>rfl];congr 1
section
variable {k:IntKind} {a b:Int}
@[go_sem] theorem qvU:wg .add k a b=some (.int k (k.wrap (a+b))):=nr rfl
@[go_sem] theorem qv3:wg .sub k a b=some (.int k (k.wrap (a-b))):=nr rfl
@[go_sem] theorem qv0:wg .mul k a b=some (.int k (k.wrap (a*b))):=nr rfl
@[go_sem] theorem qv2:wg .quo k a b=if b=0 then none else some (.int k (k.wrap (a.tdiv b))):=nr rfl
@[go_sem] theorem qvV:wg .eql k a b=some (.bool (decide (a=b))):=nr rfl
@[go_sem] theorem qv1:wg .neq k a b=some (.bool (!decide (a=b))):=nr rfl
@[go_sem] theorem qvZ:wg .lss k a b=some (.bool (decide (a<b))):=nr rfl
@[go_sem] theorem qvY:wg .leq k a b=some (.bool (decide (a<=b))):=nr rfl
@[go_sem] theorem qvX:wg .gtr k a b=some (.bool (decide (b<a))):=nr rfl
@[go_sem] theorem qvW:wg .geq k a b=some (.bool (decide (b<=a))):=nr rfl
end
def beq2(neg:Bool):Option AV->Option AV->Option AV
 | some (.bool a),some (.bool b)=>some (.bool (if neg then !(a==b)else a==b))
 | _,_=>none
@[go_sem] theorem qs5{a b:Bool}:beq2 true (some (.bool a)) (some (.bool b))=some (.bool (!(a==b))):=nr rfl
@[go_sem] theorem quR{neg:Bool}:Go1 E (.mk i d g (.beq neg x y) ck) l ks ⟨s,m,h⟩ Q=Put E (beq2 neg (ev (toE s) x) (ev (toE s) y)) d l ks ⟨s,m,h⟩ Q:=by
 rw[ji rfl λ_=>rfl];congr 1
def ja(neg:Bool)(k:List Nat):Option AV->Option AV->Option AV
 | some (.agg cs),some (.agg ds)=>if cs.map dig=k/\ds.map dig=k then(wZ cs ds).map λb=>.bool (if neg then !b else b)else none
 | _,_=>none
@[go_sem] theorem qvK{neg:Bool}{k:List Nat}:Go1 E (.mk i d g (.seq neg k x y) ck) l ks ⟨s,m,h⟩ Q=Put E (ja neg k (ev (toE s) x) (ev (toE s) y)) d l ks ⟨s,m,h⟩ Q:=by
 rw[ji rfl λ_=>rfl];congr 1
def not1:Option AV->Option AV
 | some (.bool a)=>some (.bool !a)
 | _=>none
@[go_sem] theorem qwR{a:Bool}:not1 (some (.bool a))=some (.bool !a):=nr rfl
@[go_sem] theorem qvI:Go1 E (.mk i d g (.not x) ck) l ks ⟨s,m,h⟩ Q=Put E (not1 (ev (toE s) x)) d l ks ⟨s,m,h⟩ Q:=by
 rw[ji rfl λ_=>rfl];congr 1
def neg1:Option AV->Option AV
 | some (.int k n)=>some (.int k (k.wrap (0-n)))
 | _=>none
def qFR(k:IntKind):Option AV->Option AV
 | some (.int _ n)=>some (.int k (k.wrap n))
 | _=>none
@[go_sem] theorem qtO{k k':IntKind}{n:Int}:qFR k (some (.int k' n))=some (.int k (k.wrap n)):=nr rfl
@[go_sem] theorem quY{k:IntKind}:Go1 E (.mk i d g (.conv k x) ck) l ks ⟨s,m,h⟩ Q=Put E (qFR k (ev (toE s) x)) d l ks ⟨s,m,h⟩ Q:=by
 rw[ji rfl λ_=>rfl];congr 1
@[go_sem] theorem qvL{w:Nat}{lo hi mx:Option Ao}:Go1 E (.mk i d g (.slc w x lo hi mx) ck) l ks ⟨s,m,h⟩ Q=Put E (val (.slc w x lo hi mx) (toE s) (toE m) (toH h)) d l ks ⟨s,m,h⟩ Q:=ji rfl λ_=>rfl
def fad(off:Nat):Option AV->Option AV
 | some (.ptr id i j)=>some (.ptr id i (j+off))
 | some (.ept x j)=>some (.ept x (j+off))
 | _=>none
@[go_sem] theorem qt3{id i j:Nat}:fad off (some (.ptr id i j))=some (.ptr id i (j+off)):=nr rfl
@[go_sem] theorem qt2{j:Nat}:fad off (some (.ept v j))=some (.ept v (j+off)):=nr rfl
@[go_sem] theorem qu0:Go1 E (.mk i d g (.faddr off x) ck) l ks ⟨s,m,h⟩ Q=Put E (fad off (ev (toE s) x)) d l ks ⟨s,m,h⟩ Q:=by
 rw[ji rfl λ_=>rfl];congr 1
def idx(w:Nat):Option AV->Option AV->Option AV
 | some (.slice w' id off len _),some (.int _ n)=>if w'=w/\0<=n/\n<len then some (.ptr id (off+n.toNat) 0)else none
 | some (.lst w' xs _),some (.int _ n)=>if w'=w/\0<=n then(xs[n.toNat]?).map λx=>.ept x 0 else none
 | _,_=>none
@[go_sem] theorem qG1{w:Nat}{xs:List AV}{cl:Bool}{k:IntKind}{n:Nat}:idx w (some (.lst w xs cl)) (some (.int k (n:Int)))=(xs[n]?).map λx=>.ept x 0:=by
 simp[idx]
@[go_sem] theorem qv4{w:Nat}{xs:List AV}{cl:Bool}{k:IntKind}:idx w (some (.lst w xs cl)) (some (.int k 0))=(xs[0]?).map λx=>.ept x 0:=qG1 (n:=0)
theorem VE{w:Nat}{xs:List AV}{cl:Bool}{k:IntKind}{n:Int}(h:0<=n):idx w (some (.lst w xs cl)) (some (.int k n))=(xs[n.toNat]?).map λx=>.ept x 0:=by
 simp[idx,h]
theorem qS{w id off len:Nat}{cl:Bool}{k:IntKind}{n:Nat}(h:n<len):idx w (some (.slice w id off len cl)) (some (.int k (n:Int)))=some (.ptr id (off+n) 0):=by
 unfold idx;exact iP ⟨rfl,by omega,by omega⟩
theorem Xm{w id off len:Nat}{cl:Bool}{k:IntKind}{n:Int}(h0:0<=n)(h:n<len):idx w (some (.slice w id off len cl)) (some (.int k n))=some (.ptr id (off+n.toNat) 0):=by
 unfold idx;exact iP ⟨rfl,h0,h⟩
@[go_sem] theorem qu3{w:Nat}:Go1 E (.mk i d g (.iaddr w x y) ck) l ks ⟨s,m,h⟩ Q=Put E (idx w (ev (toE s) x) (ev (toE s) y)) d l ks ⟨s,m,h⟩ Q:=by
 rw[ji rfl λ_=>rfl];congr 1
@[go_sem] theorem quN{n w:Nat}:Go1 E (.mk i d g (.aidx n w sh x y) ck) l ks ⟨s,m,h⟩ Q=Put E (val (.aidx n w sh x y) (toE s) (toE m) (toH h)) d l ks ⟨s,m,h⟩ Q:=ji rfl λ_=>rfl
def ext1(i:Nat):Option AV->Option AV
 | some (.tup vs)=>vs[i]?
 | _=>none
@[go_sem] theorem qt1{vs:List AV}:ext1 n (some (.tup vs))=vs[n]?:=nr rfl
@[go_sem] theorem quZ{j:Nat}:Go1 E (.mk i d g (.ext x j) ck) l ks ⟨s,m,h⟩ Q=Put E (ext1 j (ev (toE s) x)) d l ks ⟨s,m,h⟩ Q:=by
 rw[ji rfl λ_=>rfl];congr 1
def qHN(k:Nat):Option (List AV)->Option AV
 | some cs=>some (.fn k cs)
 | none=>none
@[go_sem] theorem qwM{k:Nat}{cs:List AV}:qHN k (some cs)=some (.fn k cs):=nr rfl
@[go_sem] theorem qvD{k:Nat}{cs:List Ao}:Go1 E (.mk i d g (.mkfn k cs) ck) l ks ⟨s,m,h⟩ Q=Put E (qHN k (evs (toE s) cs)) d l ks ⟨s,m,h⟩ Q:=by
 rw[ji rfl λ_=>rfl];congr 1;show (evs (toE s) cs).map _=_;cases evs (toE s) cs<;>rfl
def Qd:Option AV->Option AV
 | some .nils=>some (.int .i64 0)
 | some (.slice _ _ _ len _)=>some (.int .i64 len)
 | some (.lst _ xs _)=>some (.int .i64 xs.length)
 | _=>none
@[go_sem] theorem qv7{w id off len:Nat}{cl:Bool}:Qd (some (.slice w id off len cl))=some (.int .i64 len):=nr rfl
@[go_sem] theorem qv6{w:Nat}{xs:List AV}{cl:Bool}:Qd (some (.lst w xs cl))=some (.int .i64 xs.length):=nr rfl
@[go_sem] theorem qu7:Go1 E (.mk i d g (.len x) ck) l ks ⟨s,m,h⟩ Q=Put E (Qd (ev (toE s) x)) d l ks ⟨s,m,h⟩ Q:=by
 rw[ji rfl λ_=>rfl];congr 1
def max2:Option AV->Option AV->Option AV
 | some (.int k a),some (.int k' b)=>if k=k' then some (.int k (if b>a then b else a))else none
 | _,_=>none
@[go_sem] theorem qwK{k:IntKind}{a b:Int}:max2 (some (.int k a)) (some (.int k b))=some (.int k (max a b)):=by
 simp only[max2,if_true];congr 2;split<;>omega
@[go_sem] theorem qvB:Go1 E (.mk i d g (.max x y) ck) l ks ⟨s,m,h⟩ Q=Put E (max2 (ev (toE s) x) (ev (toE s) y)) d l ks ⟨s,m,h⟩ Q:=by
 rw[ji rfl λ_=>rfl];congr 1
def min2:Option AV->Option AV->Option AV
 | some (.int k a),some (.int k' b)=>if k=k' then some (.int k (if b<a then b else a))else none
 | _,_=>none
@[go_sem] theorem qwL{k:IntKind}{a b:Int}:min2 (some (.int k a)) (some (.int k b))=some (.int k (min a b)):=by
 simp only[min2,if_true];congr 2;split<;>omega
@[go_sem] theorem qvC:Go1 E (.mk i d g (.min x y) ck) l ks ⟨s,m,h⟩ Q=Put E (min2 (ev (toE s) x) (ev (toE s) y)) d l ks ⟨s,m,h⟩ Q:=by
 rw[ji rfl λ_=>rfl];congr 1
def nop1:Option AV->Option AV
 | some _=>some .any
 | none=>none
@[go_sem] theorem qwQ:nop1 (some v)=some .any:=nr rfl
@[go_sem] theorem qvH:Go1 E (.mk i d g (.nop t) ck) l ks ⟨s,m,h⟩ Q=Put E (nop1 (get m t)) d l ks ⟨s,m,h⟩ Q:=by
 rw[ji rfl λ_=>rfl];congr 1;show (get m t).map _=_;cases get m t<;>rfl
@[go_sem] theorem qu5{k:Nat}:Go1 E (.mk i (some k) g (.lalloc v) ck) l ks ⟨s,m,h⟩ Q=R E (.ops l::ks) ⟨s,(k,v)::m,h⟩ Q:=nr rfl
def Ye(E:Ev)(k w:Nat)(v:Option AV)(l:List qG)(ks:List Fr1)(st:VSt)(Q:qn->VSt->Prop):Prop:=match v with
 | some v=>v.cells.length=w/\R E (.ops l::ks) ⟨st.s,(k,v)::st.l,st.h⟩ Q
 | none=>False
@[go_sem] theorem qu6{k w:Nat}:Go1 E (.mk i (some k) g (.lbox w x) ck) l ks ⟨s,m,h⟩ Q=Ye E k w (ev (toE s) x) l ks ⟨s,m,h⟩ Q:=by
 unfold Go1 wJ wB Ye;cases hq:ev (toE s) x<;>simp[qG.o,qG.d,AOp.isCall,qG.apC,AOp.isApp,hq]
theorem qX{k w:Nat}(hl:v.cells.length=w)(hr:R E (.ops l::ks) ⟨s,(k,v)::m,h⟩ Q):Ye E k w (some v) l ks ⟨s,m,h⟩ Q:=⟨hl,hr⟩
def Lst(E:Ev)(t off w:Nat)(c v:Option AV)(l:List qG)(ks:List Fr1)(st:VSt)(Q:qn->VSt->Prop):Prop:=match c,v with
 | some c,some v=>v.cells.length=w/\(match c.put off v with | some c'=>R E (.ops l::ks) ⟨st.s,(t,c')::st.l,st.h⟩ Q | none=>False)
 | _,_=>False
@[go_sem] theorem qvA{w:Nat}:Go1 E (.mk i d g (.lstore t off w x) ck) l ks ⟨s,m,h⟩ Q=Lst E t off w (get m t) (ev (toE s) x) l ks ⟨s,m,h⟩ Q:=by
 unfold Go1 wJ wB Lst;cases hq:ev (toE s) x<;>cases hp:get m t<;>simp[qG.o,AOp.isCall,qG.apC,AOp.isApp,hq,hp]<;>exact λ_=>Iff.rfl
theorem Wg{w:Nat}{c c':AV}(hl:v.cells.length=w)(hc:c.put off v=some c')(hr:R E (.ops l::ks) ⟨s,(t,c')::m,h⟩ Q):Lst E t off w (some c) (some v) l ks ⟨s,m,h⟩ Q:=by
 unfold Lst;exact⟨hl,by rw[hc];exact hr⟩
@[go_sem] theorem qu1{w:Nat}:Go1 E (.mk i d g (.halloc w v) ck) l ks ⟨s,m,h⟩ Q=JN E d (.row w [v] true) (.ptr h.length 0 0) l ks ⟨s,m,h⟩ Q:=nr rfl
def Yd(E:Ev)(d:Option Nat)(w:Nat)(v:Option AV)(l:List qG)(ks:List Fr1)(st:VSt)(Q:qn->VSt->Prop):Prop:=match v with
 | some v=>v.cells.length=w/\JN E d (.row w [v] true) (.ptr st.h.length 0 0) l ks st Q
 | none=>False
@[go_sem] theorem qu2{w:Nat}:Go1 E (.mk i d g (.hbox w x) ck) l ks ⟨s,m,h⟩ Q=Yd E d w (ev (toE s) x) l ks ⟨s,m,h⟩ Q:=by
 unfold Go1 wJ wB Yd;cases hq:ev (toE s) x<;>simp[qG.o,qG.d,AOp.isCall,qG.apC,AOp.isApp,hq,JN,wH]
theorem Qb{w:Nat}(hl:v.cells.length=w)(hr:JN E d (.row w [v] true) (.ptr h.length 0 0) l ks ⟨s,m,h⟩ Q):Yd E d w (some v) l ks ⟨s,m,h⟩ Q:=⟨hl,hr⟩
def Bsl(E:Ev)(d:Option Nat)(w n:Nat)(el:Option (List AV))(l:List qG)(ks:List Fr1)(st:VSt)(Q:qn->VSt->Prop):Prop:=match el with
 | some el=>JN E d (.row w el true) (.slice w st.h.length 0 n false) l ks st Q
 | none=>False
@[go_sem] theorem qkC{w n:Nat}{el:List AV}:Bsl E d w n (some el) l ks ⟨s,m,h⟩ Q=JN E d (.row w el true) (.slice w h.length 0 n false) l ks ⟨s,m,h⟩ Q:=nr rfl
@[go_sem] theorem quT{w n:Nat}{ps:List (Nat×Ao)}:Go1 E (.mk i d g (.bslice w v n ps) ck) l ks ⟨s,m,h⟩ Q=Bsl E d w n (jD (toE s) w (List.replicate n v) ps) l ks ⟨s,m,h⟩ Q:=by
 unfold Go1 wJ wB Bsl;cases hq:jD (toE s) w (List.replicate n v) ps<;>simp[qG.o,qG.d,AOp.isCall,qG.apC,AOp.isApp,hq,JN,wH]
def Mks(E:Ev)(d:Option Nat)(w:Nat)(z:AV)(a b:Option AV)(l:List qG)(ks:List Fr1)(st:VSt)(Q:qn->VSt->Prop):Prop:=match a,b with
 | some (.int _ n),some (.int _ m)=>0<=n/\n<=m/\m<=(LIM:Int)/\JN E d (.row w (List.replicate n.toNat z) true) (.slice w st.h.length 0 n.toNat false) l ks st Q
 | _,_=>False
@[go_sem] theorem qvE{w:Nat}:Go1 E (.mk i d g (.mksl w v x y) ck) l ks ⟨s,m,h⟩ Q=Mks E d w v (ev (toE s) x) (ev (toE s) y) l ks ⟨s,m,h⟩ Q:=by
 unfold Go1 wJ wB Mks;simp only[qG.o,qG.d,AOp.isCall,qG.apC,AOp.isApp,Bool.false_and,bFt,if_false];rfl
theorem Jx{w:Nat}{k k':IntKind}{n:Nat}(hn:n<=LIM)(hr:JN E d (.row w (List.replicate n v) true) (.slice w h.length 0 n false) l ks ⟨s,m,h⟩ Q):Mks E d w v (some (.int k (n:Int))) (some (.int k' (n:Int))) l ks ⟨s,m,h⟩ Q:=
 ⟨by omega,by omega,by omega,by simpa using hr⟩
@[go_sem] theorem quV{k:Nat}{as:List Ao}:Go1 E (.mk i d g (.call k as) ck) l ks ⟨s,m,h⟩ Q=jz E (jC (toE s) (.call k as)) ck d l ks ⟨s,m,h⟩ Q:=nr rfl
@[go_sem] theorem quW{as:List Ao}:Go1 E (.mk i d g (.callv x as) ck) l ks ⟨s,m,h⟩ Q=jz E (jC (toE s) (.callv x as)) ck d l ks ⟨s,m,h⟩ Q:=nr rfl
def cal1(k:Nat):Option (List AV)->Option (Nat×List AV)
 | some as=>some (k,as)
 | none=>none
def cal2:Option AV->Option (List AV)->Option (Nat×List AV)
 | some (.fn g cs),some as=>some (g,as++cs)
 | _,_=>none
@[go_sem] theorem qtG{k:Nat}{vs:List AV}:cal1 k (some vs)=some (k,vs):=nr rfl
@[go_sem] theorem qtH{k:Nat}{vs cs:List AV}:cal2 (some (.fn k cs)) (some vs)=some (k,vs++cs):=nr rfl
@[go_sem] theorem qtI{k:Nat}{as:List Ao}:jC (toE s) (.call k as)=cal1 k (evs (toE s) as):=by
 show (evs (toE s) as).map _=_;cases evs (toE s) as<;>rfl
@[go_sem] theorem qtJ{as:List Ao}:jC (toE s) (.callv x as)=cal2 (ev (toE s) x) (evs (toE s) as):=by
 simp only[jC];unfold cal2;split<;>simp_all
theorem Qh{a v:AV}{k:Nat}(ha:a.cells.length=k)(hv:v.cells.length=k)(hag:(∃cs,a=.agg cs)↔∃cs,v=.agg cs)(hk:0<k):a.put 0 v=some v:=by
 by_cases h:∃cs,a=.agg cs
 ·obtain⟨cs,rfl⟩:=h;obtain⟨ds,rfl⟩:=hag.1 ⟨cs,rfl⟩;have ha:cs.length=k:=ha;have hv:ds.length=k:=hv;show (if 0+ds.length<=cs.length then some (AV.agg (List.take 0 cs++(ds++List.drop (0+ds.length) cs)))else none)=_;rw[iP (by omega)];simp[ha,hv]
 ·have h2:¬∃cs,v=.agg cs:=λq=>h (hag.2 q);have c1:∀x:AV,(¬∃cs,x=.agg cs)->0<x.cells.length->x.cells=[x]:=λx hx hl=>by
   cases x<;>first | rfl | exact absurd ⟨_,rfl⟩ hx | (simp[AV.cells]at hl;done)
  have e1:=c1 a h (by omega);have e2:=c1 v h2 (by omega);have:a.put 0 v=if 0=0/\a.cells.length=1 then(match v.cells with |[y]=>some y | _=>none)else none:=by
   cases a<;>first | rfl | exact absurd ⟨_,rfl⟩ h
  rw[this,e1,e2];simp
def one:AV->AV
 |.agg [x]=>x
 | v=>v
theorem qp6(h:v.cells.length=1):v.cells=[one v]:=by
 cases v<;>first
  | rfl
  | (simp[AV.cells]at h;done)
  | (rename_i cs;match cs,h with |[x],_=>rfl)
def WN(x:AV):Option (List AV)->Option (List AV)
 | some xs=>some (x::xs)
 | none=>none
def j8:List AV->Nat->AV->Option (List AV)
 |[],_,_=>none
 | _::xs,0,v=>some (v::xs)
 | x::xs,n+1,v=>WN x (j8 xs n v)
@[go_sem] theorem qxS{x:AV}{xs:List AV}:j8 (x::xs) 0 v=some (v::xs):=nr rfl
@[go_sem] theorem qr4{x:AV}{xs:List AV}:j8 (x::xs) (n+1) v=WN x (j8 xs n v):=nr rfl
@[go_sem] theorem qtN{x:AV}{xs:List AV}:WN x (some xs)=some (x::xs):=nr rfl
theorem qr3:∀{cs:List AV}{n:Nat}{w:AV},w.cells=[v]->(AV.agg cs).put n w=(j8 cs n v).map .agg:=by
 intro cs n w hw;show (if n+w.cells.length<=cs.length then some (AV.agg (cs.take n++(w.cells++cs.drop (n+w.cells.length))))else none)=_;rw[hw];simp only[lCo,lNi,nZa]
 induction cs generalizing n with
 | nil=>rw[iN (by simp)];rfl
 | cons c cs ih=>
  cases n with
  | zero=>rw[iP (by simp)];rfl
  | succ n=>
   have:=ih (n:=n);simp only[j8];cases hq:j8 cs n v with
   | none=>
    rw[hq]at this;have hn:¬n+1<=cs.length:=by intro h;rw[iP h]at this;cases this
    rw[iN (by simp;omega)];rfl
   | some ds=>
    rw[hq]at this;have hn:n+1<=cs.length:=by
     rcases Nat.lt_or_ge cs.length (n+1)with h | h
     ·rw[iN (by omega)]at this;cases this
     ·exact h
    rw[iP hn]at this;simp only[oMs,oSi,AV.agg.injEq]at this;rw[iP (by simp;omega)];simp only[WN,oMs,List.take_succ_cons,List.drop_succ_cons,<-this];rfl
def Qr(E:Ev)(t:Nat)(cs:Option (List AV))(l:List qG)(ks:List Fr1)(st:VSt)(Q:qn->VSt->Prop):Prop:=match cs with
 | some cs=>R E (.ops l::ks) ⟨st.s,(t,.agg cs)::st.l,st.h⟩ Q
 | none=>False
@[go_sem] theorem qwG{cs:List AV}:Qr E t (some cs) l ks ⟨s,m,h⟩ Q=R E (.ops l::ks) ⟨s,(t,.agg cs)::m,h⟩ Q:=nr rfl
theorem VU{cs:List AV}(hv:v.cells.length=1):Lst E t off 1 (some (.agg cs)) (some v) l ks ⟨s,m,h⟩ Q=Qr E t (j8 cs off (one v)) l ks ⟨s,m,h⟩ Q:=by
 unfold Lst Qr;simp only[hv,true_and,qr3 (qp6 hv)];cases j8 cs off (one v)<;>rfl
@[go_sem] theorem qwC{cs:List AV}{k:IntKind}{n:Int}:Lst E t off 1 (some (.agg cs)) (some (.int k n)) l ks ⟨s,m,h⟩ Q=Qr E t (j8 cs off (.int k n)) l ks ⟨s,m,h⟩ Q:=VU rfl
@[go_sem] theorem qwD{cs:List AV}{n:Nat}{xs:List AV}{b:Bool}:Lst E t off 1 (some (.agg cs)) (some (.lst n xs b)) l ks ⟨s,m,h⟩ Q=Qr E t (j8 cs off (.lst n xs b)) l ks ⟨s,m,h⟩ Q:=VU rfl
@[go_sem] theorem qwF{cs:List AV}{n i j o:Nat}{b:Bool}:Lst E t off 1 (some (.agg cs)) (some (.slice n i j o b)) l ks ⟨s,m,h⟩ Q=Qr E t (j8 cs off (.slice n i j o b)) l ks ⟨s,m,h⟩ Q:=VU rfl
@[go_sem] theorem qwE{cs:List AV}{x:AV}:Lst E t off 1 (some (.agg cs)) (some (.agg [x])) l ks ⟨s,m,h⟩ Q=Qr E t (j8 cs off x) l ks ⟨s,m,h⟩ Q:=VU rfl
def Z3:List AV->Nat->Option (List AV)
 | _,0=>some []
 | x::xs,n+1=>WN x (Z3 xs n)
 |[],_+1=>none
def Wy:List AV->Nat->Nat->Option (List AV)
 | xs,0,k=>Z3 xs k
 | _::xs,j+1,k=>Wy xs j k
 |[],_+1,_=>none
def Yg:Option (List AV)->Option AV
 | some cs=>some (.agg cs)
 | none=>none
@[go_sem] theorem qsM{xs:List AV}:Z3 xs 0=some []:=by cases xs<;>rfl
@[go_sem] theorem qsN{x:AV}{xs:List AV}{k:Nat}:Z3 (x::xs) (k+1)=WN x (Z3 xs k):=nr rfl
@[go_sem] theorem qsK{xs:List AV}{k:Nat}:Wy xs 0 k=Z3 xs k:=by cases xs<;>rfl
@[go_sem] theorem qsL{x:AV}{xs:List AV}{j k:Nat}:Wy (x::xs) (j+1) k=Wy xs j k:=nr rfl
@[go_sem] theorem qs4{cs:List AV}:Yg (some cs)=some (.agg cs):=nr rfl
theorem qKF:∀{xs:List AV}{k:Nat},Z3 xs k=if k<=xs.length then some (xs.take k)else none
 | xs,0=>by rw[qsM];simp
 |[],k+1=>rfl
 | x::xs,k+1=>by
  rw[qsN,qKF];by_cases h:k<=xs.length
  ·rw[iP h,iP (by simp;omega)];rfl
  ·rw[iN h,iN (by simp;omega)];rfl
theorem qKD:∀{xs:List AV}{j k:Nat},Yg (Wy xs j k)=(AV.agg xs).part j (some k)
 | xs,0,k=>by
  rw[qsK,qKF,Vu];by_cases h:k<=xs.length
  ·rw[iP h,iP (by omega)];rfl
  ·rw[iN h,iN (by omega)];rfl
 |[],j+1,k=>by rw[Vu,iN (by simp)];rfl
 | x::xs,j+1,k=>by
  rw[qsL,qKD,Vu,Vu];by_cases h:j+k<=xs.length
  ·rw[iP h,iP (by simp;omega)];rfl
  ·rw[iN h,iN (by simp;omega)]
@[go_sem] theorem qw2{cs:List AV}{j k:Nat}:(AV.agg cs).part j (some k)=Yg (Wy cs j k):=qKD.symm
theorem Jv{cs:List AV}{k:Nat}(h1:cs.length=k)(h2:v.cells.length=k)(h3:∃cs,v=.agg cs)(h4:0<k)(hr:R E (.ops l::ks) ⟨s,(t,v)::m,h⟩ Q):Lst E t 0 k (some (.agg cs)) (some v) l ks ⟨s,m,h⟩ Q:=
 Wg h2 (Qh h1 h2 ⟨λ_=>h3,λ_=>⟨cs,rfl⟩⟩ h4) hr
def QJ:List AV->Nat->List AV->Option (List AV)
 | cs,_,[]=>some cs
 | cs,off,y::ys=>match j8 cs off y with
  | some cs'=>QJ cs' (off+1) ys
  | none=>none
def S2(cs:Option (List AV))(off:Nat)(ys:List AV):Option (List AV):=match cs with
 | some cs=>QJ cs off ys
 | none=>none
@[go_sem] theorem qr6{cs:List AV}:QJ cs n []=some cs:=nr rfl
@[go_sem] theorem qr5{cs ys:List AV}{y:AV}:QJ cs n (y::ys)=S2 (j8 cs n y) (n+1) ys:=nr rfl
@[go_sem] theorem S2_s{cs ys:List AV}:S2 (some cs) n ys=QJ cs n ys:=nr rfl
theorem qJ2:∀{cs:List AV}{n:Nat},j8 cs n v=if n<cs.length then some (cs.set n v)else none
 |[],n=>rfl
 | c::cs,0=>by simp[j8]
 | c::cs,n+1=>by
  rw[qr4,qJ2];by_cases h:n<cs.length
  ·rw[iP h,iP (by simp;omega)];rfl
  ·rw[iN h,iN (by simp;omega)];rfl
theorem qJ3:∀{ys cs:List AV}{off:Nat},ys≠[]->QJ cs off ys=if off+ys.length<=cs.length then some (cs.take off++(ys++cs.drop (off+ys.length)))else none
 |[],_,_,h=>absurd rfl h
 | y::ys,cs,off,_=>by
  rw[qr5,qJ2];by_cases h:off<cs.length
  ·rw[iP h,S2_s];cases ys with
   | nil=>
    rw[qr6,iP (by simp;omega)];congr 1;rw[List.set_eq_take_append_cons_drop,iP h];simp
   | cons z zs=>
    rw[qJ3 (by simp)];by_cases h2:off+1+(z::zs).length<=cs.length
    ·rw[iP (by simpa using h2),iP (by simp at h2|-;omega)];congr 1;have e1:(cs.set off y).take (off+1)=cs.take off++[y]:=by
      rw[lTs (by simp;omega),List.take_set_of_le (nLr _),List.getElem_set_self]
     have e2:(cs.set off y).drop (off+1+(z::zs).length)=cs.drop (off+(y::z::zs).length):=by
      rw[List.drop_set_of_lt (by simp;omega)];congr 1;simp;omega
     rw[e1,e2];simp
    ·rw[iN (by simpa using h2),iN (by simp at h2|-;omega)]
  ·rw[iN h,iN (by simp;omega)];rfl
theorem qqT{cs:List AV}(hv:v.cells≠[]):(AV.agg cs).put off v=Yg (QJ cs off v.cells):=by
 rw[qJ3 hv];show (if off+v.cells.length<=cs.length then some (AV.agg (cs.take off++(v.cells++cs.drop (off+v.cells.length))))else none)=_;split<;>rfl
@[go_sem] theorem qtQ{k:IntKind}{n:Int}:(AV.int k n).cells=[.int k n]:=nr rfl
@[go_sem] theorem qtR{w:Nat}{xs:List AV}{c:Bool}:(AV.lst w xs c).cells=[.lst w xs c]:=nr rfl
@[go_sem] theorem qtT{w i j n:Nat}{c:Bool}:(AV.slice w i j n c).cells=[.slice w i j n c]:=nr rfl
@[go_sem] theorem qtS{w i j:Nat}:(AV.ptr w i j).cells=[.ptr w i j]:=nr rfl
@[go_sem] theorem qtP{cs:List AV}:(AV.agg cs).cells=cs:=nr rfl
def Bd(s:qt)(w:Nat)(v:Option AV)(off:Nat)(cs:List AV)(ps:List (Nat×Nat×Ao)):Option AV:=match v with
 | some v=>if v.cells.length=w then(match QJ cs off v.cells with | some cs'=>jf (toE s) (.agg cs') ps | none=>none)else none
 | none=>none
def B2(s:qt)(cs:Option (List AV))(ps:List (Nat×Nat×Ao)):Option AV:=match cs with
 | some cs=>jf (toE s) (.agg cs) ps
 | none=>none
@[go_sem] theorem qs8:jf (toE s) v []=some v:=nr rfl
@[go_sem] theorem qs7{w:Nat}{cs:List AV}{ps:List (Nat×Nat×Ao)}:jf (toE s) (.agg cs) ((off,w+1,x)::ps)=Bd s (w+1) (ev (toE s) x) off cs ps:=by
 simp only[jf,Bd];cases ev (toE s) x with
 | none=>rfl
 | some v=>
  simp only;by_cases h:v.cells.length=w+1
  ·rw[iP h,iP h,qqT (by intro q;rw[q]at h;simp at h)];cases QJ cs off v.cells<;>rfl
  ·rw[iN h,iN h]
@[go_sem] theorem Bd_s{w:Nat}{cs:List AV}{ps:List (Nat×Nat×Ao)}:Bd s w (some v) off cs ps=if v.cells.length=w then B2 s (QJ cs off v.cells) ps else none:=by
 simp only[Bd,B2]
@[go_sem] theorem B2_s{cs:List AV}{ps:List (Nat×Nat×Ao)}:B2 s (some cs) ps=jf (toE s) (.agg cs) ps:=nr rfl
def Sto(E:Ev)(k:Nat)(a b:Option AV)(l:List qG)(ks:List Fr1)(st:VSt)(Q:qn->VSt->Prop):Prop:=match a,b with
 | some (.ptr id i j),some v=>v.cells.length=k/\(match st.h[id]? with
  | some (.row w el true)=>(match el[i]? with
   | some e=>(match e.put j v with
    | some e'=>R E (.ops l::ks) {st with h:=st.h.set id (.row w (el.set i e') true)} Q
    | none=>False)
   | none=>False)
  | _=>False)
 | _,_=>False
@[go_sem] theorem qvO{k:Nat}:Go1 E (.mk i d g (.store k x y) ck) l ks ⟨s,m,h⟩ Q=Sto E k (ev (toE s) x) (ev (toE s) y) l ks ⟨s,m,h⟩ Q:=by
 unfold Go1 wJ wB Sto;simp only[qG.o,qG.d,AOp.isCall,qG.apC,AOp.isApp,Bool.false_and,bFt,if_false]
 all_goals rfl
theorem zX{k id i j w:Nat}{el:List AV}{e e':AV}(hl:v.cells.length=k)(ho:h[id]?=some (.row w el true))(he:el[i]?=some e)(hp:e.put j v=some e')
  (hr:R E (.ops l::ks) ⟨s,m,h.set id (.row w (el.set i e') true)⟩ Q):Sto E k (some (.ptr id i j)) (some v) l ks ⟨s,m,h⟩ Q:=by
 refine⟨hl, ?_⟩;simp only[ho,he,hp];exact hr
def JM(E:Ev)(w:Nat)(d:Option Nat)(a b:Option AV)(l:List qG)(ks:List Fr1)(st:VSt)(Q:qn->VSt->Prop):Prop:=match a,b with
 | some a,some b=>Jn w b/\(match z7 (toH st.h) b with
  | some ys=>Ya w a ys d st λst'=>R E (.ops l::ks) st' Q
  | none=>False)
 | _,_=>False
@[go_sem] theorem quO{w:Nat}:Go1 E (.mk i d g (.app w x y) []) l ks ⟨s,m,h⟩ Q=JM E w d (ev (toE s) x) (ev (toE s) y) l ks ⟨s,m,h⟩ Q:=by
 unfold Go1 wJ wB JM;simp only[qG.o,qG.d,qG.ck,qG.apC,AOp.isCall,AOp.isApp,List.isEmpty_nil,Bool.not_true,Bool.and_false,bFt,if_false]
 all_goals rfl
def AppK(w:Nat)(d:Option Nat)(a b:Option AV)(st:VSt)(K:VSt->Prop):Prop:=match a,b with
 | some a,some b=>Jn w b/\(match z7 (toH st.h) b with
  | some ys=>Ya w a ys d st K
  | none=>False)
 | _,_=>False
def ZT(E:Ev)(ck:List qG)(w:Nat)(d:Option Nat)(a b:Option AV)(l:List qG)(ks:List Fr1)(st:VSt)(Q:qn->VSt->Prop):Prop:=(match a with
 | some (.lst w' [] true)=>w'=w/\JM E w d a b l ks st Q
 | some (.slice _ _ _ _ _)=>(ck.all (ckE st.s))=true/\JM E w d a b l ks st Q
 | _=>False)\/AppK w d a b st λst'=>ckVs st' ck/\R E (.ops l::ks) st' Q
@[go_sem] theorem quP{w:Nat}{c:qG}{ck:List qG}:Go1 E (.mk i d g (.app w x y) (c::ck)) l ks ⟨s,m,h⟩ Q=ZT E (c::ck) w d (ev (toE s) x) (ev (toE s) y) l ks ⟨s,m,h⟩ Q:=by
 unfold Go1 wJ qDL ZT wB JM AppK;simp only[qG.o,qG.d,qG.ck,qG.apC,AOp.isCall,AOp.isApp,List.isEmpty_cons,Bool.not_false,Bool.and_true,bFt,if_false,if_true]
 all_goals
  cases hq:ev (toE s) x with
  | none=>rfl
  | some v=>
   cases v<;>first
    | rfl
    | (rename_i w' xs cl;cases xs<;>cases cl<;>rfl)
def Els(h:List qA)(w:Nat)(b:AV)(ys:List AV):Prop:=Jn w b/\z7 (toH h) b=some ys
theorem Els.lst{w:Nat}{xs:List AV}{c:Bool}:Els h w (.lst w xs c) xs:=⟨rfl,rfl⟩
theorem Els.row{w id n:Nat}{el:List AV}{c rw':Bool}(ho:h[id]?=some (.row w el rw'))(hn:el.length=n):Els h w (.slice w id 0 n c) el:=by
 refine⟨rfl, ?_⟩;rw[Xd (h:=toH h) ho (by omega),List.drop_zero,<-hn,lTl]
theorem qED{w k:Nat}{b:AV}{ys:List AV}(hy:Els h w b ys)(hl:ys.length<=4294967296)(hr:R E (.ops l::ks) ⟨(k,.slice w h.length 0 ys.length false)::s,m,h++[.row w ys true]⟩ Q):JM E w (some k) (some .nils) (some b) l ks ⟨s,m,h⟩ Q:=by
 refine⟨hy.1, ?_⟩;simp only[hy.2];exact⟨hl,hr⟩
theorem Qu{w k:Nat}{b:AV}{ys:List AV}(hy:Els h w b ys)(hl:ys.length<=4294967296)(hr:R E (.ops l::ks) ⟨(k,.slice w h.length 0 ys.length false)::s,m,h++[.row w ys true]⟩ Q):JM E w (some k) (some (.lst w [] true)) (some b) l ks ⟨s,m,h⟩ Q:=by
 refine⟨hy.1, ?_⟩;simp only[hy.2];exact⟨rfl,.inl ⟨rfl,rfl,hl,hr⟩⟩
theorem Yi{ck:List qG}{w k:Nat}{b:AV}{ys:List AV}(hy:Els h w b ys)(hl:ys.length<=4294967296)(hr:R E (.ops l::ks) ⟨(k,.slice w h.length 0 ys.length false)::s,m,h++[.row w ys true]⟩ Q):ZT E ck w (some k) (some (.lst w [] true)) (some b) l ks ⟨s,m,h⟩ Q:=
 .inl ⟨rfl,Qu hy hl hr⟩
theorem WG{w k id len:Nat}{b:AV}{ys el:List AV}(hy:Els h w b ys)(ho:h[id]?=some (.row w el true))(he:el.length=len)(hl:len+ys.length<=4294967296)
  (hr:R E (.ops l::ks) ⟨(k,.slice w h.length 0 (len+ys.length) false)::s,m,h.set id .dead++[.row w (el++ys) true]⟩ Q):JM E w (some k) (some (.slice w id 0 len false)) (some b) l ks ⟨s,m,h⟩ Q:=by
 refine⟨hy.1, ?_⟩;simp only[hy.2];refine⟨rfl,hl, ?_⟩;rw[ho];exact⟨rfl,by omega,.inl ⟨rfl,rfl,he,hr⟩⟩
theorem qjY{ck:List qG}{w k:Nat}{b:AV}{ys:List AV}(hy:Els h w b ys)(hl:ys.length<=4294967296)(hc:ckVs ⟨(k,.slice w h.length 0 ys.length false)::s,m,h++[.row w ys true]⟩ ck)(hr:R E (.ops l::ks) ⟨(k,.slice w h.length 0 ys.length false)::s,m,h++[.row w ys true]⟩ Q):ZT E ck w (some k) (some .nils) (some b) l ks ⟨s,m,h⟩ Q:=by
 refine .inr ⟨hy.1, ?_⟩;simp only[hy.2];exact⟨hl,hc,hr⟩
theorem qjZ{ck:List qG}{w k id len:Nat}{b:AV}{ys el:List AV}(hy:Els h w b ys)(ho:h[id]?=some (.row w el true))(he:el.length=len)(hl:len+ys.length<=4294967296)
  (hc:ckVs ⟨(k,.slice w h.length 0 (len+ys.length) false)::s,m,h.set id .dead++[.row w (el++ys) true]⟩ ck) (hr:R E (.ops l::ks) ⟨(k,.slice w h.length 0 (len+ys.length) false)::s,m,h.set id .dead++[.row w (el++ys) true]⟩ Q):ZT E ck w (some k) (some (.slice w id 0 len false)) (some b) l ks ⟨s,m,h⟩ Q:=by
 refine .inr ⟨hy.1, ?_⟩;simp only[hy.2];refine⟨rfl,hl, ?_⟩;rw[ho];exact⟨rfl,by omega,.inl ⟨rfl,rfl,he,hc,hr⟩⟩
theorem ZY{w k id id2 len:Nat}{c2:Bool}{x:AV}{el:List AV}(h2:h[id2]?=some (.row w [x] true))(ho:h[id]?=some (.row w el true))(he:el.length=len)(hl:len<4294967296)
  (hr:R E (.ops l::ks) ⟨(k,.slice w h.length 0 (len+1) false)::s,m,h.set id .dead++[.row w (el++[x]) true]⟩ Q):JM E w (some k) (some (.slice w id 0 len false)) (some (.slice w id2 0 1 c2)) l ks ⟨s,m,h⟩ Q:=
 WG (Els.row h2 rfl) ho he (by simp;omega) hr
theorem Els.part{w id off n:Nat}{el:List AV}{c rw':Bool}(ho:h[id]?=some (.row w el rw'))(hn:off+n<=el.length):Els h w (.slice w id off n c) ((el.drop off).take n):=
 ⟨rfl,Xd (h:=toH h) ho hn⟩
def Apx(E:Ev)(w:Nat)(d:Option Nat)(a b:Option AV)(l:List qG)(ks:List Fr1)(st:VSt)(Q:qn->VSt->Prop):Prop:=match a,b with
 | some (.slice w' id off len false),some b=>w'=w/\Jn w b/\(match z7 (toH st.h) b with
  | some ys=>(match st.h[id]? with
   | some (.row w2 el true)=>w2=w/\off+len+ys.length<=el.length/\0<el.length/\
     wH {st with h:=st.h.set id .dead} d (.row w ((el.drop off).take len++(ys++el.drop (off+len+ys.length))) true) (.slice w st.h.length 0 (len+ys.length) false) λst'=>R E (.ops l::ks) st' Q
   | _=>False)
  | none=>False)
 | _,_=>False
@[go_sem] theorem quQ{w:Nat}:Go1 E (.mk i d g (.appx w x y) ck) l ks ⟨s,m,h⟩ Q=Apx E w d (ev (toE s) x) (ev (toE s) y) l ks ⟨s,m,h⟩ Q:=by
 unfold Go1 wJ wB Apx;simp only[qG.o,qG.d,AOp.isCall,qG.apC,AOp.isApp,Bool.false_and,bFt,if_false]
 all_goals rfl
theorem qj1{w k id off len:Nat}{b:AV}{ys el:List AV}(hy:Els h w b ys)(ho:h[id]?=some (.row w el true))(hl:off+len+ys.length<=el.length)(hp:0<el.length)
  (hr:R E (.ops l::ks) ⟨(k,.slice w h.length 0 (len+ys.length) false)::s,m,h.set id .dead++[.row w ((el.drop off).take len++(ys++el.drop (off+len+ys.length))) true]⟩ Q):
  Apx E w (some k) (some (.slice w id off len false)) (some b) l ks ⟨s,m,h⟩ Q:=by
 refine⟨rfl,hy.1, ?_⟩;simp only[hy.2,ho];exact⟨trivial,hl,hp,hr⟩
def Slx(E:Ev)(w:Nat)(d:Option Nat)(a:Option AV)(lo hi:Option Ao)(l:List qG)(ks:List Fr1)(st:VSt)(Q:qn->VSt->Prop):Prop:=match a with
 | some (.slice w' id off len false)=>(match st.h[id]? with
  | some (.row _ el _)=>0<el.length/\(match bnd (toE st.s) hi len 0 (el.length-off)with
   | some b=>(match bnd (toE st.s) lo 0 0 b with
    | some a=>w'=w/\R E (.ops l::ks) (st.put d (.slice w id (off+a) (b-a) false)) Q
    | none=>False)
   | none=>False)
  | _=>False)
 | _=>False
@[go_sem] theorem qvN{w:Nat}{lo hi:Option Ao}:Go1 E (.mk i d g (.slcx w x lo hi) ck) l ks ⟨s,m,h⟩ Q=Slx E w d (ev (toE s) x) lo hi l ks ⟨s,m,h⟩ Q:=by
 unfold Go1 wJ wB Slx;simp only[qG.o,qG.d,AOp.isCall,qG.apC,AOp.isApp,Bool.false_and,bFt,if_false]
 all_goals rfl
theorem qsE{w w2 k id off len a b:Nat}{lo hi:Option Ao}{el:List AV}{rw':Bool}(ho:h[id]?=some (.row w2 el rw'))(hp:0<el.length)(hb:bnd (toE s) hi len 0 (el.length-off)=some b)(ha:bnd (toE s) lo 0 0 b=some a)
  (hr:R E (.ops l::ks) ⟨(k,.slice w id (off+a) (b-a) false)::s,m,h⟩ Q):Slx E w (some k) (some (.slice w id off len false)) lo hi l ks ⟨s,m,h⟩ Q:=by
 unfold Slx;simp only[ho,hb,ha];exact⟨hp,trivial,hr⟩
def Slm(E:Ev)(w:Nat)(d:Option Nat)(a:Option AV)(lo hi mx:Ao)(l:List qG)(ks:List Fr1)(st:VSt)(Q:qn->VSt->Prop):Prop:=match a with
 | some (.slice w' id _ len _)=>(match st.h[id]? with
  | some (.row _ el _)=>0<el.length/\(match bnd (toE st.s) (some mx) 0 0 len with
   | some c=>(match bnd (toE st.s) (some hi) 0 0 c with
    | some b=>(match bnd (toE st.s) (some lo) 0 0 b with
     | some _=>w'=w/\R E (.ops l::ks) (st.put d .any) Q
     | none=>False)
    | none=>False)
   | none=>False)
  | _=>False)
 | _=>False
@[go_sem] theorem qvM{w:Nat}{lo hi mx:Ao}:Go1 E (.mk i d g (.slcm w x lo hi mx) ck) l ks ⟨s,m,h⟩ Q=Slm E w d (ev (toE s) x) lo hi mx l ks ⟨s,m,h⟩ Q:=by
 unfold Go1 wJ wB Slm;simp only[qG.o,qG.d,AOp.isCall,qG.apC,AOp.isApp,Bool.false_and,bFt,if_false]
 all_goals rfl
theorem qsD{w w2 k id off len a b c:Nat}{lo hi mx:Ao}{el:List AV}{rw' cl:Bool}(ho:h[id]?=some (.row w2 el rw'))(hp:0<el.length)(hc:bnd (toE s) (some mx) 0 0 len=some c)(hb:bnd (toE s) (some hi) 0 0 c=some b)(ha:bnd (toE s) (some lo) 0 0 b=some a)
  (hr:R E (.ops l::ks) ⟨(k,.any)::s,m,h⟩ Q):Slm E w (some k) (some (.slice w id off len cl)) lo hi mx l ks ⟨s,m,h⟩ Q:=by
 unfold Slm;simp only[ho,hb,ha,hc];exact⟨hp,trivial,hr⟩
def Clr(E:Ev)(w:Nat)(z:AV)(a:Option AV)(l:List qG)(ks:List Fr1)(st:VSt)(Q:qn->VSt->Prop):Prop:=match a with
 | some (.slice w' id off len _)=>w'=w/\(match st.h[id]? with
  | some (.row w2 el true)=>w2=w/\off+len<=el.length/\0<el.length/\R E (.ops l::ks) {st with h:=st.h.set id (.row w (el.take off++(List.replicate len z++el.drop (off+len))) true)} Q
  | _=>False)
 | _=>False
@[go_sem] theorem quX{w:Nat}{z:AV}:Go1 E (.mk i d g (.clear w z x) ck) l ks ⟨s,m,h⟩ Q=Clr E w z (ev (toE s) x) l ks ⟨s,m,h⟩ Q:=by
 unfold Go1 wJ wB Clr;simp only[qG.o,qG.d,AOp.isCall,qG.apC,AOp.isApp,Bool.false_and,bFt,if_false]
 all_goals rfl
theorem ql4{w id off len:Nat}{z:AV}{c:Bool}{el:List AV}(ho:h[id]?=some (.row w el true))(hl:off+len<=el.length)(hp:0<el.length)
  (hr:R E (.ops l::ks) ⟨s,m,h.set id (.row w (el.take off++(List.replicate len z++el.drop (off+len))) true)⟩ Q):Clr E w z (some (.slice w id off len c)) l ks ⟨s,m,h⟩ Q:=by
 unfold Clr;simp only[ho];exact⟨trivial,trivial,hl,hp,hr⟩
theorem qL{ck:List qG}{k:Nat}{vs:List AV}{e:Nat}(hp:Pure E.Γ k vs v)(hr:R E (.ops l::ks) ⟨(e,v)::s,m,h⟩ Q):jz E (some (k,vs)) ck (some e) l ks ⟨s,m,h⟩ Q:=by
 cases ck
 ·exact SCall.pure hp hr
 ·exact Or.inl (SCallK.ofP (SCallP.pure hp hr))
theorem wC{ck:List qG}{k:Nat}{vs vs':List AV}{e:Nat}(hc:Cvs h vs vs')(hp:Pure E.Γ k vs' v)(hl:v.leaf=true)(hr:R E (.ops l::ks) ⟨(e,v)::s,m,h⟩ Q):jz E (some (k,vs)) ck (some e) l ks ⟨s,m,h⟩ Q:=by
 cases ck
 ·exact SCall.lend hc hp hl hr
 ·exact Or.inl (SCallK.ofP (SCallP.lend hc hp hl hr))
def Fin(vs:Option (List AV))(h:List qA)(v:AV):Prop:=match vs with
 | some vs=>Cv h (zk vs) v
 | none=>False
@[go_sem] theorem quD{res:List jd}:Xg res v .ret ⟨s,m,h⟩=Fin (jK (wA ⟨s,m,h⟩) res) h v:=by
 simp[Xg,Fin];all_goals rfl
@[go_sem] theorem qxP:jK (wA ⟨s,m,h⟩) []=some []:=nr rfl
@[go_sem] theorem qxO{r:jd}{res:List jd}:jK (wA ⟨s,m,h⟩) (r::res)=Vm (JB (wA ⟨s,m,h⟩) r) (jK (wA ⟨s,m,h⟩) res):=by
 simp only[jK];unfold Vm;cases JB (wA ⟨s,m,h⟩) r<;>cases jK (wA ⟨s,m,h⟩) res<;>rfl
@[go_sem] theorem qxN:JB (wA ⟨s,m,h⟩) (.t n)=get s n:=nr rfl
@[go_sem] theorem qxM:JB (wA ⟨s,m,h⟩) (.l t sh)=X2 0 sh (get m t):=by
 show (get m t).bind _=_;cases get m t<;>rfl
theorem qM{v':AV}(ht:v.tree=true)(he:v'=v):Fin (some [v']) h v:=by subst he;exact .refl ht
theorem zj{v' w':AV}{vs:List AV}(ht:v.tree=true)(he:.tup (v'::w'::vs)=v):Fin (some (v'::w'::vs)) h v:=by subst he;exact .refl ht
theorem J8{v':AV}(hc:Cv h v' v):Fin (some [v']) h v:=hc
end
attribute [irreducible] Go1 Grd Put Cnd jz JN Ye Lst Qr Yd Bsl Mks Sto JM ZT Fin
section
variable {E:Ev} {ρ:Ren} {st:VSt} {sr:St} {ks:List Fr1} {Q:qn->VSt->Prop} {s m s' m':qt} {h h':List qA} {b:Nat}
def Qj(s:qt):qt->Prop
 |[]=>True
 | (n,v)::r=>get s n=some v/\Qj s r
theorem qC7:∀{s':qt},Qj s s'->∀n v,get s' n=some v->get s n=some v
 |[],_,n,v,hv=>by cases hv
 | (k,x)::r,hs,n,v,hv=>by
  rw[WV]at hv;split at hv
  ·rename_i e;subst e;cases hv;exact hs.1
  ·exact qC7 hs.2 n v hv
theorem Can.sub(h1:Qj s s')(h2:Qj m m'):Can b ⟨s,m,h⟩ ⟨s',m',h⟩:=λρ sr hS hb=>
 ⟨sr,ρ,λ_ _ _ _ h=>h,⟨λn v hv=>hS.s n v (qC7 h1 n v hv),λn v hv=>hS.l n v (qC7 h2 n v hv),hS.h⟩,Fm.refl _ _ _,hb⟩
inductive VR2(μ:List (Option Nat)):AV->AV->Prop
 | tree {v} (ht:v.tree=true):VR2 μ v v
 | ptr {id id' i j} (hm:μ[id']?=some (some id)):VR2 μ (.ptr id i j) (.ptr id' i j)
 | slice {w id id' off len c} (hm:μ[id']?=some (some id)):VR2 μ (.slice w id off len c) (.slice w id' off len c)
 | map {id id'} (hm:μ[id']?=some (some id)):VR2 μ (.map id) (.map id')
 | ph {w id' c} (hm:μ[id']?=some none):VR2 μ .nils (.slice w id' 0 0 c)
 | ph2 {w id' c} (hm:μ[id']?=some none):VR2 μ (.lst w [] true) (.slice w id' 0 0 c)
 | nilL {w c}:VR2 μ .nils (.lst w [] c)
 | clip {w xs} (ht:AV.trees xs=true):VR2 μ (.lst w xs true) (.lst w xs false)
 | agg {cs ds} (hl:cs.length=ds.length) (hc:∀p∈cs.zip ds,VR2 μ p.1 p.2):VR2 μ (.agg cs) (.agg ds)
 | fn {g cs ds} (hl:cs.length=ds.length) (hc:∀p∈cs.zip ds,VR2 μ p.1 p.2):VR2 μ (.fn g cs) (.fn g ds)
 | tup {cs ds} (hl:cs.length=ds.length) (hc:∀p∈cs.zip ds,VR2 μ p.1 p.2):VR2 μ (.tup cs) (.tup ds)
def VR2s(μ:List (Option Nat))(as bs:List AV):Prop:=as.length=bs.length/\∀p∈as.zip bs,VR2 μ p.1 p.2
theorem VR2s.nil{μ:List (Option Nat)}:VR2s μ [] []:=⟨rfl,λp hp=>by simp at hp⟩
theorem VR2s.cons{μ:List (Option Nat)}{a b:AV}{as bs:List AV}(x:VR2 μ a b)(y:VR2s μ as bs):VR2s μ (a::as) (b::bs):=⟨by simp[y.1],λp hp=>by
 simp only[List.zip_cons_cons,mCo]at hp;rcases hp with rfl | hp
 ·exact x
 ·exact y.2 p hp⟩
theorem qKM{as:List AV}(h:AV.trees as=true){a:AV}(ha:a∈as):a.tree=true:=by
 induction as with
 | nil=>cases ha
 | cons x as ih=>
  simp only[AV.trees,bAt]at h;rcases mCo.1 ha with rfl | ha
  ·exact h.1
  ·exact ih h.2 ha
theorem VR2s.trees{μ:List (Option Nat)}{as:List AV}(h:AV.trees as=true):VR2s μ as as:=⟨rfl,λp hp=>by
 have e:p.1=p.2:=by
  obtain⟨i,hi,rfl⟩:=List.getElem_of_mem hp;simp
 have:p.1∈as:=(List.of_mem_zip hp).1;rw[<-e];exact .tree (qKM h this)⟩
def renum(μ:List (Option Nat))(ρ:Ren):Ren:=λi=>match μ[i]? with
 | some (some j)=>ρ j
 | some none=>some none
 | none=>none
theorem VR2.rel{μ:List (Option Nat)}{v v':AV}(hv:VR2 μ v v'):∀{r:AV},RelV ρ v r->RelV (renum μ ρ) v' r:=by
 have list:∀{cs ds rs:List AV},cs.length=ds.length->(∀p∈cs.zip ds,∀{r:AV},RelV ρ p.1 r->RelV (renum μ ρ) p.2 r)->RelVs ρ cs rs->RelVs (renum μ ρ) ds rs:=by
  intro cs
  induction cs with
  | nil=>
   intro ds rs hl _ hr;have:ds=[]:=lEz (by simpa using hl.symm);subst this;simpa only [RelVs]using hr
  | cons c cs ih=>
   intro ds rs hl hi hr;cases ds with
   | nil=>simp at hl
   | cons d ds=>
    simp only[RelVs]at hr|-;obtain⟨r,rs,rfl,h1,h2⟩:=hr;exact⟨r,rs,rfl,hi (c,d) (by simp) h1,ih (by simpa using hl) (λp hp=>hi p (by simp only[List.zip_cons_cons];exact mCm _ hp)) h2⟩
 induction hv with
 | tree ht=>exact λhr=>Qp _ _ ht hr
 | ptr hm=>intro r hr;simp only[RelV]at hr|-;obtain⟨a,h1,rfl⟩:=hr;exact⟨a,by simp only[renum,hm];exact h1,rfl⟩
 | slice hm=>
  intro r hr;simp only[RelV]at hr|-;rcases hr with⟨a,h1,rfl⟩ | ⟨h1,h2⟩
  ·exact .inl ⟨a,by simp only[renum,hm];exact h1,rfl⟩
  ·exact .inr ⟨by simp only[renum,hm];exact h1,h2⟩
 | map hm=>intro r hr;simp only[RelV]at hr|-;obtain⟨a,h1,rfl⟩:=hr;exact⟨a,by simp only[renum,hm];exact h1,rfl⟩
 | ph hm=>intro r hr;simp only[RelV]at hr|-;subst hr;simp[renum,hm]
 | ph2 hm=>
  intro r hr;simp only[RelV]at hr|-;rcases hr with⟨ys,c,rfl,hc,h2⟩ | ⟨_,rfl⟩
  ·simp only[RelVs]at h2;subst h2;rw[hc trivial];simp[renum,hm]
  ·simp[renum,hm]
 | nilL=>intro r hr;simp only[RelV]at hr|-;subst hr;simp
 | clip ht=>
  intro r hr;simp only[RelV]at hr|-;rcases hr with⟨ys,c,h1,_,h3⟩ | hr
  ·exact .inl ⟨ys,c,h1,by simp,J3 _ _ ht h3⟩
  ·exact .inr hr
 | agg hl hc ih=>intro r hr;simp only[RelV]at hr|-;obtain⟨rs,rfl,hr⟩:=hr;exact⟨rs,rfl,list hl (λp hp=>ih p hp) hr⟩
 | fn hl hc ih=>intro r hr;simp only[RelV]at hr|-;obtain⟨rs,rfl,hr⟩:=hr;exact⟨rs,rfl,list hl (λp hp=>ih p hp) hr⟩
 | tup hl hc ih=>intro r hr;simp only[RelV]at hr|-;obtain⟨rs,rfl,hr⟩:=hr;exact⟨rs,rfl,list hl (λp hp=>ih p hp) hr⟩
theorem VR2s.rel{μ:List (Option Nat)}{as bs rs:List AV}(h:VR2s μ as bs)(hr:RelVs ρ as rs):RelVs (renum μ ρ) bs rs:=by
 have:=(VR2.tup h.1 h.2).rel (ρ:=ρ) (r:=.tup rs) (by simp only[RelV];exact⟨rs,rfl,hr⟩);simp only[RelV]at this;obtain⟨rs',h1,h2⟩:=this;cases h1;exact h2
def ZP(μ:List (Option Nat))(s:qt):qt->Prop
 |[]=>True
 | (n,v')::r=>(∃v,get s n=some v/\VR2 μ v v')/\ZP μ s r
theorem qC6{μ:List (Option Nat)}{e:Env}(hs:RelE ρ s e):∀{s':qt},ZP μ s s'->RelE (renum μ ρ) s' e
 |[],_,n,v,hv=>by cases hv
 | (k,x)::r,hc,n,v,hv=>by
  rw[WV]at hv;split at hv
  ·rename_i q;subst q;cases hv;obtain⟨v0,h1,h2⟩:=hc.1;obtain⟨y,h3,h4⟩:=hs _ _ h1;exact⟨y,h3,h2.rel h4⟩
  ·exact qC6 hs hc.2 n v hv
inductive OR2(μ:List (Option Nat))(h:List qA):Option Nat->qA->Prop
 | dead {j}:OR2 μ h j .dead
 | ph {w}:OR2 μ h none (.row w [] true)
 | row {j w el el' rw'} (ho:h[j]?=some (.row w el rw')) (he:VR2s μ el el'):OR2 μ h (some j) (.row w el' rw')
 | map {j es} (ho:h[j]?=some (.map es)) (hk:AV.trees (es.map (·.1))=true) (hv:AV.trees (es.map (·.2))=true):OR2 μ h (some j) (.map es)
def JA(μ:List (Option Nat))(h:List qA):List (Option Nat)->List qA->Prop
 |[],[]=>True
 | j::r,o::h'=>OR2 μ h j o/\JA μ h r h'
 | _,_=>False
theorem Vi{μ:List (Option Nat)}:∀{r:List (Option Nat)}{h':List qA},JA μ h r h'->r.length=h'.length
 |[],[],_=>rfl
 | _::_,_::_,k=>by simp[Vi k.2]
 |[],_::_,k=>k.elim
 | _::_,[],k=>k.elim
theorem X1{μ:List (Option Nat)}:∀{r:List (Option Nat)}{h':List qA},JA μ h r h'->∀(i:Nat)(o:qA),h'[i]?=some o->∃j,r[i]?=some j/\OR2 μ h j o
 |[],[],_,i,o,hi=>by simp at hi
 | j::r,o'::h',k,i,o,hi=>by
  cases i with
  | zero=>simp only[List.getElem?_cons_zero,oSi]at hi|-;subst hi;exact⟨j,rfl,k.1⟩
  | succ i=>simp only[List.getElem?_cons_succ]at hi|-;exact X1 k.2 i o hi
 |[],_::_,k,_,_,_=>k.elim
 | _::_,[],k,_,_,_=>k.elim
def jw:List (Option Nat)->Bool
 |[]=>true
 | none::r=>jw r
 | some j::r=>(r.all λx=>match x with | some k=> !Nat.beq j k | none=>true)&&jw r
theorem qBA:∀{μ:List (Option Nat)},jw μ=true->∀(i k j:Nat),μ[i]?=some (some j)->μ[k]?=some (some j)->i=k
 |[],_,i,k,j,hi,_=>by simp at hi
 | none::r,hd,i,k,j,hi,hk=>by
  cases i with
  | zero=>simp at hi
  | succ i=>
   cases k with
   | zero=>simp at hk
   | succ k=>simp only[List.getElem?_cons_succ]at hi hk;rw[qBA (by simpa only [jw]using hd) i k j hi hk]
 | some a::r,hd,i,k,j,hi,hk=>by
  simp only[jw,bAt,lAt]at hd;have ne:∀k,r[k]?=some (some a)->False:=λk hk=>by
   have:=hd.1 _ (lMo hk);simp only[Nat.beq_refl,Bool.not_true]at this;cases this
  cases i with
  | zero=>
   simp only[List.getElem?_cons_zero,oSi]at hi;subst hi;cases k with
   | zero=>rfl
   | succ k=>simp only[List.getElem?_cons_succ]at hk;exact(ne k hk).elim
  | succ i=>
   simp only[List.getElem?_cons_succ]at hi;cases k with
   | zero=>simp only[List.getElem?_cons_zero,oSi]at hk;subst hk;exact(ne i hi).elim
   | succ k=>simp only[List.getElem?_cons_succ]at hk;rw[qBA hd.2 i k j hi hk]
theorem qJG{μ:List (Option Nat)}{hr:AH}(hd:jw μ=true)(ho:JA μ h μ h')(hH:zL ρ h hr):zL (_root_.Go.Ab.renum μ ρ) h' hr/\Fm 0 ρ hr (_root_.Go.Ab.renum μ ρ) hr:=by
 refine⟨⟨λi o hi=>?_,λi k a o o' q1 q2 hi hk d1 d2=>?_,λi hi=>?_,λi a q=>?_⟩,⟨λa o q _=>q,λi a q=>?_,λ_ q=>q,λi hi=>by omega⟩⟩
 ·obtain⟨j,hj,hor⟩:=X1 ho i o hi;cases hor with
  | dead=>trivial
  | ph=>exact .inl ⟨by simp only[_root_.Go.Ab.renum,hj],rfl,rfl⟩
  | @row j w el el' rw' ho' he=>
   rcases hH.obj _ _ ho' with⟨q1,rfl,q3⟩ | ⟨i',el2,q1,q2,q3⟩
   ·have:el'=[]:=lEz (by rw[<-he.1];rfl);exact .inl ⟨by simp only[_root_.Go.Ab.renum,hj];exact q1,this,q3⟩
   ·exact .inr ⟨i',el2,by simp only[_root_.Go.Ab.renum,hj];exact q1,q2,he.rel q3⟩
  | @map j es ho' hk hv=>
   obtain⟨i',es',q1,q2,q3⟩:=hH.obj _ _ ho';exact⟨i',es',by simp only[_root_.Go.Ab.renum,hj];exact q1,q2,J3 _ _ hk q3.1,J3 _ _ hv q3.2⟩
 ·obtain⟨j1,hj1,hor1⟩:=X1 ho i o hi;obtain⟨j2,hj2,hor2⟩:=X1 ho k o' hk;simp only[_root_.Go.Ab.renum,hj1,hj2]at q1 q2;have live:∀{j:Option Nat}{o:qA},OR2 μ h j o->o≠.dead->∀j',j=some j'->∃o2,h[j']?=some o2/\o2≠.dead:=by
   intro j o hor hd j' hj';subst hj';cases hor with
   | dead=>exact absurd rfl hd
   | row ho' _=>exact⟨_,ho',by simp⟩
   | map ho' _ _=>exact⟨_,ho',by simp⟩
  cases j1 with
  | none=>cases q1
  | some j1=>
   cases j2 with
   | none=>cases q2
   | some j2=>
    obtain⟨o1,e1,n1⟩:=live hor1 d1 j1 rfl;obtain⟨o2,e2,n2⟩:=live hor2 d2 j2 rfl;have:=hH.inj j1 j2 a _ _ q1 q2 e1 e2 n1 n2;subst this;exact qBA hd i k j1 hj1 hj2
 ·have:=Vi ho;have hi:h'.length<=i:=hi;simp only[_root_.Go.Ab.renum,gEn (show μ.length<=i by omega)]
 ·simp only[_root_.Go.Ab.renum]at q;split at q
  ·exact hH.is _ a q
  ·cases q
  ·cases q
 ·simp only[_root_.Go.Ab.renum]at q;split at q
  ·exact .inl ⟨_,q⟩
  ·cases q
  ·cases q
theorem Can.renum(μ:List (Option Nat))(hd:jw μ=true)(ho:JA μ h μ h')(h1:ZP μ s s')(h2:ZP μ m m'):Can 0 ⟨s,m,h⟩ ⟨s',m',h'⟩:=λρ sr hS _=>by
 obtain⟨q1,q2⟩:=qJG hd ho hS.h;exact⟨sr,_,λ_ _ _ _ h=>h,⟨qC6 hS.s h1,qC6 hS.l h2,q1⟩,q2,nZl _⟩
@[go_sem] theorem qxU:Qj s []=True:=nr rfl
@[go_sem] theorem qxT{n:Nat}{v:AV}{r:qt}:Qj s ((n,v)::r)=(get s n=some v/\Qj s r):=nr rfl
@[go_sem] theorem qwA{α:Type}{I:α->Prop}{stt:α->VSt}{me:α->Nat}{a:α}{n:Nat}:Q9 E I stt me a ks Q (.exit n) st=WA E (.exit n) (exK (.exit n) ks) st Q:=by
 simp only[Q9,WA];all_goals rfl
@[go_sem] theorem qwB{α:Type}{I:α->Prop}{stt:α->VSt}{me:α->Nat}{a:α}:Q9 E I stt me a ks Q .ret st=Q .ret st:=by
 simp only[Q9,Q1]
theorem qa{α:Type}{I:α->Prop}{stt:α->VSt}{me:α->Nat}{a:α}(a':α)(h1:I a')(h2:me a'<me a)(h3:Can E.b st (stt a')):Q9 E I stt me a ks Q .nrm st:=⟨a',h1,h2,h3⟩
end
set_option maxRecDepth 10000
def Qc(w:Nat)(sh:Option Nat):qK:=⟨2,19,[.t 4],
 .seq (.reg true [⟨0,some 4,none,.mov (.c (.int .i64 0)),[]⟩]) (.seq (.seq (.reg true [⟨0,some 6,none,.mov (.t 0),[]⟩,
⟨1,some 7,none,.len (.t 6),[]⟩,
⟨2,some 8,none,.mov (.c (.int .i64 0)),[]⟩]) (.blk 0 (.loop (.seq (.reg true [⟨0,some 9,none,.bin .lss (.t 8) (.t 7),[]⟩]) (.seq (.cond (.t 9) (.skip) (.exit 0)) (.seq (.blk 1 (.seq (.reg true [⟨0,some 10,none,.mov (.t 8),[]⟩,
⟨1,some 5,none,.mov (.t 10),[]⟩]) (.seq (.reg true [⟨0,some 11,none,.mov (.t 1),[]⟩,
⟨1,some 12,none,.mov (.t 0),[]⟩,
⟨2,some 13,none,.mov (.t 5),[]⟩,
⟨3,some 14,none,.iaddr w (.t 12) (.t 13),[]⟩,
⟨4,some 15,none,.load sh (.t 14),[]⟩,
⟨5,some 16,none,.callv (.t 11) [.t 15],[]⟩]) (.cond (.t 16) (.seq (.reg true [⟨0,some 17,none,.mov (.t 5),[]⟩,
⟨1,some 4,none,.mov (.t 17),[]⟩]) (.ret)) (.skip))))) (.reg true [⟨0,some 18,none,.bin .add (.t 8) (.c (.int .i64 1)),[]⟩,
⟨1,some 8,none,.mov (.t 18),[]⟩]))))))) (.seq (.reg true [⟨0,some 4,none,.mov (.c (.int .i64 (-1))),[]⟩]) (.ret)))⟩
def Qz(g:Nat):qK:=⟨2,9,[.t 4],
 .seq (.reg true [⟨0,some 4,none,.mov (.c (.bool false)),[]⟩]) (.seq (.reg true [⟨0,some 5,none,.mov (.t 0),[]⟩,
⟨1,some 6,none,.mov (.t 1),[]⟩,
⟨2,some 7,none,.call g [.t 5,.t 6],[]⟩,
⟨3,some 8,none,.bin .geq (.t 7) (.c (.int .i64 0)),[]⟩,
⟨4,some 4,none,.mov (.t 8),[]⟩]) (.ret))⟩
def szS(w:Nat)(sh:Option Nat)(g:Nat):qK:=⟨2,27,[.t 4],
 .seq (.reg true [⟨0,some 4,none,.mov (.c (.int .i64 0)),[]⟩]) (.seq (.reg true [⟨0,some 6,none,.mov (.t 1),[]⟩,
⟨1,some 7,none,.mov (.t 0),[]⟩,
⟨2,some 8,none,.len (.t 7),[]⟩,
⟨3,some 9,none,.bin .sub (.t 6) (.t 8),[]⟩,
⟨4,some 1,none,.mov (.t 9),[]⟩]) (.seq (.seq (.reg true [⟨0,some 10,none,.mov (.t 1),[]⟩,
⟨1,some 11,none,.bin .lss (.t 10) (.c (.int .i64 0)),[]⟩]) (.cond (.t 11) (.seq (.reg true [⟨0,some 4,none,.mov (.c (.int .i64 (-1))),[]⟩]) (.ret)) (.skip))) (.seq (.seq (.reg true [⟨0,some 5,none,.mov (.c (.int .i64 0)),[]⟩]) (.blk 0 (.loop (.seq (.seq (.reg true [⟨0,some 12,none,.mov (.t 5),[]⟩,
⟨1,some 13,none,.mov (.t 0),[]⟩,
⟨2,some 14,none,.len (.t 13),[]⟩,
⟨3,some 15,none,.bin .lss (.t 12) (.t 14),[]⟩]) (.cond (.t 15) (.skip) (.exit 0))) (.seq (.blk 1 (.seq (.reg true [⟨0,some 18,none,.mov (.t 0),[]⟩,
⟨1,some 19,none,.mov (.t 5),[]⟩,
⟨2,some 20,none,.iaddr w (.t 18) (.t 19),[]⟩,
⟨3,some 21,none,.load sh (.t 20),[]⟩,
⟨4,some 22,none,.mov (.t 1),[]⟩,
⟨5,some 23,none,.call g [.t 21,.t 22],[]⟩,
⟨6,some 1,none,.mov (.t 23),[]⟩]) (.seq (.reg true [⟨0,some 24,none,.mov (.t 1),[]⟩,
⟨1,some 25,none,.bin .lss (.t 24) (.c (.int .i64 0)),[]⟩]) (.cond (.t 25) (.seq (.reg true [⟨0,some 4,none,.mov (.c (.int .i64 (-1))),[]⟩]) (.ret)) (.skip))))) (.reg true [⟨0,some 16,none,.mov (.t 5),[]⟩,
⟨1,some 17,none,.bin .add (.t 16) (.c (.int .i64 1)),[]⟩,
⟨2,some 5,none,.mov (.t 17),[]⟩])))))) (.seq (.reg true [⟨0,some 26,none,.mov (.t 1),[]⟩,
⟨1,some 4,none,.mov (.t 26),[]⟩]) (.ret)))))⟩
def Wz:qK:=⟨2,12,[.t 4],
 .seq (.reg true [⟨0,some 4,none,.mov (.c (.int .i64 0)),[]⟩]) (.seq (.reg true [⟨0,some 5,none,.mov (.t 1),[]⟩,
⟨1,some 6,none,.mov (.t 0),[]⟩,
⟨2,some 7,none,.len (.t 6),[]⟩,
⟨3,some 8,none,.bin .sub (.t 5) (.t 7),[]⟩,
⟨4,some 1,none,.mov (.t 8),[]⟩]) (.seq (.seq (.reg true [⟨0,some 9,none,.mov (.t 1),[]⟩,
⟨1,some 10,none,.bin .lss (.t 9) (.c (.int .i64 0)),[]⟩]) (.cond (.t 10) (.seq (.reg true [⟨0,some 4,none,.mov (.c (.int .i64 (-1))),[]⟩]) (.ret)) (.skip))) (.seq (.reg true [⟨0,some 11,none,.mov (.t 1),[]⟩,
⟨1,some 4,none,.mov (.t 11),[]⟩]) (.ret))))⟩
def toS(w:Nat)(sh:Option Nat)(z:AV)(g:Nat):qK:=⟨1,23,[.t 2],
 .seq (.reg true [⟨0,some 2,none,.mov (.c (.nils)),[]⟩]) (.seq (.reg true [⟨0,some 5,none,.mov (.t 0),[]⟩,
⟨1,some 6,none,.len (.t 5),[]⟩,
⟨2,some 7,none,.mksl w z (.t 6) (.t 6),[]⟩,
⟨3,some 3,none,.mov (.t 7),[]⟩]) (.seq (.seq (.reg true [⟨0,some 4,none,.mov (.c (.int .i64 0)),[]⟩]) (.blk 0 (.loop (.seq (.seq (.reg true [⟨0,some 8,none,.mov (.t 4),[]⟩,
⟨1,some 9,none,.mov (.t 0),[]⟩,
⟨2,some 10,none,.len (.t 9),[]⟩,
⟨3,some 11,none,.bin .lss (.t 8) (.t 10),[]⟩]) (.cond (.t 11) (.skip) (.exit 0))) (.seq (.blk 1 (.reg true [⟨0,some 14,none,.mov (.t 3),[]⟩,
⟨1,some 15,none,.mov (.t 4),[]⟩,
⟨2,some 16,none,.mov (.t 0),[]⟩,
⟨3,some 17,none,.mov (.t 4),[]⟩,
⟨4,some 18,none,.iaddr w (.t 16) (.t 17),[]⟩,
⟨5,some 19,none,.load sh (.t 18),[]⟩,
⟨6,some 20,none,.call g [.t 19],[]⟩,
⟨7,some 21,none,.iaddr w (.t 14) (.t 15),[]⟩,
⟨8,none,none,.store w (.t 21) (.t 20),[]⟩])) (.reg true [⟨0,some 12,none,.mov (.t 4),[]⟩,
⟨1,some 13,none,.bin .add (.t 12) (.c (.int .i64 1)),[]⟩,
⟨2,some 4,none,.mov (.t 13),[]⟩])))))) (.seq (.reg true [⟨0,some 22,none,.mov (.t 3),[]⟩,
⟨1,some 2,none,.mov (.t 22),[]⟩]) (.ret))))⟩
def YS:qK:=⟨1,22,[.t 2],
 .seq (.reg true [⟨0,some 2,none,.mov (.c (.nils)),[]⟩]) (.seq (.reg true [⟨0,some 5,none,.mov (.t 0),[]⟩,
⟨1,some 6,none,.len (.t 5),[]⟩,
⟨2,some 7,none,.mksl 1 (.int .i64 0) (.t 6) (.t 6),[]⟩,
⟨3,some 3,none,.mov (.t 7),[]⟩]) (.seq (.seq (.reg true [⟨0,some 4,none,.mov (.c (.int .i64 0)),[]⟩]) (.blk 0 (.loop (.seq (.seq (.reg true [⟨0,some 8,none,.mov (.t 4),[]⟩,
⟨1,some 9,none,.mov (.t 0),[]⟩,
⟨2,some 10,none,.len (.t 9),[]⟩,
⟨3,some 11,none,.bin .lss (.t 8) (.t 10),[]⟩]) (.cond (.t 11) (.skip) (.exit 0))) (.seq (.blk 1 (.reg true [⟨0,some 14,none,.mov (.t 3),[]⟩,
⟨1,some 15,none,.mov (.t 4),[]⟩,
⟨2,some 16,none,.mov (.t 0),[]⟩,
⟨3,some 17,none,.mov (.t 4),[]⟩,
⟨4,some 18,none,.iaddr 1 (.t 16) (.t 17),[]⟩,
⟨5,some 19,none,.load none (.t 18),[]⟩,
⟨6,some 20,none,.iaddr 1 (.t 14) (.t 15),[]⟩,
⟨7,none,none,.store 1 (.t 20) (.t 19),[]⟩])) (.reg true [⟨0,some 12,none,.mov (.t 4),[]⟩,
⟨1,some 13,none,.bin .add (.t 12) (.c (.int .i64 1)),[]⟩,
⟨2,some 4,none,.mov (.t 13),[]⟩])))))) (.seq (.reg true [⟨0,some 21,none,.mov (.t 3),[]⟩,
⟨1,some 2,none,.mov (.t 21),[]⟩]) (.ret))))⟩
def eqS(w:Nat)(sh:Option Nat)(g:Nat):qK:=⟨2,27,[.t 4],
 .seq (.reg true [⟨0,some 4,none,.mov (.c (.bool false)),[]⟩]) (.seq (.seq (.reg true [⟨0,some 6,none,.mov (.t 0),[]⟩,
⟨1,some 7,none,.len (.t 6),[]⟩,
⟨2,some 8,none,.mov (.t 1),[]⟩,
⟨3,some 9,none,.len (.t 8),[]⟩,
⟨4,some 10,none,.bin .neq (.t 7) (.t 9),[]⟩]) (.cond (.t 10) (.seq (.reg true [⟨0,some 4,none,.mov (.c (.bool false)),[]⟩]) (.ret)) (.skip))) (.seq (.seq (.reg true [⟨0,some 5,none,.mov (.c (.int .i64 0)),[]⟩]) (.blk 0 (.loop (.seq (.seq (.reg true [⟨0,some 11,none,.mov (.t 5),[]⟩,
⟨1,some 12,none,.mov (.t 0),[]⟩,
⟨2,some 13,none,.len (.t 12),[]⟩,
⟨3,some 14,none,.bin .lss (.t 11) (.t 13),[]⟩]) (.cond (.t 14) (.skip) (.exit 0))) (.seq (.blk 1 (.seq (.reg true [⟨0,some 17,none,.mov (.t 0),[]⟩,
⟨1,some 18,none,.mov (.t 5),[]⟩,
⟨2,some 19,none,.iaddr w (.t 17) (.t 18),[]⟩,
⟨3,some 20,none,.load sh (.t 19),[]⟩,
⟨4,some 21,none,.mov (.t 1),[]⟩,
⟨5,some 22,none,.mov (.t 5),[]⟩,
⟨6,some 23,none,.iaddr w (.t 21) (.t 22),[]⟩,
⟨7,some 24,none,.load sh (.t 23),[]⟩,
⟨8,some 25,none,.call g [.t 20,.t 24],[]⟩,
⟨9,some 26,none,.not (.t 25),[]⟩]) (.cond (.t 26) (.seq (.reg true [⟨0,some 4,none,.mov (.c (.bool false)),[]⟩]) (.ret)) (.skip)))) (.reg true [⟨0,some 15,none,.mov (.t 5),[]⟩,
⟨1,some 16,none,.bin .add (.t 15) (.c (.int .i64 1)),[]⟩,
⟨2,some 5,none,.mov (.t 16),[]⟩])))))) (.seq (.reg true [⟨0,some 4,none,.mov (.c (.bool true)),[]⟩]) (.ret))))⟩
def eqS0:qK:=⟨2,26,[.t 4],
 .seq (.reg true [⟨0,some 4,none,.mov (.c (.bool false)),[]⟩]) (.seq (.seq (.reg true [⟨0,some 6,none,.mov (.t 0),[]⟩,
⟨1,some 7,none,.len (.t 6),[]⟩,
⟨2,some 8,none,.mov (.t 1),[]⟩,
⟨3,some 9,none,.len (.t 8),[]⟩,
⟨4,some 10,none,.bin .neq (.t 7) (.t 9),[]⟩]) (.cond (.t 10) (.seq (.reg true [⟨0,some 4,none,.mov (.c (.bool false)),[]⟩]) (.ret)) (.skip))) (.seq (.seq (.reg true [⟨0,some 5,none,.mov (.c (.int .i64 0)),[]⟩]) (.blk 0 (.loop (.seq (.seq (.reg true [⟨0,some 11,none,.mov (.t 5),[]⟩,
⟨1,some 12,none,.mov (.t 0),[]⟩,
⟨2,some 13,none,.len (.t 12),[]⟩,
⟨3,some 14,none,.bin .lss (.t 11) (.t 13),[]⟩]) (.cond (.t 14) (.skip) (.exit 0))) (.seq (.blk 1 (.seq (.reg true [⟨0,some 17,none,.mov (.t 0),[]⟩,
⟨1,some 18,none,.mov (.t 5),[]⟩,
⟨2,some 19,none,.iaddr 1 (.t 17) (.t 18),[]⟩,
⟨3,some 20,none,.load none (.t 19),[]⟩,
⟨4,some 21,none,.mov (.t 1),[]⟩,
⟨5,some 22,none,.mov (.t 5),[]⟩,
⟨6,some 23,none,.iaddr 1 (.t 21) (.t 22),[]⟩,
⟨7,some 24,none,.load none (.t 23),[]⟩,
⟨8,some 25,none,.bin .neq (.t 20) (.t 24),[]⟩]) (.cond (.t 25) (.seq (.reg true [⟨0,some 4,none,.mov (.c (.bool false)),[]⟩]) (.ret)) (.skip)))) (.reg true [⟨0,some 15,none,.mov (.t 5),[]⟩,
⟨1,some 16,none,.bin .add (.t 15) (.c (.int .i64 1)),[]⟩,
⟨2,some 5,none,.mov (.t 16),[]⟩])))))) (.seq (.reg true [⟨0,some 4,none,.mov (.c (.bool true)),[]⟩]) (.ret))))⟩
theorem jc{n:Int}(h: -9223372036854775808<=n)(h':n<=9223372036854775807):IntKind.i64.wrap n=n:=IntWalk.i64_in n ⟨h,h'⟩
theorem jO{n:Nat}(h:n<4611686018427387904):IntKind.i64.wrap ((n:Int)+1)=((n+1:Nat):Int):=by
 rw[jc (by omega) (by omega)];rfl
structure Sh{α:Type}(enc:α->AV)(w:Nat)(sh:Option Nat):Prop where
 tree:∀x,(enc x).tree=true
 len:∀x,(enc x).cells.length=w
 part:∀x,(enc x).part 0 sh=some (enc x)
 pos:0<w
 agg:∀x,(∃cs,enc x=.agg cs)↔sh≠none
def qQ(n:Int):AV:=.int .i64 n
theorem shI:Sh qQ 1 none:=⟨λ_=>rfl,λ_=>rfl,λ_=>rfl,by decide,λ_=>by simp[qQ]⟩
theorem qb{α:Type}{enc:α->AV}(h:∀x,(enc x).tree=true)(xs:List α):AV.trees (xs.map enc)=true:=by
 induction xs with
 | nil=>rfl
 | cons x xs ih=>simp[AV.trees,h,ih]
section
variable {Γ:Nat->Option AFn} {α:Type} {enc:α->AV} {w:Nat} {sh:Option Nat} {g gc:Nat}
def XK(Γ:Nat->Option AFn)(f:AV)(as:List AV)(v:AV):Prop:=∃g cs,f=.fn g cs/\Pure Γ g (as++cs) v
def J9(p:α->Bool):List α->Nat->Int
 |[],_=> -1
 | x::xs,i=>if p x then i else J9 p xs (i+1)
theorem qG0(p:α->Bool):∀(xs:List α)(i:Nat),decide (0<=J9 p xs i)=xs.any p
 |[],i=>by simp[J9]
 | x::xs,i=>by
  simp only[J9,List.any_cons];by_cases h:p x=true
  ·simp[h]
  ·simp only[h,bFt,if_false,Bool.false_or];simpa[h]using qG0 p xs (i+1)
theorem qn0(hs:Sh enc w sh)(hg:Γ g=some (.fn (Qc w sh)))(f:AV)(p:α->Bool)(hft:f.tree=true)(xs:List α)(hf:∀x∈xs,XK Γ f [enc x] (.bool (p x)))(hl:xs.length<=1048576):
  Pure Γ g [.lst w (xs.map enc) false,f] (.int .i64 (J9 p xs 0)):=by
 refine Pure.intro [] [] hg (by kernel_rfl) rfl (by simp[AV.trees,AV.tree,qb hs.tree,hft]) rfl ?_;simp only[Qc,qN,go_sem,Nat.reduceEqDiff,reduceIte];refine Sem.loop (λi:Nat=>i<=xs.length/\J9 p xs 0=J9 p (xs.drop i) i)
  (λi=>(⟨[(0,.lst w (xs.map enc) false),(1,f),(7,.int .i64 xs.length),(8,.int .i64 (i:Nat))],[],[]⟩:VSt)) (λi=>xs.length-i) 0 (by kernel_rfl) ⟨nZl _,by simp⟩ ?_ ?_
 ·exact Can.sub (by simp[go_sem]) trivial
 ·rintro i ⟨hi,hI⟩;simp only[go_sem,Nat.reduceEqDiff,reduceIte];apply qT<;>intro hc<;>simp only[hc,go_sem,Nat.reduceEqDiff,reduceIte]
  ·have hlt:i<xs.length:=by have:=odT hc;omega
   simp only[gMp,gEg hlt,oMs,hs.part,go_sem,Nat.reduceEqDiff,reduceIte,Bool.not_true];obtain⟨g,cs,rfl,h2⟩:=hf xs[i] (gMm hlt);simp only[go_sem];refine qL h2 ?_;simp only[go_sem,Nat.reduceEqDiff,reduceIte];have hd:xs.drop i=xs[i]::xs.drop (i+1):=by simp
   apply qT<;>intro hc<;>simp only[hc,go_sem,Nat.reduceEqDiff,reduceIte]
   ·refine qM rfl ?_;rw[hI,hd];simp[J9,hc]
   ·simp only[jO (show i<4611686018427387904 by omega)];refine qa (i+1) ⟨by omega, ?_⟩ (by omega) (Can.sub (by simp[go_sem]) trivial);rw[hI,hd];simp[J9,hc]
  ·have hge:i=xs.length:=by have:=odF hc;omega
   subst hge;refine qM rfl ?_;rw[hI];simp[J9]
theorem WO(hs:Sh enc w sh)(hg:Γ g=some (.fn (Qz gc)))(hgc:Γ gc=some (.fn (Qc w sh)))(f:AV)(p:α->Bool)(hft:f.tree=true)(xs:List α)(hf:∀x∈xs,XK Γ f [enc x] (.bool (p x)))(hl:xs.length<=1048576):
  Pure Γ g [.lst w (xs.map enc) false,f] (.bool (xs.any p)):=by
 refine Pure.intro [] [] hg rfl rfl (by simp[AV.trees,AV.tree,qb hs.tree,hft]) rfl ?_;simp only[Qz,qN,go_sem,Nat.reduceEqDiff,reduceIte,Bool.not_true];refine qL (qn0 hs hgc f p hft xs hf hl) ?_;simp only[go_sem,Nat.reduceEqDiff,reduceIte];exact qM rfl (by rw[qG0])
def jp(n:Nat)(left:Nat):Int:=if n<=left then((left-n:Nat):Int)else-1
theorem wF{n l:Nat}(h:n<=l):jp n l=((l-n:Nat):Int):=iP h
theorem JV{n l:Nat}(h:l<n):jp n l= -1:=iN (by omega)
theorem wE{n l:Nat}:jp n l<0↔l<n:=by
 by_cases h:n<=l
 ·rw[wF h];omega
 ·rw[JV (by omega)];omega
theorem qHD{a b l:Nat}(h:a<=l):jp (a+b) l=jp b (l-a):=by
 by_cases h2:a+b<=l
 ·rw[wF h2,wF (by omega)];congr 1;omega
 ·rw[JV (by omega),JV (by omega)]
theorem UG(hg:Γ g=some (.fn Wz))(hs:∀x,(enc x).tree=true)(xs:List α)(left:Nat)(hl:left<=1048576)(hx:xs.length<=140737488355328):Pure Γ g [.lst w (xs.map enc) false,.int .i64 left] (.int .i64 (jp xs.length left)):=by
 refine Pure.intro [] [] hg rfl rfl (by simp[AV.trees,AV.tree,qb hs]) rfl ?_;simp only[Wz,qN,go_sem,Nat.reduceEqDiff,reduceIte];rw[jc (by simp;omega) (by simp;omega)];apply qT<;>intro hc<;>simp only[hc,go_sem,Nat.reduceEqDiff,reduceIte]
 ·have:=odT hc;refine qM rfl ?_;simp only[lMp]at this;rw[JV (by omega)]
 ·have:=odF hc;refine qM rfl ?_;simp only[lMp]at this|-;rw[wF (by omega)];congr 1;omega
def qJ{α:Type}(f:α->Nat):List α->Nat
 |[]=>0
 | x::xs=>f x+qJ f xs
theorem z5{α:Type}{f:α->Nat}:∀{xs:List α}{x:α},x∈xs->f x<=qJ f xs
 | y::ys,x,h=>by
  simp only[qJ];rcases mCo.1 h with rfl | h
  ·omega
  ·have:=z5 (f:=f) h;omega
theorem qDB(hs:Sh enc w sh)(hg:Γ g=some (.fn (szS w sh gc)))(sz:α->Nat)(xs:List α)(hc:∀x∈xs,∀left:Nat,left<=1048576->Pure Γ gc [enc x,.int .i64 left] (.int .i64 (jp (sz x) left)))
  (left:Nat) (hl:left<=1048576) (hx:xs.length<=140737488355328):Pure Γ g [.lst w (xs.map enc) false,.int .i64 left] (.int .i64 (jp (xs.length+qJ sz xs) left)):=by
 refine Pure.intro [] [] hg (by kernel_rfl) rfl (by simp[AV.trees,AV.tree,qb hs.tree]) rfl ?_;simp only[szS,qN,go_sem,Nat.reduceEqDiff,reduceIte];rw[jc (by simp;omega) (by simp;omega)];apply qT<;>intro hc1<;>simp only[hc1,go_sem,Nat.reduceEqDiff,reduceIte]
 ·have:=odT hc1;refine qM rfl ?_;simp only[lMp]at this;rw[JV (by omega)]
 ·have h0:=odF hc1;simp only[lMp]at h0;refine Sem.loop (λa:Nat×Nat=>a.1<=xs.length/\a.2<=1048576/\jp (xs.length+qJ sz xs) left=jp (qJ sz (xs.drop a.1)) a.2)
   (λa=>(⟨[(0,.lst w (xs.map enc) false),(1,.int .i64 (a.2:Nat)),(5,.int .i64 (a.1:Nat))],[],[]⟩:VSt)) (λa=>xs.length-a.1) (0,left-xs.length) (by kernel_rfl) ⟨nZl _,by simp only;omega, ?_⟩ ?_ ?_
  ·exact qHD (by omega)
  ·refine Can.sub ?_ trivial;simp only[go_sem,Nat.reduceEqDiff,reduceIte,lMp,oSi,AV.int.injEq,true_and,and_true];refine⟨by omega,rfl⟩
  ·rintro⟨i,lf⟩ ⟨hi,hlf,hI⟩;simp only at hi hlf hI;simp only[go_sem,Nat.reduceEqDiff,reduceIte];apply qT<;>intro hc2<;>simp only[hc2,go_sem,Nat.reduceEqDiff,reduceIte]
   ·have hlt:i<xs.length:=by have:=odT hc2;(try simp only[lMp]at this);omega
    simp only[gMp,gEg hlt,oMs,hs.part,go_sem,Nat.reduceEqDiff,reduceIte,Bool.not_true];refine qL (hc xs[i] (gMm hlt) lf hlf) ?_;simp only[go_sem,Nat.reduceEqDiff,reduceIte];have hd:xs.drop i=xs[i]::xs.drop (i+1):=by simp
    apply qT<;>intro hc3<;>simp only[hc3,go_sem,Nat.reduceEqDiff,reduceIte]
    ·have:=odT hc3;refine qM rfl ?_;rw[wE]at this;rw[hI,hd,JV (by simp only[qJ];omega)]
    ·have:=odF hc3;have hle:sz xs[i]<=lf:=by rw[wE]at this;omega
     simp only[jO (show i<4611686018427387904 by omega)];refine qa (i+1,lf-sz xs[i]) ⟨by simp only;omega,by simp only;omega, ?_⟩ (by simp only;omega) (Can.sub ?_ trivial)
     ·simp only;rw[hI,hd];exact qHD hle
     ·simp only[go_sem,Nat.reduceEqDiff,reduceIte,oSi,AV.int.injEq,true_and,and_true];rw[wF hle]
   ·have hge:i=xs.length:=by have:=odF hc2;(try simp only[lMp]at this);omega
    subst hge;refine qM rfl ?_;rw[hI,List.drop_length];rw[wF (by simp[qJ])];simp[qJ]
theorem Cv.row{h:List qA}{w id n:Nat}{el:List AV}{c:Bool}(ho:h[id]?=some (.row w el true))(hn:el.length=n)(ht:AV.trees el=true)(hw:0<w):Cv h (.slice w id 0 n c) (.lst w el false):=by
 have e:(el.drop 0).take n=el:=by rw[List.drop_zero,<-hn,lTl]
 refine .slc ho (by omega) hw (by rw[e]) ?_;rw[e];intro p hp;have q:p.1=p.2:=by
  obtain⟨i,hi,rfl⟩:=List.getElem_of_mem hp;simp
 rw[<-q];exact .refl (qKM ht (List.of_mem_zip hp).1)
theorem qC4{α:Type}{f:α->AV}{z:AV}{xs:List α}{i:Nat}(hi:i<xs.length):((xs.take i).map f++List.replicate (xs.length-i) z).set i (f xs[i])=(xs.take (i+1)).map f++List.replicate (xs.length-(i+1)) z:=by
 have e:xs.length-i=(xs.length-(i+1))+1:=by omega
 have hl:((xs.take i).map f).length=i:=by simp;omega
 rw[e,List.replicate_succ,lSr _ _ (by omega),hl,nSs,lSz,lTs hi,lMa,lAa];rfl
theorem qBG{α:Type}{f:α->AV}{z:AV}{xs:List α}{i:Nat}(hi:i<xs.length):((xs.take i).map f++List.replicate (xs.length-i) z)[i]?=some z:=by
 have hl:((xs.take i).map f).length=i:=by simp;omega
 rw[gAr (by omega),hl,nSs];rw[List.getElem?_replicate,iP (by omega)]
theorem W1{z:AV}(hs:Sh enc w sh)(hz:z.tree=true)(hzl:z.cells.length=w)(hza:(∃cs,z=.agg cs)↔sh≠none)(hg:Γ g=some (.fn (toS w sh z gc)))(xs:List α)(hc:∀x∈xs,Pure Γ gc [enc x] (enc x))(hl:xs.length<=1048576):
  Pure Γ g [.lst w (xs.map enc) false] (.lst w (xs.map enc) false):=by
 have ht:AV.trees (xs.map enc)=true:=qb hs.tree xs;refine Pure.intro [] [] hg (by simp[toS,qP.ok,AOp.ok,QT,Ao.ok,AV.tree,hz,qG.o,qG.d,qG.ck,AOp.isCall]) rfl (by simp[AV.trees,AV.tree,ht]) (by simp[AV.tree,ht]) ?_;simp only[toS,qN,go_sem,Nat.reduceEqDiff,reduceIte];refine Jx (by simp only[lMp,LIM];omega) ?_;simp only[go_sem,Nat.reduceEqDiff,reduceIte];refine Sem.loop (λi:Nat=>i<=xs.length)
  (λi=>(⟨[(0,.lst w (xs.map enc) false),(3,.slice w 0 0 xs.length false),(4,.int .i64 (i:Nat))],[],[.row w ((xs.take i).map enc++List.replicate (xs.length-i) z) true]⟩:VSt)) (λi=>xs.length-i) 0
  (by simp[Fr1.ok,qP.ok,AOp.ok,QT,Ao.ok,AV.tree,qG.o,qG.d,qG.ck,AOp.isCall]) (nZl _) ?_ ?_
 ·simp only[List.take_zero,List.map_nil,lNa,Nat.sub_zero,lMp,lNi];exact Can.sub (by simp[go_sem]) trivial
 ·intro i hi;simp only[go_sem,Nat.reduceEqDiff,reduceIte];apply qT<;>intro hc2<;>simp only[hc2,go_sem,Nat.reduceEqDiff,reduceIte]
  ·have hlt:i<xs.length:=by have:=odT hc2;(try simp only[lMp]at this);omega
   simp only[gMp,gEg hlt,oMs,hs.part,go_sem,Nat.reduceEqDiff,reduceIte,Bool.not_true];refine qL (hc xs[i] (gMm hlt)) ?_;simp only[go_sem,Nat.reduceEqDiff,reduceIte,qS hlt,nZa];refine zX (hs.len _) rfl (qBG hlt) (Qh hzl (hs.len _) (by rw[hza,hs.agg]) hs.pos) ?_;rw[qC4 hlt];simp only[go_sem,Nat.reduceEqDiff,reduceIte,jO (show i<4611686018427387904 by omega)];exact qa (i+1) (by omega) (by omega) (Can.sub (by simp[go_sem]) trivial)
  ·have hge:i=xs.length:=by have:=odF hc2;(try simp only[lMp]at this);omega
   subst hge;refine J8 ?_;simp only[lTl,nSs,List.replicate_zero,lAn];exact Cv.row rfl (by simp) ht hs.pos
theorem qsR(hg:Γ g=some (.fn YS))(xs:List Int)(hl:xs.length<=1048576):Pure Γ g [.lst 1 (xs.map qQ) false] (.lst 1 (xs.map qQ) false):=by
 have ht:AV.trees (xs.map qQ)=true:=qb shI.tree xs;refine Pure.intro [] [] hg (by kernel_rfl) rfl (by simp[AV.trees,AV.tree,ht]) (by simp[AV.tree,ht]) ?_;simp only[YS,qN,go_sem,Nat.reduceEqDiff,reduceIte];refine Jx (by simp only[lMp,LIM];omega) ?_;simp only[go_sem,Nat.reduceEqDiff,reduceIte];refine Sem.loop (λi:Nat=>i<=xs.length)
  (λi=>(⟨[(0,.lst 1 (xs.map qQ) false),(3,.slice 1 0 0 xs.length false),(4,.int .i64 (i:Nat))],[],[.row 1 ((xs.take i).map qQ++List.replicate (xs.length-i) (.int .i64 0)) true]⟩:VSt)) (λi=>xs.length-i) 0
  (by kernel_rfl) (nZl _) ?_ ?_
 ·simp only[List.take_zero,List.map_nil,lNa,Nat.sub_zero,lMp,lNi];exact Can.sub (by simp[go_sem]) trivial
 ·intro i hi;simp only[go_sem,Nat.reduceEqDiff,reduceIte];apply qT<;>intro hc2<;>simp only[hc2,go_sem,Nat.reduceEqDiff,reduceIte]
  ·have hlt:i<xs.length:=by have:=odT hc2;(try simp only[lMp]at this);omega
   simp only[gMp,gEg hlt,oMs,shI.part,go_sem,Nat.reduceEqDiff,reduceIte,qS hlt,nZa];refine zX (shI.len _) rfl (qBG hlt) (Qh (k:=1) rfl (shI.len _) (by simp[qQ]) (by decide)) ?_;rw[qC4 hlt];simp only[go_sem,Nat.reduceEqDiff,reduceIte,jO (show i<4611686018427387904 by omega)];exact qa (i+1) (by omega) (by omega) (Can.sub (by simp[go_sem]) trivial)
  ·have hge:i=xs.length:=by have:=odF hc2;(try simp only[lMp]at this);omega
   subst hge;refine J8 ?_;simp only[lTl,nSs,List.replicate_zero,lAn];exact Cv.row rfl (by simp) ht (by decide)
theorem WS(hs:Sh enc w sh)(hg:Γ g=some (.fn (eqS w sh gc)))(xs:List α)(hc:∀x∈xs,Pure Γ gc [enc x,enc x] (.bool true))(hl:xs.length<=1073741824):
  Pure Γ g [.lst w (xs.map enc) false,.lst w (xs.map enc) false] (.bool true):=by
 have ht:AV.trees (xs.map enc)=true:=qb hs.tree xs;refine Pure.intro [] [] hg (by kernel_rfl) rfl (by simp[AV.trees,AV.tree,ht]) rfl ?_;simp only[eqS,qN,go_sem,Nat.reduceEqDiff,reduceIte,Bool.not_true,decide_true];refine Sem.loop (λi:Nat=>i<=xs.length)
  (λi=>(⟨[(0,.lst w (xs.map enc) false),(1,.lst w (xs.map enc) false),(5,.int .i64 (i:Nat))],[],[]⟩:VSt)) (λi=>xs.length-i) 0
  (by kernel_rfl) (nZl _) ?_ ?_
 ·exact Can.sub (by simp[go_sem]) trivial
 ·intro i hi;simp only[go_sem,Nat.reduceEqDiff,reduceIte];apply qT<;>intro hc2<;>simp only[hc2,go_sem,Nat.reduceEqDiff,reduceIte]
  ·have hlt:i<xs.length:=by have:=odT hc2;(try simp only[lMp]at this);omega
   simp only[gMp,gEg hlt,oMs,hs.part,go_sem,Nat.reduceEqDiff,reduceIte,Bool.not_true];refine qL (hc xs[i] (gMm hlt)) ?_;simp only[go_sem,Nat.reduceEqDiff,reduceIte,Bool.not_true,jO (show i<4611686018427387904 by omega)];exact qa (i+1) (by omega) (by omega) (Can.sub (by simp[go_sem]) trivial)
  ·exact qM rfl rfl
theorem qnA(hg:Γ g=some (.fn eqS0))(xs:List Int)(hl:xs.length<=1073741824):Pure Γ g [.lst 1 (xs.map qQ) false,.lst 1 (xs.map qQ) false] (.bool true):=by
 have ht:AV.trees (xs.map qQ)=true:=qb shI.tree xs;refine Pure.intro [] [] hg (by kernel_rfl) rfl (by simp[AV.trees,AV.tree,ht]) rfl ?_;simp only[eqS0,qN,go_sem,Nat.reduceEqDiff,reduceIte,Bool.not_true,decide_true];refine Sem.loop (λi:Nat=>i<=xs.length)
  (λi=>(⟨[(0,.lst 1 (xs.map qQ) false),(1,.lst 1 (xs.map qQ) false),(5,.int .i64 (i:Nat))],[],[]⟩:VSt)) (λi=>xs.length-i) 0
  (by kernel_rfl) (nZl _) ?_ ?_
 ·exact Can.sub (by simp[go_sem]) trivial
 ·intro i hi;simp only[go_sem,Nat.reduceEqDiff,reduceIte];apply qT<;>intro hc2<;>simp only[hc2,go_sem,Nat.reduceEqDiff,reduceIte]
  ·have hlt:i<xs.length:=by have:=odT hc2;(try simp only[lMp]at this);omega
   simp only[gMp,gEg hlt,oMs,go_sem,Nat.reduceEqDiff,reduceIte,Bool.not_true,qQ,decide_true,eq_self];simp only[jO (show i<4611686018427387904 by omega)];exact qa (i+1) (by omega) (by omega) (Can.sub (by simp[go_sem]) trivial)
  ·exact qM rfl rfl
end
def Q8(g:Nat):List (Nat×qK)->Option AFn
 |[]=>none
 | (k,F)::r=>bif Nat.beq k g then some (.fn F)else Q8 g r
attribute [go_sem] Bool.not_true Bool.not_false bFt lCo lNi List.getElem?_cons_zero List.getElem?_cons_succ decide_true eq_self lMp
attribute [go_sem] reduceIte Nat.reduceAdd Nat.reduceEqDiff
abbrev iI(n:Int):AV:=.int .i64 n
abbrev sQ(w id n:Nat):AV:=.slice w id 0 n false
abbrev lQ(xs:List Int):AV:=.lst 1 (xs.map qQ) false
attribute [go_sem] Nat.reduceBEq
theorem wsA{n:Int}(h: -9223372036854775808<=n:=by omega)(h':n<=9223372036854775807:=by omega):IntKind.i64.wrap n=n:=jc h h'
theorem wuA{n:Nat}(h:n<4611686018427387904:=by omega):IntKind.i64.wrap ((n:Int)+1)=((n+1:Nat):Int):=jO h
theorem csA{b:Nat}{s s' m m':qt}{h:List qA}(h1:Qj s s':=by simp[go_sem])(h2:Qj m m':=by simp[go_sem]):Can b ⟨s,m,h⟩ ⟨s',m',h⟩:=Can.sub h1 h2
theorem lqA{E:Ev}{ks:List Fr1}{Q:qn->VSt->Prop}{st:VSt}{α:Type}{I:α->Prop}{stt:α->VSt}{me:α->Nat}{a:α}(a':α)(h1:I a':=by omega)(h2:me a'<me a:=by omega)(h3:Can E.b st (stt a'):=by exact csA):Q9 E I stt me a ks Q .nrm st:=qa a' h1 h2 h3
theorem lsA{E:Ev}{l:List qG}{ks:List Fr1}{s m:qt}{h:List qA}{Q:qn->VSt->Prop}{t k:Nat}{v:AV}{cs:List AV}(hr:R E (.ops l::ks) ⟨s,(t,v)::m,h⟩ Q)(h1:cs.length=k:=by rfl)(h2:v.cells.length=k:=by first | rfl | simp only[go_sem])(h3:∃cs,v=.agg cs:=by exact⟨_,rfl⟩)(h4:0<k:=by decide):Lst E t 0 k (some (.agg cs)) (some v) l ks ⟨s,m,h⟩ Q:=Jv h1 h2 h3 h4 hr
mutual
def lay:AV->Nat->AV×List qA
 |.lst w xs _,n=>(.slice w n 0 xs.length false,.row w (qO xs (n+1)).1 true::(qO xs (n+1)).2)
 |.agg xs,n=>(.agg (qO xs n).1,(qO xs n).2)
 |.tup xs,n=>(.tup (qO xs n).1,(qO xs n).2)
 | v,_=>(v,[])
def qO:List AV->Nat->List AV×List qA
 |[],_=>([],[])
 | x::xs,n=>((lay x n).1::(qO xs (n+(lay x n).2.length)).1,(lay x n).2++(qO xs (n+(lay x n).2.length)).2)
end
mutual
def AV.pl:AV->Bool
 |.lst _ xs _ |.agg xs |.tup xs=>AV.pls xs
 |.bool _ |.int _ _ |.str _ |.nilp |.nils |.nilm |.nilf |.nili=>true
 | _=>false
def AV.pls:List AV->Bool
 |[]=>true
 | x::xs=>AV.pl x&&AV.pls xs
end
mutual
def AV.rows:AV->Nat
 |.lst _ xs _=>AV.rowss xs+1
 |.agg xs |.tup xs=>AV.rowss xs
 | _=>0
def AV.rowss:List AV->Nat
 |[]=>0
 | x::xs=>AV.rows x+AV.rowss xs
end
mutual
theorem qx:∀(t:AV)(n:Nat),(lay t n).2.length=t.rows
 |.lst _ xs _,n=>by simp only[lay,lCo,AV.rows,zx xs]
 |.agg xs,n=>by simp only[lay,AV.rows,zx xs]
 |.tup xs,n=>by simp only[lay,AV.rows,zx xs]
 |.bool _,_ |.int _ _,_ |.str _,_ |.nilp,_ |.nils,_ |.nilm,_ |.nilf,_ |.nili,_ |.any,_=>rfl
 |.ptr _ _ _,_ |.slice _ _ _ _ _,_ |.map _,_ |.ept _ _,_ |.fn _ _,_ |.iface _ _,_=>rfl
theorem zx:∀(xs:List AV)(n:Nat),(qO xs n).2.length=AV.rowss xs
 |[],_=>rfl
 | x::xs,n=>by simp only[qO,lAp,qx x,zx xs,AV.rowss]
end
theorem jk:∀(xs:List AV)(n:Nat),(qO xs n).1.length=xs.length
 |[],_=>rfl
 | x::xs,n=>by simp only[qO,lCo,jk xs]
theorem Wf:∀(xs ys:List AV)(n:Nat),qO (xs++ys) n=((qO xs n).1++(qO ys (n+AV.rowss xs)).1,(qO xs n).2++(qO ys (n+AV.rowss xs)).2)
 |[],ys,n=>by simp[qO,AV.rowss]
 | x::xs,ys,n=>by
  simp only[lCa,qO,Wf xs ys,AV.rowss,qx,Nat.add_assoc,lAa]
theorem qJK:∀(xs ys:List AV),AV.rowss (xs++ys)=AV.rowss xs+AV.rowss ys
 |[],ys=>by simp[AV.rowss]
 | x::xs,ys=>by simp only[lCa,AV.rowss,qJK xs ys];omega
section
variable {ρ ρ':Ren}
def Sh2(ρ:Ren)(a:Nat)(ρ':Ren)(b n:Nat):Prop:=∀i,i<n->ρ' (b+i)=ρ (a+i)
theorem Sh2.sub{a b n:Nat}(h:Sh2 ρ a ρ' b n)(k m:Nat)(hk:k+m<=n):Sh2 ρ (a+k) ρ' (b+k) m:=λi hi=>by
 have:=h (k+i) (by omega);rw[show a+k+i=a+(k+i) by omega,show b+k+i=b+(k+i) by omega];exact this
mutual
theorem qBV:∀(t:AV)(a b:Nat)(r:AV),t.pl=true->Sh2 ρ a ρ' b t.rows->RelV ρ (lay t a).1 r->RelV ρ' (lay t b).1 r
 |.lst w xs _,a,b,r,_,hs,h=>by
  have h0:=hs 0 (by simp only[AV.rows];omega);simp only[nAz]at h0;simp only[lay,RelV]at h|-;rw[h0];exact h
 |.agg xs,a,b,r,hp,hs,h=>by
  simp only[lay,RelV]at h|-;obtain⟨ds,h1,h2⟩:=h;exact⟨ds,h1,VN xs a b ds hp hs h2⟩
 |.tup xs,a,b,r,hp,hs,h=>by
  simp only[lay,RelV]at h|-;obtain⟨ds,h1,h2⟩:=h;exact⟨ds,h1,VN xs a b ds hp hs h2⟩
 |.bool _,_,_,_,_,_,h |.int _ _,_,_,_,_,_,h |.str _,_,_,_,_,_,h |.nilp,_,_,_,_,_,h |.nils,_,_,_,_,_,h |.nilm,_,_,_,_,_,h |.nilf,_,_,_,_,_,h |.nili,_,_,_,_,_,h=>by
  simpa only [lay,RelV]using h
 |.any,_,_,_,hp,_,_ |.ptr _ _ _,_,_,_,hp,_,_ |.slice _ _ _ _ _,_,_,_,hp,_,_ |.map _,_,_,_,hp,_,_ |.ept _ _,_,_,_,hp,_,_ |.fn _ _,_,_,_,hp,_,_ |.iface _ _,_,_,_,hp,_,_=>by cases hp
theorem VN:∀(xs:List AV)(a b:Nat)(rs:List AV),AV.pls xs=true->Sh2 ρ a ρ' b (AV.rowss xs)->RelVs ρ (qO xs a).1 rs->RelVs ρ' (qO xs b).1 rs
 |[],_,_,_,_,_,h=>by simpa only [qO,RelVs]using h
 | x::xs,a,b,rs,hp,hs,h=>by
  simp only[AV.pls,bAt]at hp;simp only[qO,RelVs,qx]at h|-;obtain⟨u,us,h1,h2,h3⟩:=h;simp only[AV.rowss]at hs;exact⟨u,us,h1,qBV x a b u hp.1 (by simpa using hs.sub 0 x.rows (by omega)) h2,VN xs _ _ us hp.2 (hs.sub x.rows (AV.rowss xs) (by omega)) h3⟩
end
def Lies(ρ:Ren)(a:Nat)(os:List qA)(hr:AH):Prop:=∀i o,os[i]?=some o->RelO ρ (a+i) hr o
theorem Lies.app{a:Nat}{os os':List qA}{hr:AH}:Lies ρ a (os++os') hr↔Lies ρ a os hr/\Lies ρ (a+os.length) os' hr:=by
 constructor
 ·intro h;refine⟨λi o hi=>h i o ?_,λi o hi=>?_⟩
  ·rw[gAl (gSi.1 hi).1];exact hi
  ·have:=h (os.length+i) o (by rw[gAr (by omega)];simpa using hi);rw[show a+os.length+i=a+(os.length+i) by omega];exact this
 ·rintro⟨h1,h2⟩ i o hi;rcases Nat.lt_or_ge i os.length with q | q
  ·rw[gAl q]at hi;exact h1 i o hi
  ·rw[gAr q]at hi;have:=h2 _ _ hi;rw[show a+os.length+(i-os.length)=a+i by omega]at this;exact this
theorem Lies.cons{a:Nat}{o:qA}{os:List qA}{hr:AH}:Lies ρ a (o::os) hr↔RelO ρ a hr o/\Lies ρ (a+1) os hr:=by
 have:=Lies.app (ρ:=ρ) (a:=a) (os:=[o]) (os':=os) (hr:=hr);rw[List.singleton_append]at this;rw[this];constructor
 ·rintro⟨h1,h2⟩;exact⟨h1 0 o rfl,h2⟩
 ·rintro⟨h1,h2⟩;refine⟨λi x hi=>?_,h2⟩;cases i with
  | zero=>simp at hi;subst hi;exact h1
  | succ i=>simp at hi
mutual
theorem VI{hr hr':AH}:∀(t:AV)(a b:Nat),t.pl=true->Sh2 ρ a ρ' b t.rows->(∀i x o,i<t.rows->ρ (a+i)=some (some x)->hr x=some o->hr' x=some o)->Lies ρ a (lay t a).2 hr->Lies ρ' b (lay t b).2 hr'
 |.lst w xs _,a,b,hp,hs,hh,h=>by
  simp only[lay,Lies.cons]at h|-;simp only[AV.rows]at hs hh;obtain⟨h1,h2⟩:=h;refine⟨?_,VL xs (a+1) (b+1) hp (hs.sub 1 _ (by omega)) (λi x o hi hx hx2=>hh (1+i) x o (by omega) (by rw[<-Nat.add_assoc];exact hx) hx2) h2⟩;have h0:=hs 0 (by omega);simp only[nAz]at h0;rcases h1 with⟨q1,q2,q3⟩ | ⟨i',el',q1,q2,q3⟩
  ·refine .inl ⟨by rw[h0];exact q1, ?_,q3⟩;have l1:=jk xs (a+1);have l2:=jk xs (b+1);rw[q2]at l1;exact lEz (by rw[l2,<-l1];rfl)
  ·exact .inr ⟨i',el',by rw[h0];exact q1,hh 0 i' _ (by omega) q1 q2,VN xs _ _ _ hp (hs.sub 1 _ (by omega)) q3⟩
 |.agg xs,a,b,hp,hs,hh,h=>by
  simp only[lay]at h|-;exact VL xs a b hp hs hh h
 |.tup xs,a,b,hp,hs,hh,h=>by
  simp only[lay]at h|-;exact VL xs a b hp hs hh h
 |.bool _,_,_,_,_,_,_ |.int _ _,_,_,_,_,_,_ |.str _,_,_,_,_,_,_ |.nilp,_,_,_,_,_,_ |.nils,_,_,_,_,_,_ |.nilm,_,_,_,_,_,_ |.nilf,_,_,_,_,_,_ |.nili,_,_,_,_,_,_=>by
  intro i o hi;simp[lay]at hi
 |.any,_,_,hp,_,_,_ |.ptr _ _ _,_,_,hp,_,_,_ |.slice _ _ _ _ _,_,_,hp,_,_,_ |.map _,_,_,hp,_,_,_ |.ept _ _,_,_,hp,_,_,_ |.fn _ _,_,_,hp,_,_,_ |.iface _ _,_,_,hp,_,_,_=>by cases hp
theorem VL{hr hr':AH}:∀(xs:List AV)(a b:Nat),AV.pls xs=true->Sh2 ρ a ρ' b (AV.rowss xs)->(∀i x o,i<AV.rowss xs->ρ (a+i)=some (some x)->hr x=some o->hr' x=some o)->Lies ρ a (qO xs a).2 hr->Lies ρ' b (qO xs b).2 hr'
 |[],_,_,_,_,_,_=>by intro i o hi;simp[qO]at hi
 | x::xs,a,b,hp,hs,hh,h=>by
  simp only[AV.pls,bAt]at hp;simp only[AV.rowss]at hs hh;simp only[qO,Lies.app,qx]at h|-;exact⟨VI x a b hp.1 (by simpa using hs.sub 0 x.rows (by omega)) (λi y o hi=>hh i y o (by omega)) h.1,
   VL xs _ _ hp.2 (hs.sub x.rows _ (by omega)) (λi y o hi hy=>hh (x.rows+i) y o (by omega) (by rw[<-Nat.add_assoc];exact hy)) h.2⟩
end
mutual
theorem qBU:∀(t:AV)(a:Nat)(r:AV),t.pl=true->RelV ρ (lay t a).1 r->r.nol=true
 |.lst w xs _,a,r,_,h=>by
  simp only[lay,RelV]at h;rcases h with⟨_,_,rfl⟩ | ⟨_,_,_,rfl | rfl⟩<;>rfl
 |.agg xs,a,r,hp,h=>by
  simp only[lay,RelV]at h;obtain⟨ds,rfl,h2⟩:=h;simp only[AV.nol];exact Xr xs a ds hp h2
 |.tup xs,a,r,hp,h=>by
  simp only[lay,RelV]at h;obtain⟨ds,rfl,h2⟩:=h;simp only[AV.nol];exact Xr xs a ds hp h2
 |.bool _,_,_,_,h |.int _ _,_,_,_,h |.str _,_,_,_,h |.nilp,_,_,_,h |.nils,_,_,_,h |.nilm,_,_,_,h |.nilf,_,_,_,h |.nili,_,_,_,h=>by
  simp only[lay,RelV]at h;subst h;rfl
 |.any,_,_,hp,_ |.ptr _ _ _,_,_,hp,_ |.slice _ _ _ _ _,_,_,hp,_ |.map _,_,_,hp,_ |.ept _ _,_,_,hp,_ |.fn _ _,_,_,hp,_ |.iface _ _,_,_,hp,_=>by cases hp
theorem Xr:∀(xs:List AV)(a:Nat)(rs:List AV),AV.pls xs=true->RelVs ρ (qO xs a).1 rs->AV.nols rs=true
 |[],_,_,_,h=>by simp only[qO,RelVs]at h;subst h;rfl
 | x::xs,a,rs,hp,h=>by
  simp only[AV.pls,bAt]at hp;simp only[qO,RelVs]at h;obtain⟨u,us,rfl,h2,h3⟩:=h;simp only[AV.nols,bAt];exact⟨qBU x a u hp.1 h2,Xr xs _ us hp.2 h3⟩
end
mutual
theorem Zj:∀(t:AV)(a i:Nat)(o:qA),t.pl=true->(lay t a).2[i]?=some o->∃w xs b,o=.row w (qO xs b).1 true/\AV.pls xs=true
 |.lst w xs _,a,i,o,hp,h=>by
  simp only[lay]at h;cases i with
  | zero=>simp at h;subst h;exact⟨w,xs,a+1,rfl,hp⟩
  | succ i=>exact VO xs (a+1) i o hp (by simpa using h)
 |.agg xs,a,i,o,hp,h=>by simp only[lay]at h;exact VO xs a i o hp h
 |.tup xs,a,i,o,hp,h=>by simp only[lay]at h;exact VO xs a i o hp h
 |.bool _,_,_,_,_,h |.int _ _,_,_,_,_,h |.str _,_,_,_,_,h |.nilp,_,_,_,_,h |.nils,_,_,_,_,h |.nilm,_,_,_,_,h |.nilf,_,_,_,_,h |.nili,_,_,_,_,h=>by
  simp[lay]at h
 |.any,_,_,_,hp,_ |.ptr _ _ _,_,_,_,hp,_ |.slice _ _ _ _ _,_,_,_,hp,_ |.map _,_,_,_,hp,_ |.ept _ _,_,_,_,hp,_ |.fn _ _,_,_,_,hp,_ |.iface _ _,_,_,_,hp,_=>by cases hp
theorem VO:∀(xs:List AV)(a i:Nat)(o:qA),AV.pls xs=true->(qO xs a).2[i]?=some o->∃w ys b,o=.row w (qO ys b).1 true/\AV.pls ys=true
 |[],_,_,_,_,h=>by simp[qO]at h
 | x::xs,a,i,o,hp,h=>by
  simp only[AV.pls,bAt]at hp;simp only[qO]at h;rcases Nat.lt_or_ge i (lay x a).2.length with q | q
  ·rw[gAl q]at h;exact Zj x a i o hp.1 h
  ·rw[gAr q]at h;exact VO xs _ _ o hp.2 h
end
end
variable {Γ:Nat->Option AFn} {g:Nat} {vs vs' as:List AV} {h:List qA} {t t':AV}
def Fresh(Γ:Nat->Option AFn)(g:Nat)(as:List AV)(t:AV):Prop:=
 AV.trees as=true/\t.pl=true/\∀hr ar,RelVs ρ0 as ar->∃k r hr' ρ',Ex Γ k (.call g ar hr) (.res (.ok r) hr')/\zL ρ' (lay t 0).2 hr'/\RelV ρ' (lay t 0).1 r/\Fm 0 ρ0 hr ρ' hr'
def Jp(ρ:Ren)(n:Nat)(ρ':Ren):Ren:=λi=>if i<n then ρ i else ρ' (i-n)
theorem Y2{ρ ρ':Ren}{hr h1 h2:AH}{r:AV}(hp:t.pl=true)(hH:zL ρ h hr)(hH':zL ρ' (lay t 0).2 h1)(hv:RelV ρ' (lay t 0).1 r)
  (hnew:∀i a,ρ' i=some (some a)->hr.fr a) (hold:∀a o,hr a=some o->h2 a=some o) (hsame:∀i a o,ρ' i=some (some a)->h1 a=some o->h2 a=some o) (hfr:∀a,h2.fr a->hr.fr a):
  zL (Jp ρ h.length ρ') (h++(lay t h.length).2) h2/\RelV (Jp ρ h.length ρ') (lay t h.length).1 r/\Fm h.length ρ hr (Jp ρ h.length ρ') h2:=by
 have sh:Sh2 ρ' 0 (Jp ρ h.length ρ') h.length t.rows:=λi hi=>by
  simp only[Jp,nZa];rw[iN (by omega),Nat.add_sub_cancel_left]
 have lies:Lies ρ' 0 (lay t 0).2 h1:=λi o hi=>by rw[nZa];exact hH'.obj i o hi
 have lies2:Lies (Jp ρ h.length ρ') h.length (lay t h.length).2 h2:=VI t 0 h.length hp sh (λi x o _ hx ho=>hsame _ x o hx ho) lies;have lo:∀i,i<h.length->Jp ρ h.length ρ' i=ρ i:=λi hi=>by simp only[Jp,iP hi]
 have hi':∀i,h.length<=i->Jp ρ h.length ρ' i=ρ' (i-h.length):=λi hi=>by simp only[Jp];rw[iN (by omega)]
 have le:ρ.le (Jp ρ h.length ρ'):=λi a hia=>by
  have:i<h.length:=by
   rcases Nat.lt_or_ge i h.length with q | q
   ·exact q
   ·rw[hH.out i q]at hia;cases hia
  rw[lo i this];exact hia
 refine⟨⟨λi o hi=>?_,λi j a o o' h1' h2' hi hj d1 d2=>?_,λi hi=>?_,λi a ha=>?_⟩,qBV t 0 h.length r hp sh hv,⟨λa o ho _=>hold a o ho,λi a ha=>?_,hfr,λi hi=>lo i hi⟩⟩
 ·rcases Nat.lt_or_ge i h.length with q | q
  ·rw[gAl q]at hi;exact(hH.obj i o hi).mono le λa o' _ ho=>hold a o' ho
  ·rw[gAr q]at hi;have:=lies2 _ _ hi;rwa[show h.length+(i-h.length)=i by omega]at this
 ·have get0:∀{i:Nat}{o:qA},(lay t h.length).2[i]?=some o->∃o2,(lay t 0).2[i]?=some o2/\o2≠.dead:=λ{i o} hio=>by
   have hl:i<(lay t 0).2.length:=by
    have:=(gSi.1 hio).1;rw[qx]at this|-;exact this
   refine⟨_,gEg hl, ?_⟩;obtain⟨w,xs,b,e,_⟩:=Zj t 0 i _ hp (gEg hl);rw[e];simp
  rcases Nat.lt_or_ge i h.length with q1 | q1<;>rcases Nat.lt_or_ge j h.length with q2 | q2
  ·rw[lo i q1]at h1';rw[lo j q2]at h2';rw[gAl q1]at hi;rw[gAl q2]at hj;exact hH.inj i j a o o' h1' h2' hi hj d1 d2
  ·rw[lo i q1]at h1';rw[hi' j q2]at h2';obtain⟨x,hx⟩:=hH.is i a h1';have:=(hnew _ a h2').1;rw[this]at hx;cases hx
  ·rw[hi' i q1]at h1';rw[lo j q2]at h2';obtain⟨x,hx⟩:=hH.is j a h2';have:=(hnew _ a h1').1;rw[this]at hx;cases hx
  ·rw[hi' i q1]at h1';rw[hi' j q2]at h2';rw[gAr q1]at hi;rw[gAr q2]at hj;obtain⟨o2,g1,g2⟩:=get0 hi;obtain⟨o3,g3,g4⟩:=get0 hj;have:=hH'.inj _ _ a o2 o3 h1' h2' g1 g3 g2 g4;omega
 ·simp only[lAp,qx]at hi;rw[hi' i (by omega)];exact hH'.out _ (by rw[qx];omega)
 ·rcases Nat.lt_or_ge i h.length with q | q
  ·rw[lo i q]at ha;obtain⟨o,ho⟩:=hH.is i a ha;exact⟨o,hold a o ho⟩
  ·rw[hi' i q]at ha;obtain⟨o,ho⟩:=hH'.is _ a ha;exact⟨o,hsame _ a o ha ho⟩
 ·rcases Nat.lt_or_ge i h.length with q | q
  ·rw[lo i q]at ha;exact .inl ⟨i,ha⟩
  ·rw[hi' i q]at ha;exact .inr (hnew _ a ha)
theorem Fm.new0{ρ':Ren}{hr hr':AH}(h:Fm 0 ρ0 hr ρ' hr'){i a:Nat}(ha:ρ' i=some (some a)):hr.fr a:=by
 rcases h.new i a ha with⟨j,hj⟩ | q
 ·cases hj
 ·exact q
theorem SCallK.fresh{K:AV->List qA->Prop}(hp:Fresh Γ g vs t)(hk:K (lay t h.length).1 (h++(lay t h.length).2)):SCallK Γ g vs h K:=λρ hr ar hH hv=>by
 unfold Fresh at hp;obtain⟨t1,t2,hp⟩:=hp;obtain⟨k,r,hr',ρ',h1,h2,h3,h4⟩:=hp hr ar (J3 _ _ t1 hv);obtain⟨q1,q2,q3⟩:=Y2 (h2:=hr') t2 hH h2 h3 (λi a ha=>h4.new0 ha) (λa o ho=>h4.pres a o ho (λi hi=>by cases hi)) (λ_ _ _ _ ho=>ho) h4.fr;exact⟨k,r,hr',_,_,_,h1,hk,q1,q2,q3,by simp,λa o ho=>h4.pres a o ho (λi hi=>by cases hi)⟩
theorem SCall.fresh{K:AV->List qA->Prop}(hp:Fresh Γ g vs t)(hk:K (lay t h.length).1 (h++(lay t h.length).2)):SCall Γ g vs h K:=λρ hr ar hH hv=>by
 unfold Fresh at hp;obtain⟨t1,t2,hp⟩:=hp;obtain⟨k,r,hr',ρ',h1,h2,h3,h4⟩:=hp hr ar (J3 _ _ t1 hv);obtain⟨q1,q2,q3⟩:=Y2 (h2:=hr') t2 hH h2 h3 (λi a ha=>h4.new0 ha) (λa o ho=>h4.pres a o ho (λi hi=>by cases hi)) (λ_ _ _ _ ho=>ho) h4.fr;exact⟨k,r,hr',_,_,_,h1,hk,q1,q2,q3,by simp⟩
theorem SCall.freshL{K:AV->List qA->Prop}(hc:Cvs h vs vs')(hp:Fresh Γ g vs' t)(hk:K (lay t h.length).1 (h++(lay t h.length).2)):SCall Γ g vs h K:=λρ hr ar hH hv=>by
 unfold Fresh at hp;obtain⟨t1,t2,hp⟩:=hp;obtain⟨KK,hKK⟩:=qBF hr;obtain⟨rs',g1,g2,g3⟩:=hc.conv hH (K:=KK) (λi a w el ha ho=>by
  rcases hH.obj i _ ho with⟨q,_⟩ | ⟨i',el',q1,q2,_⟩
  ·rw[q]at ha;cases ha
  ·rw[q1]at ha;cases ha;exact(hKK _).2 ⟨_,q2,rfl⟩) hv
 obtain⟨k,r,hr',ρ',h1,h2,h3,h4⟩:=hp (hr.kill KK) rs' g3;have hnew:∀i a,ρ' i=some (some a)->hr.fr a:=λi a ha=>(AH.fr_kill (h4.new0 ha)).1;have hrow:∀a,(jo ρ' (lay t 0).2 (List.range t.rows)).contains a=true->∀o,hr' a=some o->o.nol=true:=λa ha o ho=>by
  rw[lCm,J0]at ha;obtain⟨i,w,el,_,q2,q3⟩:=ha;obtain⟨w',xs,b,e,hpx⟩:=Zj t 0 i _ t2 q3;cases e;rcases h2.obj i _ q3 with⟨q,_⟩ | ⟨i',el',p1,p2,p3⟩
  ·rw[q]at q2;cases q2
  ·rw[p1]at q2;cases q2;rw[p2]at ho;cases ho;simp only[qA.nol,Bool.true_and];exact Xr _ _ _ hpx p3
 have hin:∀i a o,ρ' i=some (some a)->hr' a=some o->(jo ρ' (lay t 0).2 (List.range t.rows)).contains a=true:=λi a o ha ho=>by
  have hi:i<(lay t 0).2.length:=by
   rcases Nat.lt_or_ge i (lay t 0).2.length with q | q
   ·exact q
   ·rw[h2.out i q]at ha;cases ha
  obtain⟨w,xs,b,e,_⟩:=Zj t 0 i _ t2 (gEg hi);rw[lCm,J0];exact⟨i,w,_,lMr.2 (by rw[qx]at hi;exact hi),ha,by rw[gEg hi,e]⟩
 have hx:=Ex.brn KK (jo ρ' (lay t 0).2 (List.range t.rows)) hKK g1 g2 (qBU t 0 r t2 h3) (λa o ha _ ho=>hrow a ha o ho) h1;obtain⟨q1,q2,q3⟩:=Y2 (h2:=hr.join hr' (jo ρ' (lay t 0).2 (List.range t.rows))) t2 hH h2 h3 hnew (λa o ho=>AH.join_old' ho) (λi a o ha ho=>by
  rw[AH.join_new' (hnew i a ha).1,iP (hin i a o ha ho)];exact ho) (λa ha=>(AH.fr_join ha).1)
 exact⟨k,r,_,_,_,_,hx,hk,q1,q2,q3,by simp⟩
theorem SCallK.freshL{K:AV->List qA->Prop}(hc:Cvs h vs vs')(hp:Fresh Γ g vs' t)(hk:K (lay t h.length).1 (h++(lay t h.length).2)):SCallK Γ g vs h K:=λρ hr ar hH hv=>by
 unfold Fresh at hp;obtain⟨t1,t2,hp⟩:=hp;obtain⟨KK,hKK⟩:=qBF hr;obtain⟨rs',g1,g2,g3⟩:=hc.conv hH (K:=KK) (λi a w el ha ho=>by
  rcases hH.obj i _ ho with⟨q,_⟩ | ⟨i',el',q1,q2,_⟩
  ·rw[q]at ha;cases ha
  ·rw[q1]at ha;cases ha;exact(hKK _).2 ⟨_,q2,rfl⟩) hv
 obtain⟨k,r,hr',ρ',h1,h2,h3,h4⟩:=hp (hr.kill KK) rs' g3;have hnew:∀i a,ρ' i=some (some a)->hr.fr a:=λi a ha=>(AH.fr_kill (h4.new0 ha)).1;have hrow:∀a,(jo ρ' (lay t 0).2 (List.range t.rows)).contains a=true->∀o,hr' a=some o->o.nol=true:=λa ha o ho=>by
  rw[lCm,J0]at ha;obtain⟨i,w,el,_,q2,q3⟩:=ha;obtain⟨w',xs,b,e,hpx⟩:=Zj t 0 i _ t2 q3;cases e;rcases h2.obj i _ q3 with⟨q,_⟩ | ⟨i',el',p1,p2,p3⟩
  ·rw[q]at q2;cases q2
  ·rw[p1]at q2;cases q2;rw[p2]at ho;cases ho;simp only[qA.nol,Bool.true_and];exact Xr _ _ _ hpx p3
 have hin:∀i a o,ρ' i=some (some a)->hr' a=some o->(jo ρ' (lay t 0).2 (List.range t.rows)).contains a=true:=λi a o ha ho=>by
  have hi:i<(lay t 0).2.length:=by
   rcases Nat.lt_or_ge i (lay t 0).2.length with q | q
   ·exact q
   ·rw[h2.out i q]at ha;cases ha
  obtain⟨w,xs,b,e,_⟩:=Zj t 0 i _ t2 (gEg hi);rw[lCm,J0];exact⟨i,w,_,lMr.2 (by rw[qx]at hi;exact hi),ha,by rw[gEg hi,e]⟩
 have hx:=Ex.brn KK (jo ρ' (lay t 0).2 (List.range t.rows)) hKK g1 g2 (qBU t 0 r t2 h3) (λa o ha _ ho=>hrow a ha o ho) h1;obtain⟨q1,q2,q3⟩:=Y2 (h2:=hr.join hr' (jo ρ' (lay t 0).2 (List.range t.rows))) t2 hH h2 h3 hnew (λa o ho=>AH.join_old' ho) (λi a o ha ho=>by
  rw[AH.join_new' (hnew i a ha).1,iP (hin i a o ha ho)];exact ho) (λa ha=>(AH.fr_join ha).1)
 exact⟨k,r,_,_,_,_,hx,hk,q1,q2,q3,by simp,λa o ho=>AH.join_old' ho⟩
end Go.Ab
namespace Go.Ab
open Go
section
variable {Γ:Nat->Option AFn} {g:Nat}
def ZW(vs:Option (List AV))(h:List qA)(t:AV):Prop:=match vs with
 | some vs=>∃μ,jw μ=true/\JA μ h μ (lay t 0).2/\VR2 μ (zk vs) (lay t 0).1
 | none=>False
def Y8(res:List jd)(t:AV):qn->VSt->Prop:=λe st=>(e=.nrm\/e=.ret)/\ZW (jK (wA st) res) st.h t
@[go_sem] theorem qt9{res:List jd}{t:AV}{s m:qt}{h:List qA}:Y8 res t .ret ⟨s,m,h⟩=ZW (jK (wA ⟨s,m,h⟩) res) h t:=by
 simp[Y8]
theorem Fresh.intro{F:qK}{as:List AV}{t:AV}(fz bp:List Nat)(hg:Γ g=some (.fn F))(hok:F.body.ok=true)(hn:as.length=F.np)(ht:AV.trees as=true)(hp:t.pl=true)
  (hR:R ⟨Γ,0,fz,bp⟩ [.code F.body] ⟨qN 0 as,[],[]⟩ (Y8 F.res t)):Fresh Γ g as t:=by
 unfold Fresh;refine⟨ht,hp,λhr ar har=>?_⟩;have hS:zY ρ0 ⟨qN 0 as,[],[]⟩ {s:=params 0 ar,l:=Env.empty,h:=hr}:=⟨X3 har,(λn v h=>by cases h),⟨(λi o h=>by simp at h),(λi j a o o' h=>by cases h),(λ_ _=>rfl),(λi a h=>by cases h)⟩⟩;obtain⟨k,e,sr',ρ',st',g1,⟨he,hq⟩,g3,g4,_⟩:=Sem.of (by simpa only [lAc,List.all_nil,Bool.and_true,Fr1.ok]using hok) hR ρ0 _ hS (nZl _);have hb:Ex Γ k (.code F.body {s:=params 0 ar,l:=Env.empty,h:=hr}) (.st e sr'):=by
  cases g1 with
  | code h h'=>cases h';exact h
  | codeX h he' hx h'=>cases e<;>simp[exK]at hx
  | codeE h he' hx=>exact h
 unfold ZW at hq;split at hq
 ·rename_i vs hvs;obtain⟨μ,m1,m2,m3⟩:=hq;obtain⟨rs,q1,q2⟩:=YA g3 hvs;have hx:=Ex.fn hg (by rw[har.length];exact hn) hb he q1;obtain⟨r1,r2⟩:=qJG m1 m2 g3.h;exact⟨k+1,_,_,_,hx,r1,m3.rel (Vr q2),g4.trans r2⟩
 ·exact hq.elim
mutual
theorem qHB{μ:List (Option Nat)}:∀(t:AV)(a b:Nat),t.pl=true->(∀i,i<t.rows->μ[b+i]?=some (some (a+i)))->VR2 μ (lay t a).1 (lay t b).1
 |.lst w xs _,a,b,_,h=>by
  simp only[lay];exact .slice (by have:=h 0 (by simp only[AV.rows];omega);simpa using this)
 |.agg xs,a,b,hp,h=>by
  simp only[lay];have:=Xp xs a b hp h;exact .agg this.1 this.2
 |.tup xs,a,b,hp,h=>by
  simp only[lay];have:=Xp xs a b hp h;exact .tup this.1 this.2
 |.bool _,_,_,_,_ |.int _ _,_,_,_,_ |.str _,_,_,_,_ |.nilp,_,_,_,_ |.nils,_,_,_,_ |.nilm,_,_,_,_ |.nilf,_,_,_,_ |.nili,_,_,_,_=>by
  simp only[lay];exact .tree rfl
 |.any,_,_,hp,_ |.ptr _ _ _,_,_,hp,_ |.slice _ _ _ _ _,_,_,hp,_ |.map _,_,_,hp,_ |.ept _ _,_,_,hp,_ |.fn _ _,_,_,hp,_ |.iface _ _,_,_,hp,_=>by cases hp
theorem Xp{μ:List (Option Nat)}:∀(xs:List AV)(a b:Nat),AV.pls xs=true->(∀i,i<AV.rowss xs->μ[b+i]?=some (some (a+i)))->VR2s μ (qO xs a).1 (qO xs b).1
 |[],_,_,_,_=>VR2s.nil
 | x::xs,a,b,hp,h=>by
  simp only[AV.pls,bAt]at hp;simp only[AV.rowss]at h;simp only[qO,qx];refine .cons (qHB x a b hp.1 λi hi=>h i (by omega)) (Xp xs _ _ hp.2 λi hi=>?_);rw[show b+x.rows+i=b+(x.rows+i) by omega,show a+x.rows+i=a+(x.rows+i) by omega];exact h _ (by omega)
end
mutual
theorem qHA{μ:List (Option Nat)}{h:List qA}:∀(t:AV)(a b:Nat),t.pl=true->(∀i,i<t.rows->μ[b+i]?=some (some (a+i)))->(∀i o,(lay t a).2[i]?=some o->h[a+i]?=some o)->
  ∀i o,(lay t b).2[i]?=some o->OR2 μ h (some (a+i)) o
 |.lst w xs _,a,b,hp,hm,hh,i,o,hi=>by
  simp only[lay]at hi hh;simp only[AV.rows]at hm;have hm':∀i,i<AV.rowss xs->μ[b+1+i]?=some (some (a+1+i)):=λi hi=>by
   rw[show b+1+i=b+(i+1) by omega,show a+1+i=a+(i+1) by omega];exact hm _ (by omega)
  cases i with
  | zero=>
   simp only[List.getElem?_cons_zero,oSi]at hi;subst hi;exact .row (hh 0 _ rfl) (Xp xs _ _ hp hm')
  | succ i=>
   have:=Xo xs (a+1) (b+1) hp hm' (λi o hi=>by
    rw[show a+1+i=a+(i+1) by omega];exact hh (i+1) o (by simpa using hi)) i o (by simpa using hi)
   rw[show a+1+i=a+(i+1) by omega]at this;exact this
 |.agg xs,a,b,hp,hm,hh,i,o,hi=>by
  simp only[lay]at hi hh;exact Xo xs a b hp hm hh i o hi
 |.tup xs,a,b,hp,hm,hh,i,o,hi=>by
  simp only[lay]at hi hh;exact Xo xs a b hp hm hh i o hi
 |.bool _,_,_,_,_,_,_,_,h |.int _ _,_,_,_,_,_,_,_,h |.str _,_,_,_,_,_,_,_,h |.nilp,_,_,_,_,_,_,_,h |.nils,_,_,_,_,_,_,_,h |.nilm,_,_,_,_,_,_,_,h |.nilf,_,_,_,_,_,_,_,h |.nili,_,_,_,_,_,_,_,h=>by
  simp[lay]at h
 |.any,_,_,hp,_,_,_,_,_ |.ptr _ _ _,_,_,hp,_,_,_,_,_ |.slice _ _ _ _ _,_,_,hp,_,_,_,_,_ |.map _,_,_,hp,_,_,_,_,_ |.ept _ _,_,_,hp,_,_,_,_,_ |.fn _ _,_,_,hp,_,_,_,_,_ |.iface _ _,_,_,hp,_,_,_,_,_=>by cases hp
theorem Xo{μ:List (Option Nat)}{h:List qA}:∀(xs:List AV)(a b:Nat),AV.pls xs=true->(∀i,i<AV.rowss xs->μ[b+i]?=some (some (a+i)))->(∀i o,(qO xs a).2[i]?=some o->h[a+i]?=some o)->
  ∀i o,(qO xs b).2[i]?=some o->OR2 μ h (some (a+i)) o
 |[],_,_,_,_,_,_,_,hi=>by simp[qO]at hi
 | x::xs,a,b,hp,hm,hh,i,o,hi=>by
  simp only[AV.pls,bAt]at hp;simp only[AV.rowss]at hm;simp only[qO,qx]at hi hh;rcases Nat.lt_or_ge i x.rows with q | q
  ·rw[gAl (by rw[qx];exact q)]at hi;exact qHA x a b hp.1 (λi hi=>hm i (by omega)) (λi o hi=>hh i o (by rw[gAl (gSi.1 hi).1];exact hi)) i o hi
  ·rw[gAr (by rw[qx];exact q),qx]at hi;have:=Xo xs (a+x.rows) (b+x.rows) hp.2 (λi hi=>by
    rw[show b+x.rows+i=b+(x.rows+i) by omega,show a+x.rows+i=a+(x.rows+i) by omega];exact hm _ (by omega)) (λi o hi=>by
    rw[show a+x.rows+i=a+(x.rows+i) by omega];exact hh _ o (by rw[gAr (by rw[qx];omega),qx,Nat.add_sub_cancel_left];exact hi)) (i-x.rows) o hi
   rw[show a+x.rows+(i-x.rows)=a+i by omega]at this;exact this
end
theorem Vj{μ:List (Option Nat)}{h:List qA}:∀{r:List (Option Nat)}{h':List qA},r.length=h'.length->(∀(i:Nat)(j:Option Nat)(o:qA),r[i]?=some j->h'[i]?=some o->OR2 μ h j o)->JA μ h r h'
 |[],[],_,_=>trivial
 | j::r,o::h',hl,hh=>⟨hh 0 j o rfl rfl,Vj (by simpa using hl) λi j o h1 h2=>hh (i+1) j o (by simpa using h1) (by simpa using h2)⟩
 |[],_::_,hl,_=>by simp at hl
 | _::_,[],hl,_=>by simp at hl
theorem qA9:∀{l:List Nat},l.Nodup->jw (l.map some)=true
 |[],_=>rfl
 | x::l,h=>by
  rw[List.nodup_cons]at h;simp only[lMc,jw,bAt,lAt];refine⟨λy hy=>?_,qA9 h.2⟩;obtain⟨z,hz,rfl⟩:=List.mem_map.1 hy;have:x≠z:=λe=>h.1 (by rw[e];exact hz);have hb:Nat.beq x z=false:=by
   rw[<-Bool.not_eq_true];intro q;exact this (Nat.eq_of_beq_eq_true q)
  show (!Nat.beq x z)=true;rw[hb];rfl
theorem JG{vs:List AV}{h pre post:List qA}{t:AV}(hp:t.pl=true)(hv:zk vs=(lay t pre.length).1)(hh:h=pre++((lay t pre.length).2++post)):ZW (some vs) h t:=by
 have hm:∀i,i<t.rows->((List.range' pre.length t.rows).map some)[0+i]?=some (some (pre.length+i)):=λi hi=>by
  rw[gMp,List.getElem?_range' (by omega)];simp
 refine⟨(List.range' pre.length t.rows).map some,qA9 (List.nodup_range'),Vj (by simp[qx]) λi j o h1 h2=>?_, ?_⟩
 ·have hi:i<t.rows:=by have:=(gSi.1 h2).1;rw[qx]at this;exact this
  have:=hm i hi;rw[nZa]at this;rw[this]at h1;cases h1;refine qHA t pre.length 0 hp hm (λi o hi=>?_) i o h2;rw[hh,gAr (by omega),Nat.add_sub_cancel_left,gAl (gSi.1 hi).1];exact hi
 ·rw[hv];exact qHB t _ _ hp hm
def Mark(Γ:Nat->Option AFn)(g:Nat)(t t':AV)(k k':Int):Prop:=
 t.pl=true/\t'.pl=true/\t'.rows=t.rows/\∀ρ hr r,zL ρ (lay t 0).2 hr->RelV ρ (lay t 0).1 r->∃kk hr' ρ',Ex Γ kk (.call g [r,.int .i64 k] hr) (.res (.ok (.int .i64 k')) hr')/\zL ρ' (lay t' 0).2 hr'/\Fm t.rows ρ hr ρ' hr'
def FinM(vs:Option (List AV))(h:List qA)(k:Int)(os:List qA):Prop:=vs=some [.int .i64 k]/\h=os
def finM(res:List jd)(k:Int)(os:List qA):qn->VSt->Prop:=λe st=>(e=.nrm\/e=.ret)/\FinM (jK (wA st) res) st.h k os
@[go_sem] theorem quC{res:List jd}{k:Int}{os:List qA}{s m:qt}{h:List qA}:finM res k os .ret ⟨s,m,h⟩=FinM (jK (wA ⟨s,m,h⟩) res) h k os:=by
 simp[finM]
theorem Q3{h os:List qA}{k k':Int}(hk:k=k')(hh:h=os):FinM (some [.int .i64 k]) h k' os:=⟨by rw[hk],hh⟩
theorem Mark.intro{F:qK}{t t':AV}{k k':Int}(hg:Γ g=some (.fn F))(hok:F.body.ok=true)(hn:F.np=2)(hp:t.pl=true)(hp':t'.pl=true)(hl:t'.rows=t.rows)
  (hR:R ⟨Γ,t.rows,[],[]⟩ [.code F.body] ⟨qN 0 [(lay t 0).1,.int .i64 k],[],(lay t 0).2⟩ (finM F.res k' (lay t' 0).2)):Mark Γ g t t' k k':=by
 refine⟨hp,hp',hl,λρ hr r hH hv=>?_⟩;have hS:zY ρ ⟨qN 0 [(lay t 0).1,.int .i64 k],[],(lay t 0).2⟩ {s:=params 0 [r,.int .i64 k],l:=Env.empty,h:=hr}:=
  ⟨X3 (by simp only[RelVs];exact⟨_,_,rfl,hv,_,_,rfl,by simp only[RelV],rfl⟩),(λn v h=>by cases h),hH⟩
 obtain⟨kk,e,sr',ρ',st',g1,⟨he,hq⟩,g3,g4,_⟩:=Sem.of (by simpa only [lAc,List.all_nil,Bool.and_true,Fr1.ok]using hok) hR ρ _ hS (by rw[qx];exact nLr _);have hb:Ex Γ kk (.code F.body {s:=params 0 [r,.int .i64 k],l:=Env.empty,h:=hr}) (.st e sr'):=by
  cases g1 with
  | code h h'=>cases h';exact h
  | codeX h he' hx h'=>cases e<;>simp[exK]at hx
  | codeE h he' hx=>exact h
 obtain⟨q1,q2⟩:=hq;obtain⟨rs,q3,q4⟩:=YA g3 q1;have hx:=Ex.fn hg (by rw[hn];rfl) hb he q3;have hr1:RelV ρ' (.int .i64 k') (zk rs):=Vr q4;simp only[RelV]at hr1;rw[hr1]at hx;exact⟨kk+1,_,ρ',hx,by rw[<-q2];exact g3.h,g4⟩
theorem SCall.mark{K:AV->List qA->Prop}{pre post h:List qA}{t t':AV}{k k':Int}{v:AV}(hm:Mark Γ g t t' k k')(hh:h=pre++((lay t pre.length).2++post))(hva:v=(lay t pre.length).1)
  (hk:K (.int .i64 k') (pre++((lay t' pre.length).2++post))):SCall Γ g [v,.int .i64 k] h K:=λρ hr ar hH hv=>by
 obtain⟨hp,hp',hl,hm⟩:=hm;subst hh;subst hva;simp only[RelVs,RelV]at hv;obtain⟨r,rs,rfl,hv,_,_,rfl,rfl,rfl⟩:=hv;obtain⟨n,hn⟩:∃n,n=pre.length:=⟨_,rfl⟩;rw[<-hn]at hH hv hk;have mid:∀i,(hi:i<t.rows)->∃w xs b,(pre++((lay t n).2++post))[n+i]?=some (.row w (qO xs b).1 true)/\(lay t n).2[i]?=some (.row w (qO xs b).1 true):=λi hi=>by
  have hlt:i<(lay t n).2.length:=by rw[qx];exact hi
  obtain⟨w,xs,b,e,_⟩:=Zj t n i _ hp (gEg hlt);refine⟨w,xs,b, ?_,by rw[gEg hlt,e]⟩;rw[gAr (by omega),<-hn,Nat.add_sub_cancel_left,gAl hlt,gEg hlt,e]
 have sh:Sh2 ρ n (λi=>if i<t.rows then ρ (n+i)else none) 0 t.rows:=λi hi=>by
  simp only[nZa];rw[iP hi]
 have lies:Lies ρ n (lay t n).2 hr:=λi o hi=>hH.obj (n+i) o (by
  rw[gAr (by omega),<-hn,Nat.add_sub_cancel_left,gAl (gSi.1 hi).1];exact hi)
 have lies0:=VI t n 0 hp sh (λ_ _ _ _ _ h=>h) lies;have hH0:zL (λi=>if i<t.rows then ρ (n+i)else none) (lay t 0).2 hr:=by
  refine⟨λi o hi=>by have:=lies0 i o hi;rwa[nZa]at this,λi j a o o' h1 h2 _ _ _ _=>?_,λi hi=>?_,λi a ha=>?_⟩
  ·try simp only at h1 h2
   split at h1
   ·rename_i q1;split at h2
    ·rename_i q2;obtain⟨w1,x1,b1,e1,_⟩:=mid i q1;obtain⟨w2,x2,b2,e2,_⟩:=mid j q2;have:=hH.inj _ _ a _ _ h1 h2 e1 e2 (by simp) (by simp);omega
    ·cases h2
   ·cases h1
  ·rw[qx]at hi;show (if i<t.rows then ρ (n+i)else none)=none;rw[iN (by omega)]
  ·try simp only at ha
   split at ha
   ·exact hH.is _ a ha
   ·cases ha
 obtain⟨kk,hr',ρ',hx,hH',hF⟩:=hm _ hr r hH0 (qBV t n 0 r hp sh hv);have hρ:∀i,ρ' i=if i<t.rows then ρ (n+i)else none:=λi=>by
  by_cases q:i<t.rows
  ·exact hF.base i q
  ·rw[iN q];exact hH'.out i (by rw[qx];omega)
 have sh':Sh2 ρ' 0 ρ n t'.rows:=λi hi=>by
  rw[nZa,hρ,iP (by omega)]
 have lies':Lies ρ n (lay t' n).2 hr':=VI t' 0 n hp' sh' (λ_ _ _ _ _ h=>h) (λi o hi=>by rw[nZa];exact hH'.obj i o hi);have out:∀(i a:Nat)(o:qA),(i<n\/n+t.rows<=i)->(pre++((lay t n).2++post))[i]?=some o->o≠.dead->ρ i=some (some a)->∀x,hr a=some x->hr' a=some x:=λi a o hi ho hd ha x hxx=>by
  refine hF.pres a x hxx λj hj=>?_
  try simp only at hj
  split at hj
  ·rename_i q;obtain⟨w,xs,b,e,_⟩:=mid j q;have:=hH.inj _ _ a _ _ ha hj ho e hd (by simp);omega
  ·cases hj
 have hlen:(lay t' n).2.length=t.rows:=by rw[qx,hl]
 have hlen0:(lay t n).2.length=t.rows:=by rw[qx]
 have oldAt:∀(i:Nat)(o:qA),(pre++((lay t' n).2++post))[i]?=some o->(i<n\/n+t.rows<=i)->(pre++((lay t n).2++post))[i]?=some o:=λi o ho hi=>by
  rcases hi with q | q
  ·rw[gAl (by omega)]at ho|-;exact ho
  ·rw[gAr (by omega),gAr (by omega)]at ho|-;rw[hlen]at ho;rw[hlen0];exact ho
 refine⟨kk,_,hr',ρ,_,_,hx,hk,⟨λi o hi=>?_,λi j a o o' h1 h2 hi hj d1 d2=>?_,λi hi=>hH.out i (by simp only[lAp,hlen,hlen0]at hi|-;exact hi),λi a ha=>?_⟩,by simp only[RelV],⟨λa o ho hno=>hF.pres a o ho λj hj=>?_,λi a ha=>.inl ⟨i,ha⟩,hF.fr,λ_ _=>rfl⟩,by simp only[lAp,qx,hl];omega⟩
 ·by_cases q:i<n\/n+t.rows<=i
  ·have ho:=oldAt i o hi q;by_cases hd:o=.dead
   ·subst hd;trivial
   ·exact(hH.obj i o ho).mono (λ_ _ h=>h) λa x ha hxx=>out i a o q ho hd ha x hxx
  ·have q1:n<=i:=by omega
   have:=lies' (i-n) o (by
    rw[gAr (by omega),gAl (by rw[hlen];omega),<-hn]at hi;exact hi)
   rwa[show n+(i-n)=i by omega]at this
 ·have back:∀(i:Nat)(o:qA),(pre++((lay t' n).2++post))[i]?=some o->o≠.dead->∃o2,(pre++((lay t n).2++post))[i]?=some o2/\o2≠.dead:=λi o ho hd=>by
   by_cases q:i<n\/n+t.rows<=i
   ·exact⟨o,oldAt i o ho q,hd⟩
   ·obtain⟨w,xs,b,e,_⟩:=mid (i-n) (by omega);rw[show n+(i-n)=i by omega]at e;exact⟨_,e,by simp⟩
  obtain⟨o2,e1,e2⟩:=back i o hi d1;obtain⟨o3,e3,e4⟩:=back j o' hj d2;exact hH.inj i j a o2 o3 h1 h2 e1 e3 e2 e4
 ·obtain⟨o,ho⟩:=hH.is i a ha;by_cases q:∃j,ρ' j=some (some a)
  ·obtain⟨j,hj⟩:=q;exact hH'.is j a hj
  ·refine⟨o,hF.pres a o ho λj hj=>q ⟨j, ?_⟩⟩;rw[hρ];exact hj
 ·try simp only at hj
  split at hj
  ·exact hno _ hj
  ·cases hj
mutual
def AV.cn:AV->Bool
 |.lst w xs c=>decide (0<w)&& !c&&AV.cns xs
 |.agg xs |.tup xs=>AV.cns xs
 | _=>true
def AV.cns:List AV->Bool
 |[]=>true
 | x::xs=>AV.cn x&&AV.cns xs
end
theorem W9{h:List qA}{a b:AV}{as bs:List AV}(x:Cv h a b)(y:∀p∈as.zip bs,Cv h p.1 p.2):∀p∈(a::as).zip (b::bs),Cv h p.1 p.2:=λp hp=>by
 simp only[List.zip_cons_cons,mCo]at hp;rcases hp with rfl | hp
 ·exact x
 ·exact y p hp
mutual
theorem qBT{h:List qA}:∀(t:AV)(a:Nat),t.pl=true->t.cn=true->(∀i o,(lay t a).2[i]?=some o->h[a+i]?=some o)->Cv h (lay t a).1 t
 |.lst w xs c,a,hp,hc,hh=>by
  simp only[AV.cn,bAt,dTe,bNt]at hc;obtain⟨⟨h0,rfl⟩,hc⟩:=hc;simp only[lay]at hh|-;have l:=jk xs (a+1);refine .slc (hh 0 _ rfl) (by omega) h0 (by rw[List.drop_zero,<-l,lTl,l]) ?_;rw[List.drop_zero,<-l,lTl];exact Xq xs (a+1) hp hc λi o hi=>by
   rw[show a+1+i=a+(i+1) by omega];exact hh (i+1) o (by simpa using hi)
 |.agg xs,a,hp,hc,hh=>by
  simp only[lay]at hh|-;exact .agg (jk xs a) (Xq xs a hp hc hh)
 |.tup xs,a,hp,hc,hh=>by
  simp only[lay]at hh|-;exact .tup (jk xs a) (Xq xs a hp hc hh)
 |.bool _,_,_,_,_ |.int _ _,_,_,_,_ |.str _,_,_,_,_ |.nilp,_,_,_,_ |.nils,_,_,_,_ |.nilm,_,_,_,_ |.nilf,_,_,_,_ |.nili,_,_,_,_=>by
  simp only[lay];exact .refl rfl
 |.any,_,hp,_,_ |.ptr _ _ _,_,hp,_,_ |.slice _ _ _ _ _,_,hp,_,_ |.map _,_,hp,_,_ |.ept _ _,_,hp,_,_ |.fn _ _,_,hp,_,_ |.iface _ _,_,hp,_,_=>by cases hp
theorem Xq{h:List qA}:∀(xs:List AV)(a:Nat),AV.pls xs=true->AV.cns xs=true->(∀i o,(qO xs a).2[i]?=some o->h[a+i]?=some o)->∀p∈(qO xs a).1.zip xs,Cv h p.1 p.2
 |[],_,_,_,_=>λp hp=>by simp at hp
 | x::xs,a,hp,hc,hh=>by
  simp only[AV.pls,bAt]at hp;simp only[AV.cns,bAt]at hc;simp only[qO,qx]at hh|-;refine W9 (qBT x a hp.1 hc.1 λi o hi=>hh i o (by rw[gAl (gSi.1 hi).1];exact hi)) (Xq xs _ hp.2 hc.2 λi o hi=>?_);rw[show a+x.rows+i=a+(x.rows+i) by omega];exact hh _ o (by rw[gAr (by rw[qx];omega),qx,Nat.add_sub_cancel_left];exact hi)
end
theorem VG{pre post h:List qA}{t:AV}(hp:t.pl=true)(hc:t.cn=true)(hh:h=pre++((lay t pre.length).2++post)):Cv h (lay t pre.length).1 t:=
 qBT t _ hp hc λi o hi=>by
  rw[hh,gAr (by omega),Nat.add_sub_cancel_left,gAl (gSi.1 hi).1];exact hi
end
section
variable {E:Ev} {ks:List Fr1} {s m:qt} {h:List qA} {Q:qn->VSt->Prop} {l:List qG}
theorem jY{ck:List qG}{k e:Nat}{vs:List AV}{t:AV}(hp:Fresh E.Γ k vs t)(hr:R E (.ops l::ks) ⟨(e,(lay t h.length).1)::s,m,h++(lay t h.length).2⟩ Q):jz E (some (k,vs)) ck (some e) l ks ⟨s,m,h⟩ Q:=by
 unfold jz;cases ck
 ·exact SCall.fresh hp hr
 ·exact Or.inl (SCallK.fresh hp hr)
theorem WK{ck:List qG}{k e:Nat}{vs vs':List AV}{t:AV}(hc:Cvs h vs vs')(hp:Fresh E.Γ k vs' t)(hr:R E (.ops l::ks) ⟨(e,(lay t h.length).1)::s,m,h++(lay t h.length).2⟩ Q):jz E (some (k,vs)) ck (some e) l ks ⟨s,m,h⟩ Q:=by
 unfold jz;cases ck
 ·exact SCall.freshL hc hp hr
 ·exact Or.inl (SCallK.freshL hc hp hr)
theorem qlS{k e:Nat}{pre post:List qA}{t t':AV}{a b:Int}{v:AV}(hm:Mark E.Γ k t t' a b)(hh:h=pre++((lay t pre.length).2++post))(hv:v=(lay t pre.length).1)
  (hr:R E (.ops l::ks) ⟨(e,.int .i64 b)::s,m,pre++((lay t' pre.length).2++post)⟩ Q):jz E (some (k,[v,.int .i64 a])) [] (some e) l ks ⟨s,m,h⟩ Q:=by
 unfold jz;exact SCall.mark hm hh hv hr
end
end Go.Ab
