/- Texts Ab0 .. Ab14: the abstract machine, its laws and contracts of functions: lemmas for the statement. No condition. -/
import Derived.Calls
set_option linter.unusedSimpArgs false
set_option linter.unusedVariables false
namespace Go.Ab
open Go
theorem odT {p : Prop} [Decidable p] (h : decide p = true) : p := of_decide_eq_true h
theorem odF {p : Prop} [Decidable p] (h : decide p = false) : ¬p := of_decide_eq_false h
theorem gEg {α : Type _} {l : List α} {i : Nat} (h : i < l.length) : l[i]? = some l[i] := List.getElem?_eq_getElem h
theorem bAt (a b : Bool) : ((a && b) = true) = (a = true /\ b = true) := Bool.and_eq_true a b
theorem bFt : (false = true) = False := Bool.false_eq_true
theorem lAp {α : Type _} {l m : List α} : (l ++ m).length = l.length + m.length := List.length_append
theorem gAl : type_of% @List.getElem?_append_left := @List.getElem?_append_left
theorem gAr : type_of% @List.getElem?_append_right := @List.getElem?_append_right
theorem gMp : type_of% @List.getElem?_map := @List.getElem?_map
theorem gSi : type_of% @List.getElem?_eq_some_iff := @List.getElem?_eq_some_iff
theorem oMs : type_of% @Option.map_some := @Option.map_some
theorem oSi : type_of% @Option.some.injEq := @Option.some.injEq
theorem nZa : type_of% @Nat.zero_add := @Nat.zero_add
theorem lNi : type_of% @List.length_nil := @List.length_nil
theorem lAn : type_of% @List.append_nil := @List.append_nil
theorem lMp : type_of% @List.length_map := @List.length_map
theorem lCo : type_of% @List.length_cons := @List.length_cons
theorem gSn : type_of% @List.getElem?_set_ne := @List.getElem?_set_ne
theorem lAa : type_of% @List.append_assoc := @List.append_assoc
theorem lSz : type_of% @List.set_cons_zero := @List.set_cons_zero
theorem nLr : type_of% @Nat.le_refl := @Nat.le_refl
theorem nZl : type_of% @Nat.zero_le := @Nat.zero_le
theorem lNa : type_of% @List.nil_append := @List.nil_append
theorem gSs : type_of% @List.getElem?_set_self := @List.getElem?_set_self
theorem lTs : type_of% @List.take_succ_eq_append_getElem := @List.take_succ_eq_append_getElem
theorem lTl : type_of% @List.take_length := @List.take_length
theorem aSi : type_of% @Array.getElem?_eq_some_iff := @Array.getElem?_eq_some_iff
theorem lCm : type_of% @List.contains_iff_mem := @List.contains_iff_mem
theorem lEz : type_of% @List.eq_nil_of_length_eq_zero := @List.eq_nil_of_length_eq_zero
theorem oMi : type_of% @Option.map_eq_some_iff := @Option.map_eq_some_iff
theorem dTe : type_of% @decide_eq_true_eq := @decide_eq_true_eq
theorem bIe : type_of% @beq_iff_eq := @beq_iff_eq
theorem lMo : type_of% @List.mem_of_getElem? := @List.mem_of_getElem?
theorem lGd : type_of% @List.getD_eq_getElem?_getD := @List.getD_eq_getElem?_getD
theorem lCa : type_of% @List.cons_append := @List.cons_append
theorem lMa : type_of% @List.map_append := @List.map_append
theorem lLs : type_of% @List.length_set := @List.length_set
theorem lLt : type_of% @List.length_take := @List.length_take
theorem gTk : type_of% @List.getElem?_take := @List.getElem?_take
theorem gDr : type_of% @List.getElem?_drop := @List.getElem?_drop
theorem lAt : type_of% @List.all_eq_true := @List.all_eq_true
theorem lAc : type_of% @List.all_cons := @List.all_cons
theorem lMc : type_of% @List.map_cons := @List.map_cons
theorem lLr : type_of% @List.length_replicate := @List.length_replicate
theorem aGe : type_of% @Array.getElem?_eq_getElem := @Array.getElem?_eq_getElem
theorem aGp : type_of% @Array.getElem?_push := @Array.getElem?_push
theorem nLt : type_of% @Nat.le_trans := @Nat.le_trans
theorem nAz : type_of% @Nat.add_zero := @Nat.add_zero
theorem nSs : type_of% @Nat.sub_self := @Nat.sub_self
theorem lMs : type_of% @List.mem_cons_self := @List.mem_cons_self
theorem jL : type_of% @List.mem_append := @List.mem_append
theorem lMg : type_of% @List.mem_singleton := @List.mem_singleton
theorem lMr : type_of% @List.mem_range := @List.mem_range
theorem oBs : type_of% @Option.bind_some := @Option.bind_some
theorem iTn : type_of% @Int.toNat_natCast := @Int.toNat_natCast
theorem gEn : type_of% @List.getElem?_eq_none := @List.getElem?_eq_none
theorem lDc : type_of% @List.drop_eq_getElem_cons := @List.drop_eq_getElem_cons
theorem gAp : type_of% @List.getElem?_append := @List.getElem?_append
theorem bNt : type_of% @Bool.not_eq_true' := @Bool.not_eq_true'
theorem lSr : type_of% @List.set_append_right := @List.set_append_right
theorem aTt : type_of% @Array.toArray_toList := @Array.toArray_toList
theorem gSt : type_of% @List.getElem?_set := @List.getElem?_set
theorem gMm {α : Type _} {l : List α} {n : Nat} (h : n < l.length) : l[n] ∈ l := List.getElem_mem h
theorem dEf {p : Prop} [Decidable p] (h : ¬p) : decide p = false := decide_eq_false h
theorem dEt {p : Prop} [Decidable p] (h : p) : decide p = true := decide_eq_true h
theorem iN {c : Prop} {h : Decidable c} (n : ¬c) {α : Sort _} {t e : α} : (if c then t else e) = e := if_neg n
theorem iP {c : Prop} {h : Decidable c} (n : c) {α : Sort _} {t e : α} : (if c then t else e) = t := if_pos n
theorem tOl {α : Type _} {i : Nat} {l : List α} (h : l.length <= i) : l.take i = l := List.take_of_length_le h
theorem mCo {α : Type _} {a b : α} {l : List α} : a ∈ b :: l ↔ a = b \/ a ∈ l := List.mem_cons
theorem eOz {a : Int} (h : 0 <= a) : ∃ n : Nat, a = n := Int.eq_ofNat_of_zero_le h
theorem tA1 : type_of% @List.take_add_one.{0} := @List.take_add_one
theorem mFi : type_of% @List.mem_filter.{0} := @List.mem_filter
theorem nLl {n m k : Nat} (a : n < m) (b : m <= k) : n < k := Nat.lt_of_lt_of_le a b
theorem mCm {α : Type _} (y : α) {a : α} {l : List α} (h : a ∈ l) : a ∈ y :: l := List.mem_cons_of_mem y h
theorem bPl : type_of% @List.contains_cons.{0} /\ type_of% @List.contains_nil.{0} /\ type_of% @Option.getD_some.{0} /\ type_of% @Option.getD_none.{0} /\ type_of% @Bool.or_false /\ type_of% @Bool.false_or /\ type_of% @Bool.or_self /\ type_of% @Bool.false_eq_true /\ type_of% @Bool.or_true /\ type_of% @Bool.true_or /\ type_of% @if_false.{0} /\ type_of% @if_false.{1} /\ type_of% @if_true.{0} /\ type_of% @if_true.{1} := ⟨@List.contains_cons.{0}, @List.contains_nil.{0}, @Option.getD_some.{0}, @Option.getD_none.{0}, @Bool.or_false, @Bool.false_or, @Bool.or_self, @Bool.false_eq_true, @Bool.or_true, @Bool.true_or, @if_false.{0}, @if_false.{1}, @if_true.{0}, @if_true.{1}⟩
inductive AV where
 | bool (b:Bool)
 | int (k:IntKind) (n:Int)
 | str (s:List UInt8)
 | nilp
 | ptr (id i j:Nat)
 | nils
 | slice (w id off len:Nat) (clip:Bool)
 | lst (w:Nat) (xs:List AV) (clip:Bool)
 | ept (x:AV) (j:Nat)
 | nilm
 | map (id:Nat)
 | nilf
 | fn (g:Nat) (caps:List AV)
 | nili
 | iface (t:Nat) (v:AV)
 | agg (cs:List AV)
 | tup (vs:List AV)
 | any
abbrev AV.undef:AV:=.tup []
def AV.cells:AV->List AV
 |.agg cs=>cs
 |.tup _=>[]
 |.any=>[]
 | v=>[v]
def AV.part(v:AV)(j:Nat):Option Nat->Option AV
 | none=>v.cells[j]?
 | some k=>if j+k<=v.cells.length then some (.agg ((v.cells.drop j).take k))else none
def AV.put(v:AV)(j:Nat)(x:AV):Option AV:=
 match v with
 |.agg cs=>if j+x.cells.length<=cs.length then some (.agg (cs.take j++(x.cells++cs.drop (j+x.cells.length))))else none
 | v=>if j=0/\v.cells.length=1 then(match x.cells with |[y]=>some y | _=>none)else none
inductive qA where
 | row (w:Nat) (el:List AV) (rw:Bool)
 | dead
 | map (es:List (AV×AV))
def qA.wr:qA->Bool
 |.row _ _ rw=>rw
 |.map _=>true
 |.dead=>false
structure AH where
 f:Nat->Option qA
 tb:Nat->Bool
 fin:∃n,∀i,n<=i->f i=none/\tb i=false
instance:CoeFun AH λ_=>Nat->Option qA:=⟨AH.f⟩
theorem AH.ext'{h h':AH}(e:∀i,h i=h' i)(t:∀i,h.tb i=h'.tb i):h=h':=by
 cases h;cases h';simp only[AH.mk.injEq];exact⟨funext e,funext t⟩
def AH.fr(h:AH)(id:Nat):Prop:=h id=none/\h.tb id=false
def AH.upd(h:AH)(id:Nat)(o:qA):AH where
 f:=λi=>if i=id then some o else h i
 tb:=h.tb
 fin:=by
  obtain⟨n,hn⟩:=h.fin;exact⟨max n (id+1),λi hi=>by rw[iN (by omega)];exact hn i (by omega)⟩
def AH.kill(h:AH)(K:List Nat):AH where
 f:=λi=>if K.contains i then some .dead else h i
 tb:=h.tb
 fin:=by
  obtain⟨n,hn⟩:=h.fin;have:∀(K:List Nat),∃n,∀i,n<=i->K.contains i=false:=by
   intro K
   induction K with
   | nil=>exact⟨0,λ_ _=>rfl⟩
   | cons k K ih=>
    obtain⟨n,hn⟩:=ih;refine⟨max n (k+1),λi hi=>?_⟩;rw[List.contains_cons,hn i (by omega),Bool.or_false,beq_eq_false_iff_ne];omega
  obtain⟨n',hn'⟩:=this K;refine⟨max n n',λi hi=>?_⟩;simp only[hn' i (by omega),bFt,if_false];exact hn i (by omega)
def AH.tomb(h h':AH):AH where
 f:=h.f
 tb:=λi=>h.tb i || h'.tb i || ((h'.f i).isSome&&(h.f i).isNone)
 fin:=by
  obtain⟨n,hn⟩:=h.fin;obtain⟨n',hn'⟩:=h'.fin;refine⟨max n n',λi hi=>?_⟩;obtain⟨h1,h2⟩:=hn i (by omega);obtain⟨h3,h4⟩:=hn' i (by omega);simp[h1,h2,h3,h4]
theorem AH.upd_same(h:AH)(id:Nat)(o:qA):h.upd id o id=some o:=by simp[AH.upd]
theorem AH.upd_ne(h:AH){id i:Nat}(o:qA)(e:i≠id):h.upd id o i=h i:=by simp[AH.upd,e]
theorem AH.upd_apply(h:AH)(id i:Nat)(o:qA):h.upd id o i=if i=id then some o else h i:=rfl
theorem AH.fresh(h:AH):∃id,h.fr id:=let ⟨n,hn⟩:=h.fin;⟨n,hn n (nLr n)⟩
def AH.empty:AH:=⟨λ_=>none,λ_=>false,0,λ_ _=>⟨rfl,rfl⟩⟩
inductive Ao where
 | t (n:Nat)
 | c (v:AV)
 | f (g:Nat)
inductive AOp where
 | mov (x:Ao)
 | pick (c a b:Ao)
 | lalloc (z:AV)
 | lbox (k:Nat) (x:Ao)
 | halloc (w:Nat) (z:AV)
 | hbox (w:Nat) (x:Ao)
 | build (z:AV) (ps:List (Nat×Nat×Ao))
 | bslice (w:Nat) (z:AV) (n:Nat) (ps:List (Nat×Ao))
 | lload (t off:Nat) (sh:Option Nat)
 | lstore (t off k:Nat) (x:Ao)
 | load (sh:Option Nat) (p:Ao)
 | store (k:Nat) (p x:Ao)
 | nilchk (x:Ao)
 | bin (op:BinOp) (x y:Ao)
 | beq (neg:Bool) (x y:Ao)
 | seq (neg:Bool) (k:List Nat) (x y:Ao)
 | isnil (tag:Nat) (neg:Bool) (x:Ao)
 | not (x:Ao)
 | conv (k:IntKind) (x:Ao)
 | mksl (w:Nat) (z:AV) (l c:Ao)
 | slc (w:Nat) (x:Ao) (lo hi mx:Option Ao)
 | slcx (w:Nat) (x:Ao) (lo hi:Option Ao)
 | slcm (w:Nat) (x lo hi mx:Ao)
 | faddr (off:Nat) (x:Ao)
 | iaddr (w:Nat) (x i:Ao)
 | aidx (n w:Nat) (sh:Option Nat) (x i:Ao)
 | ext (x:Ao) (i:Nat)
 | mkfn (g:Nat) (caps:List Ao)
 | call (g:Nat) (args:List Ao)
 | callv (x:Ao) (args:List Ao)
 | len (x:Ao)
 | mlen (x:Ao)
 | app (w:Nat) (x y:Ao)
 | appx (w:Nat) (x y:Ao)
 | max (x y:Ao)
 | min (x y:Ao)
 | clear (w:Nat) (z:AV) (x:Ao)
 | panic (x:Ao)
 | mkmap
 | look (z:AV) (m k:Ao) (ok:Bool)
 | mupd (m k v:Ao)
 | nop (t:Nat)
inductive qC where
 | mk (i:Nat) (d:Option Nat) (g:Option (Nat×Bool)) (o:AOp) (ck:List qC)
namespace qC
def i:qC->Nat |.mk i _ _ _ _=>i
def d:qC->Option Nat |.mk _ d _ _ _=>d
def g:qC->Option (Nat×Bool) |.mk _ _ g _ _=>g
def o:qC->AOp |.mk _ _ _ o _=>o
def ck:qC->List qC |.mk _ _ _ _ c=>c
end qC
inductive qP where
 | skip
 | reg (pan:Bool) (l:List qC)
 | seq (a b:qP)
 | cond (c:Ao) (a b:qP)
 | blk (n:Nat) (a:qP)
 | loop (a:qP)
 | exit (n:Nat)
 | ret
inductive jh where
 | t (n:Nat)
 | l (t:Nat) (sh:Option Nat)
 | h (t:Nat) (sh:Option Nat)
structure qJ where
 np:Nat
 nt:Nat
 res:List jh
 body:qP
def Env:=Nat->Option AV
def Env.empty:Env:=λ_=>none
def Env.set(s:Env)(d:Nat)(v:AV):Env:=λn=>if d=n then some v else s n
def lk(s:Env)(n:Nat):Option AV:=s n
theorem wQ(s:Env)(d n:Nat)(v:AV):lk (s.set d v) n=if d=n then some v else lk s n:=rfl
structure St where
 s:Env
 l:Env
 h:AH
def ev(s:Env):Ao->Option AV
 |.t n=>lk s n
 |.c v=>some v
 |.f g=>some (.fn g [])
def evs(s:Env):List Ao->Option (List AV)
 |[]=>some []
 | x::r=>match ev s x,evs s r with
  | some v,some vs=>some (v::vs)
  | _,_=>none
def je(s:Env)(d:Option Nat)(v:AV):Env:=
 match d with
 | some d=>s.set d v
 | none=>s
def zM(s:Env):Option (Nat×Bool)->Option Bool
 | none=>some true
 | some (d,b)=>match lk s d with
  | some (.bool c)=>some (c==b)
  | some (.tup [])=>some false
  | _=>none
abbrev LIM:Nat:=4294967296
def wN(op:BinOp)(k:IntKind)(a b:Int):Option AV:=
 match op with
 |.add=>some (.int k (k.wrap (a+b)))
 |.sub=>some (.int k (k.wrap (a-b)))
 |.mul=>some (.int k (k.wrap (a*b)))
 |.quo=>if b=0 then none else some (.int k (k.wrap (a.tdiv b)))
 |.rem=>if b=0 then none else some (.int k (a.tmod b))
 |.and=>some (.int k (k.wrap (BitVec.ofInt k.bits a&&&BitVec.ofInt k.bits b).toNat))
 |.or=>some (.int k (k.wrap (BitVec.ofInt k.bits a ||| BitVec.ofInt k.bits b).toNat))
 |.xor=>some (.int k (k.wrap (BitVec.ofInt k.bits a^^^BitVec.ofInt k.bits b).toNat))
 |.andNot=>some (.int k (k.wrap (BitVec.ofInt k.bits a&&&~~~(BitVec.ofInt k.bits b)).toNat))
 |.eql=>some (.bool (a==b))
 |.neq=>some (.bool (a !=b))
 |.lss=>some (.bool (a<b))
 |.leq=>some (.bool (a<=b))
 |.gtr=>some (.bool (a>b))
 |.geq=>some (.bool (a≥b))
 | _=>none
def X2:List UInt8->List UInt8->Bool
 | _,[]=>false
 |[],_::_=>true
 | a::x,b::y=>a<b || (a==b&&X2 x y)
def qv7(op:BinOp)(a b:List UInt8):Option AV:=
 match op with
 |.add=>if a.length+b.length<=9223372036854775807 then some (.str (a++b))else none
 |.eql=>some (.bool (a==b))
 |.neq=>some (.bool (!(a==b)))
 |.lss=>some (.bool (X2 a b))
 |.leq=>some (.bool (X2 a b || a==b))
 |.gtr=>some (.bool (!(X2 a b || a==b)))
 |.geq=>some (.bool (!(X2 a b)))
 | _=>none
def AV.isNil:Nat->AV->Option Bool
 | 0,.nilp=>some true
 | 0,.ptr _ _ _=>some false
 | 0,.ept _ _=>some false
 | 1,.nils=>some true
 | 1,.slice _ _ _ _ _=>some false
 | 1,.lst _ (_::_) _=>some false
 | 2,.nilm=>some true
 | 2,.map _=>some false
 | 3,.nilf=>some true
 | 3,.fn _ _=>some false
 | 4,.nili=>some true
 | 4,.iface _ _=>some false
 | _,_=>none
def jZ(s:Env):AV->List (Nat×Nat×Ao)->Option AV
 | z,[]=>some z
 | z,(off,sz,x)::r=>match ev s x with
  | some v=>if v.cells.length=sz then(match z.put off v with | some z'=>jZ s z' r | none=>none)else none
  | none=>none
def jE(s:Env)(w:Nat):List AV->List (Nat×Ao)->Option (List AV)
 | el,[]=>some el
 | el,(i,x)::r=>match ev s x with
  | some v=>if v.cells.length=w/\i<el.length then jE s w (el.set i v) r else none
  | none=>none
def bnd(s:Env)(x:Option Ao)(dflt lo hi:Nat):Option Nat:=
 match x with
 | none=>some dflt
 | some x=>match ev s x with
  | some (.int _ n)=>if (lo:Int)<=n/\n<=hi then some n.toNat else none
  | _=>none
def Q4:AV->AV->Option Bool
 |.int .i64 a,.int .i64 b=>some (a==b)
 | _,_=>none
def wM(k:AV):List (AV×AV)->Nat->Option (Option (Nat×AV))
 |[],_=>match k with
  |.int .i64 _=>some none
  | _=>none
 | (k',v)::r,i=>match Q4 k k' with
  | some true=>some (some (i,v))
  | some false=>wM k r (i+1)
  | none=>none
def dig:AV->Nat
 |.int _ _=>1
 |.str _=>2
 |.bool _=>3
 | _=>0
def Jk:AV->AV->Option Bool
 |.int k a,.int k' b=>if k=k' then some (a==b)else none
 |.str a,.str b=>some (a==b)
 |.bool a,.bool b=>some (a==b)
 | _,_=>none
def wK:List AV->List AV->Option Bool
 |[],[]=>some true
 | a::as,b::bs=>match Jk a b with
  | some true=>wK as bs
  | some false=>some false
  | none=>none
 | _,_=>none
def wh(h:AH):AV->Option (List (AV×AV))
 |.nilm=>some []
 |.map id=>match h id with
  | some (.map es)=>some es
  | _=>none
 | _=>none
def val(o:AOp)(s l:Env)(h:AH):Option AV:=
 match o with
 |.mov x=>ev s x
 |.pick c a b=>match ev s c with
  | some (.bool true)=>ev s a
  | some (.bool false)=>ev s b
  | _=>none
 |.build z ps=>jZ s z ps
 |.lload t off sh=>(lk l t).bind (·.part off sh)
 |.load sh p=>match ev s p with
  | some (.ptr id i j)=>match h id with
   | some (.row _ el _)=>(el[i]?).bind (·.part j sh)
   | _=>none
  | some (.ept x j)=>x.part j sh
  | _=>none
 |.nilchk x=>match ev s x with
  | some (.ptr a b c)=>some (.ptr a b c)
  | some (.ept x j)=>some (.ept x j)
  | some (.fn g cs)=>some (.fn g cs)
  | _=>none
 |.bin op x y=>match ev s x,ev s y with
  | some (.int k a),some (.int k' b)=>if k=k' then wN op k a b else none
  | _,_=>none
 |.beq neg x y=>match ev s x,ev s y with
  | some (.bool a),some (.bool b)=>some (.bool (if neg then !(a==b)else a==b))
  | _,_=>none
 |.seq neg k x y=>match ev s x,ev s y with
  | some (.agg cs),some (.agg ds)=>if cs.map dig=k/\ds.map dig=k then(wK cs ds).map λb=>.bool (if neg then !b else b)else none
  | _,_=>none
 |.isnil tag neg x=>((ev s x).bind (AV.isNil tag)).map λb=>.bool (if neg then !b else b)
 |.not x=>match ev s x with
  | some (.bool b)=>some (.bool !b)
  | _=>none
 |.conv k x=>match ev s x with
  | some (.int _ n)=>some (.int k (k.wrap n))
  | _=>none
 |.slc w x lo hi mx=>match ev s x with
  | some .nils=>match (match mx with | none=>some 0 | some m=>bnd s (some m) 0 0 0),bnd s hi 0 0 0,bnd s lo 0 0 0 with
   | some _,some _,some _=>some .nils
   | _,_,_=>none
  | some (.slice w' id off len clip)=>match bnd s hi len 0 len with
   | some b=>match bnd s lo 0 0 b with
    | some a=>match mx with
     | none=>if w'=w/\(!clip || b==len)=true then some (.slice w id (off+a) (b-a) clip)else none
     | some m=>match bnd s (some m) 0 b b with
      | some _=>if w'=w then some (.slice w id (off+a) (b-a) true)else none
      | none=>none
    | none=>none
   | none=>none
  | some (.lst w' xs clip)=>match bnd s hi xs.length 0 xs.length with
   | some b=>match bnd s lo 0 0 b with
    | some a=>match mx with
     | none=>if w'=w then some (.lst w ((xs.drop a).take (b-a)) (clip&&b==xs.length))else none
     | some m=>match bnd s (some m) 0 b b with
      | some _=>if w'=w then some (.lst w ((xs.drop a).take (b-a)) true)else none
      | none=>none
    | none=>none
   | none=>none
  | _=>none
 |.slcx w x lo hi=>match ev s x with
  | some (.slice w' id off len false)=>match h id with
   | some (.row _ el _)=>match bnd s hi len 0 (el.length-off)with
    | some b=>match bnd s lo 0 0 b with
     | some a=>if w'=w then some (.slice w id (off+a) (b-a) false)else none
     | none=>none
    | none=>none
   | _=>none
  | _=>none
 |.slcm w x lo hi mx=>match ev s x with
  | some (.slice w' _ _ len _)=>match bnd s (some mx) 0 0 len with
   | some c=>match bnd s (some hi) 0 0 c with
    | some b=>match bnd s (some lo) 0 0 b with
     | some _=>if w'=w then some .any else none
     | none=>none
    | none=>none
   | none=>none
  | _=>none
 |.faddr off x=>match ev s x with
  | some (.ptr id i j)=>some (.ptr id i (j+off))
  | some (.ept x j)=>some (.ept x (j+off))
  | _=>none
 |.iaddr w x i=>match ev s x,ev s i with
  | some (.slice w' id off len _),some (.int _ n)=>if w'=w/\0<=n/\n<len then some (.ptr id (off+n.toNat) 0)else none
  | some (.lst w' xs _),some (.int _ n)=>if w'=w/\0<=n then(xs[n.toNat]?).map λx=>.ept x 0 else none
  | _,_=>none
 |.aidx n w sh x i=>match ev s x,ev s i with
  | some (.agg cs),some (.int _ m)=>if 0<=m/\m<n then(AV.agg cs).part (m.toNat*w) sh else none
  | _,_=>none
 |.ext x i=>match ev s x with
  | some (.tup vs)=>vs[i]?
  | _=>none
 |.mkfn g caps=>(evs s caps).map (.fn g)
 |.len x=>match ev s x with
  | some .nils=>some (.int .i64 0)
  | some (.slice _ _ _ len _)=>some (.int .i64 len)
  | some (.lst _ xs _)=>some (.int .i64 xs.length)
  | _=>none
 |.mlen x=>((ev s x).bind (wh h)).map λes=>.int .i64 es.length
 |.max x y=>match ev s x,ev s y with
  | some (.int k a),some (.int k' b)=>if k=k' then some (.int k (if b>a then b else a))else none
  | _,_=>none
 |.min x y=>match ev s x,ev s y with
  | some (.int k a),some (.int k' b)=>if k=k' then some (.int k (if b<a then b else a))else none
  | _,_=>none
 |.look z m k ok=>match ev s m,ev s k with
  | some m,some k=>match wh h m with
   | some es=>match wM k es 0 with
    | some (some (_,v))=>some (if ok then .tup [v,.bool true]else v)
    | some none=>some (if ok then .tup [z,.bool false]else z)
    | none=>none
   | none=>none
  | _,_=>none
 |.nop t=>(lk l t).map λ_=>.any
 | _=>none
def z9(h:AH):AV->Option (List AV)
 |.nils=>some []
 |.slice _ id off len _=>if len=0 then some []else match h id with
  | some (.row _ el _)=>if off+len<=el.length then some ((el.drop off).take len)else none
  | _=>none
 |.lst _ xs _=>some xs
 |.str a=>some (a.map λb=>.int .u8 b.toNat)
 | _=>none
theorem XO{h:AH}{w w' id off len:Nat}{el:List AV}{c rw':Bool}(ho:h id=some (.row w' el rw'))(hl:off+len<=el.length):z9 h (.slice w id off len c)=some ((el.drop off).take len):=by
 simp only[z9,ho,hl,if_true];split
 ·rename_i q;rw[q,List.take_zero]
 ·rfl
def wOf:AV->Option Nat
 |.slice w _ _ _ _=>some w
 |.lst w _ _=>some w
 | _=>none
def St.put(st:St)(d:Option Nat)(v:AV):St:={st with s:=je st.s d v}
def New(st:St)(d:Option Nat)(o:qA)(v:Nat->AV)(st':St):Prop:=
 ∃id,st.h.fr id/\st'={s:=je st.s d (v id),l:=st.l,h:=st.h.upd id o}
def Jl(w:Nat):AV->Prop
 |.slice w' _ _ _ _=>w'=w
 |.lst w' _ _=>w'=w
 |.str _=>w=1
 | _=>True
def App(w:Nat)(x y:AV)(st:St)(d:Option Nat)(st':St):Prop:=
 ∃ys,z9 st.h y=some ys/\Jl w y/\
  match x with
  |.nils=>if ys.length=0 then st'=st.put d .nils else ys.length<=LIM/\New st d (.row w ys true) (λid=>.slice w id 0 ys.length false) st'
  |.slice w' id _ len clip=>w'=w/\
   if ys.length=0 then st'=st.put d x else len+ys.length<=LIM/\
   ∃xs,z9 st.h x=some xs/\
    if clip then New st d (.row w (xs++ys) true) (λid=>.slice w id 0 (len+ys.length) false) st'
    else(∃el,st.h id=some (.row w el true))/\New {st with h:=st.h.upd id .dead} d (.row w (xs++ys) true) (λid=>.slice w id 0 (len+ys.length) false) st'
  |.lst w' xs clip=>w'=w/\if ys.length=0 then st'=st.put d x else xs.length+ys.length<=LIM/\clip=true/\New st d (.row w (xs++ys) true) (λid=>.slice w id 0 (xs.length+ys.length) false) st'
  | _=>False
def AppX(w:Nat)(x y:AV)(st:St)(d:Option Nat)(st':St):Prop:=
 ∃ys id off len el,z9 st.h y=some ys/\Jl w y/\x=.slice w id off len false/\st.h id=some (.row w el true)/\off+len+ys.length<=el.length/\
  New {st with h:=st.h.upd id .dead} d (.row w ((el.drop off).take len++(ys++el.drop (off+len+ys.length))) true) (λid=>.slice w id 0 (len+ys.length) false) st'
def Step(o:AOp)(d:Option Nat)(st st':St):Prop:=
 match o with
 |.lalloc z=>∃t,d=some t/\st'={st with l:=st.l.set t z}
 |.lbox k x=>∃t v,d=some t/\ev st.s x=some v/\v.cells.length=k/\st'={st with l:=st.l.set t v}
 |.lstore t off k x=>∃c v c',lk st.l t=some c/\ev st.s x=some v/\v.cells.length=k/\c.put off v=some c'/\st'={st with l:=st.l.set t c'}
 |.halloc w z=>New st d (.row w [z] true) (λid=>.ptr id 0 0) st'
 |.hbox w x=>∃v,ev st.s x=some v/\v.cells.length=w/\New st d (.row w [v] true) (λid=>.ptr id 0 0) st'
 |.bslice w z n ps=>∃el,jE st.s w (List.replicate n z) ps=some el/\New st d (.row w el true) (λid=>.slice w id 0 n false) st'
 |.mksl w z l c=>∃k k' n m,ev st.s l=some (.int k n)/\ev st.s c=some (.int k' m)/\0<=n/\n<=m/\m<=(LIM:Int)/\
   New st d (.row w (List.replicate n.toNat z) true) (λid=>.slice w id 0 n.toNat false) st'
 |.store k p x=>∃id i j v w el e e',ev st.s p=some (.ptr id i j)/\ev st.s x=some v/\v.cells.length=k/\st.h id=some (.row w el true)/\el[i]?=some e/\e.put j v=some e'/\
   st'={st with h:=st.h.upd id (.row w (el.set i e') true)}
 |.app w x y=>∃a b,ev st.s x=some a/\ev st.s y=some b/\App w a b st d st'
 |.appx w x y=>∃a b,ev st.s x=some a/\ev st.s y=some b/\AppX w a b st d st'
 |.clear w z x=>∃a xs,ev st.s x=some a/\z9 st.h a=some xs/\
   (match a with
   |.nils=>st'=st
   |.slice w' id off len _=>w'=w/\∃el,st.h id=some (.row w el true)/\st'={st with h:=st.h.upd id (.row w (el.take off++(List.replicate len z++el.drop (off+len))) true)}
   | _=>False)
 |.mkmap=>New st d (.map []) .map st'
 |.mupd m k v=>∃id k' v' es,ev st.s m=some (.map id)/\ev st.s k=some k'/\ev st.s v=some v'/\st.h id=some (.map es)/\
   (match wM k' es 0 with
   | some (some (i,_))=>st'={st with h:=st.h.upd id (.map (es.set i (k',v')))}
   | some none=>st'={st with h:=st.h.upd id (.map (es++[(k',v')]))}
   | none=>False)
 |.call _ _ |.callv _ _ |.panic _=>False
 | _=>∃v,val o st.s st.l st.h=some v/\st'=st.put d v
def jD(s:Env):AOp->Option (Nat×List AV)
 |.call g args=>(evs s args).map λas=>(g,as)
 |.callv x args=>match ev s x,evs s args with
  | some (.fn g cs),some as=>some (g,as++cs)
  | _,_=>none
 | _=>none
def Again(st:St)(c:qC):Prop:=
 match zM st.s c.g with
 | some true=>∃d v,c.d=some d/\lk st.s d=some v/\val c.o st.s st.l st.h=some v
 | some false=>True
 | none=>False
def Checks(st:St):List qC->Prop
 |[]=>True
 | c::r=>Again st c/\Checks st r
inductive UO where
 | ok (v:AV)
 | pan (v:AV)
inductive qi where
 | nrm
 | exit (n:Nat)
 | ret
 | pan (v:AV)
inductive AFn where
 | fn (f:qJ)
 | ext (r:List AV->AH->UO->AH->Prop)
inductive Job where
 | ops (l:List qC) (st:St)
 | code (c:qP) (st:St)
 | call (g:Nat) (args:List AV) (h:AH)
inductive Out where
 | st (e:qi) (st:St)
 | res (r:UO) (h:AH)
def params:Nat->List AV->Env
 | _,[]=>Env.empty
 | n,v::r=>(params (n+1) r).set n v
def wm(st:St):jh->Option AV
 |.t n=>lk st.s n
 |.l t sh=>(lk st.l t).bind (·.part 0 sh)
 |.h t sh=>match lk st.s t with
  | some (.ptr id i j)=>match st.h id with
   | some (.row _ el _)=>(el[i]?).bind (·.part j sh)
   | _=>none
  | _=>none
def jM(st:St):List jh->Option (List AV)
 |[]=>some []
 | x::r=>match wm st x,jM st r with
  | some v,some vs=>some (v::vs)
  | _,_=>none
def jS:List AV->AV
 |[v]=>v
 | vs=>.tup vs
def Zc(n:Nat):qi->qi
 |.exit m=>if m=n then .nrm else .exit m
 | e=>e
inductive zC(h:AH)(K:List Nat):AV->AV->Prop
 | refl (v):zC h K v v
 | nil {w id off clip}:zC h K (.slice w id off 0 clip) (.lst w [] clip)
 | nils {w clip}:zC h K .nils (.lst w [] clip)
 | slc {w id off len clip el rw ts} (hK:K.contains id=true) (ho:h id=some (.row w el rw)) (hl:off+len<=el.length) (hw:0<w) (hs:((el.drop off).take len).length=ts.length) (hc:∀p∈((el.drop off).take len).zip ts,zC h K p.1 p.2):zC h K (.slice w id off len clip) (.lst w ts clip)
 | ptr {id i j w el rw x t} (hK:K.contains id=true) (ho:h id=some (.row w el rw)) (hw:0<w) (he:el[i]?=some x) (hc:zC h K x t):zC h K (.ptr id i j) (.ept t j)
 | lst {w xs ts clip} (hl:xs.length=ts.length) (hc:∀p∈xs.zip ts,zC h K p.1 p.2):zC h K (.lst w xs clip) (.lst w ts clip)
 | clip {w xs}:zC h K (.lst w xs true) (.lst w xs false)
 | agg {cs ds} (hl:cs.length=ds.length) (hc:∀p∈cs.zip ds,zC h K p.1 p.2):zC h K (.agg cs) (.agg ds)
 | fn {g cs ds} (hl:cs.length=ds.length) (hc:∀p∈cs.zip ds,zC h K p.1 p.2):zC h K (.fn g cs) (.fn g ds)
 | tup {cs ds} (hl:cs.length=ds.length) (hc:∀p∈cs.zip ds,zC h K p.1 p.2):zC h K (.tup cs) (.tup ds)
 | sub {x y j sh} (hp:x.part j sh=some y) (hy:0<y.cells.length):zC h K (.ept x j) (.ept y 0)
mutual
def AV.leaf:AV->Bool
 |.ptr _ _ _ |.slice _ _ _ _ _ |.map _ |.any |.lst _ _ _ |.ept _ _=>false
 |.agg xs |.tup xs |.fn _ xs=>AV.leafs xs
 |.iface _ x=>AV.leaf x
 | _=>true
def AV.leafs:List AV->Bool
 |[]=>true
 | x::xs=>AV.leaf x&&AV.leafs xs
end
mutual
def AV.nol:AV->Bool
 |.any |.lst _ (_::_) _ |.ept _ _=>false
 |.agg xs |.tup xs |.fn _ xs=>AV.nols xs
 |.iface _ x=>AV.nol x
 | _=>true
def AV.nols:List AV->Bool
 |[]=>true
 | x::xs=>AV.nol x&&AV.nols xs
end
def qA.nol:qA->Bool
 |.row _ el rw=>rw&&AV.nols el
 |.dead=>true
 |.map es=>AV.nols (es.map (·.1))&&AV.nols (es.map (·.2))
def AH.join(h h':AH)(S:List Nat):AH where
 f:=λi=>if (h.f i).isSome then h.f i else if S.contains i then h'.f i else none
 tb:=λi=>h.tb i || h'.tb i || ((h'.f i).isSome&&(h.f i).isNone&& !S.contains i)
 fin:=by
  obtain⟨n,hn⟩:=h.fin;obtain⟨n',hn'⟩:=h'.fin;refine⟨max n n',λi hi=>?_⟩;obtain⟨h1,h2⟩:=hn i (by omega);obtain⟨h3,h4⟩:=hn' i (by omega);simp[h1,h2,h3,h4]
def All(h:AH)(K:List Nat):Prop:=∀id,K.contains id=true↔∃o,h id=some o/\o.wr=true
def Rows(h:AH)(K:List Nat):Prop:=∀id,K.contains id=true->∃o,h id=some o/\o.wr=true
mutual
def AV.tree:AV->Bool
 |.ptr _ _ _ |.slice _ _ _ _ _ |.map _ |.any=>false
 |.lst _ xs _ |.agg xs |.tup xs |.fn _ xs=>AV.trees xs
 |.ept x _ |.iface _ x=>AV.tree x
 | _=>true
def AV.trees:List AV->Bool
 |[]=>true
 | x::xs=>AV.tree x&&AV.trees xs
end
structure Frz(K:List Nat)(st st':St):Prop where
 rows:Rows st.h K
 s:∀t v,lk st'.s t=some v->∃v0,lk st.s t=some v0/\zC st.h K v0 v
 l:∀t v,lk st'.l t=some v->∃v0,lk st.l t=some v0/\zC st.h K v0 v
 h:st'.h=st.h.kill K
inductive Ex(Γ:Nat->Option AFn):Nat->Job->Out->Prop
 | nil {k st}:Ex Γ k (.ops [] st) (.st .nrm st)
 | skip {k c l st r} (hw:zM st.s c.g=some false) (h:Ex Γ k (.ops l (st.put c.d .undef)) r):Ex Γ k (.ops (c::l) st) r
 | step {k c l st st' r} (hw:zM st.s c.g=some true) (hs:Step c.o c.d st st') (hc:Checks st' c.ck) (h:Ex Γ k (.ops l st') r):Ex Γ k (.ops (c::l) st) r
 | call {k c l st g as v h' r} (hw:zM st.s c.g=some true) (he:jD st.s c.o=some (g,as)) (hk:Ex Γ k (.call g as st.h) (.res (.ok v) h'))
   (hc:Checks ({st with h:=h'}.put c.d v) c.ck) (h:Ex Γ k (.ops l ({st with h:=h'}.put c.d v)) r):Ex Γ k (.ops (c::l) st) r
 | callP {k c l st g as v h'} (hw:zM st.s c.g=some true) (he:jD st.s c.o=some (g,as)) (hk:Ex Γ k (.call g as st.h) (.res (.pan v) h')):
   Ex Γ k (.ops (c::l) st) (.st (.pan v) {st with h:=h'})
 | panic {k c l st x t v} (hw:zM st.s c.g=some true) (he:c.o=.panic x) (hv:ev st.s x=some (.iface t v)):Ex Γ k (.ops (c::l) st) (.st (.pan (.iface t v)) st)
 | cskip {k st}:Ex Γ k (.code .skip st) (.st .nrm st)
 | reg {k pan l st e st'} (h:Ex Γ k (.ops l st) (.st e st')) (hp:pan=true\/e=.nrm):Ex Γ k (.code (.reg pan l) st) (.st e st')
 | seqN {k a b st st' r} (h:Ex Γ k (.code a st) (.st .nrm st')) (h':Ex Γ k (.code b st') r):Ex Γ k (.code (.seq a b) st) r
 | seqX {k a b st e st'} (h:Ex Γ k (.code a st) (.st e st')) (he:e≠.nrm):Ex Γ k (.code (.seq a b) st) (.st e st')
 | cond {k c a b st t r} (hc:ev st.s c=some (.bool t)) (h:Ex Γ k (.code (if t then a else b) st) r):Ex Γ k (.code (.cond c a b) st) r
 | blk {k n a st e st'} (h:Ex Γ k (.code a st) (.st e st')):Ex Γ k (.code (.blk n a) st) (.st (Zc n e) st')
 | loopN {k a st st' r} (h:Ex Γ k (.code a st) (.st .nrm st')) (h':Ex Γ k (.code (.loop a) st') r):Ex Γ k (.code (.loop a) st) r
 | loopX {k a st e st'} (h:Ex Γ k (.code a st) (.st e st')) (he:e≠.nrm):Ex Γ k (.code (.loop a) st) (.st e st')
 | exit {k n st}:Ex Γ k (.code (.exit n) st) (.st (.exit n) st)
 | ret {k st}:Ex Γ k (.code .ret st) (.st .ret st)
 | fn {k g F as h st e vs} (hg:Γ g=some (.fn F)) (hn:as.length=F.np) (hb:Ex Γ k (.code F.body {s:=params 0 as,l:=Env.empty,h:=h}) (.st e st)) (he:e=.nrm\/e=.ret)
   (hr:jM st F.res=some vs):Ex Γ (k+1) (.call g as h) (.res (.ok (jS vs)) st.h)
 | fnP {k g F as h st v} (hg:Γ g=some (.fn F)) (hn:as.length=F.np) (hb:Ex Γ k (.code F.body {s:=params 0 as,l:=Env.empty,h:=h}) (.st (.pan v) st)):
   Ex Γ (k+1) (.call g as h) (.res (.pan v) st.h)
 | ext {k g R as h r h'} (hg:Γ g=some (.ext R)) (hr:R as h r h'):Ex Γ k (.call g as h) (.res r h')
 | frz {k c st st' r} (K:List Nat) (hf:Frz K st st') (h:Ex Γ k (.code c st') r):Ex Γ k (.code c st) r
 | cvh {k c st r} (K:List Nat) (id w:Nat) (el el':List AV) (rw':Bool) (hK:Rows st.h K) (hid:K.contains id=false) (ho:st.h id=some (.row w el rw')) (hl:el.length=el'.length) (hc:∀p∈el.zip el',zC st.h K p.1 p.2)
   (h:Ex Γ k (.code c {st with h:=(st.h.kill K).upd id (.row w el' rw')}) r):Ex Γ k (.code c st) r
 | frzA {k g as as' h r} (K:List Nat) (hK:Rows h K) (hl:as.length=as'.length) (hc:∀p∈as.zip as',zC h K p.1 p.2) (hx:Ex Γ k (.call g as' (h.kill K)) r):Ex Γ k (.call g as h) r
 | frzR {k g as h v v' h'} (K:List Nat) (hK:Rows h' K) (hc:zC h' K v v') (hx:Ex Γ k (.call g as h) (.res (.ok v) h')):Ex Γ k (.call g as h) (.res (.ok v') (h'.kill K))
 | brw {k g as as' h v h'} (K:List Nat) (hK:All h K) (hl:as.length=as'.length) (hc:∀p∈as.zip as',zC h K p.1 p.2) (ht:v.leaf=true)
   (hx:Ex Γ k (.call g as' (h.kill K)) (.res (.ok v) h')):Ex Γ k (.call g as h) (.res (.ok v) (h.tomb h'))
 | brn {k g as as' h v h'} (K S:List Nat) (hK:All h K) (hl:as.length=as'.length) (hc:∀p∈as.zip as',zC h K p.1 p.2) (hv:v.nol=true) (hn:∀id o,S.contains id=true->h id=none->h' id=some o->o.nol=true)
   (hx:Ex Γ k (.call g as' (h.kill K)) (.res (.ok v) h')):Ex Γ k (.call g as h) (.res (.ok v) (h.join h' S))
 | nilc {k g w c h v h1 h2} (id:Nat) (hid:h.fr id) (hh1:∀i o,h i=some o->h1 i=some o) (hh2:∀i o,(h.upd id .dead) i=some o->h2 i=some o) (ht:v.tree=true)
   (hx1:Ex Γ k (.call g [.nils] h) (.res (.ok v) h1)) (hx2:Ex Γ k (.call g [.slice w id 0 0 false] (h.upd id .dead)) (.res (.ok v) h2)):Ex Γ k (.call g [.lst w [] c] h) (.res (.ok v) ((h.tomb h1).tomb h2))
 | drop {k g as h v h'} (hh:∀id o,h id=some o->h' id=some o) (ht:v.tree=true) (hx:Ex Γ k (.call g as h) (.res (.ok v) h')):Ex Γ k (.call g as h) (.res (.ok v) (h.tomb h'))
 | trim {k g as h r h' id w el rw} (n:Nat) (ho:h' id=some (.row w el rw)) (hx:Ex Γ k (.call g as h) (.res r h')):Ex Γ k (.call g as h) (.res r (h'.upd id (.row w (el.take n) rw)))
theorem AH.upd_comm(h:AH){i j:Nat}(o o':qA)(e:i≠j):(h.upd i o).upd j o'=(h.upd j o').upd i o:=by
 apply AH.ext'
 ·intro k;simp only[AH.upd_apply];by_cases h1:k=j<;>by_cases h2:k=i<;>simp_all
 ·intro k;rfl
theorem AH.get_upd{h:AH}{id k:Nat}{o o':qA}(hn:h id=none)(hk:h k=some o'):(h.upd id o) k=some o':=by
 rw[AH.upd_ne _ _ (by rintro rfl;rw[hn]at hk;cases hk)];exact hk
theorem AH.fresh_upd{h:AH}{id k:Nat}{o:qA}(hk:h.fr k)(e:k≠id):(h.upd id o).fr k:=
 ⟨by rw[AH.upd_ne _ _ e];exact hk.1,hk.2⟩
theorem AH.fr_ne{h:AH}{id k:Nat}{o:qA}(hk:(h.upd k o).fr id):id≠k:=by
 rintro rfl;have:=hk.1;rw[AH.upd_same]at this;cases this
theorem AH.fr_of{h:AH}{id k:Nat}{o:qA}(hk:(h.upd k o).fr id):h.fr id:=
 ⟨by have:=hk.1;rwa[AH.upd_ne _ _ (AH.fr_ne hk)]at this,hk.2⟩
theorem AH.kill_at(h:AH)(K:List Nat)(i:Nat):h.kill K i=if K.contains i then some .dead else h i:=rfl
theorem AH.fr_kill{h:AH}{K:List Nat}{id:Nat}(hk:(h.kill K).fr id):h.fr id/\K.contains id=false:=by
 obtain⟨h1,h2⟩:=hk;rw[AH.kill_at]at h1;split at h1
 ·cases h1
 ·rename_i hc;exact⟨⟨h1,h2⟩,by simpa using hc⟩
theorem AH.kill_upd{h:AH}{K:List Nat}{id:Nat}{o:qA}(hk:K.contains id=false):(h.upd id o).kill K=(h.kill K).upd id o:=by
 apply AH.ext'
 ·intro i;rw[AH.kill_at,AH.upd_apply,AH.upd_apply,AH.kill_at];by_cases e:i=id
  ·subst e;rw[iN (by rw[hk];simp),iP rfl,iP rfl]
  ·rw[iN e,iN e]
 ·intro i;rfl
theorem AH.fr_tomb{h h':AH}{id:Nat}(hk:(h.tomb h').fr id):h'.fr id:=by
 obtain⟨h1,h2⟩:=hk;have h1':h.f id=none:=h1;have h2':(h.tb id || h'.tb id || ((h'.f id).isSome&&(h.f id).isNone))=false:=h2;rw[h1']at h2';simp only[Option.isNone_none,Bool.and_true,Bool.or_eq_false_iff]at h2';exact⟨by simpa using h2'.2,h2'.1.2⟩
theorem AH.fr_tomb'{h h':AH}{id:Nat}(hk:(h.tomb h').fr id):h.fr id:=by
 obtain⟨h1,h2⟩:=hk;have h2':(h.tb id || h'.tb id || ((h'.f id).isSome&&(h.f id).isNone))=false:=h2;simp only[Bool.or_eq_false_iff]at h2';exact⟨h1,h2'.1.1⟩
theorem AH.fr_join{h h':AH}{S:List Nat}{id:Nat}(hk:(h.join h' S).fr id):h.fr id/\h'.fr id:=by
 obtain⟨h1,h2⟩:=hk;have h1':(if (h.f id).isSome then h.f id else if S.contains id then h'.f id else none)=none:=h1;have h2':(h.tb id || h'.tb id || ((h'.f id).isSome&&(h.f id).isNone&& !S.contains id))=false:=h2;simp only[Bool.or_eq_false_iff]at h2';split at h1'
 ·rename_i q;rw[h1']at q;cases q
 ·rename_i q;have q':h.f id=none:=by simpa using q
  refine⟨⟨q',h2'.1.1⟩, ?_,h2'.1.2⟩;split at h1'
  ·exact h1'
  ·rename_i q2;have:=h2'.2;rw[q']at this;simp only[Bool.not_eq_true]at q2;rw[q2]at this;simpa using this
theorem AH.join_upd{h h':AH}{S:List Nat}{id:Nat}{o o':qA}(hn:h'.fr id):(h.upd id o).join (h'.upd id o') S=(h.join h' S).upd id o:=by
 apply AH.ext'
 ·intro i;show (if ((h.upd id o) i).isSome then(h.upd id o) i else if S.contains i then(h'.upd id o') i else none)=((h.join h' S).upd id o) i;by_cases e:i=id
  ·subst e;simp[AH.upd_same]
  ·rw[AH.upd_ne _ _ e,AH.upd_ne _ _ e,AH.upd_ne _ _ e];rfl
 ·intro i;show (h.tb i || h'.tb i || (((h'.upd id o') i).isSome&&((h.upd id o) i).isNone&& !S.contains i))=(h.tb i || h'.tb i || ((h' i).isSome&&(h i).isNone&& !S.contains i));by_cases e:i=id
  ·subst e;rw[AH.upd_same,AH.upd_same,hn.1];simp
  ·rw[AH.upd_ne _ _ e,AH.upd_ne _ _ e]
theorem AH.join_old'{h h':AH}{S:List Nat}{i:Nat}{o:qA}(ho:h i=some o):(h.join h' S) i=some o:=by
 show (if (h.f i).isSome then h.f i else if S.contains i then h'.f i else none)=some o;rw[show h.f i=some o from ho];rfl
theorem AH.join_new'{h h':AH}{S:List Nat}{i:Nat}(ho:h i=none):(h.join h' S) i=if S.contains i then h' i else none:=by
 show (if (h.f i).isSome then h.f i else if S.contains i then h'.f i else none)=_;rw[show h.f i=none from ho];rfl
theorem AH.tomb_upd{h h':AH}{id:Nat}{o:qA}(hn:h'.fr id):(h.upd id o).tomb (h'.upd id o)=(h.tomb h').upd id o:=by
 apply AH.ext'
 ·intro i;rfl
 ·intro i;show (h.tb i || h'.tb i || (((h'.upd id o) i).isSome&&((h.upd id o) i).isNone))=(h.tb i || h'.tb i || ((h' i).isSome&&(h i).isNone));by_cases e:i=id
  ·subst e;rw[AH.upd_same,AH.upd_same,hn.1];simp
  ·rw[AH.upd_ne _ _ e,AH.upd_ne _ _ e]
theorem AH.tomb_upd2{h h':AH}{id:Nat}{o o':qA}(hn:h'.fr id):(h.upd id o).tomb (h'.upd id o')=(h.tomb h').upd id o:=by
 apply AH.ext'
 ·intro i;rfl
 ·intro i;show (h.tb i || h'.tb i || (((h'.upd id o') i).isSome&&((h.upd id o) i).isNone))=(h.tb i || h'.tb i || ((h' i).isSome&&(h i).isNone));by_cases e:i=id
  ·subst e;rw[AH.upd_same,AH.upd_same,hn.1];simp
  ·rw[AH.upd_ne _ _ e,AH.upd_ne _ _ e]
theorem qGH{h:AH}{id:Nat}{o:qA}{v:AV}{es:List (AV×AV)}(hn:h id=none)(he:wh h v=some es):wh (h.upd id o) v=some es:=by
 unfold wh at he|-;split at he
 ·exact he
 ·rename_i k;cases hk:h k with
  | none=>simp[hk]at he
  | some q=>simp only[AH.get_upd hn hk];simpa[hk]using he
 ·cases he
theorem JX{h:AH}{id:Nat}{o:qA}{v:AV}{es:List AV}(hn:h id=none)(he:z9 h v=some es):z9 (h.upd id o) v=some es:=by
 unfold z9 at he|-;split at he
 ·exact he
 ·rename_i k _ _ _;split at he
  ·rename_i q;rw[iP q];exact he
  rename_i q;rw[iN q];cases hk:h k with
  | none=>simp[hk]at he
  | some q=>simp only[AH.get_upd hn hk];simpa[hk]using he
 ·exact he
 ·exact he
 ·cases he
theorem YG{c:AOp}{s l:Env}{h:AH}{id:Nat}{o:qA}{v:AV}(hn:h id=none)(hv:val c s l h=some v):val c s l (h.upd id o)=some v:=by
 cases c<;>first
  | exact hv
  | skip
 case slcx w x lo hi=>
  simp only[val]at hv|-;split at hv
  ·rename_i w' k off len hp;cases hk:h k with
   | none=>simp[hk]at hv
   | some q=>simp only[AH.get_upd hn hk];simpa[hk]using hv
  ·cases hv
 case load sh p=>
  simp only[val]at hv|-;split at hv
  ·rename_i k i j hp;cases hk:h k with
   | none=>simp[hk]at hv
   | some q=>simp only[AH.get_upd hn hk];simpa[hk]using hv
  ·exact hv
  ·cases hv
 case mlen x=>
  simp only[val]at hv|-;cases he:ev s x with
  | none=>simp[he]at hv
  | some q=>
   cases hq:wh h q with
   | none=>simp[he,hq]at hv
   | some es=>simp only[oBs,qGH hn hq];simpa[he,hq]using hv
 case look z m k ok=>
  simp only[val]at hv|-;split at hv
  ·rename_i m' k' hm hk;cases hq:wh h m' with
   | none=>simp[hq]at hv
   | some es=>simp only[qGH hn hq];simpa[hq]using hv
  ·cases hv
def St.up(st:St)(id:Nat)(o:qA):St:={st with h:=st.h.upd id o}
theorem New.up{st st':St}{d:Option Nat}{ob:qA}{v:Nat->AV}{id:Nat}{o:qA}(h:New st d ob v st')(hn:st'.h.fr id):st.h.fr id/\New (st.up id o) d ob v (st'.up id o):=by
 obtain⟨k,hk,rfl⟩:=h;have hne:id≠k:=AH.fr_ne (h:=st.h) hn;have hn':st.h.fr id:=AH.fr_of (h:=st.h) hn;refine⟨hn',k,AH.fresh_upd hk (Ne.symm hne), ?_⟩;simp only[St.up];rw[AH.upd_comm _ _ _ (Ne.symm hne)]
theorem App.up{w:Nat}{x y:AV}{st st':St}{d:Option Nat}{id:Nat}{o:qA}(h:App w x y st d st')(hn:st'.h.fr id):st.h.fr id/\App w x y (st.up id o) d (st'.up id o):=by
 obtain⟨ys,h1,h2,h3⟩:=h;cases x<;>try (exact h3.elim)
 case nils=>
  simp only at h3;split at h3
  ·rename_i h0;subst h3;exact⟨hn,ys,JX hn.1 h1,h2,by simp only;rw[iP h0];rfl⟩
  ·rename_i h0;obtain⟨q1,q2⟩:=h3.2.up (o:=o) hn;exact⟨q1,ys,JX q1.1 h1,h2,by simp only;rw[iN h0];exact⟨h3.1,q2⟩⟩
 case slice w' k off len clip=>
  obtain⟨rfl,h3⟩:=h3;split at h3
  ·rename_i h0;subst h3;exact⟨hn,ys,JX hn.1 h1,h2,rfl,by rw[iP h0];rfl⟩
  ·rename_i h0;obtain⟨hl,xs,h4,h5⟩:=h3;split at h5
   ·rename_i hc;obtain⟨q1,q2⟩:=h5.up (o:=o) hn;exact⟨q1,ys,JX q1.1 h1,h2,rfl,by rw[iN h0];exact⟨hl,xs,JX q1.1 h4,by rw[iP hc];exact q2⟩⟩
   ·rename_i hc;obtain⟨⟨el,hel⟩,h6⟩:=h5;obtain⟨q1,q2⟩:=h6.up (o:=o) hn;have hne:id≠k:=AH.fr_ne (h:=st.h) q1;have q3:st.h.fr id:=AH.fr_of (h:=st.h) q1;refine⟨q3,ys,JX q3.1 h1,h2,rfl, ?_⟩;rw[iN h0];refine⟨hl,xs,JX q3.1 h4, ?_⟩;rw[iN hc];refine⟨⟨el,AH.get_upd q3.1 hel⟩, ?_⟩;have e:({st.up id o with h:=(st.up id o).h.upd k .dead}:St)=St.up {st with h:=st.h.upd k .dead} id o:=by
     simp only[St.up];rw[AH.upd_comm _ _ _ hne]
    rw[e];exact q2
 case lst w' xs clip=>
  obtain⟨rfl,h3⟩:=h3;split at h3
  ·rename_i h0;subst h3;exact⟨hn,ys,JX hn.1 h1,h2,rfl,by rw[iP h0];rfl⟩
  ·rename_i h0;obtain⟨hl,hc,h5⟩:=h3;obtain⟨q1,q2⟩:=h5.up (o:=o) hn;exact⟨q1,ys,JX q1.1 h1,h2,rfl,by rw[iN h0];exact⟨hl,hc,q2⟩⟩
theorem AppX.up{w:Nat}{x y:AV}{d:Option Nat}{st st':St}{id:Nat}{o:qA}(h:AppX w x y st d st')(hn:st'.h.fr id):st.h.fr id/\AppX w x y (st.up id o) d (st'.up id o):=by
 obtain⟨ys,k,off,len,el,h1,h2,rfl,hel,h3,h6⟩:=h;obtain⟨q1,q2⟩:=h6.up (o:=o) hn;have hne:id≠k:=AH.fr_ne (h:=st.h) q1;have q3:st.h.fr id:=AH.fr_of (h:=st.h) q1;refine⟨q3,ys,k,off,len,el,JX q3.1 h1,h2,rfl,AH.get_upd q3.1 hel,h3, ?_⟩;have e:({st.up id o with h:=(st.up id o).h.upd k .dead}:St)=St.up {st with h:=st.h.upd k .dead} id o:=by
  simp only[St.up];rw[AH.upd_comm _ _ _ hne]
 rw[e];exact q2
theorem Step.up{c:AOp}{d:Option Nat}{st st':St}{id:Nat}{o:qA}(h:Step c d st st')(hn:st'.h.fr id):st.h.fr id/\Step c d (st.up id o) (st'.up id o):=by
 cases c
 case lalloc z=>obtain⟨t,h1,rfl⟩:=h;exact⟨hn,t,h1,rfl⟩
 case lbox k x=>obtain⟨t,v,h1,h2,h3,rfl⟩:=h;exact⟨hn,t,v,h1,h2,h3,rfl⟩
 case lstore t off k x=>obtain⟨a,v,c',h1,h2,h3,h4,rfl⟩:=h;exact⟨hn,a,v,c',h1,h2,h3,h4,rfl⟩
 case halloc w z=>exact New.up h hn
 case hbox w x=>obtain⟨v,h1,h2,h3⟩:=h;obtain⟨q1,q2⟩:=h3.up (o:=o) hn;exact⟨q1,v,h1,h2,q2⟩
 case bslice w z n ps=>obtain⟨el,h1,h3⟩:=h;obtain⟨q1,q2⟩:=h3.up (o:=o) hn;exact⟨q1,el,h1,q2⟩
 case mksl w z l c=>obtain⟨k,k',x,y,h1,h2,h3,h4,h5,h6⟩:=h;obtain⟨q1,q2⟩:=h6.up (o:=o) hn;exact⟨q1,k,k',x,y,h1,h2,h3,h4,h5,q2⟩
 case store k p x=>
  obtain⟨j,i,q,v,w,el,e,e',h1,h2,h3,h4,h5,h6,rfl⟩:=h;have hne:id≠j:=AH.fr_ne (h:=st.h) hn;have hn':st.h.fr id:=AH.fr_of (h:=st.h) hn;refine⟨hn',j,i,q,v,w,el,e,e',h1,h2,h3,AH.get_upd hn'.1 h4,h5,h6, ?_⟩;simp only[St.up];rw[AH.upd_comm _ _ _ (Ne.symm hne)]
 case app w x y=>obtain⟨a,b,h1,h2,h3⟩:=h;obtain⟨q1,q2⟩:=h3.up (o:=o) hn;exact⟨q1,a,b,h1,h2,q2⟩
 case appx w x y=>obtain⟨a,b,h1,h2,h3⟩:=h;obtain⟨q1,q2⟩:=h3.up (o:=o) hn;exact⟨q1,a,b,h1,h2,q2⟩
 case clear w z x=>
  obtain⟨a,xs,h1,h3,h6⟩:=h;cases a<;>try (exact h6.elim)
  case nils=>subst h6;exact⟨hn,_,xs,h1,JX hn.1 h3,rfl⟩
  case slice w' j off len clip=>
   obtain⟨rfl,el,h7,rfl⟩:=h6;have hne:id≠j:=AH.fr_ne (h:=st.h) hn;have hn':st.h.fr id:=AH.fr_of (h:=st.h) hn;refine⟨hn',_,xs,h1,JX hn'.1 h3,rfl,el,AH.get_upd hn'.1 h7, ?_⟩;simp only[St.up];rw[AH.upd_comm _ _ _ (Ne.symm hne)]
 case mkmap=>exact New.up h hn
 case mupd m k v=>
  obtain⟨j,k',v',es,h1,h2,h3,h4,h5⟩:=h;split at h5
  ·rename_i hf;subst h5;have hne:id≠j:=AH.fr_ne (h:=st.h) hn;have hn':st.h.fr id:=AH.fr_of (h:=st.h) hn;refine⟨hn',j,k',v',es,h1,h2,h3,AH.get_upd hn'.1 h4, ?_⟩;rw[hf];simp only[St.up];rw[AH.upd_comm _ _ _ (Ne.symm hne)]
  ·rename_i hf;subst h5;have hne:id≠j:=AH.fr_ne (h:=st.h) hn;have hn':st.h.fr id:=AH.fr_of (h:=st.h) hn;refine⟨hn',j,k',v',es,h1,h2,h3,AH.get_upd hn'.1 h4, ?_⟩;rw[hf];simp only[St.up];rw[AH.upd_comm _ _ _ (Ne.symm hne)]
  ·exact h5.elim
 case call=>exact h.elim
 case callv=>exact h.elim
 case panic=>exact h.elim
 all_goals
  obtain⟨v,h1,rfl⟩:=h;exact⟨hn,v,YG hn.1 h1,rfl⟩
theorem Again.up{st:St}{c:qC}{id:Nat}{o:qA}(hn:st.h id=none)(h:Again st c):Again (st.up id o) c:=by
 unfold Again at h|-;simp only[St.up];split at h
 ·obtain⟨d,v,h1,h2,h3⟩:=h;exact⟨d,v,h1,h2,YG hn h3⟩
 ·trivial
 ·exact h.elim
theorem Checks.up{st:St}{id:Nat}{o:qA}(hn:st.h id=none):∀{l:List qC},Checks st l->Checks (st.up id o) l
 |[],_=>trivial
 | _::_,h=>⟨h.1.up hn,Checks.up hn h.2⟩
def Job.up(j:Job)(id:Nat)(o:qA):Job:=match j with
 |.ops l st=>.ops l (st.up id o)
 |.code c st=>.code c (st.up id o)
 |.call g as h=>.call g as (h.upd id o)
def Job.h:Job->AH
 |.ops _ st=>st.h
 |.code _ st=>st.h
 |.call _ _ h=>h
def Out.up(r:Out)(id:Nat)(o:qA):Out:=match r with
 |.st e q=>.st e (q.up id o)
 |.res r h=>.res r (h.upd id o)
def Out.h:Out->AH
 |.st _ q=>q.h
 |.res _ h=>h
def GOK(Γ:Nat->Option AFn):Prop:=∀g R,Γ g=some (.ext R)->∀as h r h',R as h r h'->∀id o,h'.fr id->h.fr id/\R as (h.upd id o) r (h'.upd id o)
theorem zC.up{h:AH}{K:List Nat}{id:Nat}{o:qA}(hn:h id=none){v v':AV}(hc:zC h K v v'):zC (h.upd id o) K v v':=by
 induction hc with
 | refl v=>exact .refl v
 | nil=>exact .nil
 | nils=>exact .nils
 | slc hK ho hl hw hs _ ih=>exact .slc hK (AH.get_upd hn ho) hl hw hs (λp hp=>ih p hp)
 | ptr hK ho hw he _ ih=>exact .ptr hK (AH.get_upd hn ho) hw he ih
 | lst hl _ ih=>exact .lst hl (λp hp=>ih p hp)
 | clip=>exact .clip
 | agg hl _ ih=>exact .agg hl (λp hp=>ih p hp)
 | fn hl _ ih=>exact .fn hl (λp hp=>ih p hp)
 | tup hl _ ih=>exact .tup hl (λp hp=>ih p hp)
 | sub hp hy=>exact .sub hp hy
theorem Rows.up{h:AH}{K:List Nat}{id:Nat}{o:qA}(hn:h id=none)(hr:Rows h K):Rows (h.upd id o) K:=λi hi=>let ⟨w,q,el⟩:=hr i hi;⟨w,AH.get_upd hn q,el⟩
theorem zC.upK{h:AH}{K K':List Nat}(hk:∀id,K.contains id=true->K'.contains id=true){v v':AV}(hc:zC h K v v'):zC h K' v v':=by
 induction hc with
 | refl v=>exact .refl v
 | nil=>exact .nil
 | nils=>exact .nils
 | slc hK ho hl hw hs _ ih=>exact .slc (hk _ hK) ho hl hw hs (λp hp=>ih p hp)
 | ptr hK ho hw he _ ih=>exact .ptr (hk _ hK) ho hw he ih
 | lst hl _ ih=>exact .lst hl (λp hp=>ih p hp)
 | clip=>exact .clip
 | agg hl _ ih=>exact .agg hl (λp hp=>ih p hp)
 | fn hl _ ih=>exact .fn hl (λp hp=>ih p hp)
 | tup hl _ ih=>exact .tup hl (λp hp=>ih p hp)
 | sub hp hy=>exact .sub hp hy
theorem All.up{h:AH}{K:List Nat}{id:Nat}{o:qA}(hn:h.fr id)(hr:All h K):All (h.upd id o) (if o.wr then id::K else K)/\(h.upd id o).kill (if o.wr then id::K else K)=(h.kill K).upd id (if o.wr then .dead else o):=by
 have hk:K.contains id=false:=by
  cases hq:K.contains id with
  | false=>rfl
  | true=>obtain⟨o',h1,_⟩:=(hr id).1 hq;rw[hn.1]at h1;cases h1
 constructor
 ·intro i;by_cases e:i=id
  ·subst e;rw[AH.upd_same];cases ho:o.wr
   ·simp only[bFt,if_false,hk,oSi,false_iff];rintro⟨o',rfl,h2⟩;rw[ho]at h2;cases h2
   ·simp[ho]
  ·rw[AH.upd_ne _ _ e,<-hr i];cases ho:o.wr
   ·simp
   ·simp[e]
 ·apply AH.ext'
  ·intro i;show (if (if o.wr then id::K else K).contains i then some .dead else(h.upd id o) i)=if i=id then some (if o.wr then .dead else o)else(if K.contains i then some .dead else h i);by_cases e:i=id
   ·subst e;cases ho:o.wr
    ·simp only[bFt,if_false,hk,if_true,AH.upd_same]
    ·simp
   ·cases ho:o.wr
    ·simp[e,AH.upd_ne]
    ·simp[e,AH.upd_ne]
  ·intro i;rfl
theorem Ex.up{Γ:Nat->Option AFn}(hG:GOK Γ){k:Nat}{j:Job}{r:Out}(h:Ex Γ k j r):∀(id:Nat)(o:qA),r.h.fr id->j.h.fr id/\Ex Γ k (j.up id o) (r.up id o):=by
 induction h with
 | nil=>exact λid o hn=>⟨hn,.nil⟩
 | skip hw _ ih=>exact λid o hn=>let ⟨h1,h2⟩:=ih id o hn;⟨h1,.skip hw h2⟩
 | step hw hs hc _ ih=>
  intro id o hn;obtain⟨h1,h2⟩:=ih id o hn;obtain⟨h3,h4⟩:=Step.up (o:=o) hs h1;exact⟨h3,.step hw h4 (hc.up h1.1) h2⟩
 | call hw he _ hc _ ih1 ih2=>
  intro id o hn;obtain⟨h1,h2⟩:=ih2 id o hn;obtain⟨h3,h4⟩:=ih1 id o h1;exact⟨h3,.call hw he h4 (Checks.up (o:=o) h1.1 hc) h2⟩
 | callP hw he _ ih=>
  intro id o hn;obtain⟨h3,h4⟩:=ih id o hn;exact⟨h3,.callP hw he h4⟩
 | panic hw he hv=>exact λid o hn=>⟨hn,.panic hw he hv⟩
 | cskip=>exact λid o hn=>⟨hn,.cskip⟩
 | reg _ hp ih=>exact λid o hn=>let ⟨h1,h2⟩:=ih id o hn;⟨h1,.reg h2 hp⟩
 | seqN _ _ ih1 ih2=>
  intro id o hn;obtain⟨h1,h2⟩:=ih2 id o hn;obtain⟨h3,h4⟩:=ih1 id o h1;exact⟨h3,.seqN h4 h2⟩
 | seqX _ he ih=>exact λid o hn=>let ⟨h1,h2⟩:=ih id o hn;⟨h1,.seqX h2 he⟩
 | cond hc _ ih=>exact λid o hn=>let ⟨h1,h2⟩:=ih id o hn;⟨h1,.cond hc h2⟩
 | blk _ ih=>exact λid o hn=>let ⟨h1,h2⟩:=ih id o hn;⟨h1,.blk h2⟩
 | loopN _ _ ih1 ih2=>
  intro id o hn;obtain⟨h1,h2⟩:=ih2 id o hn;obtain⟨h3,h4⟩:=ih1 id o h1;exact⟨h3,.loopN h4 h2⟩
 | loopX _ he ih=>exact λid o hn=>let ⟨h1,h2⟩:=ih id o hn;⟨h1,.loopX h2 he⟩
 | exit=>exact λid o hn=>⟨hn,.exit⟩
 | ret=>exact λid o hn=>⟨hn,.ret⟩
 | fn hg hn' hb he hr ih=>
  intro id o hn;obtain⟨h1,h2⟩:=ih id o hn;refine⟨h1,.fn hg hn' h2 he ?_⟩;exact resAll_up hn.1 hr
 | fnP hg hn' _ ih=>exact λid o hn=>let ⟨h1,h2⟩:=ih id o hn;⟨h1,.fnP hg hn' h2⟩
 | ext hg hr=>exact λid o hn=>let ⟨h1,h2⟩:=hG _ _ hg _ _ _ _ hr id o hn;⟨h1,.ext hg h2⟩
 | @frz k c st st' r K hf _ ih=>
  intro id o hn;obtain⟨h1,h2⟩:=ih id o hn;have h1':(st.h.kill K).fr id:=by rw[<-hf.h];exact h1
  obtain⟨h3,h4⟩:=AH.fr_kill h1';refine⟨h3,.frz (st':=st'.up id o) K ⟨hf.rows.up h3.1,λt v hv=>?_,λt v hv=>?_, ?_⟩ h2⟩
  ·obtain⟨v0,q1,q2⟩:=hf.s t v hv;exact⟨v0,q1,q2.up h3.1⟩
  ·obtain⟨v0,q1,q2⟩:=hf.l t v hv;exact⟨v0,q1,q2.up h3.1⟩
  ·simp only[St.up];rw[hf.h,AH.kill_upd h4]
 | @cvh k c st r K i w el el' rw' hK hid ho hl hc _ ih=>
  intro id o hn;obtain⟨h1,h2⟩:=ih id o hn;have hne:id≠i:=AH.fr_ne (h:=st.h.kill K) (by simpa[Job.h]using h1);obtain⟨h3,h4⟩:=AH.fr_kill (AH.fr_of (h:=st.h.kill K) (by simpa[Job.h]using h1));refine⟨h3,.cvh (st:=st.up id o) K i w el el' rw' (hK.up h3.1) hid (by simp only[St.up];rw[AH.upd_ne _ _ (Ne.symm hne)];exact ho) hl (λp hp=>(hc p hp).up h3.1) ?_⟩;simp only[St.up,Job.up]at h2|-;rw[AH.kill_upd h4,AH.upd_comm _ _ _ hne];exact h2
 | frzA K hK hl hc _ ih=>
  intro id o hn;obtain⟨h1,h2⟩:=ih id o hn;obtain⟨h3,h4⟩:=AH.fr_kill h1;refine⟨h3,.frzA K (hK.up h3.1) hl (λp hp=>(hc p hp).up h3.1) ?_⟩;rw[AH.kill_upd h4];exact h2
 | @frzR k g as h v v' h' K hK hc _ ih=>
  intro id o hn;obtain⟨h3,h4⟩:=AH.fr_kill (h:=h') hn;obtain⟨h1,h2⟩:=ih id o h3;refine⟨h1, ?_⟩;simp only[Out.up];rw[<-AH.kill_upd h4];exact .frzR K (hK.up h3.1) (hc.up h3.1) h2
 | @brw k g as as' h v h' K hK hl hc ht _ ih=>
  intro id o hn;have h3:=AH.fr_tomb (h:=h) (h':=h') hn;obtain⟨h1,h2⟩:=ih id (if o.wr then .dead else o) h3;have h4:h.fr id:=(AH.fr_kill h1).1;refine⟨h4, ?_⟩;simp only[Out.up,Job.up]at h2|-;obtain⟨q1,q2⟩:=hK.up (o:=o) h4;rw[<-q2]at h2;have:=Ex.brw (if o.wr then id::K else K) q1 hl (λp hp=>((hc p hp).up h4.1).upK (λi hi=>by split<;>simp_all)) ht h2;rw[AH.tomb_upd2 h3]at this;exact this
 | @brn k g as as' h v h' K S hK hl hc hv hn' _ ih=>
  intro id o hn;obtain⟨g1,g2⟩:=AH.fr_join (h:=h) (h':=h') (S:=S) hn;obtain⟨h1,h2⟩:=ih id (if o.wr then .dead else o) g2;refine⟨g1, ?_⟩;simp only[Out.up,Job.up]at h2|-;obtain⟨q1,q2⟩:=hK.up (o:=o) g1;rw[<-q2]at h2;have:=Ex.brn (if o.wr then id::K else K) S q1 hl (λp hp=>((hc p hp).up g1.1).upK (λi hi=>by split<;>simp_all)) hv (λi o' hS hi hi'=>by
   have e:i≠id:=by rintro rfl;rw[AH.upd_same]at hi;cases hi
   rw[AH.upd_ne _ _ e]at hi hi';exact hn' i o' hS hi hi') h2
  rw[AH.join_upd g2]at this;exact this
 | @trim k g as h r h' id w el rw' n ho _ ih=>
  intro id0 o hn;have hn:(h'.upd id (.row w (el.take n) rw')).fr id0:=hn;have e:id0≠id:=by rintro rfl;have:=hn.1;rw[AH.upd_same]at this;cases this
  have hn':h'.fr id0:=⟨by have:=hn.1;rwa[AH.upd_ne _ _ e]at this,hn.2⟩;obtain⟨h1,h2⟩:=ih id0 o hn';refine⟨h1, ?_⟩;simp only[Out.up,Job.up]at h2|-;rw[AH.upd_comm _ _ _ (Ne.symm e)];exact .trim n (by rw[AH.upd_ne _ _ (Ne.symm e)];exact ho) h2
 | @nilc k g w c h v h1 h2 id hid hh1 hh2 ht _ _ ih1 ih2=>
  intro id0 o hn;have f2:h2.fr id0:=AH.fr_tomb (h:=h.tomb h1) (h':=h2) hn;have f1:h1.fr id0:=AH.fr_tomb (h:=h) (h':=h1) (AH.fr_tomb' hn);obtain⟨a1,a2⟩:=ih1 id0 o f1;obtain⟨b1,b2⟩:=ih2 id0 o f2;refine⟨a1, ?_⟩;have e:id0≠id:=by
   rintro rfl;have b3:(h.upd id0 .dead).fr id0:=b1;have b4:=b3.1;rw[AH.upd_same]at b4;cases b4
  simp only[Out.up,Job.up]at a2 b2|-;rw[<-AH.tomb_upd f2,<-AH.tomb_upd f1];refine .nilc id ⟨by rw[AH.upd_ne _ _ (Ne.symm e)];exact hid.1,hid.2⟩ (λi o' hi=>?_) (λi o' hi=>?_) ht a2 ?_
  ·by_cases q:i=id0
   ·subst q;rw[AH.upd_same]at hi|-;exact hi
   ·rw[AH.upd_ne _ _ q]at hi|-;exact hh1 i o' hi
  ·by_cases q:i=id0
   ·subst q;rw[AH.upd_ne _ _ e,AH.upd_same]at hi;rw[AH.upd_same];exact hi
   ·rw[AH.upd_ne _ _ q];refine hh2 i o' ?_;by_cases q2:i=id
    ·subst q2;rw[AH.upd_same]at hi|-;exact hi
    ·rw[AH.upd_ne _ _ q2,AH.upd_ne _ _ q]at hi;rw[AH.upd_ne _ _ q2];exact hi
  ·rw[AH.upd_comm _ _ _ e];exact b2
 | @drop k g as h v h' hh ht _ ih=>
  intro id o hn;have h3:=AH.fr_tomb (h:=h) (h':=h') hn;obtain⟨h1,h2⟩:=ih id o h3;refine⟨h1, ?_⟩;simp only[Out.up];rw[<-AH.tomb_upd h3];refine .drop (λi o' ho'=>?_) ht h2;by_cases e:i=id
  ·subst e;rw[AH.upd_same]at ho'|-;exact ho'
  ·rw[AH.upd_ne _ _ e]at ho'|-;exact hh i o' ho'
where
 resAll_up {st:St} {id:Nat} {o:qA} (hn:st.h id=none):∀{l:List jh}{vs:List AV},jM st l=some vs->jM (st.up id o) l=some vs
  |[],_,h=>h
  | x::l,vs,h=>by
   simp only[jM]at h|-;split at h
   ·rename_i v vs' h1 h2;rw[resAll_up hn h2];have:wm (st.up id o) x=some v:=by
     cases x with
     | t n=>exact h1
     | l t sh=>exact h1
     | h t sh=>
      simp only[wm,St.up]at h1|-;split at h1
      ·rename_i k i j hk;cases hq:st.h k with
       | none=>simp[hq]at h1
       | some q=>simp only[AH.get_upd hn hq];simpa[hq]using h1
      ·cases h1
    rw[this];exact h
   ·cases h
end Go.Ab
