/- Texts Tm19 .. Can13: the abstract machine, its laws and contracts of functions: lemmas for the statement. No condition. -/
import Derived.Test.YtkgbnffcaabafaaGreatDoorP8
set_option linter.unusedSimpArgs false
set_option linter.unusedVariables false
namespace Go.Ab
open Go
set_option maxRecDepth 10000
set_option maxHeartbeats 2000000
def kLo(k:Int):Int:=if k=1\/k=2 then 0 else if k=4\/k=6\/k=10 then 1 else if k=3\/k=5\/k=7 then 2 else if k=8 then 0 else if k=9 then 2 else if k=11 then 3 else 0
def kHi(k:Int):Int:=if k=1\/k=2 then 0 else if k=4\/k=6\/k=10 then 1 else if k=3\/k=5\/k=7 then 2 else if k=8 then 3 else if k=9 then 5 else if k=11 then 3 else-1
theorem kj(k:Int):k=1\/k=2\/k=3\/k=4\/k=5\/k=6\/k=7\/k=8\/k=9\/k=10\/k=11\/(¬k=1/\¬k=2/\¬k=3/\¬k=4/\¬k=5/\¬k=6/\¬k=7/\¬k=8/\¬k=9/\¬k=10/\¬k=11):=by omega
def za(t:qB):Bool:=decide (t.Kind=0)&&(decide (t.Name=[])&&decide (t.Kids.length=0))
def QS(ns:List Str)(s:Str):Nat->Int
 | 0=> -1
 | n+1=>if ns[n]?=some s then(n:Int)else QS ns s n
theorem qVH{ns:List Str}{s:Str}:∀{n:Nat},n<=ns.length->decide (0<=QS ns s n)=(ns.take n).any fun y=>y==s
 | 0,_=>by simp[QS]
 | n+1,h=>by
  have hlt:n<ns.length:=by omega
  have ht:ns.take (n+1)=ns.take n++[ns[n]]:=by rw[List.take_add_one,gEg hlt];rfl
  rw[ht,List.any_append,List.any_cons,List.any_nil,Bool.or_false,QS,gEg hlt];by_cases q:ns[n]=s
  ·simp[q]
  ·rw[if_neg (by simpa using q),qVH (by omega)];simp[q]
def jd(pre:List Str):List Str->Bool
 |[]=>true
 | x::xs=>zV x&&(!(pre.any fun y=>y==x)&&jd (pre++[x]) xs)
def qP(t:qD):Bool:=
 (if t.Kind=1\/t.Kind=4\/t.Kind=7 then zV t.Name else if t.Kind=8\/t.Kind=10 then zL t.Name else decide (t.Name=[]))&&
 ((if t.Kind=4 then zZ t.Typ else za t.Typ)&&
 ((if t.Kind=10 then decide (t.Names.length<=3)&&jd [] t.Names else decide (t.Names.length=0))&&
 (if t.Kind=2 then decide (-2147483648<=t.Num)&&decide (t.Num<=2147483647)else if t.Kind=3 then decide (1<=t.Num)&&decide (t.Num<=6)else decide (t.Num=0))))
def qX(t:qD):Bool:=(decide (kLo t.Kind<=t.Kids.length)&&decide ((t.Kids.length:Int)<=kHi t.Kind))&&qP t
theorem qg7{s m:Nat->Option AV}{h:AH}{w i:Nat}{x y:Ao}{xs:List AV}(hx:ev s x=some (.lst w xs false))(hy:ev s y=some (.int .i64 (i:Nat)))(hi:i<=xs.length):val (.slc w x none (some y) none) s m h=some (.lst w (xs.take i) false):=by
 simp[val,hx,hy,bnd,hi]
theorem qA3{E:Ev}{d:Option Nat}{l:List qA}{ks:List Fr1}{st:VSt}{Q:qS->VSt->Prop}{s m:qf}{h:List qC}{w i:Nat}{x y:Ao}{xs:List AV}(hx:ev (toE s) x=some (.lst w xs false))(hy:ev (toE s) y=some (.int .i64 (i:Nat)))(hi:i<=xs.length)(q:Put E (some (.lst w (xs.take i) false)) d l ks st Q):Put E (val (.slc w x none (some y) none) (toE s) (toE m) (toH h)) d l ks st Q:=by
 have e:=qg7 (w:=w) (m:=toE m) (h:=toH h) hx hy hi;rw[e];exact q
theorem qV9{ns:List Str}{i:Nat}(h:i<ns.length):jd (ns.take i) (ns.drop i)=(zV ns[i]&&(!((ns.take i).any fun y=>y==ns[i])&&jd (ns.take (i+1)) (ns.drop (i+1)))):=by
 have hd:ns.drop i=ns[i]::ns.drop (i+1):=by simp
 have ht:ns.take (i+1)=ns.take i++[ns[i]]:=by rw[List.take_add_one,gEg h];rfl
 rw[hd,jd,ht]
theorem qZV{k:Int}:Pure Gm 1104 [.int .i64 k] (.tup [.int .i64 (kLo k),.int .i64 (kHi k)]):=by
 refine pJ VM ?_;simp only[VM,qH,go_sem];rcases kj k with rfl | rfl | rfl | rfl | rfl | rfl | rfl | rfl | rfl | rfl | rfl | ⟨h1,h2,h3,h4,h5,h6,h7,h8,h9,h10,h11⟩
 case' inr.inr.inr.inr.inr.inr.inr.inr.inr.inr.inr=>simp only[h1,h2,h3,h4,h5,h6,h7,h8,h9,h10,h11,decide_false,go_sem]
 all_goals (try simp only[Int.reduceEq,decide_true,decide_false,go_sem])
 all_goals exact zU rfl (by simp_all[kLo,kHi])
theorem JO{t:qB}:Pure Gm 1391 [t.enc] (.bool (za t)):=by
 refine pJ Vs ?_;simp only[Vs,qH,go_sem];refine zM qB.ln ?_;simp only[go_sem];have z0:decide (((t.Kids.length:Nat):Int)=0)=decide (t.Kids.length=0):=by rw[decide_eq_decide];omega
 by_cases h1:t.Kind=0
 ·simp only[h1,decide_true,go_sem];by_cases h2:t.Name=[]
  ·simp only[h2,decide_true,go_sem,z0];exact qE rfl (by simp[za,h1,h2])
  ·simp only[dFf h2,go_sem];exact qE rfl (by simp[za,h1,h2])
 ·simp only[dFf h1,go_sem];exact qE rfl (by simp[za,h1])
theorem c729{ns:List Str}{s:Str}(hl:ns.length<=4194304):Pure Gm 729 [.lst 1 (ns.map qR) false,.str s] (.int .i64 (QS ns s ns.length)):=by
 refine pI U8 (by simp[AV.trees,AV.tree,zD shS.tree]) rfl ?_;simp only[U8,qH,go_sem];simp only[lMp,zF (n:=(ns.length:Int)-1) (by omega) (by omega),go_sem];refine Sem.loop (fun n:Nat=>n<=ns.length/\QS ns s ns.length=QS ns s n) (fun n=>(⟨[(0,.lst 1 (ns.map qR) false),(1,.str s),(5,.int .i64 ((n:Int)-1))],[],[]⟩:VSt)) (fun n=>n) ns.length (by kernel_rfl) ⟨nLr _,rfl⟩ cS ?_;rintro n ⟨hn,hI⟩;simp only[go_sem];cases n with
 | zero=>
  simp only[show decide (((0:Nat):Int)-1≥0)=false from rfl,ge_iff_le,go_sem];exact qE rfl (by rw[hI];rfl)
 | succ n=>
  have e0:((n+1:Nat):Int)-1=(n:Int):=by omega
  have e1:decide ((0:Int)<=(n:Int))=true:=dTt (by omega);have hlt:n<ns.length:=by omega
  simp only[e0,ge_iff_le,e1,gMp,gEg hlt,oMs,qR,go_sem];rw[QS,gEg hlt]at hI;by_cases q:ns[n]=s
  ·simp only[dTt q,go_sem];exact qE rfl (by rw[hI,if_pos (by rw[q])])
  ·simp only[dFf q,go_sem,zF (n:=(n:Int)-1) (by omega) (by omega)];rw[if_neg (by simpa using q)]at hI;exact qW n ⟨by omega,hI⟩ (by omega) cS
theorem qZ8{ns:List Str}(hl:ns.length<=4194304)(hx:∀s∈ns,s.length<=20000):Pure Gm 1392 [.lst 1 (ns.map qR) false] (.bool (jd [] ns)):=by
 refine pI Vt (by simp[AV.trees,AV.tree,zD shS.tree]) rfl ?_;simp only[Vt,qH,go_sem];refine Sem.loop (fun i:Nat=>i<=ns.length/\jd [] ns=jd (ns.take i) (ns.drop i)) (fun i=>(⟨[(0,.lst 1 (ns.map qR) false),(3,.int .i64 (i:Nat))],[],[]⟩:VSt)) (fun i=>ns.length-i) 0 (by kernel_rfl) ⟨nZl _,rfl⟩ cS ?_;rintro i ⟨hi,hI⟩;simp only[lMp,go_sem];by_cases hlt:i<ns.length
 ·have e1:decide ((i:Int)<(ns.length:Nat))=true:=dTt (by omega);rw[qV9 hlt]at hI;simp only[e1,gMp,gEg hlt,oMs,qR,go_sem];refine qF (Qw (by have:=hx _ (gMm hlt);omega)) ?_;simp only[go_sem];cases h1:zV ns[i]
  ·simp only[nF,go_sem];exact qE rfl (by rw[hI,h1,Bool.false_and])
  simp only[nT,gMp,gEg hlt,oMs,qR,lMp,go_sem];refine qA3 (i:=i) (xs:=ns.map qR) rfl rfl (by rw[lMp];omega) ?_;rw[<-List.map_take];simp only[gMp,gEg hlt,oMs,qR,go_sem];refine qF (c729 (by rw[lLt];omega)) ?_;have hg:=qVH (ns:=ns.take i) (s:=ns[i]) (nLr _);rw[lTl]at hg;simp only[ge_iff_le,hg,go_sem];cases h2:(ns.take i).any fun y=>y==ns[i]
  ·simp only[qp (show i<4611686018427387904 by omega),go_sem];exact qW (i+1) ⟨by omega,by rw[hI,h1,h2];rfl⟩ (by omega) cS
  ·simp only[go_sem];exact qE rfl (by rw[hI,h1,h2];rfl)
 ·have e1:decide ((i:Int)<(ns.length:Nat))=false:=dFf (by omega);simp only[e1,go_sem];obtain rfl:i=ns.length:=by omega
  exact qE rfl (by rw[hI,List.drop_length,jd])
theorem qaI{ks:List qB}(hl:ks.length<=4194304):Pure Gm 332 [.lst 3 (ks.map qB.enc) false,.nils,.fn 73 []] (.bool (decide (ks.length=0))):=by
 refine pI Ue (by simp[AV.trees,AV.tree,zD qB.isSh.tree]) rfl ?_;simp only[Ue,qH,go_sem];by_cases h0:ks.length=0
 ·have e:decide (((ks.length:Nat):Int)=0)=true:=dTt (by omega);simp only[e,nT,lMp,go_sem];refine Sem.loop (fun i:Nat=>i=0) (fun i=>(⟨[(1,.nils),(2,.fn 73 []),(15,.lst 3 (ks.map qB.enc) false),(16,.int .i64 ks.length),(17,.int .i64 (i:Nat))],[],[]⟩:VSt)) (fun i=>0) 0 (by kernel_rfl) rfl cS ?_;rintro i rfl;have e2:decide (((0:Nat):Int)<((ks.length:Nat):Int))=false:=dFf (by omega);simp only[e2,go_sem];exact qE rfl (by rw[dTt h0])
 ·have e:decide (((ks.length:Nat):Int)=0)=false:=dFf (by omega);simp only[e,nF,go_sem];exact qE rfl (by rw[dFf h0])
theorem c73z{t:qB}(hl:t.Kids.length<=4194304):Pure Gm 73 [t.enc,.agg [.int .i64 0,.str [],.nils]] (.bool (za t)):=by
 refine pJ F73 ?_;simp only[F73,qH,go_sem];refine zM qB.ln ?_;simp only[go_sem];refine zM rfl ?_;simp only[go_sem];by_cases h1:t.Kind=0
 ·simp only[h1,decide_true,go_sem];by_cases h2:t.Name=[]
  ·simp only[h2,decide_true,go_sem];refine qF (qaI hl) ?_;simp only[go_sem];exact qE rfl (by simp[za,h1,h2])
  ·simp only[dFf h2,go_sem];exact qE rfl (by simp[za,h1,h2])
 ·simp only[dFf h1,go_sem];exact qE rfl (by simp[za,h1])
theorem qZZ{t:qB}(hl:t.Kids.length<=4194304):Pure Gm 1143 [t.enc] (.bool (za t)):=by
 refine pJ VS ?_;simp only[VS,qH,go_sem];refine zM qB.ln ?_;simp only[go_sem];refine qF (c73z hl) ?_;simp only[go_sem];exact qE rfl rfl
theorem qZ0{ns:List Str}(hl:ns.length<=1048576)(hx:∀s∈ns,s.length<=20000):Pure Gm 1144 [.lst 1 (ns.map qR) false] (.bool (decide (ns.length<=3)&&jd [] ns)):=by
 refine pI VT (by simp[AV.trees,AV.tree,zD shS.tree]) rfl ?_;simp only[VT,qH,go_sem];refine Sem.loop (fun i:Nat=>i<=ns.length/\jd [] ns=jd (ns.take i) (ns.drop i)) (fun i=>(⟨[(0,.lst 1 (ns.map qR) false),(5,.lst 1 (ns.map qR) false),(6,.int .i64 ns.length),(7,.int .i64 (i:Nat))],[],[]⟩:VSt)) (fun i=>ns.length-i) 0 (by kernel_rfl) ⟨nZl _,rfl⟩ cS ?_;rintro i ⟨hi,hI⟩;simp only[go_sem];by_cases hlt:i<ns.length
 ·have e1:decide ((i:Int)<(ns.length:Nat))=true:=dTt (by omega);rw[qV9 hlt]at hI;simp only[e1,gMp,gEg hlt,oMs,qR,go_sem];refine qF (wI (by have:=hx _ (gMm hlt);omega)) ?_;simp only[go_sem];cases h1:zV ns[i]
  ·simp only[nF,go_sem];exact qE rfl (by rw[hI,h1,Bool.false_and,Bool.and_false])
  simp only[nT,gMp,gEg hlt,oMs,qR,lMp,go_sem];refine qA3 (i:=i) (xs:=ns.map qR) rfl rfl (by rw[lMp];omega) ?_;rw[<-List.map_take];simp only[gMp,gEg hlt,oMs,qR,go_sem];refine qF (c732 (by rw[lLt];omega)) ?_;have hg:((ns.take i).any fun x=>ns[i]==x)=((ns.take i).any fun y=>y==ns[i]):=by congr 1;funext x;exact Bool.beq_comm
  simp only[hg,go_sem];cases h2:(ns.take i).any fun y=>y==ns[i]
  ·simp only[qp (show i<4611686018427387904 by omega),go_sem];exact qW (i+1) ⟨by omega,by rw[hI,h1,h2];rfl⟩ (by omega) cS
  ·simp only[go_sem];exact qE rfl (by rw[hI,h1,h2,nT,Bool.false_and,Bool.and_false,Bool.and_false])
 ·have e1:decide ((i:Int)<(ns.length:Nat))=false:=dFf (by omega);simp only[e1,go_sem];obtain rfl:i=ns.length:=by omega
  have hz:decide (((ns.length:Nat):Int)<=3)=decide (ns.length<=3):=by rw[decide_eq_decide];omega
  exact qE rfl (by rw[hI,List.drop_length,jd,Bool.and_true,hz])
end Go.Ab
namespace Go.Ab
open Go
set_option maxRecDepth 10000
set_option maxHeartbeats 2000000
open Classical in
noncomputable def tyT(t:qB):Str:=if h:∃y:Ty,t=y.g/\y.ok then h.choose.text else []
theorem Yq{t:qB}(h:zZ t=true):∃y:Ty,y.V/\t.enc=y.enc/\tyT t=y.text:=by
 have hs:t.shp.2.2=true:=by unfold zZ at h;rw[bAt]at h;exact h.1
 have he:∃y:Ty,t=y.g/\y.ok:=by
  obtain⟨y,e,o⟩:=Ty.of_shp t hs;exact⟨y,e,o⟩
 refine⟨he.choose,⟨he.choose_spec.2, ?_⟩, ?_, ?_⟩
 ·rw[<-he.choose_spec.1];exact h
 ·have:=he.choose_spec.1
  conv=>lhs;rw[this]
  rfl
 ·rw[tyT,dif_pos he]
theorem Jq{t:qB}(h:zZ t=true):(tyT t).length<=320:=by
 obtain⟨y,hv,_,e⟩:=Yq h;have:=Ty.text_len y hv.o;have:=hv.n;rw[e];omega
theorem Xe{t:qB}(h:zZ t=true):Pure Gm 626 [t.enc] (.str (tyT t)):=by
 obtain⟨y,hv,e1,e2⟩:=Yq h;rw[e1,e2];exact c626 hv
theorem Ku{t:qB}(h:zZ t=true):Pure Gm 336 [t.enc] (.str (tyT t)):=by
 obtain⟨y,hv,e1,e2⟩:=Yq h;rw[e1,e2];exact c336 y hv.o (by have:=hv.n;omega)
theorem qTQ{n:Int}(h0: -2147483648<=n)(h1:n<=2147483648):Pure Gm 574 [.int .i64 n] (.str (Lib.itoa n)):=by
 rcases Int.le_total 0 n with h | h
 ·obtain⟨k,rfl⟩:∃k:Nat,n=k:=⟨n.toNat,by omega⟩;exact c574 (by omega)
 ·by_cases hz:n=0
  ·subst hz;exact c574 (n:=0) (by omega)
  ·obtain⟨k,rfl⟩:∃k:Nat,n= -(k:Int):=⟨n.natAbs,by omega⟩;exact qaJ (by omega) (by omega)
theorem qBN{s:Str}(h:zL s=true):s.length<=12:=Ty.name_len h
theorem qAF{s:Str}(h:zV s=true):s.length<=12:=by
 unfold zV ze at h;split at h<;>simp_all
theorem qWD{pre:List Str}:∀{xs:List Str},jd pre xs=true->∀s∈xs,s.length<=12
 |[],_,s,h=>by cases h
 | x::xs,h,s,hs=>by
  rw[jd,bAt,bAt]at h;rcases List.mem_cons.1 hs with rfl | hs
  ·exact qAF h.1
  ·exact qWD h.2.2 s hs
structure NB(x:qD):Prop where
 s:x.Name.length<=12
 ns:x.Names.length<=3/\∀s∈x.Names,s.length<=12
 t:x.Kind=4->zZ x.Typ=true
 n: -2147483648<=x.Num/\x.Num<=2147483647
 o:x.Kind=3->1<=x.Num/\x.Num<=6
 k:kLo x.Kind<=x.Kids.length/\(x.Kids.length:Int)<=kHi x.Kind
theorem NB.of{x:qD}(h:qX x=true):NB x:=by
 rw[qX,bAt,bAt,dTe,dTe,qP,bAt,bAt,bAt]at h;obtain⟨hk,hs,ht,hn,hv⟩:=h;refine⟨?_, ?_,fun k4=> ?_, ?_,fun k3=> ?_,hk⟩
 ·split at hs
  ·exact qAF hs
  ·split at hs
   ·exact qBN hs
   ·rw[dTe]at hs;rw[hs];simp
 ·split at hn
  ·rw[bAt,dTe]at hn;exact⟨hn.1,qWD hn.2⟩
  ·rw[dTe]at hn;have:=List.length_eq_zero_iff.1 hn;rw[this];simp
 ·rw[if_pos k4]at ht;exact ht
 ·split at hv
  ·rw[bAt,dTe,dTe]at hv;exact hv
  ·split at hv
   ·rw[bAt,dTe,dTe]at hv;omega
   ·rw[dTe]at hv;omega
 ·rw[if_neg (by omega),if_pos k3,bAt,dTe,dTe]at hv;exact hv
end Go.Ab
namespace Go.Ab
open Go
set_option maxRecDepth 10000
set_option maxHeartbeats 2000000
structure TB(x:qD):Prop where
 n:x.Name.length<=20000
 t:x.Typ.bd
 tn:x.Typ.nd<=1048576
 tk:x.Typ.Kids.length<=4194304
 s:∀s∈x.Names,s.length<=20000
 l:x.Names.length<=1048576
 k:x.Kids.length<=4194304
theorem qZW{t:qD}(B:TB t):Pure Gm 1105 [.ept t.enc 0] (.bool (qP t)):=by
 refine pJ VN ?_;simp only[VN,qH,go_sem];have B1:t.Name.length<=4611686018427387904:=by have:=B.n;omega
 have z0:decide ((0:Int)<((t.Names.length:Nat):Int))= !decide (t.Names.length=0):=by
  by_cases h:t.Names.length=0
  ·simp[h]
  ·simp[h];omega
 have z3:decide ((3:Int)<((t.Names.length:Nat):Int))= !decide (t.Names.length<=3):=by
  by_cases h:t.Names.length<=3
  ·simp[h];omega
  ·simp[h];omega
 rcases kj t.Kind with hk | hk | hk | hk | hk | hk | hk | hk | hk | hk | hk | ⟨h1,h2,h3,h4,h5,h6,h7,h8,h9,h10,h11⟩
 ·simp only[hk,Int.reduceEq,bQl,z0,z3,go_sem];refine qF (Qw B1) ?_;cases hL:zV t.Name
  ·simp only[hk,Int.reduceEq,bQl,z0,z3,go_sem];exact qE rfl (by simp[qP,hk,hL])
  simp only[hk,Int.reduceEq,bQl,z0,z3,go_sem];refine qF (JO) ?_;cases hT:za t.Typ
  ·simp only[hk,Int.reduceEq,bQl,z0,z3,go_sem];exact qE rfl (by simp[qP,hk,hL,hT])
  simp only[hk,Int.reduceEq,bQl,z0,z3,go_sem];by_cases hN:t.Names.length=0
  case neg=>
   simp only[dFf hN,hk,Int.reduceEq,bQl,z0,z3,go_sem];exact qE rfl (by simp only[qP,hk,hL,hT,hN];simp_all)
  simp only[dTt hN,hk,Int.reduceEq,bQl,z0,z3,go_sem];exact qE rfl (by simp[qP,hk,hL,hT,hN])
 ·simp only[hk,Int.reduceEq,bQl,z0,z3,go_sem];by_cases hL:t.Name=[]
  case neg=>
   simp only[dFf hL,hk,Int.reduceEq,bQl,z0,z3,go_sem];exact qE rfl (by simp[qP,hk,hL])
  simp only[dTt hL,hk,Int.reduceEq,bQl,z0,z3,go_sem];refine qF (JO) ?_;cases hT:za t.Typ
  ·simp only[hk,Int.reduceEq,bQl,z0,z3,go_sem];exact qE rfl (by simp[qP,hk,hL,hT])
  simp only[hk,Int.reduceEq,bQl,z0,z3,go_sem];by_cases hN:t.Names.length=0
  case neg=>
   simp only[dFf hN,hk,Int.reduceEq,bQl,z0,z3,go_sem];exact qE rfl (by simp only[qP,hk,hL,hT,hN];simp_all)
  simp only[dTt hN,hk,Int.reduceEq,bQl,z0,z3,go_sem];refine qF Qy ?_;simp only[hk,Int.reduceEq,bQl,z0,z3,go_sem];exact qE rfl (by simp[qP,hk,hL,hT,hN])
 ·simp only[hk,Int.reduceEq,bQl,z0,z3,go_sem];by_cases hL:t.Name=[]
  case neg=>
   simp only[dFf hL,hk,Int.reduceEq,bQl,z0,z3,go_sem];exact qE rfl (by simp[qP,hk,hL])
  simp only[dTt hL,hk,Int.reduceEq,bQl,z0,z3,go_sem];refine qF (JO) ?_;cases hT:za t.Typ
  ·simp only[hk,Int.reduceEq,bQl,z0,z3,go_sem];exact qE rfl (by simp[qP,hk,hL,hT])
  simp only[hk,Int.reduceEq,bQl,z0,z3,go_sem];by_cases hN:t.Names.length=0
  case neg=>
   simp only[dFf hN,hk,Int.reduceEq,bQl,z0,z3,go_sem];exact qE rfl (by simp only[qP,hk,hL,hT,hN];simp_all)
  simp only[dTt hN,hk,Int.reduceEq,bQl,z0,z3,go_sem];refine qF Qy ?_;simp only[hk,Int.reduceEq,bQl,z0,z3,go_sem];exact qE rfl (by simp[qP,hk,hL,hT,hN])
 ·simp only[hk,Int.reduceEq,bQl,z0,z3,go_sem];refine qF (Qw B1) ?_;cases hL:zV t.Name
  ·simp only[hk,Int.reduceEq,bQl,z0,z3,go_sem];exact qE rfl (by simp[qP,hk,hL])
  simp only[hk,Int.reduceEq,bQl,z0,z3,go_sem];refine qF (Xd B.t B.tn) ?_;cases hT:zZ t.Typ
  ·simp only[hk,Int.reduceEq,bQl,z0,z3,go_sem];exact qE rfl (by simp[qP,hk,hL,hT])
  simp only[hk,Int.reduceEq,bQl,z0,z3,go_sem];by_cases hN:t.Names.length=0
  case neg=>
   simp only[dFf hN,hk,Int.reduceEq,bQl,z0,z3,go_sem];exact qE rfl (by simp only[qP,hk,hL,hT,hN];simp_all)
  simp only[dTt hN,hk,Int.reduceEq,bQl,z0,z3,go_sem];exact qE rfl (by simp[qP,hk,hL,hT,hN])
 ·simp only[hk,Int.reduceEq,bQl,z0,z3,go_sem];by_cases hL:t.Name=[]
  case neg=>
   simp only[dFf hL,hk,Int.reduceEq,bQl,z0,z3,go_sem];exact qE rfl (by simp[qP,hk,hL])
  simp only[dTt hL,hk,Int.reduceEq,bQl,z0,z3,go_sem];refine qF (JO) ?_;cases hT:za t.Typ
  ·simp only[hk,Int.reduceEq,bQl,z0,z3,go_sem];exact qE rfl (by simp[qP,hk,hL,hT])
  simp only[hk,Int.reduceEq,bQl,z0,z3,go_sem];by_cases hN:t.Names.length=0
  case neg=>
   simp only[dFf hN,hk,Int.reduceEq,bQl,z0,z3,go_sem];exact qE rfl (by simp only[qP,hk,hL,hT,hN];simp_all)
  simp only[dTt hN,hk,Int.reduceEq,bQl,z0,z3,go_sem];exact qE rfl (by simp[qP,hk,hL,hT,hN])
 ·simp only[hk,Int.reduceEq,bQl,z0,z3,go_sem];by_cases hL:t.Name=[]
  case neg=>
   simp only[dFf hL,hk,Int.reduceEq,bQl,z0,z3,go_sem];exact qE rfl (by simp[qP,hk,hL])
  simp only[dTt hL,hk,Int.reduceEq,bQl,z0,z3,go_sem];refine qF (JO) ?_;cases hT:za t.Typ
  ·simp only[hk,Int.reduceEq,bQl,z0,z3,go_sem];exact qE rfl (by simp[qP,hk,hL,hT])
  simp only[hk,Int.reduceEq,bQl,z0,z3,go_sem];by_cases hN:t.Names.length=0
  case neg=>
   simp only[dFf hN,hk,Int.reduceEq,bQl,z0,z3,go_sem];exact qE rfl (by simp only[qP,hk,hL,hT,hN];simp_all)
  simp only[dTt hN,hk,Int.reduceEq,bQl,z0,z3,go_sem];exact qE rfl (by simp[qP,hk,hL,hT,hN])
 ·simp only[hk,Int.reduceEq,bQl,z0,z3,go_sem];refine qF (Qw B1) ?_;cases hL:zV t.Name
  ·simp only[hk,Int.reduceEq,bQl,z0,z3,go_sem];exact qE rfl (by simp[qP,hk,hL])
  simp only[hk,Int.reduceEq,bQl,z0,z3,go_sem];refine qF (JO) ?_;cases hT:za t.Typ
  ·simp only[hk,Int.reduceEq,bQl,z0,z3,go_sem];exact qE rfl (by simp[qP,hk,hL,hT])
  simp only[hk,Int.reduceEq,bQl,z0,z3,go_sem];by_cases hN:t.Names.length=0
  case neg=>
   simp only[dFf hN,hk,Int.reduceEq,bQl,z0,z3,go_sem];exact qE rfl (by simp only[qP,hk,hL,hT,hN];simp_all)
  simp only[dTt hN,hk,Int.reduceEq,bQl,z0,z3,go_sem];exact qE rfl (by simp[qP,hk,hL,hT,hN])
 ·simp only[hk,Int.reduceEq,bQl,z0,z3,go_sem];refine qF (Jt B1) ?_;cases hL:zL t.Name
  ·simp only[hk,Int.reduceEq,bQl,z0,z3,go_sem];exact qE rfl (by simp[qP,hk,hL])
  simp only[hk,Int.reduceEq,bQl,z0,z3,go_sem];refine qF (JO) ?_;cases hT:za t.Typ
  ·simp only[hk,Int.reduceEq,bQl,z0,z3,go_sem];exact qE rfl (by simp[qP,hk,hL,hT])
  simp only[hk,Int.reduceEq,bQl,z0,z3,go_sem];by_cases hN:t.Names.length=0
  case neg=>
   simp only[dFf hN,hk,Int.reduceEq,bQl,z0,z3,go_sem];exact qE rfl (by simp only[qP,hk,hL,hT,hN];simp_all)
  simp only[dTt hN,hk,Int.reduceEq,bQl,z0,z3,go_sem];exact qE rfl (by simp[qP,hk,hL,hT,hN])
 ·simp only[hk,Int.reduceEq,bQl,z0,z3,go_sem];by_cases hL:t.Name=[]
  case neg=>
   simp only[dFf hL,hk,Int.reduceEq,bQl,z0,z3,go_sem];exact qE rfl (by simp[qP,hk,hL])
  simp only[dTt hL,hk,Int.reduceEq,bQl,z0,z3,go_sem];refine qF (JO) ?_;cases hT:za t.Typ
  ·simp only[hk,Int.reduceEq,bQl,z0,z3,go_sem];exact qE rfl (by simp[qP,hk,hL,hT])
  simp only[hk,Int.reduceEq,bQl,z0,z3,go_sem];by_cases hN:t.Names.length=0
  case neg=>
   simp only[dFf hN,hk,Int.reduceEq,bQl,z0,z3,go_sem];exact qE rfl (by simp only[qP,hk,hL,hT,hN];simp_all)
  simp only[dTt hN,hk,Int.reduceEq,bQl,z0,z3,go_sem];exact qE rfl (by simp[qP,hk,hL,hT,hN])
 ·simp only[hk,Int.reduceEq,bQl,z0,z3,go_sem];refine qF (Jt B1) ?_;cases hL:zL t.Name
  ·simp only[hk,Int.reduceEq,bQl,z0,z3,go_sem];exact qE rfl (by simp[qP,hk,hL])
  simp only[hk,Int.reduceEq,bQl,z0,z3,go_sem];refine qF (JO) ?_;cases hT:za t.Typ
  ·simp only[hk,Int.reduceEq,bQl,z0,z3,go_sem];exact qE rfl (by simp[qP,hk,hL,hT])
  simp only[hk,Int.reduceEq,bQl,z0,z3,go_sem];by_cases hN:t.Names.length<=3
  case neg=>
   simp only[dFf hN,hk,Int.reduceEq,bQl,z0,z3,go_sem];exact qE rfl (by simp[qP,hk,hL,hT,hN])
  simp only[dTt hN,hk,Int.reduceEq,bQl,z0,z3,go_sem];refine qF (qZ8 (by have:=B.l;omega) B.s) ?_;cases hD:jd [] t.Names
  ·simp only[hk,Int.reduceEq,bQl,z0,z3,go_sem];exact qE rfl (by simp[qP,hk,hL,hT,hN,hD])
  simp only[hk,Int.reduceEq,bQl,z0,z3,go_sem];exact qE rfl (by simp[qP,hk,hL,hT,hN,hD])
 ·simp only[hk,Int.reduceEq,bQl,z0,z3,go_sem];by_cases hL:t.Name=[]
  case neg=>
   simp only[dFf hL,hk,Int.reduceEq,bQl,z0,z3,go_sem];exact qE rfl (by simp[qP,hk,hL])
  simp only[dTt hL,hk,Int.reduceEq,bQl,z0,z3,go_sem];refine qF (JO) ?_;cases hT:za t.Typ
  ·simp only[hk,Int.reduceEq,bQl,z0,z3,go_sem];exact qE rfl (by simp[qP,hk,hL,hT])
  simp only[hk,Int.reduceEq,bQl,z0,z3,go_sem];by_cases hN:t.Names.length=0
  case neg=>
   simp only[dFf hN,hk,Int.reduceEq,bQl,z0,z3,go_sem];exact qE rfl (by simp only[qP,hk,hL,hT,hN];simp_all)
  simp only[dTt hN,hk,Int.reduceEq,bQl,z0,z3,go_sem];exact qE rfl (by simp[qP,hk,hL,hT,hN])
 ·simp only[h1,h2,h3,h4,h5,h6,h7,h8,h9,h10,h11,Int.reduceEq,bQl,z0,z3,go_sem];by_cases hL:t.Name=[]
  case neg=>
   simp only[dFf hL,h1,h2,h3,h4,h5,h6,h7,h8,h9,h10,h11,Int.reduceEq,bQl,z0,z3,go_sem];exact qE rfl (by simp[qP,h1,h2,h3,h4,h5,h6,h7,h8,h9,h10,h11,hL])
  simp only[dTt hL,h1,h2,h3,h4,h5,h6,h7,h8,h9,h10,h11,Int.reduceEq,bQl,z0,z3,go_sem];refine qF (JO) ?_;cases hT:za t.Typ
  ·simp only[h1,h2,h3,h4,h5,h6,h7,h8,h9,h10,h11,Int.reduceEq,bQl,z0,z3,go_sem];exact qE rfl (by simp[qP,h1,h2,h3,h4,h5,h6,h7,h8,h9,h10,h11,hL,hT])
  simp only[h1,h2,h3,h4,h5,h6,h7,h8,h9,h10,h11,Int.reduceEq,bQl,z0,z3,go_sem];by_cases hN:t.Names.length=0
  case neg=>
   simp only[dFf hN,h1,h2,h3,h4,h5,h6,h7,h8,h9,h10,h11,Int.reduceEq,bQl,z0,z3,go_sem];exact qE rfl (by simp only[qP,h1,h2,h3,h4,h5,h6,h7,h8,h9,h10,h11,hL,hT,hN];simp_all)
  simp only[dTt hN,h1,h2,h3,h4,h5,h6,h7,h8,h9,h10,h11,Int.reduceEq,bQl,z0,z3,go_sem];exact qE rfl (by simp[qP,h1,h2,h3,h4,h5,h6,h7,h8,h9,h10,h11,hL,hT,hN])
theorem qeI{t:qD}(h:qX t=true):kLo t.Kind<=t.Kids.length/\(t.Kids.length:Int)<=kHi t.Kind:=by
 simp only[qX,bAt,dTe]at h;exact h.1
theorem Wr{t:qD}{lo hi:Int}(h1:kLo t.Kind=lo)(h2:kHi t.Kind=hi)(h:¬(lo<=t.Kids.length/\(t.Kids.length:Int)<=hi)):false=qX t:=by
 cases e:qX t
 ·rfl
 ·have:=qeI e;rw[h1,h2]at this;exact absurd this h
theorem c807{t:qD}(B:TB t):Pure Gm 807 [t.enc] (.bool (qX t)):=by
 refine pJ KE ?_;simp only[KE,qH,go_sem];have B1:t.Name.length<=4611686018427387904:=by have:=B.n;omega
 have z0:decide ((0:Int)<((t.Names.length:Nat):Int))= !decide (t.Names.length=0):=by
  by_cases h:t.Names.length=0
  ·simp[h]
  ·simp[h];omega
 have zn:t.Names.length=0↔t.Names=[]:=List.length_eq_zero_iff;refine zM qD.ln ?_;simp only[go_sem];refine qF (qZZ B.tk) ?_;simp only[go_sem];rcases kj t.Kind with hk | hk | hk | hk | hk | hk | hk | hk | hk | hk | hk | ⟨h1,h2,h3,h4,h5,h6,h7,h8,h9,h10,h11⟩
 ·simp only[hk,Int.reduceEq,bQl,z0,go_sem];by_cases hN:t.Names.length=0
  case neg=>
   simp only[dFf hN,hk,Int.reduceEq,bQl,z0,go_sem];have hN:¬t.Names=[]:=fun q=>hN (zn.2 q);exact fB (by simp[qX,kLo,kHi,qP,hk,hN])
  simp only[dTt hN,hk,Int.reduceEq,bQl,z0,go_sem];have hN:t.Names=[]:=zn.1 hN;cases hT:za t.Typ
  case false=>
   simp only[hk,Int.reduceEq,bQl,z0,go_sem];exact fB (by simp[qX,kLo,kHi,qP,hk,hN,hT])
  simp only[hk,Int.reduceEq,bQl,z0,go_sem];by_cases hM:t.Num=0
  case neg=>
   simp only[dFf hM,hk,Int.reduceEq,bQl,z0,go_sem];exact fB (by simp[qX,kLo,kHi,qP,hk,hN,hT,hM])
  simp only[dTt hM,hk,Int.reduceEq,bQl,z0,go_sem];refine qF (wI B1) ?_;simp only[hk,Int.reduceEq,bQl,z0,go_sem];refine qF (jx B1) ?_;simp only[hk,Int.reduceEq,bQl,z0,go_sem];cases hL:zV t.Name
  case false=>
   simp only[hk,Int.reduceEq,bQl,z0,go_sem];exact fB (by simp[qX,kLo,kHi,qP,hk,hN,hT,hM,hL])
  simp only[hk,Int.reduceEq,bQl,z0,go_sem];exact qE rfl (congrArg AV.bool (by rw[bEi];simp[qX,kLo,kHi,qP,hk,hN,hT,hM,hL]<;>omega))
 ·simp only[hk,Int.reduceEq,bQl,z0,go_sem];by_cases hN:t.Names.length=0
  case neg=>
   simp only[dFf hN,hk,Int.reduceEq,bQl,z0,go_sem];have hN:¬t.Names=[]:=fun q=>hN (zn.2 q);exact fB (by simp[qX,kLo,kHi,qP,hk,hN])
  simp only[dTt hN,hk,Int.reduceEq,bQl,z0,go_sem];have hN:t.Names=[]:=zn.1 hN;cases hT:za t.Typ
  case false=>
   simp only[hk,Int.reduceEq,bQl,z0,go_sem];exact fB (by simp[qX,kLo,kHi,qP,hk,hN,hT])
  simp only[hk,Int.reduceEq,bQl,z0,go_sem];refine qF (wI B1) ?_;simp only[hk,Int.reduceEq,bQl,z0,go_sem];refine qF (jx B1) ?_;simp only[hk,Int.reduceEq,bQl,z0,go_sem];by_cases hL:t.Name=[]
  case neg=>
   simp only[dFf hL,hk,Int.reduceEq,bQl,z0,go_sem];exact fB (by simp[qX,kLo,kHi,qP,hk,hN,hT,hL])
  simp only[dTt hL,hk,Int.reduceEq,bQl,z0,go_sem];by_cases hC:((t.Kids.length:Nat):Int)=0
  case neg=>
   simp only[dFf hC,hk,Int.reduceEq,bQl,z0,go_sem];exact qE rfl (congrArg AV.bool (Wr (lo:=0) (hi:=0) (by rw[hk];decide) (by rw[hk];decide) (by omega)))
  simp only[dTt hC,hk,Int.reduceEq,bQl,z0,go_sem];refine qF (qTD) ?_;simp only[hk,Int.reduceEq,bQl,z0,go_sem];exact fB (by simp[qX,kLo,kHi,qP,hk,hN,hT,hL,hC])
 ·simp only[hk,Int.reduceEq,bQl,z0,go_sem];by_cases hN:t.Names.length=0
  case neg=>
   simp only[dFf hN,hk,Int.reduceEq,bQl,z0,go_sem];have hN:¬t.Names=[]:=fun q=>hN (zn.2 q);exact fB (by simp[qX,kLo,kHi,qP,hk,hN])
  simp only[dTt hN,hk,Int.reduceEq,bQl,z0,go_sem];have hN:t.Names=[]:=zn.1 hN;cases hT:za t.Typ
  case false=>
   simp only[hk,Int.reduceEq,bQl,z0,go_sem];exact fB (by simp[qX,kLo,kHi,qP,hk,hN,hT])
  simp only[hk,Int.reduceEq,bQl,z0,go_sem];refine qF (wI B1) ?_;simp only[hk,Int.reduceEq,bQl,z0,go_sem];refine qF (jx B1) ?_;simp only[hk,Int.reduceEq,bQl,z0,go_sem];by_cases hL:t.Name=[]
  case neg=>
   simp only[dFf hL,hk,Int.reduceEq,bQl,z0,go_sem];exact fB (by simp[qX,kLo,kHi,qP,hk,hN,hT,hL])
  simp only[dTt hL,hk,Int.reduceEq,bQl,z0,go_sem];by_cases hC:((t.Kids.length:Nat):Int)=2
  case neg=>
   simp only[dFf hC,hk,Int.reduceEq,bQl,z0,go_sem];exact qE rfl (congrArg AV.bool (Wr (lo:=2) (hi:=2) (by rw[hk];decide) (by rw[hk];decide) (by omega)))
  simp only[dTt hC,hk,Int.reduceEq,bQl,z0,go_sem];refine qF (qTC) ?_;simp only[hk,Int.reduceEq,bQl,z0,go_sem];exact fB (by simp[qX,kLo,kHi,qP,hk,hN,hT,hL,hC])
 ·simp only[hk,Int.reduceEq,bQl,z0,go_sem];by_cases hN:t.Names.length=0
  case neg=>
   simp only[dFf hN,hk,Int.reduceEq,bQl,z0,go_sem];have hN:¬t.Names=[]:=fun q=>hN (zn.2 q);exact fB (by simp[qX,kLo,kHi,qP,hk,hN])
  simp only[dTt hN,hk,Int.reduceEq,bQl,z0,go_sem];have hN:t.Names=[]:=zn.1 hN;by_cases hM:t.Num=0
  case neg=>
   simp only[dFf hM,hk,Int.reduceEq,bQl,z0,go_sem];exact fB (by simp[qX,kLo,kHi,qP,hk,hN,hM])
  simp only[dTt hM,hk,Int.reduceEq,bQl,z0,go_sem];refine qF (wI B1) ?_;simp only[hk,Int.reduceEq,bQl,z0,go_sem];refine qF (jx B1) ?_;simp only[hk,Int.reduceEq,bQl,z0,go_sem];cases hL:zV t.Name
  case false=>
   simp only[hk,Int.reduceEq,bQl,z0,go_sem];exact fB (by simp[qX,kLo,kHi,qP,hk,hN,hM,hL])
  simp only[hk,Int.reduceEq,bQl,z0,go_sem];by_cases hC:((t.Kids.length:Nat):Int)=1
  case neg=>
   simp only[dFf hC,hk,Int.reduceEq,bQl,z0,go_sem];exact qE rfl (congrArg AV.bool (Wr (lo:=1) (hi:=1) (by rw[hk];decide) (by rw[hk];decide) (by omega)))
  simp only[dTt hC,hk,Int.reduceEq,bQl,z0,go_sem];refine qF (c74 B.t B.tn) ?_;simp only[hk,Int.reduceEq,bQl,z0,go_sem];exact fB (by simp[qX,kLo,kHi,qP,hk,hN,hM,hL,hC])
 ·simp only[hk,Int.reduceEq,bQl,z0,go_sem];by_cases hN:t.Names.length=0
  case neg=>
   simp only[dFf hN,hk,Int.reduceEq,bQl,z0,go_sem];have hN:¬t.Names=[]:=fun q=>hN (zn.2 q);exact fB (by simp[qX,kLo,kHi,qP,hk,hN])
  simp only[dTt hN,hk,Int.reduceEq,bQl,z0,go_sem];have hN:t.Names=[]:=zn.1 hN;cases hT:za t.Typ
  case false=>
   simp only[hk,Int.reduceEq,bQl,z0,go_sem];exact fB (by simp[qX,kLo,kHi,qP,hk,hN,hT])
  simp only[hk,Int.reduceEq,bQl,z0,go_sem];by_cases hM:t.Num=0
  case neg=>
   simp only[dFf hM,hk,Int.reduceEq,bQl,z0,go_sem];exact fB (by simp[qX,kLo,kHi,qP,hk,hN,hT,hM])
  simp only[dTt hM,hk,Int.reduceEq,bQl,z0,go_sem];refine qF (wI B1) ?_;simp only[hk,Int.reduceEq,bQl,z0,go_sem];refine qF (jx B1) ?_;simp only[hk,Int.reduceEq,bQl,z0,go_sem];by_cases hL:t.Name=[]
  case neg=>
   simp only[dFf hL,hk,Int.reduceEq,bQl,z0,go_sem];exact fB (by simp[qX,kLo,kHi,qP,hk,hN,hT,hM,hL])
  simp only[dTt hL,hk,Int.reduceEq,bQl,z0,go_sem];exact qE rfl (congrArg AV.bool (by rw[bEi];simp[qX,kLo,kHi,qP,hk,hN,hT,hM,hL]<;>omega))
 ·simp only[hk,Int.reduceEq,bQl,z0,go_sem];by_cases hN:t.Names.length=0
  case neg=>
   simp only[dFf hN,hk,Int.reduceEq,bQl,z0,go_sem];have hN:¬t.Names=[]:=fun q=>hN (zn.2 q);exact fB (by simp[qX,kLo,kHi,qP,hk,hN])
  simp only[dTt hN,hk,Int.reduceEq,bQl,z0,go_sem];have hN:t.Names=[]:=zn.1 hN;cases hT:za t.Typ
  case false=>
   simp only[hk,Int.reduceEq,bQl,z0,go_sem];exact fB (by simp[qX,kLo,kHi,qP,hk,hN,hT])
  simp only[hk,Int.reduceEq,bQl,z0,go_sem];by_cases hM:t.Num=0
  case neg=>
   simp only[dFf hM,hk,Int.reduceEq,bQl,z0,go_sem];exact fB (by simp[qX,kLo,kHi,qP,hk,hN,hT,hM])
  simp only[dTt hM,hk,Int.reduceEq,bQl,z0,go_sem];refine qF (wI B1) ?_;simp only[hk,Int.reduceEq,bQl,z0,go_sem];refine qF (jx B1) ?_;simp only[hk,Int.reduceEq,bQl,z0,go_sem];by_cases hL:t.Name=[]
  case neg=>
   simp only[dFf hL,hk,Int.reduceEq,bQl,z0,go_sem];exact fB (by simp[qX,kLo,kHi,qP,hk,hN,hT,hM,hL])
  simp only[dTt hL,hk,Int.reduceEq,bQl,z0,go_sem];exact qE rfl (congrArg AV.bool (by rw[bEi];simp[qX,kLo,kHi,qP,hk,hN,hT,hM,hL]<;>omega))
 ·simp only[hk,Int.reduceEq,bQl,z0,go_sem];by_cases hN:t.Names.length=0
  case neg=>
   simp only[dFf hN,hk,Int.reduceEq,bQl,z0,go_sem];have hN:¬t.Names=[]:=fun q=>hN (zn.2 q);exact fB (by simp[qX,kLo,kHi,qP,hk,hN])
  simp only[dTt hN,hk,Int.reduceEq,bQl,z0,go_sem];have hN:t.Names=[]:=zn.1 hN;cases hT:za t.Typ
  case false=>
   simp only[hk,Int.reduceEq,bQl,z0,go_sem];exact fB (by simp[qX,kLo,kHi,qP,hk,hN,hT])
  simp only[hk,Int.reduceEq,bQl,z0,go_sem];by_cases hM:t.Num=0
  case neg=>
   simp only[dFf hM,hk,Int.reduceEq,bQl,z0,go_sem];exact fB (by simp[qX,kLo,kHi,qP,hk,hN,hT,hM])
  simp only[dTt hM,hk,Int.reduceEq,bQl,z0,go_sem];refine qF (wI B1) ?_;simp only[hk,Int.reduceEq,bQl,z0,go_sem];refine qF (jx B1) ?_;simp only[hk,Int.reduceEq,bQl,z0,go_sem];cases hL:zV t.Name
  case false=>
   simp only[hk,Int.reduceEq,bQl,z0,go_sem];exact fB (by simp[qX,kLo,kHi,qP,hk,hN,hT,hM,hL])
  simp only[hk,Int.reduceEq,bQl,z0,go_sem];exact qE rfl (congrArg AV.bool (by rw[bEi];simp[qX,kLo,kHi,qP,hk,hN,hT,hM,hL]<;>omega))
 ·simp only[hk,Int.reduceEq,bQl,z0,go_sem];by_cases hN:t.Names.length=0
  case neg=>
   simp only[dFf hN,hk,Int.reduceEq,bQl,z0,go_sem];have hN:¬t.Names=[]:=fun q=>hN (zn.2 q);exact fB (by simp[qX,kLo,kHi,qP,hk,hN])
  simp only[dTt hN,hk,Int.reduceEq,bQl,z0,go_sem];have hN:t.Names=[]:=zn.1 hN;cases hT:za t.Typ
  case false=>
   simp only[hk,Int.reduceEq,bQl,z0,go_sem];exact fB (by simp[qX,kLo,kHi,qP,hk,hN,hT])
  simp only[hk,Int.reduceEq,bQl,z0,go_sem];by_cases hM:t.Num=0
  case neg=>
   simp only[dFf hM,hk,Int.reduceEq,bQl,z0,go_sem];exact fB (by simp[qX,kLo,kHi,qP,hk,hN,hT,hM])
  simp only[dTt hM,hk,Int.reduceEq,bQl,z0,go_sem];refine qF (wI B1) ?_;simp only[hk,Int.reduceEq,bQl,z0,go_sem];refine qF (jx B1) ?_;simp only[hk,Int.reduceEq,bQl,z0,go_sem];cases hL:zL t.Name
  case false=>
   simp only[hk,Int.reduceEq,bQl,z0,go_sem];exact fB (by simp[qX,kLo,kHi,qP,hk,hN,hT,hM,hL])
  simp only[hk,Int.reduceEq,bQl,z0,go_sem];exact qE rfl (congrArg AV.bool (by rw[bEi];simp[qX,kLo,kHi,qP,hk,hN,hT,hM,hL]<;>omega))
 ·simp only[hk,Int.reduceEq,bQl,z0,go_sem];by_cases hN:t.Names.length=0
  case neg=>
   simp only[dFf hN,hk,Int.reduceEq,bQl,z0,go_sem];have hN:¬t.Names=[]:=fun q=>hN (zn.2 q);exact fB (by simp[qX,kLo,kHi,qP,hk,hN])
  simp only[dTt hN,hk,Int.reduceEq,bQl,z0,go_sem];have hN:t.Names=[]:=zn.1 hN;cases hT:za t.Typ
  case false=>
   simp only[hk,Int.reduceEq,bQl,z0,go_sem];exact fB (by simp[qX,kLo,kHi,qP,hk,hN,hT])
  simp only[hk,Int.reduceEq,bQl,z0,go_sem];by_cases hM:t.Num=0
  case neg=>
   simp only[dFf hM,hk,Int.reduceEq,bQl,z0,go_sem];exact fB (by simp[qX,kLo,kHi,qP,hk,hN,hT,hM])
  simp only[dTt hM,hk,Int.reduceEq,bQl,z0,go_sem];refine qF (wI B1) ?_;simp only[hk,Int.reduceEq,bQl,z0,go_sem];refine qF (jx B1) ?_;simp only[hk,Int.reduceEq,bQl,z0,go_sem];by_cases hL:t.Name=[]
  case neg=>
   simp only[dFf hL,hk,Int.reduceEq,bQl,z0,go_sem];exact fB (by simp[qX,kLo,kHi,qP,hk,hN,hT,hM,hL])
  simp only[dTt hL,hk,Int.reduceEq,bQl,z0,go_sem];by_cases hC:(2:Int)<=((t.Kids.length:Nat):Int)
  case neg=>
   simp only[dFf hC,hk,Int.reduceEq,bQl,z0,go_sem];exact qE rfl (congrArg AV.bool (Wr (lo:=2) (hi:=5) (by rw[hk];decide) (by rw[hk];decide) (by omega)))
  simp only[dTt hC,hk,Int.reduceEq,bQl,z0,go_sem];exact fB (by simp[qX,kLo,kHi,qP,hk,hN,hT,hM,hL,hC])
 ·simp only[hk,Int.reduceEq,bQl,z0,go_sem];cases hT:za t.Typ
  case false=>
   simp only[hk,Int.reduceEq,bQl,z0,go_sem];exact fB (by simp[qX,kLo,kHi,qP,hk,hT])
  simp only[hk,Int.reduceEq,bQl,z0,go_sem];by_cases hM:t.Num=0
  case neg=>
   simp only[dFf hM,hk,Int.reduceEq,bQl,z0,go_sem];exact fB (by simp[qX,kLo,kHi,qP,hk,hT,hM])
  simp only[dTt hM,hk,Int.reduceEq,bQl,z0,go_sem];refine qF (wI B1) ?_;simp only[hk,Int.reduceEq,bQl,z0,go_sem];refine qF (jx B1) ?_;simp only[hk,Int.reduceEq,bQl,z0,go_sem];cases hL:zL t.Name
  case false=>
   simp only[hk,Int.reduceEq,bQl,z0,go_sem];exact fB (by simp[qX,kLo,kHi,qP,hk,hT,hM,hL])
  simp only[hk,Int.reduceEq,bQl,z0,go_sem];by_cases hC:((t.Kids.length:Nat):Int)=1
  case neg=>
   simp only[dFf hC,hk,Int.reduceEq,bQl,z0,go_sem];exact qE rfl (congrArg AV.bool (Wr (lo:=1) (hi:=1) (by rw[hk];decide) (by rw[hk];decide) (by omega)))
  simp only[dTt hC,hk,Int.reduceEq,bQl,z0,go_sem];refine qF (qZ0 B.l B.s) ?_;simp only[hk,Int.reduceEq,bQl,z0,go_sem];exact fB (by simp[qX,kLo,kHi,qP,hk,hT,hM,hL,hC])
 ·simp only[hk,Int.reduceEq,bQl,z0,go_sem];by_cases hN:t.Names.length=0
  case neg=>
   simp only[dFf hN,hk,Int.reduceEq,bQl,z0,go_sem];have hN:¬t.Names=[]:=fun q=>hN (zn.2 q);exact fB (by simp[qX,kLo,kHi,qP,hk,hN])
  simp only[dTt hN,hk,Int.reduceEq,bQl,z0,go_sem];have hN:t.Names=[]:=zn.1 hN;cases hT:za t.Typ
  case false=>
   simp only[hk,Int.reduceEq,bQl,z0,go_sem];exact fB (by simp[qX,kLo,kHi,qP,hk,hN,hT])
  simp only[hk,Int.reduceEq,bQl,z0,go_sem];by_cases hM:t.Num=0
  case neg=>
   simp only[dFf hM,hk,Int.reduceEq,bQl,z0,go_sem];exact fB (by simp[qX,kLo,kHi,qP,hk,hN,hT,hM])
  simp only[dTt hM,hk,Int.reduceEq,bQl,z0,go_sem];refine qF (wI B1) ?_;simp only[hk,Int.reduceEq,bQl,z0,go_sem];refine qF (jx B1) ?_;simp only[hk,Int.reduceEq,bQl,z0,go_sem];by_cases hL:t.Name=[]
  case neg=>
   simp only[dFf hL,hk,Int.reduceEq,bQl,z0,go_sem];exact fB (by simp[qX,kLo,kHi,qP,hk,hN,hT,hM,hL])
  simp only[dTt hL,hk,Int.reduceEq,bQl,z0,go_sem];exact qE rfl (congrArg AV.bool (by rw[bEi];simp[qX,kLo,kHi,qP,hk,hN,hT,hM,hL]<;>omega))
 ·simp only[h1,h2,h3,h4,h5,h6,h7,h8,h9,h10,h11,Int.reduceEq,bQl,z0,go_sem];by_cases hN:t.Names.length=0
  case neg=>
   simp only[dFf hN,h1,h2,h3,h4,h5,h6,h7,h8,h9,h10,h11,Int.reduceEq,bQl,z0,go_sem];have hN:¬t.Names=[]:=fun q=>hN (zn.2 q);exact fB (by simp[qX,kLo,kHi,qP,h1,h2,h3,h4,h5,h6,h7,h8,h9,h10,h11,hN])
  simp only[dTt hN,h1,h2,h3,h4,h5,h6,h7,h8,h9,h10,h11,Int.reduceEq,bQl,z0,go_sem];have hN:t.Names=[]:=zn.1 hN;cases hT:za t.Typ
  case false=>
   simp only[h1,h2,h3,h4,h5,h6,h7,h8,h9,h10,h11,Int.reduceEq,bQl,z0,go_sem];exact fB (by simp[qX,kLo,kHi,qP,h1,h2,h3,h4,h5,h6,h7,h8,h9,h10,h11,hN,hT])
  simp only[h1,h2,h3,h4,h5,h6,h7,h8,h9,h10,h11,Int.reduceEq,bQl,z0,go_sem];by_cases hM:t.Num=0
  case neg=>
   simp only[dFf hM,h1,h2,h3,h4,h5,h6,h7,h8,h9,h10,h11,Int.reduceEq,bQl,z0,go_sem];exact fB (by simp[qX,kLo,kHi,qP,h1,h2,h3,h4,h5,h6,h7,h8,h9,h10,h11,hN,hT,hM])
  simp only[dTt hM,h1,h2,h3,h4,h5,h6,h7,h8,h9,h10,h11,Int.reduceEq,bQl,z0,go_sem];refine qF (wI B1) ?_;simp only[h1,h2,h3,h4,h5,h6,h7,h8,h9,h10,h11,Int.reduceEq,bQl,z0,go_sem];refine qF (jx B1) ?_;simp only[h1,h2,h3,h4,h5,h6,h7,h8,h9,h10,h11,Int.reduceEq,bQl,z0,go_sem];exact qE rfl (congrArg AV.bool (by rw[bEi];simp only[qX,kLo,kHi,h1,h2,h3,h4,h5,h6,h7,h8,h9,h10,h11];simp;omega))
mutual
def qD.shp:qD->Nat×Nat×Bool
 |.mk k v n t ns ks=>match (if qX (.mk k v n t ns ks)then qD.shps (decide (k=9)) ks false 1 1 else none)with
  | none=>(0,0,false)
  | some (d,s)=>(d,s,true)
def qD.shps(m:Bool):List qD->Bool->Nat->Nat->Option (Nat×Nat)
 |[],_,d,s=>some (d,s)
 | x::xs,p,d,s=>if (decide (x.Kind=10)==(m&&p))then(match x.shp with
   | (d',s',ok)=>if ok then qD.shps m xs true (max d (d'+1)) (s+s')else none)
  else none
end
theorem qD.shp_eq(x:qD):x.shp=match (if qX x then qD.shps (decide (x.Kind=9)) x.Kids false 1 1 else none)with
  | none=>(0,0,false)
  | some (d,s)=>(d,s,true):=by cases x;rw[qD.shp];rfl
theorem qD.shps_eq{m p:Bool}{x:qD}{xs:List qD}{d s:Nat}:qD.shps m (x::xs) p d s=if (decide (x.Kind=10)==(m&&p))then(if x.shp.2.2 then qD.shps m xs true (max d (x.shp.1+1)) (s+x.shp.2.1)else none)else none:=by
 rw[qD.shps]
theorem qD.shps_le{m:Bool}:∀{xs:List qD}{p:Bool}{d s d1 s1:Nat},(∀y∈xs,y.shp.1<=y.shp.2.1/\y.shp.2.1<=y.nd/\(y.shp.2.2=true->1<=y.shp.2.1))->qD.shps m xs p d s=some (d1,s1)->d<=d1/\s<=s1/\s1<=s+qM qD.nd xs/\(d<=s->1<=s->d1<=s1)
 |[],p,d,s,d1,s1,_,h=>by simp only[qD.shps,oSi,Prod.mk.injEq]at h;simp only[qM];omega
 | x::xs,p,d,s,d1,s1,ih,h=>by
  rw[qD.shps_eq]at h;split at h
  ·split at h
   ·rename_i h2;have hx:=ih x (by simp);have:=qD.shps_le (fun y hy=>ih y (by simp[hy])) h;simp only[qM];have:=hx.2.2 h2;omega
   ·cases h
  ·cases h
theorem qD.shp_le:∀(x:qD),x.shp.1<=x.shp.2.1/\x.shp.2.1<=x.nd/\(x.shp.2.2=true->1<=x.shp.2.1):=qD.ind fun x ih=>by
 rw[qD.shp_eq,qD.nd_eq];split
 ·simp
 ·rename_i d s h;split at h
  ·have:=qD.shps_le ih h;simp only;omega
  ·cases h
mutual
def qD.nod:qD->Nat->Bool->Nat->Option Nat
 |.mk k v n t ns ks,d,c,l=>if d=0\/l=0 then none else if (decide (k=10)==c)then(if qX (.mk k v n t ns ks)then qD.nods (decide (k=9)) ks false (d-1) l 1 else none)else none
def qD.nods(m:Bool):List qD->Bool->Nat->Nat->Nat->Option Nat
 |[],_,_,_,n=>some n
 | x::xs,p,d,l,n=>match x.nod d (m&&p) (l-n)with
  | none=>none
  | some k=>qD.nods m xs true d l (n+k)
end
theorem qD.nod_eq(x:qD)(d:Nat)(c:Bool)(l:Nat):x.nod d c l=if d=0\/l=0 then none else if (decide (x.Kind=10)==c)then(if qX x then qD.nods (decide (x.Kind=9)) x.Kids false (d-1) l 1 else none)else none:=by cases x;rw[qD.nod];rfl
theorem qD.nods_shps{m:Bool}{e l:Nat}:∀{xs:List qD},(∀y∈xs,∀(c:Bool)(l:Nat),y.nod e c l=if y.shp.2.2=true/\y.shp.1<=e/\y.shp.2.1<=l/\(decide (y.Kind=10)==c)=true then some y.shp.2.1 else none)->∀{p:Bool}{d s:Nat},d<=e+1->s<=l->
  qD.nods m xs p e l s=match qD.shps m xs p d s with
   | none=>none
   | some (d1,s1)=>if d1<=e+1/\s1<=l then some s1 else none
 |[],_,p,d,s,hd,hs=>by simp[qD.nods,qD.shps,hd,hs]
 | x::xs,ih,p,d,s,hd,hs=>by
  have hx:=ih x (by simp);have hxs:=fun(d s:Nat)(q:d<=e+1)(q2:s<=l)=>qD.nods_shps (m:=m) (l:=l) (xs:=xs) (fun y hy=>ih y (by simp[hy])) (p:=true) (d:=d) (s:=s) q q2;have hq:∀{d s d1 s1},qD.shps m xs true d s=some (d1,s1)->d<=d1/\s<=s1:=fun h=>by
   have:=qD.shps_le (fun y _=>qD.shp_le y) h;omega
  simp only[qD.nods,qD.shps_eq,hx];generalize x.shp=pp;obtain⟨d',s',ok⟩:=pp;cases hc:(decide (x.Kind=10)==(m&&p))
  ·simp
  ·cases ok with
   | false=>simp
   | true=>
    simp only[true_and,if_true,and_true];by_cases h:d'<=e/\s'<=l-s
    ·rw[if_pos h];exact hxs _ _ (by omega) (by omega)
    ·rw[if_neg h];cases hz:qD.shps m xs true (max d (d'+1)) (s+s')with
     | none=>rfl
     | some p=>
      obtain⟨d1,s1⟩:=p;have:=hq hz;simp only;rw[if_neg (by omega)]
theorem qD.nod_shp:∀(x:qD)(d:Nat)(c:Bool)(l:Nat),x.nod d c l=if x.shp.2.2=true/\x.shp.1<=d/\x.shp.2.1<=l/\(decide (x.Kind=10)==c)=true then some x.shp.2.1 else none:=qD.ind fun x ih d c l=>by
 rw[qD.nod_eq];have hle:=qD.shp_le x;by_cases h0:d=0\/l=0
 ·rw[if_pos h0,if_neg];rintro⟨q1,q2,q3,_⟩;have:=hle.2.2 q1;rw[qD.shp_eq]at q1 q2 q3 this;split at q1
  ·cases q1
  ·rename_i d1 s1 h;rw[h]at q2 q3;split at h
   ·have:=qD.shps_le (fun y _=>qD.shp_le y) h;simp only at q2 q3;omega
   ·cases h
 rw[if_neg h0];cases hc:(decide (x.Kind=10)==c)
 ·simp
 rw[qD.shp_eq];cases hn:qX x
 ·simp
 simp only[if_true,and_true];rw[qD.nods_shps (d:=1) (fun y hy=>ih y hy (d-1)) (by omega) (by omega)];cases hz:qD.shps (decide (x.Kind=9)) x.Kids false 1 1 with
 | none=>simp
 | some p=>
  obtain⟨d1,s1⟩:=p;simp only[true_and];congr 1;apply propext;omega
def wF(x:qD):Bool:=x.shp.2.2&&(!decide (x.Kind=10)&&(decide (x.shp.1<=24)&&decide (x.shp.2.1<=160)))
theorem qg9(x:qD):wF x=decide (0<jI (x.nod 24 false 160)):=by
 rw[qD.nod_shp,wF];have:=qD.shp_le x;by_cases h1:x.shp.2.2=true
 ·have h2:=this.2.2 h1;by_cases h3:x.Kind=10
  ·simp[h1,h3,jI]
  ·by_cases h4:x.shp.1<=24/\x.shp.2.1<=160
   ·rw[if_pos ⟨h1,h4.1,h4.2,by simp[h3]⟩];simp[h1,h3,h4,jI];omega
   ·rw[if_neg fun q=>h4 ⟨q.2.1,q.2.2.1⟩];simp[h1,h3,jI];omega
 ·rw[if_neg fun q=>h1 q.1];simp[h1,jI]
theorem qeH{x:qD}{d l n:Nat}{c:Bool}(h:x.nod d c l=some n):1<=n/\n<=l:=by
 rw[qD.nod_shp]at h;split at h
 ·rename_i q;cases h;exact⟨(qD.shp_le x).2.2 q.1,q.2.2.1⟩
 ·cases h
theorem qYF{x:qD}(hb:x.bd)(hw:x.wz<=1048575):TB x/\(∀y∈x.Kids,y.bd/\y.wz<=1048575)/\x.Kids.length+qM qD.wz x.Kids<=1048575:=by
 rw[qD.bd_eq]at hb;rw[qD.wz_eq]at hw;have h1:=qB.nd_wz x.Typ;have h2:=qB.wz_eq x.Typ;have h3:∀xs:List qD,∀y∈xs,y.wz<=qM qD.wz xs:=fun xs=>by
  induction xs with
  | nil=>intro y hy;cases hy
  | cons z zs ih=>
   intro y hy;simp only[qM];rcases List.mem_cons.1 hy with rfl | hy
   ·omega
   ·have:=ih y hy;omega
 exact⟨⟨hb.1,hb.2.1,by omega,by omega,hb.2.2.1,by omega,by omega⟩,fun y hy=>⟨hb.2.2.2 y hy,by have:=h3 _ y hy;omega⟩,by omega⟩
theorem c445(x:qD):∀(hb:x.bd)(hn:x.wz<=1048575),Pure Gm 445 [x.enc] (.tup [.int .i64 (x.shp.1:Nat),.int .i64 (x.shp.2.1:Nat),.bool x.shp.2.2]):=by
 induction x using qD.ind with
 | _ x ih=>
 intro hb hn;refine pJ Ul ?_;simp only[Ul,qH,go_sem];obtain⟨B,hk,hs⟩:=qYF hb hn;refine zM qD.ln ?_;simp only[go_sem];have hq:=qD.shp_eq x;refine qF (c807 B) ?_;simp only[go_sem];cases ho:qX x
 ·simp only[nF,go_sem];rw[ho]at hq;simp only[bFt,if_false]at hq;exact zU rfl (by rw[hq];rfl)
 simp only[nT,go_sem];rw[ho,if_pos rfl]at hq;have e0:x.Kids.length<=1048575:=by omega
 have el:x.nd<=1048576:=by have:=qD.nd_wz x;omega
 have hnd:=qD.nd_eq x;refine Sem.loop (fun a:Nat×Nat×Nat=>a.1<=x.Kids.length/\a.2.1<=a.2.2/\1<=a.2.2/\a.2.2+qM qD.nd (x.Kids.drop a.1)<=1048576/\qD.shps (decide (x.Kind=9)) x.Kids false 1 1=qD.shps (decide (x.Kind=9)) (x.Kids.drop a.1) (decide (0<a.1)) a.2.1 a.2.2)
  (fun a=>(⟨[(2,.int .i64 (a.2.1:Nat)),(3,.int .i64 (a.2.2:Nat)),(14,.lst 8 (x.Kids.map qD.enc) false),(15,.int .i64 x.Kids.length),(16,.int .i64 (a.1:Nat))],[(1,x.enc)],[]⟩:VSt)) (fun a=>x.Kids.length-a.1) (0,1,1) (by kernel_rfl) ⟨nZl _,nLr _,nLr _,by simp only[List.drop_zero];omega,rfl⟩ cS ?_
 rintro⟨i,d,s⟩ ⟨hi,h1,h2,h3,hI⟩;simp only at hi h1 h2 h3 hI;simp only[go_sem];apply zj<;>intro hc<;>simp only[hc,go_sem]
 ·have hlt:i<x.Kids.length:=by have:=odT hc;omega
  simp only[gMp,gEg hlt,oMs,go_sem];refine wf rfl qD.ln (by exact⟨_,qD.enc_eq _⟩) (by decide) ?_;simp only[go_sem];have hm:=gMm hlt;have hd:x.Kids.drop i=x.Kids[i]::x.Kids.drop (i+1):=by simp
  rw[hd]at h3;simp only[qM]at h3;rw[hd,qD.shps_eq]at hI;have hi0:decide ((0:Int)<((i:Nat):Int))=decide (0<i):=by rw[decide_eq_decide];omega
  cases hc:(decide (x.Kids[i].Kind=10)==(decide (x.Kind=9)&&decide (0<i)))
  ·have hbad:qD.shps (decide (x.Kind=9)) x.Kids false 1 1=none:=by rw[hI,hc];rfl
   rw[hbad]at hq;by_cases k9:x.Kind=9
   ·simp only[dTt k9,gt_iff_lt,hi0,Bool.true_and,go_sem]at hc|-;simp only[hc,nF,go_sem];exact zU rfl (by rw[hq];rfl)
   ·simp only[dFf k9,Bool.false_and,go_sem]at hc|-;simp only[hc,nF,go_sem];exact zU rfl (by rw[hq];rfl)
  ·rw[hc,if_pos rfl]at hI;have hle:=qD.shp_le x.Kids[i];by_cases k9:x.Kind=9
   case' pos=>
    simp only[dTt k9,gt_iff_lt,hi0,Bool.true_and,go_sem]at hc|-
   case' neg=>
    simp only[dFf k9,Bool.false_and,go_sem]at hc|-
   all_goals
    simp only[hc,nT,go_sem];refine qF (ih _ hm (hk _ hm).1 (hk _ hm).2) ?_;simp only[go_sem];cases hg:x.Kids[i].shp.2.2
    ·simp only[nF];simp only[go_sem];rw[hg,if_neg (by decide)]at hI;rw[hI]at hq;exact zU rfl (by rw[hq];rfl)
    ·rw[hg,if_pos rfl]at hI;simp only[nT];simp only[go_sem];simp only[zF (n:=((x.Kids[i].shp.1:Nat):Int)+1) (by omega) (by omega),zF (n:=(s:Int)+((x.Kids[i].shp.2.1:Nat):Int)) (by omega) (by omega)];have em:max ((d:Nat):Int) (((x.Kids[i].shp.1:Nat):Int)+1)=((max d (x.Kids[i].shp.1+1):Nat):Int):=by omega
     have es:(s:Int)+((x.Kids[i].shp.2.1:Nat):Int)=((s+x.Kids[i].shp.2.1:Nat):Int):=by omega
     rw[em,es];simp only[qp (show i<4611686018427387904 by omega)];have hp:=hle.2.2 hg;refine qW (i+1,max d (x.Kids[i].shp.1+1),s+x.Kids[i].shp.2.1) ⟨by simp only;omega,by simp only;omega,by simp only;omega,by simp only;omega, ?_⟩ (by simp only;omega) cS
     first | (rw[dTt k9]at*;rw[hI];simp) | (rw[dFf k9]at*;rw[hI];simp)
 ·obtain rfl:i=x.Kids.length:=by have:=odF hc;omega
  rw[List.drop_length,qD.shps]at hI;rw[hI]at hq;exact zU rfl (by rw[hq])
theorem c144{x:qD}(hb:x.bd)(hn:x.wz<=1048575):Pure Gm 144 [x.enc] (.bool (wF x)):=by
 refine pJ V2 ?_;simp only[V2,qH,go_sem];refine zM qD.ln ?_;simp only[go_sem];refine qF (c445 x hb hn) ?_;simp only[go_sem];have z1:decide (((x.shp.1:Nat):Int)<=24)=decide (x.shp.1<=24):=by rw[decide_eq_decide];omega
 have z2:decide (((x.shp.2.1:Nat):Int)<=160)=decide (x.shp.2.1<=160):=by rw[decide_eq_decide];omega
 cases h1:x.shp.2.2
 ·simp only[go_sem];exact qE rfl (by simp[wF,h1])
 simp only[go_sem];by_cases h2:x.Kind=10
 ·simp only[h2,decide_true,nT,go_sem];exact qE rfl (by simp[wF,h2])
 simp only[dFf h2,nF,z1,go_sem];by_cases h3:x.shp.1<=24
 ·simp only[dTt h3,z2,go_sem];exact qE rfl (by simp[wF,h1,h2,h3])
 ·simp only[dFf h3,go_sem];exact qE rfl (by simp[wF,h1,h2,h3])
theorem qD.shps_all{m:Bool}:∀{xs:List qD}{p:Bool}{d s d1 s1:Nat},qD.shps m xs p d s=some (d1,s1)->∀y∈xs,y.shp.2.2=true
 |[],_,_,_,_,_,_,y,hy=>by cases hy
 | x::xs,p,d,s,d1,s1,h,y,hy=>by
  rw[qD.shps_eq]at h;split at h
  ·split at h
   ·rename_i he;rcases List.mem_cons.1 hy with rfl | hy
    ·exact he
    ·exact qD.shps_all h y hy
   ·cases h
  ·cases h
theorem qD.shp_ok{x:qD}(h:x.shp.2.2=true):qX x=true/\∀y∈x.Kids,y.shp.2.2=true:=by
 rw[qD.shp_eq]at h;cases hn:qX x with
 | false=>rw[hn]at h;simp at h
 | true=>
  rw[hn,if_pos rfl]at h;refine⟨rfl, ?_⟩;cases hs:qD.shps (decide (x.Kind=9)) x.Kids false 1 1 with
  | none=>rw[hs]at h;simp at h
  | some p=>obtain⟨d,s⟩:=p;exact qD.shps_all hs
theorem qD.shps_case{m:Bool}:∀{xs:List qD}{p:Bool}{d s d1 s1:Nat},qD.shps m xs p d s=some (d1,s1)->∀i (h:i<xs.length),decide (xs[i].Kind=10)=(m&&(p || decide (0<i)))
 |[],_,_,_,_,_,_,i,h=>by simp at h
 | x::xs,p,d,s,d1,s1,h,i,hi=>by
  rw[qD.shps_eq]at h;split at h
  ·rename_i hc;split at h
   ·cases i with
    | zero=>simpa using hc
    | succ i=>
     have:=qD.shps_case h i (by simpa using hi);simpa using this
   ·cases h
  ·cases h
theorem JD{sep:Str}:∀{xs:List Str}{b:Nat},(∀s∈xs,s.length<=b)->(jn sep xs).length<=xs.length*(sep.length+b)
 |[],b,_=>by simp[jn]
 | x::r,b,h=>by
  have hr:∀(r:List Str),(∀s∈r,s.length<=b)->((r.map (sep++ ·)).flatten).length<=r.length*(sep.length+b):=fun r=>by
   induction r with
   | nil=>intro _;simp
   | cons y r ih=>
    intro h;have h1:=h y (by simp);have h2:=ih fun s hs=>h s (by simp[hs]);simp only[lMc,List.flatten_cons,lAp,lCo,Nat.add_mul,Nat.one_mul];omega
  have h1:=h x (by simp);have h2:=hr r fun s hs=>h s (by simp[hs]);rw[jn,lAp,lCo,Nat.add_mul,Nat.one_mul];omega
theorem Zg{xs:List Str}{b:Nat}(h:∀s∈xs,s.length<=b):(brk xs).length<=xs.length*(2+b)+2:=by
 have:(jn [44,32] xs).length<=xs.length*(2+b):=JD (sep:=[44,32]) h;unfold brk;split
 ·simp
 ·simp only[lAp,lCo,lNi];omega
theorem qU9{sep:Str}:∀{xs:List Str},(jn sep xs).length<=qM List.length xs+xs.length*sep.length
 |[]=>by simp[jn,qM]
 | x::r=>by
  have hr:∀(r:List Str),((r.map (sep++ ·)).flatten).length<=qM List.length r+r.length*sep.length:=fun r=>by
   induction r with
   | nil=>simp[qM]
   | cons y r ih=>
    simp only[lMc,List.flatten_cons,lAp,lCo,Nat.add_mul,Nat.one_mul,qM];omega
  have h2:=hr r;rw[jn,lAp,lCo,Nat.add_mul,Nat.one_mul,qM];omega
theorem qVC{bs:List (Nat×Str)}{i lv:Nat}:(zW bs i lv).length<=(bs.getD i (0,[])).2.length+2:=by
 unfold zW;split
 ·simp only[lAp,lCo,lNi];omega
 ·omega
theorem qAU(j:Nat):(opT j).length<=1:=by
 unfold opT;rw[lLt];omega
theorem qYA{f:qD->Str}:∀{ks:List qD},(∀y∈ks,(f y).length<=800*y.nd)->qM List.length (ks.map f)<=800*qM qD.nd ks
 |[],_=>by simp[qM]
 | y::ks,h=>by
  have h1:=h y (by simp);have h2:=qYA (ks:=ks) fun z hz=>h z (by simp[hz]);simp only[lMc,qM];omega
theorem kZ{n:Int}(h0: -2147483648<=n)(h1:n<=2147483647):(Lib.itoa n).length<=11:=by
 unfold Lib.itoa;split
 ·have:=K5 (u:=n.natAbs) (by omega);simp only[lCo];omega
 ·have:=K5 (u:=n.toNat) (by omega);omega
theorem ZT:∀x:qD,x.shp.2.2=true->(x.tx tyT).length<=800*x.nd:=qD.ind fun x ih h=>by
 obtain⟨h1,h2⟩:=qD.shp_ok h;have B:=NB.of h1;have hs:=qYA (f:=fun y=>y.tx tyT) (ks:=x.Kids) fun y hy=>ih y hy (h2 y hy);have hnd:=x.nd_eq;obtain⟨k1,k2⟩:=B.k;have bn:=B.s;rw[qD.tx_eq];generalize hbs:x.Kids.map (fun y=>(y.lev,y.tx tyT))=bs;have hb2:bs.map Prod.snd=x.Kids.map fun y=>y.tx tyT:=by rw[<-hbs,List.map_map];rfl
 rw[<-hb2]at hs;have hbl:bs.length=x.Kids.length:=by rw[<-hbs,lMp]
 have K:∀i lv,(zW bs i lv).length<=(bs.getD i (0,[])).2.length+2:=fun i lv=>qVC;unfold zt;by_cases q2:x.Kind=2
 ·rw[if_pos q2];have:=kZ B.n.1 B.n.2;split
  ·simp only[lAp,lCo,lNi];omega
  ·omega
 rw[if_neg q2];have Z:∀(p:Nat×Str)(r:List (Nat×Str)),qM List.length ((p::r).map Prod.snd)=p.2.length+qM List.length (r.map Prod.snd):=fun p r=>rfl;have Z0:qM List.length (([]:List (Nat×Str)).map Prod.snd)=0:=rfl;by_cases q3:x.Kind=3
 ·rw[if_pos q3];have kk:x.Kids.length=2:=by
   rw[q3]at k1 k2;have e1:kLo 3=2:=rfl;have e2:kHi 3=2:=rfl;omega
  rw[kk]at hbl;obtain _ | ⟨a,_ | ⟨b,_ | ⟨c,r⟩⟩⟩:=bs<;>simp only[lNi,lCo]at hbl<;>try omega
  rw[Z,Z,Z0]at hs;have ka:(zW [a,b] 0 (if x.lev=1 then 2 else x.lev)).length<=a.2.length+2:=K 0 _;have kb:(zW [a,b] 1 (x.lev+1)).length<=b.2.length+2:=K 1 _;have o:=qAU x.Num.toNat;simp only[lAp,lCo,lNi];omega
 rw[if_neg q3];by_cases q4:x.Kind=4
 ·rw[if_pos q4];have kk:x.Kids.length=1:=by
   rw[q4]at k1 k2;have e1:kLo 4=1:=rfl;have e2:kHi 4=1:=rfl;omega
  rw[kk]at hbl;obtain _ | ⟨a,_ | ⟨b,r⟩⟩:=bs<;>simp only[lNi,lCo]at hbl<;>try omega
  rw[Z,Z0]at hs;have ka:(zW [a] 0 0).length<=a.2.length+2:=K 0 _;have o:=Jq (B.t q4);simp only[lAp,lCo,lNi];omega
 rw[if_neg q4];by_cases q5:x.Kind=5
 ·rw[if_pos q5];have kk:x.Kids.length=2:=by
   rw[q5]at k1 k2;have e1:kLo 5=2:=rfl;have e2:kHi 5=2:=rfl;omega
  rw[kk]at hbl;obtain _ | ⟨a,_ | ⟨b,_ | ⟨c,r⟩⟩⟩:=bs<;>simp only[lNi,lCo]at hbl<;>try omega
  rw[Z,Z,Z0]at hs;have ka:(zW [a,b] 0 4).length<=a.2.length+2:=K 0 _;have kb:(zW [a,b] 1 5).length<=b.2.length+2:=K 1 _;simp only[lAp,lCo,lNi];omega
 rw[if_neg q5];by_cases q6:x.Kind=6
 ·rw[if_pos q6];have kk:x.Kids.length=1:=by
   rw[q6]at k1 k2;have e1:kLo 6=1:=rfl;have e2:kHi 6=1:=rfl;omega
  rw[kk]at hbl;obtain _ | ⟨a,_ | ⟨b,r⟩⟩:=bs<;>simp only[lNi,lCo]at hbl<;>try omega
  rw[Z,Z0]at hs;have ka:(zW [a] 0 5).length<=a.2.length+2:=K 0 _;simp only[lAp,lCo,lNi];omega
 rw[if_neg q6];by_cases q7:x.Kind=7
 ·rw[if_pos q7];have kk:x.Kids.length=2:=by
   rw[q7]at k1 k2;have e1:kLo 7=2:=rfl;have e2:kHi 7=2:=rfl;omega
  rw[kk]at hbl;obtain _ | ⟨a,_ | ⟨b,_ | ⟨c,r⟩⟩⟩:=bs<;>simp only[lNi,lCo]at hbl<;>try omega
  rw[Z,Z,Z0]at hs;have ka:(zW [a,b] 0 0).length<=a.2.length+2:=K 0 _;have kb:(zW [a,b] 1 0).length<=b.2.length+2:=K 1 _;simp only[lAp,lCo,lNi];omega
 rw[if_neg q7];by_cases q8:x.Kind=8
 ·rw[if_pos q8];have kk:x.Kids.length<=3:=by
   rw[q8]at k1 k2;have e2:kHi 8=3:=rfl;omega
  have j:=qU9 (sep:=[44,32]) (xs:=bs.map Prod.snd);rw[lMp,hbl]at j;simp only[lAp,lCo,lNi]at j|-;unfold brk;split
  ·simp only[lNi];omega
  ·simp only[lAp,lCo,lNi];omega
 rw[if_neg q8];by_cases q9:x.Kind=9
 ·rw[if_pos q9];have kk:x.Kids.length<=5/\2<=x.Kids.length:=by
   rw[q9]at k1 k2;have e1:kLo 9=2:=rfl;have e2:kHi 9=5:=rfl;omega
  obtain _ | ⟨a,r⟩:=bs
  ·simp only[lNi]at hbl;omega
  rw[Z]at hs;simp only[lCo]at hbl;have ka:(zW (a::r) 0 0).length<=a.2.length+2:=K 0 _;have j:=qU9 (sep:=[59,32]) (xs:=r.map Prod.snd);rw[lMp]at j;simp only[List.drop_succ_cons,List.drop_zero,lAp,lCo,lNi]at j|-;omega
 rw[if_neg q9];by_cases q10:x.Kind=10
 ·rw[if_pos q10];have kk:x.Kids.length=1:=by
   rw[q10]at k1 k2;have e1:kLo 10=1:=rfl;have e2:kHi 10=1:=rfl;omega
  rw[kk]at hbl;obtain _ | ⟨a,_ | ⟨b,r⟩⟩:=bs<;>simp only[lNi,lCo]at hbl<;>try omega
  rw[Z,Z0]at hs;have ka:(zW [a] 0 0).length<=a.2.length+2:=K 0 _;have j:=Zg (xs:=x.Names) B.ns.2;have j2:=B.ns.1;have j3:x.Names.length*(2+12)<=3*14:=Nat.mul_le_mul_right 14 j2;simp only[lAp,lCo,lNi];omega
 rw[if_neg q10];by_cases q11:x.Kind=11
 ·rw[if_pos q11];have kk:x.Kids.length=3:=by
   rw[q11]at k1 k2;have e1:kLo 11=3:=rfl;have e2:kHi 11=3:=rfl;omega
  rw[kk]at hbl;obtain _ | ⟨a,_ | ⟨b,_ | ⟨c,_ | ⟨d,r⟩⟩⟩⟩:=bs<;>simp only[lNi,lCo]at hbl<;>try omega
  rw[Z,Z,Z,Z0]at hs;have ka:(zW [a,b,c] 0 0).length<=a.2.length+2:=K 0 _;have kb:(zW [a,b,c] 1 0).length<=b.2.length+2:=K 1 _;have kc:(zW [a,b,c] 2 0).length<=c.2.length+2:=K 2 _;simp only[lAp,lCo,lNi];omega
 rw[if_neg q11];omega
theorem qD.kind_at{x:qD}(h:x.shp.2.2=true):∀i (hi:i<x.Kids.length),decide (x.Kids[i].Kind=10)=(decide (x.Kind=9)&&decide (0<i)):=by
 rw[qD.shp_eq]at h;cases hn:qX x with
 | false=>rw[hn]at h;simp at h
 | true=>
  rw[hn,if_pos rfl]at h;cases hs:qD.shps (decide (x.Kind=9)) x.Kids false 1 1 with
  | none=>rw[hs]at h;simp at h
  | some p=>
   obtain⟨d,s⟩:=p;intro i hi;have:=qD.shps_case hs i hi;simpa using this
theorem qD.kids10{x:qD}(h:x.shp.2.2=true)(h9:x.Kind≠9):∀y∈x.Kids,y.Kind≠10:=fun y hy=>by
 obtain⟨i,hi,rfl⟩:=List.getElem_of_mem hy;have:=qD.kind_at h i hi;rw[dFf h9,Bool.false_and]at this;exact odF this
def qSP(x:qD):Prop:=x.shp.2.2=true->x.Kind≠10->x.nd<=100000->Pure Gm 1007 [.ept x.enc 0] (.str (x.tx tyT))
theorem qZS:∀x:qD,qSP x/\∀z∈x.Kids,qSP z:=qD.ind fun x ih'=>by
 refine⟨fun hx h10 hd=> ?_,fun z hz=>(ih' z hz).1⟩;have ih:=fun y hy=>(ih' y hy).1;have ihg:=fun y hy=>(ih' y hy).2;obtain⟨h1,h2⟩:=qD.shp_ok hx;have B:=NB.of h1;have hnd:=x.nd_eq;obtain⟨k1,k2⟩:=B.k;have hle:∀y∈x.Kids,(y.tx tyT).length<=80000000:=fun y hy=>by
  have e1:=ZT y (h2 y hy);have e2:=wv (f:=qD.nd) hy;omega
 have C0:∀y∈x.Kids,y.Kind≠10->∀lv:Nat,Pure Gm 627 [.ept y.enc 0,.int .i64 (lv:Nat)] (.str (if y.lev<lv then [40]++y.tx tyT++[41]else y.tx tyT)):=fun y hy hy10 lv=>by
  have e2:=wv (f:=qD.nd) hy;exact Ky (by have:=hle y hy;omega) (ih y hy (h2 y hy) hy10 (by omega))
 have L:∀y∈x.Kids,∀lv:Nat,(if y.lev<lv then [40]++y.tx tyT++[41]else y.tx tyT).length<=80000002:=fun y hy lv=>by
  have:=hle y hy;split
  ·simp only[lAp,lCo,lNi];omega
  ·omega
 have hq:=qD.tx_eq tyT x;refine pI Y6 (by simp[AV.trees,AV.tree,qD.tr]) rfl ?_;simp only[Y6,qH,go_sem];have bn:=B.s;by_cases q2:x.Kind=2
 ·rw[zt,if_pos q2]at hq;simp only[dTt q2,go_sem];have hi:=kZ B.n.1 B.n.2;by_cases hn:x.Num<0
  ·simp only[dTt hn,go_sem];rw[if_pos hn]at hq;refine qF (qTQ B.n.1 (by have:=B.n.2;omega)) ?_;simp only[go_sem];refine qN ?_;simp only[go_sem];refine qN ?_;simp only[go_sem];exact qE rfl (by rw[hq])
  ·simp only[dFf hn,go_sem];rw[if_neg hn]at hq;refine qF (qTQ B.n.1 (by have:=B.n.2;omega)) ?_;simp only[go_sem];exact qE rfl (by rw[hq])
 simp only[dFf q2,go_sem];by_cases q3:x.Kind=3
 ·have C:=fun y hy lv=>C0 y hy (qD.kids10 hx (by omega) y hy) lv;rw[zt,if_neg q2,if_pos q3]at hq;have kk:x.Kids.length=2:=by
   rw[q3]at k1 k2;have e1:kLo 3=2:=rfl;have e2:kHi 3=2:=rfl;omega
  obtain⟨a,b,hk⟩:∃a b,x.Kids=[a,b]:=by
   match x.Kids,kk with
   |[a,b],_=>exact⟨a,b,rfl⟩
  have ha:a∈x.Kids:=by rw[hk];simp
  have hb:b∈x.Kids:=by rw[hk];simp
  rw[hk]at hq;obtain⟨j,hj⟩:∃j:Nat,x.Num=j:=⟨x.Num.toNat,by have:=B.o q3;omega⟩;have hj6:=B.o q3;have o:=qAU j;have hlv:x.lev<=5:=by unfold qD.lev;(repeat' split)<;>omega
  simp only[dTt q3,go_sem];refine qF qTA ?_;simp only[go_sem];have el:decide (((x.lev:Nat):Int)=1)=decide (x.lev=1):=by rw[decide_eq_decide];omega
  simp only[el];by_cases hl1:x.lev=1
  case' pos=>
   simp only[dTt hl1,go_sem];have hc:=C a ha 2;have hla:=L a ha 2;rw[if_pos hl1]at hq
  case' neg=>
   simp only[dFf hl1,go_sem];have hc:=C a ha x.lev;have hla:=L a ha x.lev;rw[if_neg hl1]at hq
  all_goals
   have hlb:=L b hb (x.lev+1);simp only[hk,hj,lMc,List.map_nil,List.getElem?_cons_zero,List.getElem?_cons_succ,oMs,go_sem];have e9:((x.lev:Nat):Int)+1=((x.lev+1:Nat):Int):=by omega
   simp only[e9,zF (n:=((x.lev+1:Nat):Int)) (by omega) (by omega),go_sem];refine qF hc ?_;simp only[go_sem];refine qN ?_;simp only[go_sem];refine qF (qZ5 (j:=j) (by omega) (by omega)) ?_;simp only[go_sem];refine qN ?_;simp only[go_sem];refine qN ?_;simp only[go_sem];refine qF (C b hb (x.lev+1)) ?_;simp only[go_sem];refine qN ?_;simp only[go_sem];exact qE rfl (by rw[hq,hj];rfl)
 simp only[dFf q3,go_sem];by_cases q4:x.Kind=4
 ·have C:=fun y hy lv=>C0 y hy (qD.kids10 hx (by omega) y hy) lv;rw[zt,if_neg q2,if_neg q3,if_pos q4]at hq;have kk:x.Kids.length=1:=by
   rw[q4]at k1 k2;have e1:kLo 4=1:=rfl;have e2:kHi 4=1:=rfl;omega
  obtain⟨a,hk⟩:∃a,x.Kids=[a]:=by
   match x.Kids,kk with
   |[a],_=>exact⟨a,rfl⟩
  have haa:a∈x.Kids:=by rw[hk];simp
  rw[hk]at hq;simp only[dTt q4,go_sem];have la:=L a haa 0;have tl:=Jq (B.t q4)
  try simp only[hk,lMc,List.map_nil,List.getElem?_cons_zero,List.getElem?_cons_succ,oMs,go_sem]
  refine qN ?_;simp only[hk,lMc,List.map_nil,List.getElem?_cons_zero,List.getElem?_cons_succ,oMs,go_sem];refine qN ?_;simp only[hk,lMc,List.map_nil,List.getElem?_cons_zero,List.getElem?_cons_succ,oMs,go_sem];refine qF (Xe (B.t q4)) ?_;simp only[hk,lMc,List.map_nil,List.getElem?_cons_zero,List.getElem?_cons_succ,oMs,go_sem];refine qN ?_;simp only[hk,lMc,List.map_nil,List.getElem?_cons_zero,List.getElem?_cons_succ,oMs,go_sem];refine qN ?_;simp only[hk,lMc,List.map_nil,List.getElem?_cons_zero,List.getElem?_cons_succ,oMs,go_sem];refine qF (C a haa 0) ?_;simp only[hk,lMc,List.map_nil,List.getElem?_cons_zero,List.getElem?_cons_succ,oMs,go_sem];refine qN ?_;simp only[hk,lMc,List.map_nil,List.getElem?_cons_zero,List.getElem?_cons_succ,oMs,go_sem];exact qE rfl (by rw[hq];rfl)
 simp only[dFf q4,go_sem];by_cases q5:x.Kind=5
 ·have C:=fun y hy lv=>C0 y hy (qD.kids10 hx (by omega) y hy) lv;rw[zt,if_neg q2,if_neg q3,if_neg q4,if_pos q5]at hq;have kk:x.Kids.length=2:=by
   rw[q5]at k1 k2;have e1:kLo 5=2:=rfl;have e2:kHi 5=2:=rfl;omega
  obtain⟨a,b,hk⟩:∃a b,x.Kids=[a,b]:=by
   match x.Kids,kk with
   |[a,b],_=>exact⟨a,b,rfl⟩
  have haa:a∈x.Kids:=by rw[hk];simp
  have hbb:b∈x.Kids:=by rw[hk];simp
  rw[hk]at hq;simp only[dTt q5,go_sem];have la:=L a haa 4;have lb:=L b hbb 5
  try simp only[hk,lMc,List.map_nil,List.getElem?_cons_zero,List.getElem?_cons_succ,oMs,go_sem]
  refine qF (C a haa 4) ?_;simp only[hk,lMc,List.map_nil,List.getElem?_cons_zero,List.getElem?_cons_succ,oMs,go_sem];refine qN ?_;simp only[hk,lMc,List.map_nil,List.getElem?_cons_zero,List.getElem?_cons_succ,oMs,go_sem];refine qF (C b hbb 5) ?_;simp only[hk,lMc,List.map_nil,List.getElem?_cons_zero,List.getElem?_cons_succ,oMs,go_sem];refine qN ?_;simp only[hk,lMc,List.map_nil,List.getElem?_cons_zero,List.getElem?_cons_succ,oMs,go_sem];exact qE rfl (by rw[hq];rfl)
 simp only[dFf q5,go_sem];by_cases q6:x.Kind=6
 ·have C:=fun y hy lv=>C0 y hy (qD.kids10 hx (by omega) y hy) lv;rw[zt,if_neg q2,if_neg q3,if_neg q4,if_neg q5,if_pos q6]at hq;have kk:x.Kids.length=1:=by
   rw[q6]at k1 k2;have e1:kLo 6=1:=rfl;have e2:kHi 6=1:=rfl;omega
  obtain⟨a,hk⟩:∃a,x.Kids=[a]:=by
   match x.Kids,kk with
   |[a],_=>exact⟨a,rfl⟩
  have haa:a∈x.Kids:=by rw[hk];simp
  rw[hk]at hq;simp only[dTt q6,go_sem];have la:=L a haa 5
  try simp only[hk,lMc,List.map_nil,List.getElem?_cons_zero,List.getElem?_cons_succ,oMs,go_sem]
  refine qF (C a haa 5) ?_;simp only[hk,lMc,List.map_nil,List.getElem?_cons_zero,List.getElem?_cons_succ,oMs,go_sem];refine qN ?_;simp only[hk,lMc,List.map_nil,List.getElem?_cons_zero,List.getElem?_cons_succ,oMs,go_sem];exact qE rfl (by rw[hq];rfl)
 simp only[dFf q6,go_sem];by_cases q7:x.Kind=7
 ·have C:=fun y hy lv=>C0 y hy (qD.kids10 hx (by omega) y hy) lv;rw[zt,if_neg q2,if_neg q3,if_neg q4,if_neg q5,if_neg q6,if_pos q7]at hq;have kk:x.Kids.length=2:=by
   rw[q7]at k1 k2;have e1:kLo 7=2:=rfl;have e2:kHi 7=2:=rfl;omega
  obtain⟨a,b,hk⟩:∃a b,x.Kids=[a,b]:=by
   match x.Kids,kk with
   |[a,b],_=>exact⟨a,b,rfl⟩
  have haa:a∈x.Kids:=by rw[hk];simp
  have hbb:b∈x.Kids:=by rw[hk];simp
  rw[hk]at hq;simp only[dTt q7,go_sem];have la:=L a haa 0;have lb:=L b hbb 0
  try simp only[hk,lMc,List.map_nil,List.getElem?_cons_zero,List.getElem?_cons_succ,oMs,go_sem]
  refine qN ?_;simp only[hk,lMc,List.map_nil,List.getElem?_cons_zero,List.getElem?_cons_succ,oMs,go_sem];refine qN ?_;simp only[hk,lMc,List.map_nil,List.getElem?_cons_zero,List.getElem?_cons_succ,oMs,go_sem];refine qF (C a haa 0) ?_;simp only[hk,lMc,List.map_nil,List.getElem?_cons_zero,List.getElem?_cons_succ,oMs,go_sem];refine qN ?_;simp only[hk,lMc,List.map_nil,List.getElem?_cons_zero,List.getElem?_cons_succ,oMs,go_sem];refine qN ?_;simp only[hk,lMc,List.map_nil,List.getElem?_cons_zero,List.getElem?_cons_succ,oMs,go_sem];refine qF (C b hbb 0) ?_;simp only[hk,lMc,List.map_nil,List.getElem?_cons_zero,List.getElem?_cons_succ,oMs,go_sem];refine qN ?_;simp only[hk,lMc,List.map_nil,List.getElem?_cons_zero,List.getElem?_cons_succ,oMs,go_sem];exact qE rfl (by rw[hq];rfl)
 simp only[dFf q7,go_sem];by_cases q8:x.Kind=8
 ·have C:=fun y hy lv=>C0 y hy (qD.kids10 hx (by omega) y hy) lv;rw[zt,if_neg q2,if_neg q3,if_neg q4,if_neg q5,if_neg q6,if_neg q7,if_pos q8]at hq;have kk:x.Kids.length<=3:=by
   rw[q8]at k1 k2;have e2:kHi 8=3:=rfl;omega
  have hj:=JD (sep:=[44,32]) (xs:=x.Kids.map fun y=>y.tx tyT) (b:=80000002) (fun s hs=>by
   obtain⟨y,hy,rfl⟩:=List.mem_map.1 hs;have:=hle y hy;omega)
  have hj2:(x.Kids.map fun y=>y.tx tyT).length*([44,32].length+80000002)<=3*80000004:=by
   rw[lMp];exact Nat.mul_le_mul_right _ kk
  simp only[dTt q8,go_sem];refine qF (qZ6 (f:=fun y=>y.tx tyT) (by omega) (by omega) fun y hy=> ?_) ?_
  ·have:=C y hy 0;rw[if_neg (by omega)]at this;exact this
  simp only[go_sem];have hb:=Zg (xs:=x.Kids.map fun y=>y.tx tyT) (b:=80000002) (fun s hs=>by
   obtain⟨y,hy,rfl⟩:=List.mem_map.1 hs;have:=hle y hy;omega)
  have hb2:(x.Kids.map fun y=>y.tx tyT).length*(2+80000002)<=3*80000004:=by
   rw[lMp];exact Nat.mul_le_mul_right _ kk
  refine qN ?_;simp only[go_sem];exact qE rfl (by rw[hq,List.map_map];rfl)
 simp only[dFf q8,go_sem];by_cases q9:x.Kind=9
 ·rw[zt,if_neg q2,if_neg q3,if_neg q4,if_neg q5,if_neg q6,if_neg q7,if_neg q8,if_pos q9]at hq;have kk:2<=x.Kids.length/\x.Kids.length<=5:=by
   rw[q9]at k1 k2;have e1:kLo 9=2:=rfl;have e2:kHi 9=5:=rfl;omega
  have k10:=qD.kind_at hx;obtain⟨a,r,hk⟩:∃a r,x.Kids=a::r:=by
   match x.Kids,kk with
   | a::r,_=>exact⟨a,r,rfl⟩
  have haa:a∈x.Kids:=by rw[hk];simp
  have ha10:a.Kind≠10:=by
   have:=k10 0 (by omega);simp only[hk,List.getElem_cons_zero,Nat.lt_irrefl,decide_false,Bool.and_false]at this;exact odF this
  have D:∀y∈r,∃z,y.Kids=[z]/\Pure Gm 627 [.ept z.enc 0,.int .i64 0] (.str (z.tx tyT))/\y.tx tyT=y.Name++brk y.Names++[32,45,62,32]++z.tx tyT/\NB y/\(y.tx tyT).length<=80000000:=fun y hy=>by
   have hyx:y∈x.Kids:=by rw[hk];simp[hy]
   have hy10:y.Kind=10:=by
    obtain⟨i,hi,rfl⟩:=List.getElem_of_mem hy;have:=k10 (i+1) (by rw[hk];simpa using hi);simp only[hk,List.getElem_cons_succ,q9,decide_true,Bool.true_and,Nat.zero_lt_succ]at this;exact odT this
   obtain⟨g1,g2⟩:=qD.shp_ok (h2 y hyx);have By:=NB.of g1;have kl:y.Kids.length=1:=by
    have:=By.k;rw[hy10]at this;have e1:kLo 10=1:=rfl;have e2:kHi 10=1:=rfl;omega
   obtain⟨z,hz⟩:∃z,y.Kids=[z]:=by
    match y.Kids,kl with
    |[z],_=>exact⟨z,rfl⟩
   have hzy:z∈y.Kids:=by rw[hz];simp
   have hz10:=qD.kids10 (h2 y hyx) (by omega) z hzy;have n1:=wv (f:=qD.nd) hyx;have n2:=wv (f:=qD.nd) hzy;have n3:=y.nd_eq;have n4:=ZT z (g2 z hzy);have P:=Ky (lv:=0) (by omega) (ihg y hyx z hzy (g2 z hzy) hz10 (by omega));rw[if_neg (by omega)]at P;have et:=qD.tx_eq tyT y;rw[zt,if_neg (by omega),if_neg (by omega),if_neg (by omega),if_neg (by omega),if_neg (by omega),if_neg (by omega),if_neg (by omega),if_neg (by omega),if_pos hy10,hz]at et;exact⟨z,hz,P,et,By,hle y hyx⟩
  obtain⟨ts,hts⟩:∃ts,ts=r.map fun y=>y.tx tyT:=⟨_,rfl⟩;have hla:=hle a haa;have ca:=C0 a haa ha10 0;rw[if_neg (by omega)]at ca;obtain⟨pre,hpre⟩:∃pre:Str,pre=[109,97,116,99,104,32]++a.tx tyT++[32,123,32]:=⟨_,rfl⟩;have hpl:pre.length<=80000010:=by rw[hpre];simp only[lAp,lCo,lNi];omega
  have hq2:x.tx tyT=pre++jn [59,32] ts++[32,125]:=by
   rw[hq,hk,hpre,hts];simp only[lMc,List.drop_succ_cons,List.drop_zero,List.map_map,zW,List.getD_cons_zero,Nat.not_lt_zero,if_false];rfl
  have hrl:r.length<=4:=by have:=kk.2;rw[hk]at this;simpa using this
  have htl:ts.length=r.length:=by rw[hts,lMp]
  have hjl:(jn [59,32] ts).length<=400000000:=by
   have h1:(jn [59,32] ts).length<=ts.length*(2+80000000):=JD (sep:=[59,32]) fun s hs=>by
    rw[hts]at hs;obtain⟨y,hy,rfl⟩:=List.mem_map.1 hs;obtain⟨_,_,_,_,_,q⟩:=D y hy;exact q
   have h2:ts.length*(2+80000000)<=4*80000002:=Nat.mul_le_mul_right _ (by omega);omega
  simp only[dTt q9,hk,lMc,List.getElem?_cons_zero,oMs,go_sem];refine qF ca ?_;simp only[go_sem];refine qN ?_;simp only[go_sem];refine qN ?_;simp only[go_sem];rw[<-hpre];refine Sem.loop (fun i:Nat=>i<=r.length) (fun i=>(⟨[(0,.ept x.enc 0),(5,.str (pre++jn [59,32] (ts.take i))),(6,.int .i64 ((i+1:Nat):Int))],[],[]⟩:VSt)) (fun i=>r.length-i) 0 (by kernel_rfl) (nZl _) (by simp only[List.take_zero,jn,lAn];exact cS) ?_;intro i hi;simp only[hk,lMc,lCo,lMp,go_sem];by_cases hlt:i<r.length
  ·have e1:decide (((i+1:Nat):Int)<((r.length+1:Nat):Int))=true:=dTt (by omega);obtain⟨z,hz,P,et,By,ly⟩:=D r[i] (gMm hlt);have hs:=X0 (sep:=[59,32]) (xs:=ts) (i:=i) (by omega);have hj1:=QQ (sep:=[59,32]) (xs:=ts) (i+1);have hj0:=QQ (sep:=[59,32]) (xs:=ts) i;have hfi:∀h:i<ts.length,ts[i]=r[i].tx tyT:=fun h=>by subst hts;rw[List.getElem_map]
   rw[hfi,et]at hs;have bl:=Zg (xs:=r[i].Names) By.ns.2;have bl2:r[i].Names.length*(2+12)<=3*14:=Nat.mul_le_mul_right 14 By.ns.1;have jl:=JD (sep:=[44,32]) (xs:=r[i].Names) By.ns.2;have jl2:r[i].Names.length*([44,32].length+12)<=3*14:=Nat.mul_le_mul_right 14 By.ns.1;have nl:=By.s;have lz:(z.tx tyT).length<=80000000:=by rw[et]at ly;simp only[lAp]at ly;omega
   simp only[e1,go_sem];by_cases h0:i=0
   case' pos=>
    have e0:decide ((1:Int)<((i+1:Nat):Int))=false:=dFf (by omega);rw[if_pos h0,lNa]at hs;have hz0:jn [59,32] (ts.take i)=[]:=by rw[h0,List.take_zero];rfl
    simp only[gt_iff_lt,e0,hz0,lAn,go_sem]
   case' neg=>
    have e0:decide ((1:Int)<((i+1:Nat):Int))=true:=dTt (by omega);rw[if_neg h0]at hs;simp only[gt_iff_lt,e0,go_sem];refine qN ?_;simp only[go_sem]
   all_goals
    simp only[hk,hz,lMc,List.map_nil,List.getElem?_cons_zero,List.getElem?_cons_succ,gMp,gEg hlt,oMs,go_sem];refine qF (Kr (xs:=r[i].Names) (by omega) (by have:=By.ns.1;omega)) ?_;simp only[hk,hz,lMc,List.map_nil,List.getElem?_cons_zero,List.getElem?_cons_succ,gMp,gEg hlt,oMs,go_sem];refine qN ?_;simp only[go_sem];refine qN ?_;simp only[hk,hz,lMc,List.map_nil,List.getElem?_cons_zero,List.getElem?_cons_succ,gMp,gEg hlt,oMs,go_sem];refine qF P ?_;simp only[go_sem];refine qN ?_;simp only[go_sem];refine qN ?_;simp only[go_sem,qp (show i+1<4611686018427387904 by omega)];refine qW (i+1) (by omega) (by omega) ?_;rw[hs];simp only[lAa];exact cS
  ·have e1:decide (((i+1:Nat):Int)<((r.length+1:Nat):Int))=false:=dFf (by omega);obtain rfl:i=r.length:=by omega
   have ett:ts.take r.length=ts:=by rw[<-htl,lTl]
   simp only[e1,ett,go_sem];refine qN ?_;simp only[go_sem];exact qE rfl (by rw[hq2])
 simp only[dFf q9,go_sem];by_cases q11:x.Kind=11
 ·have C:=fun y hy lv=>C0 y hy (qD.kids10 hx (by omega) y hy) lv;rw[zt,if_neg q2,if_neg q3,if_neg q4,if_neg q5,if_neg q6,if_neg q7,if_neg q8,if_neg q9,if_neg h10,if_pos q11]at hq;have kk:x.Kids.length=3:=by
   rw[q11]at k1 k2;have e1:kLo 11=3:=rfl;have e2:kHi 11=3:=rfl;omega
  obtain⟨a,b,c,hk⟩:∃a b c,x.Kids=[a,b,c]:=by
   match x.Kids,kk with
   |[a,b,c],_=>exact⟨a,b,c,rfl⟩
  have haa:a∈x.Kids:=by rw[hk];simp
  have hbb:b∈x.Kids:=by rw[hk];simp
  have hcc:c∈x.Kids:=by rw[hk];simp
  rw[hk]at hq;have la:=L a haa 0;have lb:=L b hbb 0;have lc:=L c hcc 0;simp only[dTt q11,go_sem]
  try simp only[hk,lMc,List.map_nil,List.getElem?_cons_zero,List.getElem?_cons_succ,oMs,go_sem]
  refine qF (C a haa 0) ?_;simp only[hk,lMc,List.map_nil,List.getElem?_cons_zero,List.getElem?_cons_succ,oMs,go_sem];refine qN ?_;simp only[hk,lMc,List.map_nil,List.getElem?_cons_zero,List.getElem?_cons_succ,oMs,go_sem];refine qN ?_;simp only[hk,lMc,List.map_nil,List.getElem?_cons_zero,List.getElem?_cons_succ,oMs,go_sem];refine qF (C b hbb 0) ?_;simp only[hk,lMc,List.map_nil,List.getElem?_cons_zero,List.getElem?_cons_succ,oMs,go_sem];refine qN ?_;simp only[hk,lMc,List.map_nil,List.getElem?_cons_zero,List.getElem?_cons_succ,oMs,go_sem];refine qN ?_;simp only[hk,lMc,List.map_nil,List.getElem?_cons_zero,List.getElem?_cons_succ,oMs,go_sem];refine qF (C c hcc 0) ?_;simp only[hk,lMc,List.map_nil,List.getElem?_cons_zero,List.getElem?_cons_succ,oMs,go_sem];refine qN ?_;simp only[hk,lMc,List.map_nil,List.getElem?_cons_zero,List.getElem?_cons_succ,oMs,go_sem];exact qE rfl (by rw[hq];rfl)
 simp only[dFf q11,go_sem];rw[zt,if_neg q2,if_neg q3,if_neg q4,if_neg q5,if_neg q6,if_neg q7,if_neg q8,if_neg q9,if_neg h10,if_neg q11]at hq;exact qE rfl (by rw[hq])
theorem qZR{x:qD}(h:x.shp.2.2=true)(h10:x.Kind≠10)(hd:x.nd<=100000):Pure Gm 1007 [.ept x.enc 0] (.str (x.tx tyT)):=(qZS x).1 h h10 hd
def fzp(n id:Nat)(o:Option qC)(st:VSt):VSt:=match o with
 | some (.row w [v] true)=>if w=0 then st else{s:=(n,.ept v 0)::st.s,l:=st.l,h:=st.h.set id .dead}
 | _=>st
def fzo(n:Nat)(v:Option AV)(st:VSt):VSt:=match v with
 | none=>st
 | some (.ept _ _)=>st
 | some (.lst _ _ _)=>st
 | some (.int _ _)=>st
 | some (.bool _)=>st
 | some .nils=>st
 | some (.agg _)=>st
 | some (.ptr id 0 0)=>fzp n id st.h[id]? st
 | _=>Jw n st
section
variable {n id:Nat} {s m:qf} {h:List qC} {v x:AV} {st:VSt}
@[go_sem] theorem qiN:Jw n ⟨s,m,h⟩=fzo n (get s n) ⟨s,m,h⟩:=by
 unfold fzo;split<;>rename_i e<;>try (simp only[Jw,e];done)
 ·simp only[Jw,e,fzp];split<;>rename_i e2<;>simp only[e2]
  ·split<;>split<;>first | rfl | omega
@[go_sem] theorem qiT:get [] n=none:=nr rfl
@[go_sem] theorem qiP:fzo n none st=st:=nr rfl
@[go_sem] theorem qiO{j:Nat}:fzo n (some (.ept v j)) st=st:=nr rfl
@[go_sem] theorem qiQ:fzo n (some (.ptr id 0 0)) ⟨s,m,h⟩=fzp n id h[id]? ⟨s,m,h⟩:=nr rfl
@[go_sem] theorem qiR{w:Nat}:fzp n id (some (.row w [v] true)) ⟨s,m,h⟩=if w=0 then⟨s,m,h⟩else⟨(n,.ept v 0)::s,m,h.set id .dead⟩:=nr rfl
end
theorem c728(x:qD):∀(d:Nat)(c:Bool)(l:Nat)(hd:d<=24)(hl:l<=160)(hb:x.bd)(hn:x.wz<=1048575),Pure Gm 728 [.ept x.enc 0,.int .i64 (d:Nat),.bool c,.int .i64 (l:Nat)] (.int .i64 (jI (x.nod d c l))):=by
 induction x using qD.ind with
 | _ x ih=>
 intro d c l hd hl hb hn;refine pJ U7 ?_;simp only[U7,qH,go_sem];obtain⟨B,hk,hs⟩:=qYF hb hn;have hq:=qD.nod_eq x d c l;refine qF qZV ?_;simp only[go_sem];by_cases h0:d=0
 ·have e0:decide (((d:Nat):Int)<1)=true:=dTt (by omega);simp only[e0,go_sem];exact qE rfl (by rw[hq,if_pos (.inl h0)];rfl)
 have e0:decide (((d:Nat):Int)<1)=false:=dFf (by omega);simp only[e0,go_sem];by_cases h1:l=0
 ·have e1:decide (((l:Nat):Int)<1)=true:=dTt (by omega);simp only[e1,go_sem];exact qE rfl (by rw[hq,if_pos (.inr h1)];rfl)
 have e1:decide (((l:Nat):Int)<1)=false:=dFf (by omega);simp only[e1,go_sem];rw[if_neg (by omega)]at hq;cases hc:(decide (x.Kind=10)==c)
 ·simp only[nF,go_sem];exact qE rfl (by rw[hq,hc];rfl)
 rw[hc,if_pos rfl]at hq;simp only[nT,go_sem];refine qF Qy ?_;simp only[go_sem];cases hki:(decide (kLo x.Kind<=((x.Kids.length:Nat):Int))&&decide (((x.Kids.length:Nat):Int)<=kHi x.Kind))
 ·simp only[nF,go_sem];exact qE rfl (by rw[hq,qX,hki];rfl)
 simp only[nT,go_sem];refine qF (qZW B) ?_;simp only[go_sem];rw[qX,hki,Bool.true_and]at hq;cases hf:qP x
 ·simp only[nF,go_sem];exact qE rfl (by rw[hq,hf];rfl)
 rw[hf,if_pos rfl]at hq;simp only[nT,go_sem];have e2:x.Kids.length<=1048575:=by omega
 refine Sem.loop (fun a:Nat×Nat=>a.1<=x.Kids.length/\1<=a.2/\a.2<=l/\qD.nods (decide (x.Kind=9)) x.Kids false (d-1) l 1=qD.nods (decide (x.Kind=9)) (x.Kids.drop a.1) (decide (0<a.1)) (d-1) l a.2)
  (fun a=>(⟨[(0,.ept x.enc 0),(1,.int .i64 (d:Nat)),(3,.int .i64 (l:Nat)),(11,.int .i64 (a.2:Nat)),(12,.int .i64 (a.1:Nat))],[],[]⟩:VSt)) (fun a=>x.Kids.length-a.1) (0,1) (by kernel_rfl) ⟨nZl _,nLr _,by simp only;omega,rfl⟩ cS ?_
 rintro⟨i,n⟩ ⟨hi,h2,h3,hI⟩;simp only at hi h2 h3 hI;simp only[lMp,go_sem];by_cases hlt:i<x.Kids.length
 ·have e3:decide ((i:Int)<(x.Kids.length:Nat))=true:=dTt (by omega);simp only[e3,gMp,gEg hlt,oMs,go_sem];have hm:=gMm hlt;have hdr:x.Kids.drop i=x.Kids[i]::x.Kids.drop (i+1):=by simp
  rw[hdr,qD.nods]at hI;have hi0:decide ((0:Int)<((i:Nat):Int))=decide (0<i):=by rw[decide_eq_decide];omega
  have ed:((d:Nat):Int)-1=((d-1:Nat):Int):=by omega
  have el:((l:Nat):Int)-((n:Nat):Int)=((l-n:Nat):Int):=by omega
  have IH:=ih _ hm (d-1) (decide (x.Kind=9)&&decide (0<i)) (l-n) (by omega) (by omega) (hk _ hm).1 (hk _ hm).2;by_cases k9:x.Kind=9
  case' pos=>
   simp only[dTt k9,gt_iff_lt,hi0,Bool.true_and,go_sem]at hI IH|-
  case' neg=>
   simp only[dFf k9,Bool.false_and,go_sem]at hI IH|-
  all_goals
   simp only[ed,el,zF (n:=((d-1:Nat):Int)) (by omega) (by omega),zF (n:=((l-n:Nat):Int)) (by omega) (by omega),go_sem];refine qF IH ?_;generalize hr:x.Kids[i].nod (d-1) _ (l-n)=r at hI|-;cases r with
   | none=>
    simp only at hI;have e4:decide ((-1:Int)<0)=true:=rfl;simp only[jI,e4,go_sem];exact qE rfl (by rw[hq];first | rw[hI] | (rw[dTt k9,hI]) | (rw[dFf k9,hI]))
   | some k=>
    have hin:=qeH hr;simp only at hI;have e4:decide (((k:Nat):Int)<0)=false:=dFf (by omega);have es:((n:Nat):Int)+((k:Nat):Int)=((n+k:Nat):Int):=by omega
    simp only[jI,e4,es,zF (n:=((n+k:Nat):Int)) (by omega) (by omega),qp (show i<4611686018427387904 by omega),go_sem];refine qW (i+1,n+k) ⟨by simp only;omega,by simp only;omega,by simp only;omega, ?_⟩ (by simp only;omega) cS
    first | (rw[dTt k9]at*;rw[hI];simp) | (rw[dFf k9]at*;rw[hI];simp)
 ·have e3:decide ((i:Int)<(x.Kids.length:Nat))=false:=dFf (by omega);simp only[e3,go_sem];obtain rfl:i=x.Kids.length:=by omega
  rw[List.drop_length,qD.nods]at hI;exact qE rfl (by rw[hq,hI];rfl)
theorem c350{x:qD}(hb:x.bd)(hn:x.wz<=1048575):Pure Gm 350 [.ept x.enc 0] (.bool (wF x)):=by
 refine pJ Ui ?_;simp only[Ui,qH,go_sem];refine qF (c728 x 24 false 160 (by decide) (by decide) hb hn) ?_;simp only[go_sem];exact qE rfl (by rw[qg9])
theorem qgO{t:Str}{i:Nat}(hk:(zI t i).1≠0):Zb (jR t i):=by
 intro h4;by_cases hp:0<(qi t i).length
 ·have e:=qBH hp;have ets:wQ t i=jR t i:=by unfold wQ;rw[if_neg hk]
  rw[ets]at e;have et:(jR t i).Text=qi t i:=by rw[e]
  rw[et];have ee:=Yh hp;have h4':(zI t i).1=4:=h4;refine⟨?_,fun q=>by rw[q]at hp;simp at hp⟩;rw[ee]at h4';split at h4'
  ·simp at h4'
  ·split at h4'
   ·simp at h4'
   ·split at h4'
    ·simp at h4'
    ·split at h4'
     ·assumption
     ·simp at h4'
 ·exfalso;have h4':(zI t i).1=4:=h4;unfold zI at h4';rw[if_neg hp]at h4';split at h4'
  ·simp at h4'
  ·split at h4'<;>simp at h4'
theorem qBJ{t:Str}:∀(f:Nat){i:Nat}{acc l:List qK},jk t f i acc=.ok l->(∀x∈acc,Zb x)->∀x∈l,Zb x
 | 0,i,acc,l,h,hx=>by simp only[jk,Except.ok.injEq]at h;subst h;exact hx
 | f+1,i,acc,l,h,hx=>by
  simp only[jk]at h;split at h
  ·split at h
   ·exact qBJ f h hx
   ·split at h
    ·cases h
    ·rename_i hk;refine qBJ f h fun x hm=> ?_;rcases ja.1 hm with hm | hm
     ·exact hx x hm
     ·simp only[lMg]at hm;subst hm;exact qgO hk
  ·simp only[Except.ok.injEq]at h;subst h;exact hx
theorem qgR{t:Str}:∀x∈(qo t).1,Zb x:=by
 unfold qo;split
 ·exact fun x hx=>by simp at hx
 ·split
  ·exact fun x hx=>by simp at hx
  ·rename_i l h;exact qBJ _ h (fun x hx=>by simp at hx)
theorem YL{t:Str}:qx (qo t).1:=⟨by have:=XA (t:=t);omega,qgT,qgR,qgS⟩
theorem kE:∀{xs:List Str},AV.pls (xs.map qR)=true
 |[]=>rfl
 | x::xs=>by simp only[lMc,AV.pls,qR,AV.pl,kE (xs:=xs),Bool.and_self]
theorem kD:∀{xs:List Str},AV.cns (xs.map qR)=true
 |[]=>rfl
 | x::xs=>by simp only[lMc,AV.cns,qR,AV.cn,kD (xs:=xs),Bool.and_self]
theorem qD.plx:∀x:qD,x.enc.pl=true:=qD.ind fun x ih=>by
 rw[qD.enc_eq];simp[AV.pl,AV.pls,YP ih,kE,YP (fun y _=>qB.plx y)]
theorem qD.cnx:∀x:qD,x.enc.cn=true:=qD.ind fun x ih=>by
 rw[qD.enc_eq];simp[AV.cn,AV.cns,Xh ih,kD,Xh (fun y _=>qB.cnx y)]
set_option maxHeartbeats 4000000
def ctS(_:Str):Nat:=1
theorem qD.layE(x:qD)(n:Nat):lay x.enc n=(.agg [.int .i64 x.Kind,.int .i64 x.Num,.str x.Name,.int .i64 x.Typ.Kind,.str x.Typ.Name,.slice 3 (n) 0 x.Typ.Kids.length false,.slice 1 (n+AV.rows (.lst 3 (x.Typ.Kids.map qB.enc) false)) 0 x.Names.length false,.slice 8 (n+AV.rows (.lst 3 (x.Typ.Kids.map qB.enc) false)+AV.rows (.lst 1 (x.Names.map qR) false)) 0 x.Kids.length false],(lay (.lst 3 (x.Typ.Kids.map qB.enc) false) (n)).2++((lay (.lst 1 (x.Names.map qR) false) (n+AV.rows (.lst 3 (x.Typ.Kids.map qB.enc) false))).2++((lay (.lst 8 (x.Kids.map qD.enc) false) (n+AV.rows (.lst 3 (x.Typ.Kids.map qB.enc) false)+AV.rows (.lst 1 (x.Names.map qR) false))).2++[]))):=by
 rw[qD.enc_eq];simp[lay,qZ,wZ,AV.rows,Nat.add_assoc,Nat.add_comm,Nat.add_left_comm]
mutual
def qD.ct:qD->Nat
 |.mk _ _ _ t ns ks=>1+1+1+1+1+qM qB.ct t.Kids+qM ctS ns+qD.cts ks
def qD.cts:List qD->Nat
 |[]=>0
 | x::xs=>x.ct+qD.cts xs
end
structure qV where
 Name:Str
 Fields:List qB
def qV.enc(x:qV):AV:=.agg [.str x.Name,.lst 3 (x.Fields.map qB.enc) false]
theorem qV.isSh:Sh qV.enc 2 (some 2):=⟨fun x=>by simp[qV.enc,AV.tree,AV.trees,zD qB.isSh.tree],fun _=>rfl,fun _=>rfl,by decide,fun x=>by simp[qV.enc]⟩
section
variable {x:qV}
@[go_sem] theorem qV.tr:x.enc.tree=true:=qV.isSh.tree x
@[go_sem] theorem qV.ln:x.enc.cells.length=2:=nr rfl
@[go_sem] theorem qV.all:x.enc.part 0 (some 2)=some x.enc:=nr rfl
@[go_sem] theorem qV.p0:x.enc.part 0 none=some (.str x.Name):=nr rfl
@[go_sem] theorem qV.p1:x.enc.part 1 none=some (.lst 3 (x.Fields.map qB.enc) false):=nr rfl
end
structure qJ where
 Name:Str
 Cons:List qV
def qJ.enc(x:qJ):AV:=.agg [.str x.Name,.lst 2 (x.Cons.map qV.enc) false]
theorem qJ.isSh:Sh qJ.enc 2 (some 2):=⟨fun x=>by simp[qJ.enc,AV.tree,AV.trees,zD qV.isSh.tree],fun _=>rfl,fun _=>rfl,by decide,fun x=>by simp[qJ.enc]⟩
section
variable {x:qJ}
@[go_sem] theorem qJ.tr:x.enc.tree=true:=qJ.isSh.tree x
@[go_sem] theorem qJ.ln:x.enc.cells.length=2:=nr rfl
@[go_sem] theorem qJ.all:x.enc.part 0 (some 2)=some x.enc:=nr rfl
@[go_sem] theorem qJ.p0:x.enc.part 0 none=some (.str x.Name):=nr rfl
@[go_sem] theorem qJ.p1:x.enc.part 1 none=some (.lst 2 (x.Cons.map qV.enc) false):=nr rfl
end
structure qQ where
 Name:Str
 Typ:qB
 Body:qD
def qQ.enc(x:qQ):AV:=.agg [.str x.Name,.int .i64 x.Typ.Kind,.str x.Typ.Name,.lst 3 (x.Typ.Kids.map qB.enc) false,.int .i64 x.Body.Kind,.int .i64 x.Body.Num,.str x.Body.Name,.int .i64 x.Body.Typ.Kind,.str x.Body.Typ.Name,.lst 3 (x.Body.Typ.Kids.map qB.enc) false,.lst 1 (x.Body.Names.map qR) false,.lst 8 (x.Body.Kids.map qD.enc) false]
theorem qQ.isSh:Sh qQ.enc 12 (some 12):=⟨fun x=>by simp[qQ.enc,AV.tree,AV.trees,zD qD.isSh.tree,zD qB.isSh.tree,zD shS.tree],fun _=>rfl,fun _=>rfl,by decide,fun x=>by simp[qQ.enc]⟩
section
variable {x:qQ}
@[go_sem] theorem qQ.tr:x.enc.tree=true:=qQ.isSh.tree x
@[go_sem] theorem qQ.ln:x.enc.cells.length=12:=nr rfl
@[go_sem] theorem qQ.all:x.enc.part 0 (some 12)=some x.enc:=nr rfl
@[go_sem] theorem qQ.p0:x.enc.part 0 none=some (.str x.Name):=nr rfl
@[go_sem] theorem qQ.p1:x.enc.part 1 none=some (.int .i64 x.Typ.Kind):=nr rfl
@[go_sem] theorem qQ.p2:x.enc.part 2 none=some (.str x.Typ.Name):=nr rfl
@[go_sem] theorem qQ.p3:x.enc.part 3 none=some (.lst 3 (x.Typ.Kids.map qB.enc) false):=nr rfl
@[go_sem] theorem qQ.p4:x.enc.part 4 none=some (.int .i64 x.Body.Kind):=nr rfl
@[go_sem] theorem qQ.p5:x.enc.part 5 none=some (.int .i64 x.Body.Num):=nr rfl
@[go_sem] theorem qQ.p6:x.enc.part 6 none=some (.str x.Body.Name):=nr rfl
@[go_sem] theorem qQ.p7:x.enc.part 7 none=some (.int .i64 x.Body.Typ.Kind):=nr rfl
@[go_sem] theorem qQ.p8:x.enc.part 8 none=some (.str x.Body.Typ.Name):=nr rfl
@[go_sem] theorem qQ.p9:x.enc.part 9 none=some (.lst 3 (x.Body.Typ.Kids.map qB.enc) false):=nr rfl
@[go_sem] theorem qQ.p10:x.enc.part 10 none=some (.lst 1 (x.Body.Names.map qR) false):=nr rfl
@[go_sem] theorem qQ.p11:x.enc.part 11 none=some (.lst 8 (x.Body.Kids.map qD.enc) false):=nr rfl
@[go_sem] theorem qQ.q1:x.enc.part 1 (some 3)=some x.Typ.enc:=nr (by rw[qB.enc_eq];rfl)
@[go_sem] theorem qQ.q4:x.enc.part 4 (some 8)=some x.Body.enc:=nr (by rw[qD.enc_eq];rfl)
end
structure qU where
 Datas:List qJ
 Defs:List qQ
def qU.enc(x:qU):AV:=.agg [.lst 2 (x.Datas.map qJ.enc) false,.lst 12 (x.Defs.map qQ.enc) false]
theorem qU.isSh:Sh qU.enc 2 (some 2):=⟨fun x=>by simp[qU.enc,AV.tree,AV.trees,zD qJ.isSh.tree,zD qQ.isSh.tree],fun _=>rfl,fun _=>rfl,by decide,fun x=>by simp[qU.enc]⟩
section
variable {x:qU}
@[go_sem] theorem qU.tr:x.enc.tree=true:=qU.isSh.tree x
@[go_sem] theorem qU.ln:x.enc.cells.length=2:=nr rfl
@[go_sem] theorem qU.all:x.enc.part 0 (some 2)=some x.enc:=nr rfl
@[go_sem] theorem qU.p0:x.enc.part 0 none=some (.lst 2 (x.Datas.map qJ.enc) false):=nr rfl
@[go_sem] theorem qU.p1:x.enc.part 1 none=some (.lst 12 (x.Defs.map qQ.enc) false):=nr rfl
end
def qV.wz(x:qV):Nat:=x.Fields.length+qM qB.wz x.Fields
def qJ.wz(x:qJ):Nat:=x.Cons.length+qM qV.wz x.Cons
def qQ.wz(x:qQ):Nat:=x.Typ.wz+x.Body.wz
def qU.wz(x:qU):Nat:=(x.Datas.length+qM qJ.wz x.Datas)+(x.Defs.length+qM qQ.wz x.Defs)
def qV.bd(x:qV):Prop:=x.Name.length<=20000/\∀y∈x.Fields,y.bd
def qJ.bd(x:qJ):Prop:=x.Name.length<=20000/\∀y∈x.Cons,y.bd
def qQ.bd(x:qQ):Prop:=x.Name.length<=20000/\x.Typ.bd/\x.Body.bd
def qU.bd(x:qU):Prop:=(∀y∈x.Datas,y.bd)/\∀y∈x.Defs,y.bd
theorem qV.plx(x:qV):x.enc.pl=true:=by simp[qV.enc,AV.pl,AV.pls,ZI qB.plx]
theorem qV.cnx(x:qV):x.enc.cn=true:=by simp[qV.enc,AV.cn,AV.cns,Qz qB.cnx]
theorem qJ.plx(x:qJ):x.enc.pl=true:=by simp[qJ.enc,AV.pl,AV.pls,ZI qV.plx]
theorem qJ.cnx(x:qJ):x.enc.cn=true:=by simp[qJ.enc,AV.cn,AV.cns,Qz qV.cnx]
theorem qQ.plx(x:qQ):x.enc.pl=true:=by simp[qQ.enc,AV.pl,AV.pls,ZI qB.plx,ZI qD.plx,kE]
theorem qQ.cnx(x:qQ):x.enc.cn=true:=by simp[qQ.enc,AV.cn,AV.cns,Qz qB.cnx,Qz qD.cnx,kD]
theorem qU.plx(x:qU):x.enc.pl=true:=by simp[qU.enc,AV.pl,AV.pls,ZI qJ.plx,ZI qQ.plx]
theorem qU.cnx(x:qU):x.enc.cn=true:=by simp[qU.enc,AV.cn,AV.cns,Qz qJ.cnx,Qz qQ.cnx]
def jr(toks:List qK):Nat->List qB->Nat->Except Nat (List qB×Nat)
 | 0,_,a=>.error a
 | n+1,acc,a=>exB (pT toks (zr toks false a) false a) fun t b=>if isP toks b [44]then jr toks n (acc++[t]) (b+1)else exB (qT toks [93] b) fun _ b=>.ok (acc++[t],b)
def wR(toks:List qK)(a:Nat):Except Nat (List qB×Nat):=if isP toks a [91]then jr toks (toks.length-a) [] (a+1)else .ok ([],a)
def wJ(toks:List qK)(a:Nat):Except Nat (qV×Nat):=exB (zR toks 2 a) fun s b=>exB (wR toks b) fun fs b=>.ok (⟨s,fs⟩,b)
def jX(toks:List qK):Nat->List qV->Nat->Except Nat (List qV×Nat)
 | 0,_,a=>.error a
 | n+1,acc,a=>exB (wJ toks a) fun c b=>if isP toks b [124]then jX toks n (acc++[c]) (b+1)else .ok (acc++[c],b)
def QH(toks:List qK)(a:Nat):Except Nat (qJ×Nat):=exB (zR toks 2 a) fun s b=>exB (qT toks [61] b) fun _ b=>exB (jX toks (toks.length+1-b) [] b) fun cs b=>.ok (⟨s,cs⟩,b)
def jz(toks:List qK):Nat->List qJ->Nat->Except Nat (List qJ×Nat)
 | 0,acc,a=>.ok (acc,a)
 | n+1,acc,a=>if isP toks a [100,97,116,97]then exB (QH toks (a+1)) fun d b=>jz toks n (acc++[d]) b else .ok (acc,a)
def JQ(toks:List qK)(a:Nat):Except Nat (qQ×Nat):=exB (zR toks 1 a) fun s b=>exB (qT toks [58] b) fun _ b=>exB (pT toks (zr toks false b) false b) fun t b=>exB (qT toks [61] b) fun _ b=>exB (pM toks (mJ toks .term b) .term b) fun x b=>.ok (⟨s,t,x⟩,b)
def wV(toks:List qK):Nat->List qQ->Nat->Except Nat (List qQ×Nat)
 | 0,acc,a=>.ok (acc,a)
 | n+1,acc,a=>if isP toks a [100,101,102]then exB (JQ toks (a+1)) fun d b=>wV toks n (acc++[d]) b else .ok (acc,a)
def jO(toks:List qK)(a:Nat):Except Nat (qU×Nat):=exB (jz toks (toks.length-a) [] a) fun ds b=>exB (wV toks (toks.length-b) [] b) fun fs b=>.ok (⟨ds,fs⟩,b)
theorem Ow.shape3{b u:Nat}{h:List qC}{v:AV}{t:qB}(x:Ow b u h v t.enc):∃a0 a1 a2,v=.agg [a0,a1,a2]:=by
 obtain⟨v2,rfl,_⟩:=x.shapeT;exact⟨_,_,_,rfl⟩
theorem qAM{toks:List qK}{e:Int}{id a:Nat}{h:List qC}(hl:toks.length<=1048576)(ha:a<=toks.length)(ho:h[id]?=some (prI toks a e)):
  SCallX Gm 335 [.ptr id 0 0] h (fun v h'=>∃t b,pT toks (zr toks false a) false a=.ok (t,b)/\PS h id (prI toks b e) h'/\Ow h.length h'.length h' v t.enc) (fun v _=>∃b,pT toks (zr toks false a) false a=.error b/\v=wO (nxt toks b e).At):=
 (qV6 hl (zr toks false a) false a h (nLr _) ha ho).mono (fun _ _ ⟨t,b,S,q1,q2,q3,q4⟩=>⟨t,b,q1,q2,Ow.of S q3 q4⟩) fun _ _ q=>q
structure Cy(toks:List qK)(e:Int)(id pb sb B:Nat)(h0:List qC)(a:Nat)(s:Str)(v7:AV)(h:List qC):Prop where
 p:h[id]?=some (prI toks a e)
 f:∀j,j≠id->j<h0.length->h[j]?=h0[j]?
 b1:h[pb]?=some (.row 1 [.ptr id 0 0] true)
 b2:h[sb]?=some (.row 2 [.agg [.str s,v7]] true)
 l:B<=h.length
section
variable {toks:List qK} {e:Int} {id pb sb B f a b:Nat} {h0 h h':List qC} {s:Str} {v7 w7:AV}
theorem Cy.ps(C:Cy toks e id pb sb B h0 a s v7 h)(G:Cg id pb sb B h0)(q:PS h id (prI toks b e) h'):Cy toks e id pb sb B h0 b s v7 h':=by
 have:=C.l;have:=G.i;have:=G.p;have:=G.s;have:=G.pB;have:=G.sB;have:=q.len;exact⟨q.at',fun j hj hl=>(q.old j hj (by omega)).trans (C.f j hj hl),(q.old pb (by omega) (by omega)).trans C.b1,(q.old sb (by omega) (by omega)).trans C.b2,by omega⟩
theorem Cy.low(C:Cy toks e id pb sb B h0 a s v7 h)(G:Cg id pb sb B h0)(q:∀j,j<B->h'[j]?=h[j]?)(ql:h.length<=h'.length):Cy toks e id pb sb B h0 a s v7 h':=by
 have:=C.l;have:=G.i;have:=G.p;have:=G.s;have:=G.pB;have:=G.sB;exact⟨(q id (by omega)).trans C.p,fun j hj hl=>(q j (by omega)).trans (C.f j hj hl),(q pb (by omega)).trans C.b1,(q sb (by omega)).trans C.b2,by omega⟩
theorem Cy.box(C:Cy toks e id pb sb B h0 a s v7 h)(G:Cg id pb sb B h0):Cy toks e id pb sb B h0 a s w7 (h.set sb (.row 2 [.agg [.str s,w7]] true)):=by
 have:=C.l;have:=G.i;have:=G.p;have:=G.s;have:=G.ps;have:=G.pB;have:=G.sB;exact⟨by rw[gSn (by omega)];exact C.p,fun j hj hl=>by rw[gSn (by omega)];exact C.f j hj hl,by rw[gSn (by omega)];exact C.b1,gSs (by omega),by simp;omega⟩
theorem Cy.fin(C:Cy toks e id pb sb B h0 a s v7 h)(G:Cg id pb sb B h0):PS h0 id (prI toks a e) h:=by
 have:=C.l;have:=G.p;have:=G.pB;exact⟨C.p,by omega,C.f⟩
theorem qV2{ks:List qB}(K:qx toks)(ha:a<=toks.length)(G:Cg id pb sb B h0)(C:Cy toks e id pb sb B h0 a s v7 h)(hK:KL B h.length h v7 3 (ks.map qB.enc))(hks:ks.length<=1048576):
  SCallX Gm 1328 [.ptr sb 0 0,.ptr pb 0 0] h (fun _ h'=>∃t b w7,pT toks (zr toks false a) false a=.ok (t,b)/\Cy toks e id pb sb B h0 b s w7 h'/\KL B h'.length h' w7 3 ((ks++[t]).map qB.enc)) (fun v _=>∃b,pT toks (zr toks false a) false a=.error b/\v=wO (nxt toks b e).At):=by
 have hB:=C.l;have hsB:=G.sB;have hiB:id<B:=by have:=G.i;have:=G.p;have:=G.pB;omega
 refine xI Vm ?_;simp only[Vm,qH,go_sem,C.b1,C.b2];rcases hK with⟨hk0,rfl⟩ | ⟨kk,vs,rfl,x2,x3,x4,x5,x6⟩
 ·simp only[go_sem];refine WT ((qAM K.l ha C.p).mono ?_ ?_)
  case refine_2=>
   rintro v h1 ⟨b,q1,rfl⟩;exact⟨rfl,b,q1,rfl⟩
  rintro v h1 ⟨t,b,q1,q2,q3⟩;have C1:=C.ps G q2;have hl:=q2.len;obtain⟨a0,a1,a2,rfl⟩:=q3.shape3;refine⟨⟨⟨rfl,.nils,by simp only[go_sem],XD (by simp only[go_sem];rfl) C1.b2 rfl,trivial⟩,trivial⟩, ?_⟩;simp only[go_sem];refine WP (Els.lst) (by simp) ?_;have C2:=C1.low G (h':=h1++[.row 3 [.agg [.int .i64 0,.str [],.nils]] true]) (fun j hj=>gAl (by omega)) (by simp);simp only[lCo,lNi,go_sem];have ix:idx 3 (some (.slice 3 h1.length 0 1 false)) (some (.int .i64 0))=some (.ptr h1.length 0 0):=by simp[idx]
  simp only[ix,go_sem];refine jQ (el:=[.agg [.int .i64 0,.str [],.nils]]) (e:=.agg [.int .i64 0,.str [],.nils]) (e':=.agg [a0,a1,a2]) rfl gCl rfl (Qg (k:=3) rfl rfl ⟨fun _=>⟨_,rfl⟩,fun _=>⟨_,rfl⟩⟩ (by decide)) ?_;rw[W4,lSz];have C3:=C1.low G (h':=h1++[.row 3 [.agg [a0,a1,a2]] true]) (fun j hj=>gAl (by omega)) (by simp);simp only[go_sem];refine Yd (by omega) (by simp[We]) rfl C3.b2 rfl rfl ?_;simp only[go_sem];refine⟨t,b,.slice 3 h1.length 0 1 false,q1,C3.box G, ?_⟩;rw[lLs];have k3:=JW (w:=3) (B:=B) (k:=h1.length) ((q3.push (o:=.row 3 [.agg [a0,a1,a2]] true) (nLr _)).mono hB (nLr _)) (by simp) (nLr _) (by omega);have k4:=k3.set (id:=sb) (o:=.row 2 [.agg [.str s,.slice 3 h1.length 0 1 false]] true) hsB;rw[lMa,hk0];simpa using k4
 ·simp only[go_sem];refine WT ((qAM K.l ha C.p).mono ?_ ?_)
  case refine_2=>
   rintro v h1 ⟨b,q1,rfl⟩;exact⟨rfl,b,q1,rfl⟩
  rintro v h1 ⟨t,b,q1,q2,q3⟩;have C1:=C.ps G q2;have hl:=q2.len;obtain⟨a0,a1,a2,rfl⟩:=q3.shape3;rw[lMp]at C1;refine⟨⟨⟨rfl,.slice 3 kk 0 ks.length false,by simp only[go_sem],XD (by simp only[go_sem];rfl) C1.b2 rfl,fun q=>x6 (by rw[lEz q.2];rfl)⟩,trivial⟩, ?_⟩;simp only[go_sem];have hc:vs.length=ks.length:=by simpa using x3.cnt
  have x2':h1[kk]?=some (.row 3 vs true):=(q2.old kk (by omega) x5).trans x2;refine Kj Els.lst x2' hc (by simp only[lCo,lNi];omega) ?_;have g:∀(o:qC)(j:Nat),j<h1.length->j≠kk->(h1.set kk qC.dead++[o])[j]?=h1[j]?:=fun o j hj hne=>by
   rw[gAl (by simp;omega),gSn (Ne.symm hne)]
  have el:(h1.set kk qC.dead).length=h1.length:=by simp
  simp only[lCo,lNi,go_sem];have ix:idx 3 (some (.slice 3 h1.length 0 (ks.length+(0+1)) false)) (some (.int .i64 (ks.length:Nat)))=some (.ptr h1.length ks.length 0):=by simp[idx];omega
  simp only[ix,go_sem];refine jQ (el:=vs++[.agg [.int .i64 0,.str [],.nils]]) (e:=.agg [.int .i64 0,.str [],.nils]) (e':=.agg [a0,a1,a2]) rfl (by rw[gAr (by omega),el,nSs];rfl) (by rw[gAr (by omega),hc,nSs];rfl) (Qg (k:=3) rfl rfl ⟨fun _=>⟨_,rfl⟩,fun _=>⟨_,rfl⟩⟩ (by decide)) ?_;have es:(h1.set kk qC.dead++[qC.row 3 (vs++[AV.agg [.int .i64 0,.str [],.nils]]) true]).set h1.length (qC.row 3 ((vs++[AV.agg [.int .i64 0,.str [],.nils]]).set ks.length (.agg [a0,a1,a2])) true)=h1.set kk qC.dead++[qC.row 3 (vs++[.agg [a0,a1,a2]]) true]:=by
   have e1:(vs++[AV.agg [.int .i64 0,.str [],.nils]]).set ks.length (.agg [a0,a1,a2])=vs++[.agg [a0,a1,a2]]:=by
    rw[<-hc,lSr _ _ (nLr _),nSs];rfl
   rw[e1,lSr _ _ (by omega),el,nSs];rfl
  rw[es];have C3:=C1.low G (h':=h1.set kk qC.dead++[qC.row 3 (vs++[.agg [a0,a1,a2]]) true]) (fun j hj=>g _ j (by omega) (by omega)) (by simp);simp only[go_sem];refine Yd (by omega) (by rw[gAr (by omega),el,nSs];rfl) rfl C3.b2 rfl rfl ?_;simp only[go_sem];refine⟨t,b,_,q1,C3.box G, ?_⟩;rw[lLs];have k3:=kp (w:=3) (k:=h1.length) (n:=ks.length+(0+1)) (x3.to (h1:=h1.set kk qC.dead++[qC.row 3 (vs++[.agg [a0,a1,a2]]) true]) fun j h3 h4=>(g _ j (by omega) (by omega)).trans (q2.old j (by omega) (by omega))) ((q3.to (h1:=h1.set kk qC.dead++[qC.row 3 (vs++[.agg [a0,a1,a2]]) true]) fun j h3 h4=>g _ j (by omega) (by omega)).mono (b':=kk) (by omega) (nLr _)) (by rw[gAr (by omega),el,nSs];rfl) x4 (by omega) (by omega) (by simp);have k4:=k3.set (id:=sb) (o:=.row 2 [.agg [.str s,.slice 3 h1.length 0 (ks.length+(0+1)) false]] true) hsB;rw[lMa];have e3:(h1.set kk qC.dead++[qC.row 3 (vs++[.agg [a0,a1,a2]]) true]).length=h1.length+1:=by simp
  rw[e3];exact k4
theorem qYS{n:Nat}{acc:List qB}{t:qB}(hw:pT toks (zr toks false a) false a=.ok (t,b)):jr toks (n+1) acc a=if isP toks b [44]then jr toks n (acc++[t]) (b+1)else exB (qT toks [93] b) fun _ b=>.ok (acc++[t],b):=by
 simp only[jr,hw,qg]
theorem qeB(K:qx toks)(G:Cg id pb sb B h0)(C:Cy toks e id pb sb B h0 a s .nils h)(ha:a<=toks.length):
  SCallX Gm 1327 [.ptr id 0 0,.fn 1328 [.ptr sb 0 0,.ptr pb 0 0]] h (fun _ h'=>∃ks b w7,wR toks a=.ok (ks,b)/\Cy toks e id pb sb B h0 b s w7 h'/\KL B h'.length h' w7 3 (ks.map qB.enc)) (fun v _=>∃b,wR toks a=.error b/\v=wO (nxt toks b e).At):=by
 have hB:=C.l;have hiB:id<B:=by have:=G.i;have:=G.p;have:=G.pB;omega
 refine xI Qp ?_;simp only[Qp,qH,go_sem];refine qe rfl (jH C.p K.l (by decide)) ?_;rw[qk (by decide)];simp only[go_sem];cases hb:isP toks a [91]
 ·simp only[nF,bFt,if_false,go_sem];exact⟨[],a,.nils,by simp only[wR,hb,bFt,if_false],C,.inl ⟨rfl,rfl⟩⟩
 have hlt:=qa hb;simp only[nT,if_true,go_sem];have C1:=C.ps G (PS.set C.p (o:=prI toks (a+1) e));obtain⟨n,hn⟩:∃n,toks.length-a=n+1:=⟨toks.length-a-1,by omega⟩;have eP:wR toks a=jr toks (n+1) [] (a+1):=by simp only[wR,hb,if_true,hn]
 refine qY ((qV2 (ks:=[]) K hlt G C1 (.inl ⟨rfl,rfl⟩) (by simp)).mono ?_ ?_)
 case refine_2=>
  rintro v h1 ⟨b,q1,rfl⟩;exact⟨rfl,b,by rw[eP];simp only[jr,q1,qn],rfl⟩
 rintro v h1 ⟨t,b,w7,q1,C2,k2⟩;have e0:=qYS (n:=n) (acc:=[]) q1;rw[<-eP]at e0;obtain⟨p1,p2⟩:=jY _ _ _ q1;simp only[lNa]at e0 k2;simp only[go_sem];refine Sem.loop (fun z:Nat×List qB×AV×Nat×List qC=>wR toks a=(if isP toks z.2.2.2.1 [44]then jr toks z.1 z.2.1 (z.2.2.2.1+1)else exB (qT toks [93] z.2.2.2.1) fun _ b=>.ok (z.2.1,b))/\toks.length<=z.1+z.2.2.2.1/\Cy toks e id pb sb B h0 z.2.2.2.1 s z.2.2.1 z.2.2.2.2/\KL B z.2.2.2.2.length z.2.2.2.2 z.2.2.1 3 (z.2.1.map qB.enc)/\z.2.1.length<=z.2.2.2.1/\z.2.2.2.1<=toks.length)
  (fun z=>(⟨[(0,.ptr id 0 0),(1,.fn 1328 [.ptr sb 0 0,.ptr pb 0 0])],[],z.2.2.2.2⟩:VSt)) (fun z=>toks.length-z.2.2.2.1) (n,[t],w7,b,h1) (by kernel_rfl) ⟨e0,by simp only;omega,C2,k2,by simp;omega,p2⟩ cS ?_
 clear e0 k2 C2 C1 C hB q1;rintro⟨m,ks,w7,c,g⟩ ⟨i1,i2,i3,i4,i5,i6⟩;simp only at i1 i2 i3 i4 i5 i6;simp only[go_sem];refine qe rfl (jH i3.p K.l (by decide)) ?_;rw[qk (by decide)];simp only[go_sem];cases hc:isP toks c [44]
 ·simp only[bFt,if_false,go_sem];rw[hc,if_neg (by decide)]at i1;refine qY ((jc i3.p K.l (by decide)).mono ?_ ?_)
  case refine_2=>
   rintro v2 h2 ⟨e1,rfl,rfl⟩;rw[qk (by decide)]at e1;exact⟨rfl,c,by rw[i1];simp only[qT,e1,bFt,if_false,qn],rfl⟩
  rintro v2 h2 ⟨e1,rfl⟩;rw[qk (by decide)]at e1;simp only[go_sem];refine⟨ks,c+1,w7,by rw[i1];simp only[qT,e1,if_true,qg],i3.ps G (PS.set i3.p), ?_⟩;rw[lLs];exact i4.set hiB
 ·have hlt:=qa hc;simp only[if_true,go_sem];rw[hc,if_pos rfl]at i1;obtain⟨m,rfl⟩:∃x,m=x+1:=⟨m-1,by omega⟩;have C1:=i3.ps G (PS.set i3.p (o:=prI toks (c+1) e));have i4':=i4.set (id:=id) (o:=prI toks (c+1) e) hiB;refine qY ((qV2 K hlt G C1 (by rw[lLs];exact i4') (by have:=K.l;omega)).mono ?_ ?_)
  case refine_2=>
   rintro v h1 ⟨b,q1,rfl⟩;exact⟨rfl,b,by rw[i1];simp only[jr,q1,qn],rfl⟩
  rintro v h1 ⟨t,d,w7',q1,C2,k2⟩;obtain⟨p1,p2⟩:=jY _ _ _ q1;simp only[go_sem];refine qW (m,ks++[t],w7',d,h1) ⟨by simp only;rw[i1,qYS q1],by simp only;omega,C2,k2,by simp;omega,p2⟩ (by simp only;omega) cS
end
section
variable {b m u m1 m2:Nat} {h:List qC} {v v1 v2:AV} {vs vs' ts ts':List AV}
theorem Ow.cells(x:Ow b u h (.agg vs) (.agg ts)):Ows b u h vs ts:=by
 obtain⟨S,x,hb⟩:=x;obtain⟨ws,e,y⟩:=x.aggs;cases e;exact⟨S,y,hb⟩
theorem Ows.app2(x:Ows b m h vs ts)(y:Ows m u h vs' ts')(h1:b<=m)(h2:m<=u):Ows b u h (vs++vs') (ts++ts'):=by
 obtain⟨S,x,hx⟩:=x;obtain⟨S',y,hy⟩:=y;refine⟨S++S',x.app y fun j hj hj'=>by have:=hx j hj;have:=hy j hj';omega,fun j hj=> ?_⟩;rcases ja.1 hj with hj | hj
 ·have:=hx j hj;omega
 ·have:=hy j hj;omega
theorem Ows.agg(x:Ows b u h vs ts):Ow b u h (.agg vs) (.agg ts):=by
 obtain⟨S,x,hb⟩:=x;exact⟨S,x.agg,hb⟩
theorem qAV{s:Str}{fs:List qB}(x:Ow b u h v (.lst 3 (fs.map qB.enc) false))(h1:b<=u):Ow b u h (.agg [.str s,v]) (qV.mk s fs).enc:=
 ((Ows.nil.scal (a:=.str s) (fun _=>rfl) rfl rfl).snoc (b:=b) (m:=b) x (nLr _) h1).agg
theorem qW0{s:Str}{cs:List qV}(x:Ow b u h v (.lst 2 (cs.map qV.enc) false))(h1:b<=u):Ow b u h (.agg [.str s,v]) (qJ.mk s cs).enc:=
 ((Ows.nil.scal (a:=.str s) (fun _=>rfl) rfl rfl).snoc (b:=b) (m:=b) x (nLr _) h1).agg
theorem qAW{ds:List qJ}{fs:List qQ}(x:Ow b m h v1 (.lst 2 (ds.map qJ.enc) false))(y:Ow m u h v2 (.lst 12 (fs.map qQ.enc) false))(h1:b<=m)(h2:m<=u):Ow b u h (.agg [v1,v2]) (qU.mk ds fs).enc:=
 (x.one.snoc y h1 h2).agg
theorem qW1{s:Str}{t:qB}{x:qD}(p:Ow b m h v (.lst 3 (t.Kids.map qB.enc) false))(q:Ow m u h (.agg vs) x.enc)(h1:b<=m)(h2:m<=u):Ow b u h (.agg ([.str s,.int .i64 t.Kind,.str t.Name,v]++vs)) (qQ.mk s t x).enc:=by
 have a0:Ows b b h [.str s,.int .i64 t.Kind,.str t.Name] [.str s,.int .i64 t.Kind,.str t.Name]:=
  ((Ows.nil.scal (a:=.str s) (fun _=>rfl) rfl rfl).scal (a:=.int .i64 t.Kind) (fun _=>rfl) rfl rfl).scal (a:=.str t.Name) (fun _=>rfl) rfl rfl
 rw[qD.enc_eq]at q;exact((a0.snoc p (nLr _) h1).app2 q.cells h1 h2).agg
theorem Ow.shapeC{c:qV}(x:Ow b u h v c.enc):∃v1,v=.agg [.str c.Name,v1]/\Ow b u h v1 (.lst 3 (c.Fields.map qB.enc) false):=by
 obtain⟨S,x,hb⟩:=x;unfold qV.enc at x;obtain⟨vs,rfl,y⟩:=x.aggs;have:=y.cnt
 match vs,this with
 |[a,b],_=>
  obtain⟨S1,S2,rfl,p1,p2⟩:=y.uncons;obtain⟨rfl,rfl⟩:=p1.strT;obtain⟨S5,S6,rfl,p5,p6⟩:=p2.uncons;exact⟨b,rfl,S5,p5,fun j hj=>hb j (by simp[hj])⟩
end
section
variable {toks:List qK} {e:Int} {id a:Nat} {h:List qC}
theorem qV1(K:qx toks)(ho:h[id]?=some (prI toks a e)):
  SCallX Gm 1009 [.ptr id 0 0] h (fun v h'=>∃c b,wJ toks a=.ok (c,b)/\PS h id (prI toks b e) h'/\Ow h.length h'.length h' v c.enc) (fun v _=>∃b,wJ toks a=.error b/\v=wO (nxt toks b e).At):=by
 have hid:=zA ho;refine xI Y7 ?_;simp only[Y7,qH,go_sem];refine JC rfl ?_;simp only[gCl,go_sem];have q0:=(PS.refl ho).push (x:=.row 1 [.ptr id 0 0] true);refine qY ((Jn (k:=2) q0.at' K.l (by decide)).mono ?_ ?_)
 case refine_2=>
  rintro v h1 ⟨hk,rfl,rfl⟩;exact⟨rfl,a,by simp only[wJ,XF hk,qn],rfl⟩
 rintro v h1 ⟨hk,rfl,rfl⟩;have hw:=XG (by decide) hk;have hlt:=(js hw).2.1;generalize (nxt toks a e).Text=s at hw|-;simp only[go_sem];refine jQ (el:=[.agg [.str [],.nils]]) (e:=.agg [.str [],.nils]) (e':=.agg [.str s,.nils]) rfl gCl rfl (Qg (k:=2) rfl rfl ⟨fun _=>⟨_,rfl⟩,fun _=>⟨_,rfl⟩⟩ (by decide)) ?_;rw[W4];simp only[lSz,go_sem];have G:Cg id h.length (h.length+1) (h.length+2) h:=⟨hid,nLr _,by omega,by omega,by omega,by omega⟩;have e1:((h++[qC.row 1 [.ptr id 0 0] true]).set id (prI toks (a+1) e)).length=h.length+1:=by simp
 have C:Cy toks e id h.length (h.length+1) (h.length+2) h (a+1) s .nils ((h++[qC.row 1 [.ptr id 0 0] true]).set id (prI toks (a+1) e)++[.row 2 [.agg [.str s,.nils]] true]):=by
  refine⟨?_,fun j hj hl=> ?_, ?_, ?_, ?_⟩
  ·rw[gAl (by omega),gSs (by simp;omega)]
  ·rw[gAl (by omega),gSn (by omega),gAl hl]
  ·rw[gAl (by omega),gSn (by omega),gCl]
  ·rw[<-e1];exact gCl
  ·simp
 rw[e1];generalize ((h++[qC.row 1 [.ptr id 0 0] true]).set id (prI toks (a+1) e)++[.row 2 [.agg [.str s,.nils]] true])=g0 at C|-;simp only[C.b1,go_sem];refine qY ((qeB K G C (by omega)).mono ?_ ?_)
 case refine_2=>
  rintro v h1 ⟨b,q1,rfl⟩;exact⟨rfl,b,by simp only[wJ,hw,qg,q1,qn],rfl⟩
 rintro v g1 ⟨fs,b,w7,q1,C1,k1⟩;simp only[C1.b2,go_sem];refine lA ?_;simp only[go_sem];have hl:=C1.l;exact⟨⟨s,fs⟩,b,by simp only[wJ,hw,qg,q1],C1.fin G,(qAV k1.ow hl).mono (by omega) (nLr _)⟩
theorem qTZ{c:qV}{b:Nat}(h:wJ toks a=.ok (c,b)):a<b/\b<=toks.length:=by
 unfold wJ at h;obtain⟨s,b1,e1,h⟩:=qm h;obtain⟨fs,b2,e2,h⟩:=qm h;cases h;have hw:=js e1;have:b1<=b/\b<=toks.length:=by
  unfold wR at e2;split at e2
  ·rename_i hb;have hlt:=qa hb;have:∀(n:Nat){acc:List qB}{a:Nat}{x:List qB}{b:Nat},jr toks n acc a=.ok (x,b)->a<=b/\b<=toks.length:=by
    intro n
    induction n with
    | zero=>intro acc a x b h;cases h
    | succ n ih=>
     intro acc a x b h;simp only[jr]at h;obtain⟨t,c,e,h⟩:=qm h;have:=jY _ _ _ e;split at h
     ·have:=ih h;omega
     ·obtain⟨_,d,e,h⟩:=qm h;cases h;have:=je e;omega
   have:=this _ e2;omega
  ·cases e2;omega
 omega
end
theorem PS.low{h h1 h2:List qC}{id B:Nat}{o:qC}(q:PS h id o h1)(hid:id<h.length)(hB:h.length<=B)(g1:∀j,j<B->h2[j]?=h1[j]?)(g2:h1.length<=h2.length):PS h id o h2:=
 ⟨(g1 id (by omega)).trans q.at',nLt q.len g2,fun j hj hl=>(g1 j (by omega)).trans (q.old j hj hl)⟩
theorem PS.pushl{h h1:List qC}{id B:Nat}{o x:qC}{h2:List qC}(q:PS h id o h1)(hid:id<h.length)(hB:h.length<=B)(g1:∀j,j<B->h2[j]?=(h1++[x])[j]?)(g2:h1.length+1<=h2.length):PS h id o h2:=
 q.push.low hid hB g1 (by simpa using g2)
section
variable {toks:List qK} {e:Int} {id a:Nat} {h:List qC}
theorem qT3{n b:Nat}{acc:List qV}{t:qV}(hw:wJ toks a=.ok (t,b)):jX toks (n+1) acc a=if isP toks b [124]then jX toks n (acc++[t]) (b+1)else .ok (acc++[t],b):=by
 simp only[jX,hw,qg]
theorem n629(K:qx toks)(ha:a<=toks.length)(ho:h[id]?=some (prI toks a e)):
  SCallX Gm 629 [.ptr id 0 0] h (fun v h'=>∃x b,jO toks a=.ok (x,b)/\PS h id (prI toks b e) h'/\Ow h.length h'.length h' v x.enc) (fun v _=>∃b,jO toks a=.error b/\v=wO (nxt toks b e).At):=by
 have hid:=zA ho;refine xI Uy ?_;simp only[Uy,qH,go_sem];refine Sem.loop (fun s:Nat×List qJ×AV×Nat×List qC=>jz toks (toks.length-a) [] a=jz toks s.1 s.2.1 s.2.2.2.1/\toks.length<=s.1+s.2.2.2.1/\s.2.2.2.1<=toks.length/\PS h id (prI toks s.2.2.2.1 e) s.2.2.2.2/\KL h.length s.2.2.2.2.length s.2.2.2.2 s.2.2.1 2 (s.2.1.map qJ.enc)/\s.2.1.length<=s.2.2.2.1)
  (fun s=>(⟨[(0,.ptr id 0 0)],[(2,.agg [.nils,.nils]),(3,.agg [s.2.2.1,.nils])],s.2.2.2.2⟩:VSt)) (fun s=>toks.length-s.2.2.2.1) (toks.length-a,[],.nils,a,h) (by kernel_rfl) ⟨rfl,by simp only;omega,ha,PS.refl ho,.inl ⟨rfl,rfl⟩,nZl _⟩ cS ?_
 rintro⟨n,ds,v0,c,g⟩ ⟨i1,i2,i3,i4,i5,i6⟩;simp only at i1 i2 i3 i4 i5 i6;have hlg:=i4.len;simp only[go_sem];refine qe rfl (jH i4.at' K.l (by decide)) ?_;rw[qk (by decide)];simp only[go_sem];cases hb:isP toks c [100,97,116,97]
 case true=>
  have hlt:=qa hb;simp only[if_true,go_sem];obtain⟨n,rfl⟩:∃m,n=m+1:=⟨n-1,by omega⟩;simp only[jz,hb,if_true]at i1;have q1:=i4.trans (PS.set i4.at' (o:=prI toks (c+1) e));have k1:=i5.set (id:=id) (o:=prI toks (c+1) e) hid;refine qY ((Jn (k:=2) q1.at' K.l (by decide)).mono ?_ ?_)
  case refine_2=>
   rintro v h1 ⟨hk,rfl,rfl⟩;exact⟨rfl,c+1,by simp only[jO,i1,QH,XF hk,qn],rfl⟩
  rintro v h1 ⟨hk,rfl,rfl⟩;have hw:=XG (by decide) hk;have hlw:=(js hw).2.1;generalize (nxt toks (c+1) e).Text=s at hw|-;have q2:=q1.trans (PS.set q1.at' (o:=prI toks (c+1+1) e));have k2:=k1.set (id:=id) (o:=prI toks (c+1+1) e) hid;simp only[go_sem];refine lA ?_;simp only[go_sem];refine qY ((jc q2.at' K.l (by decide)).mono ?_ ?_)
  case refine_2=>
   rintro v2 h2 ⟨e2,rfl,rfl⟩;rw[qk (by decide)]at e2;exact⟨rfl,c+1+1,by simp only[jO,i1,QH,hw,qg,qT,e2,bFt,if_false,qn],rfl⟩
  rintro v2 h2 ⟨e2,rfl⟩;rw[qk (by decide)]at e2;have hlt2:=qa e2;have q3:=q2.trans (PS.set q2.at' (o:=prI toks (c+1+1+1) e));have k3:=k2.set (id:=id) (o:=prI toks (c+1+1+1) e) hid;have i1:jz toks (toks.length-a) [] a=exB (jX toks (toks.length+1-(c+1+1+1)) [] (c+1+1+1)) fun cs b=>jz toks n (ds++[⟨s,cs⟩]) b:=by
   rw[i1];simp only[QH,hw,qg,qT,e2,if_true];generalize jX toks (toks.length+1-(c+1+1+1)) [] (c+1+1+1)=r;cases r<;>rfl
  generalize hg3:((g.set id (prI toks (c+1) e)).set id (prI toks (c+1+1) e)).set id (prI toks (c+1+1+1) e)=g3 at q3 k3|-;have hl3:g3.length=g.length:=by rw[<-hg3];simp
  clear hg3 q1 q2 k1 k2 i4 i5;simp only[go_sem];refine qY ((qV1 K q3.at').mono ?_ ?_)
  case refine_2=>
   rintro v h1 ⟨b,r1,rfl⟩;obtain⟨m,hm⟩:∃m,toks.length+1-(c+1+1+1)=m+1:=⟨toks.length+1-(c+1+1+1)-1,by omega⟩;exact⟨rfl,b,by simp only[jO,i1,hm,jX,r1,qn],rfl⟩
  rintro v g4 ⟨t,b,r1,r2,r3⟩;obtain⟨m,hm⟩:∃m,toks.length+1-(c+1+1+1)=m+1:=⟨toks.length+1-(c+1+1+1)-1,by omega⟩;have e0:=qT3 (n:=m) (acc:=[]) r1;rw[<-hm]at e0;obtain⟨p1,p2⟩:=qTZ r1;have hl4:=r2.len;have q4:=q3.trans r2;have k4:=k3.ps (by omega) hid r2;obtain⟨w1,rfl,_⟩:=r3.shapeC;simp only[go_sem];refine qy (v:=.agg [.str t.Name,w1]) rfl rfl ?_;simp only[go_sem];refine jF (KL.nil (B:=g3.length) (u:=g3.length)) (r3.push (o:=.row 2 [.agg [.str t.Name,w1]] true) (nLr _)) (by simp) (nLr _) hl4 (by simp) (by simp) ?_;intro kk nn g5 k5 y5 z5;rw[zN]at z5;have q5:=q4.pushl hid (B:=g3.length) (by omega) y5 z5;have k5':KL h.length g.length g5 v0 2 (ds.map qJ.enc):=(k4.push (o:=.row 2 [.agg [.str t.Name,w1]] true) (by omega)).to fun j h1 h2=>y5 j (by omega);simp only[lNa,lMc,List.map_nil]at e0 k5;simp only[go_sem];refine Sem.loop (fun z:Nat×List qV×AV×Nat×List qC=>jX toks (toks.length+1-(c+1+1+1)) [] (c+1+1+1)=(if isP toks z.2.2.2.1 [124]then jX toks z.1 z.2.1 (z.2.2.2.1+1)else .ok (z.2.1,z.2.2.2.1))/\toks.length<=z.1+z.2.2.2.1/\z.2.2.2.1<=toks.length/\c+1<z.2.2.2.1/\PS h id (prI toks z.2.2.2.1 e) z.2.2.2.2/\g.length<=z.2.2.2.2.length/\KL g.length z.2.2.2.2.length z.2.2.2.2 z.2.2.1 2 (z.2.1.map qV.enc)/\KL h.length g.length z.2.2.2.2 v0 2 (ds.map qJ.enc)/\z.2.1.length<=z.2.2.2.1/\∃kk nn,z.2.2.1=.slice 2 kk 0 nn false)
   (fun z=>(⟨[(0,.ptr id 0 0)],[(2,.agg [.nils,.nils]),(3,.agg [v0,.nils]),(4,.agg [.str s,z.2.2.1])],z.2.2.2.2⟩:VSt)) (fun z=>toks.length-z.2.2.2.1) (m,[t],.slice 2 kk 0 nn false,b,g5) (by kernel_rfl) ⟨e0,by simp only;omega,p2,by simp only;omega,q5,by simp only;omega,by rw[hl3]at k5;exact k5,k5',by simp;omega,_,_,rfl⟩ cS ?_
  clear e0 k5 k5' q5 y5 z5 k4 q4 r3 r2 k3 q3 hm;rintro⟨m,cs,v1,d,gg⟩ ⟨j1,j2,j3,j4,j5,hlgg',j6,j7,j8,kk,nn,rfl⟩;simp only at j1 j2 j3 j4 j5 hlgg' j6 j7 j8;have hlgg:=j5.len;simp only[go_sem];refine qe rfl (jH j5.at' K.l (by decide)) ?_;rw[qk (by decide)];simp only[go_sem];cases hd:isP toks d [124]
  case true=>
   have hltd:=qa hd;simp only[if_true,go_sem];rw[hd,if_pos rfl]at j1;obtain⟨m,rfl⟩:∃x,m=x+1:=⟨m-1,by omega⟩;have q6:=j5.trans (PS.set j5.at' (o:=prI toks (d+1) e));have k6:=j6.set (id:=id) (o:=prI toks (d+1) e) (by omega);have k7:=j7.set (id:=id) (o:=prI toks (d+1) e) hid;refine qY ((qV1 K q6.at').mono ?_ ?_)
   case refine_2=>
    rintro v h1 ⟨b,r1,rfl⟩;exact⟨rfl,b,by simp only[jO,i1,j1,jX,r1,qn],rfl⟩
   rintro v g7 ⟨t,b,r1,r2,r3⟩;obtain⟨p1,p2⟩:=qTZ r1;have hl7:=r2.len;rw[lLs]at hl7 r3;have q7:=q6.trans r2;have k6:=k6.ps (by simp) (by omega) r2;have k7:=k7.ps (by simp;omega) hid r2;obtain⟨w1,rfl,_⟩:=r3.shapeC;simp only[go_sem];refine qy (v:=.agg [.str t.Name,w1]) rfl rfl ?_;simp only[go_sem];have hlk:(cs.map qV.enc).length<4294967296:=by rw[lMp];have:=K.l;omega
   refine jF ((k6.mono (u2:=gg.length) (nLr _)).push hl7) (r3.push (o:=.row 2 [.agg [.str t.Name,w1]] true) (nLr _)) (by simp) hlgg' hl7 (by simp) hlk ?_;intro kk nn g8 k8 y8 z8;rw[zN]at z8;have q8:=q7.pushl hid (B:=g.length) hlg y8 z8;have k8':KL h.length g.length g8 v0 2 (ds.map qJ.enc):=(k7.push (o:=.row 2 [.agg [.str t.Name,w1]] true) (by omega)).to fun j h1 h2=>y8 j (by omega);simp only[go_sem];refine qW (m,cs++[t],.slice 2 kk 0 nn false,b,g8) ⟨by simp only;rw[j1,qT3 r1],by simp only;omega,p2,by simp only;omega,q8,by simp only;omega,by simpa using k8,k8',by simp only[lAp,lCo,lNi];omega,_,_,rfl⟩ (by simp only;omega) cS
  simp only[bFt,if_false,go_sem];rw[hd,if_neg (by decide)]at j1;have x1:=qW0 (s:=s) j6.ow hlgg';refine qy (v:=.agg [.str s,.slice 2 kk 0 nn false]) rfl rfl ?_;simp only[go_sem];have hlk:(ds.map qJ.enc).length<4294967296:=by rw[lMp];have:=K.l;omega
  refine jF (j7.push (by omega)) (x1.push (o:=.row 2 [.agg [.str s,.slice 2 kk 0 nn false]] true) (nLr _)) (by simp) hlg hlgg' (by simp) hlk ?_;intro kk nn g8 k8 y8 z8;rw[zN]at z8;have q8:=j5.pushl hid (B:=h.length) (nLr _) y8 z8;simp only[go_sem];refine qW (n,ds++[⟨s,cs⟩],.slice 2 kk 0 nn false,d,g8) ⟨by simp only;rw[i1,j1];simp only[qg],by simp only;omega,by simp only;omega,q8,by simpa using k8,by simp only[lAp,lCo,lNi];omega⟩ (by simp only;omega) cS
 simp only[bFt,if_false,go_sem];have e1:jz toks (toks.length-a) [] a=.ok (ds,c):=by
  rw[i1];cases n with
  | zero=>rfl
  | succ n=>simp only[jz,hb,bFt,if_false]
 clear i1;refine Sem.loop (fun s:Nat×List qQ×AV×Nat×List qC=>wV toks (toks.length-c) [] c=wV toks s.1 s.2.1 s.2.2.2.1/\toks.length<=s.1+s.2.2.2.1/\s.2.2.2.1<=toks.length/\PS h id (prI toks s.2.2.2.1 e) s.2.2.2.2/\KL h.length g.length s.2.2.2.2 v0 2 (ds.map qJ.enc)/\KL g.length s.2.2.2.2.length s.2.2.2.2 s.2.2.1 12 (s.2.1.map qQ.enc)/\g.length<=s.2.2.2.2.length/\s.2.1.length<=s.2.2.2.1)
  (fun s=>(⟨[(0,.ptr id 0 0)],[(2,.agg [.nils,.nils]),(3,.agg [v0,s.2.2.1])],s.2.2.2.2⟩:VSt)) (fun s=>toks.length-s.2.2.2.1) (toks.length-c,[],.nils,c,g) (by kernel_rfl) ⟨rfl,by simp only;omega,i3,i4,i5,.inl ⟨rfl,rfl⟩,nLr _,nZl _⟩ cS ?_
 rintro⟨n,fs,v1,d,gg⟩ ⟨j1,j2,j3,j4,j5,j6,j7,j8⟩;simp only at j1 j2 j3 j4 j5 j6 j7 j8;simp only[go_sem];refine qe rfl (jH j4.at' K.l (by decide)) ?_;rw[qk (by decide)];simp only[go_sem];cases hd:isP toks d [100,101,102]
 case true=>
  have hlt:=qa hd;simp only[if_true,go_sem];obtain⟨n,rfl⟩:∃m,n=m+1:=⟨n-1,by omega⟩;simp only[wV,hd,if_true]at j1;have q1:=j4.trans (PS.set j4.at' (o:=prI toks (d+1) e));have k1:=j5.set (id:=id) (o:=prI toks (d+1) e) hid;have l1:=j6.set (id:=id) (o:=prI toks (d+1) e) (by omega);refine qY ((Jn (k:=1) q1.at' K.l (by decide)).mono ?_ ?_)
  case refine_2=>
   rintro v h1 ⟨hk,rfl,rfl⟩;exact⟨rfl,d+1,by simp only[jO,e1,qg,j1,JQ,XF hk,qn],rfl⟩
  rintro v h1 ⟨hk,rfl,rfl⟩;have hw:=XG (by decide) hk;have hlw:=(js hw).2.1;generalize (nxt toks (d+1) e).Text=s at hw|-;have q2:=q1.trans (PS.set q1.at' (o:=prI toks (d+1+1) e));have k2:=k1.set (id:=id) (o:=prI toks (d+1+1) e) hid;have l2:=l1.set (id:=id) (o:=prI toks (d+1+1) e) (by omega);simp only[go_sem];refine lA ?_;simp only[go_sem];refine qY ((jc q2.at' K.l (by decide)).mono ?_ ?_)
  case refine_2=>
   rintro v2 h2 ⟨e2,rfl,rfl⟩;rw[qk (by decide)]at e2;exact⟨rfl,d+1+1,by simp only[jO,e1,j1,JQ,hw,qg,qT,e2,bFt,if_false,qn],rfl⟩
  rintro v2 h2 ⟨e2,rfl⟩;rw[qk (by decide)]at e2;have hlt2:=qa e2;have q3:=q2.trans (PS.set q2.at' (o:=prI toks (d+1+1+1) e));have k3:=k2.set (id:=id) (o:=prI toks (d+1+1+1) e) hid;have l3:=l2.set (id:=id) (o:=prI toks (d+1+1+1) e) (by omega);generalize hg3:((gg.set id (prI toks (d+1) e)).set id (prI toks (d+1+1) e)).set id (prI toks (d+1+1+1) e)=g3 at q3 k3 l3|-;have hl3:g3.length=gg.length:=by rw[<-hg3];simp
  clear hg3 q1 q2 k1 k2 l1 l2 j4 j5;simp only[go_sem];refine qY ((qAM K.l hlt2 q3.at').mono ?_ ?_)
  case refine_2=>
   rintro v h1 ⟨b,r1,rfl⟩;exact⟨rfl,b,by simp only[jO,e1,j1,JQ,hw,qg,qT,e2,if_true,r1,qn],rfl⟩
  rintro v g4 ⟨ty,b,r1,r2,r3⟩;have hpt:=jY _ _ _ r1;have hl4:=r2.len;have q4:=q3.trans r2;have k4:=k3.ps (by omega) hid r2;have l4:=l3.ps (by omega) (by omega) r2;obtain⟨v5,rfl,x5⟩:=r3.shapeT;simp only[go_sem];refine Q9 (c':=.agg [.str s,.int .i64 ty.Kind,.str ty.Name,v5,.int .i64 0,.int .i64 0,.str [],.int .i64 0,.str [],.nils,.nils,.nils]) rfl rfl ?_;simp only[go_sem];refine qY ((jc q4.at' K.l (by decide)).mono ?_ ?_)
  case refine_2=>
   rintro v2 h2 ⟨e3,rfl,rfl⟩;rw[qk (by decide)]at e3;exact⟨rfl,b,by simp only[jO,e1,j1,JQ,hw,qg,qT,e2,if_true,r1,e3,bFt,if_false,qn],rfl⟩
  rintro v2 h2 ⟨e3,rfl⟩;rw[qk (by decide)]at e3;have hlt3:=qa e3;have q5:=q4.trans (PS.set q4.at' (o:=prI toks (b+1) e));have k5:=k4.set (id:=id) (o:=prI toks (b+1) e) hid;have l5:=l4.set (id:=id) (o:=prI toks (b+1) e) (by omega);have x5:=x5.set (id:=id) (o:=prI toks (b+1) e) (.inl (by omega));simp only[go_sem];refine qY (((allI (e:=e) (id:=id) K _).term (b+1) _ (nLr _) hlt3 q5.at').mono ?_ ?_)
  case refine_2=>
   rintro v h1 ⟨b',r1',rfl⟩;exact⟨rfl,b',by simp only[jO,e1,j1,JQ,hw,qg,qT,e2,if_true,r1,e3,r1',qn],rfl⟩
  rintro v g6 ⟨x,f,t1,t2,t3⟩;obtain⟨p1,p2,_,_⟩:=jh K.x _ .term _ trivial hlt3 t1;simp only[Jb.str]at p1;have hl6:=t2.len;rw[lLs]at hl6 t3;have q6:=q5.trans t2;have k6:=k5.ps (by simp;omega) hid t2;have l6:=l5.ps (by simp;omega) (by omega) t2;have x6:=x5.ps (by simp) (by omega) t2;obtain⟨a0,a1,a2,a3,a4,a5,a6,a7,rfl⟩:=t3.shape;simp only[go_sem];refine Q9 (c':=.agg [.str s,.int .i64 ty.Kind,.str ty.Name,v5,a0,a1,a2,a3,a4,a5,a6,a7]) rfl rfl ?_;simp only[go_sem];have x7:=qW1 (s:=s) x6 t3 hl4 hl6;simp only[lCa,lNa]at x7;refine qy (v:=.agg [.str s,.int .i64 ty.Kind,.str ty.Name,v5,a0,a1,a2,a3,a4,a5,a6,a7]) rfl rfl ?_;simp only[go_sem];have hlk:(fs.map qQ.enc).length<4294967296:=by rw[lMp];have:=K.l;omega
  refine jF ((l6.mono (u2:=g3.length) (by omega)).push (by omega)) (x7.push (o:=.row 12 [.agg [.str s,.int .i64 ty.Kind,.str ty.Name,v5,a0,a1,a2,a3,a4,a5,a6,a7]] true) (nLr _)) (by simp) (by omega) (by omega) (by simp) hlk ?_;intro kk nn g8 k8 y8 z8;rw[zN]at z8;have q8:=q6.pushl hid (B:=g.length) hlg y8 z8;have k8':KL h.length g.length g8 v0 2 (ds.map qJ.enc):=(k6.push (o:=.row 12 [.agg [.str s,.int .i64 ty.Kind,.str ty.Name,v5,a0,a1,a2,a3,a4,a5,a6,a7]] true) (by omega)).to fun j h1 h2=>y8 j (by omega);simp only[go_sem];refine qW (n,fs++[⟨s,ty,x⟩],.slice 12 kk 0 nn false,f,g8) ⟨by simp only;rw[j1];simp only[JQ,hw,qg,qT,e2,if_true,r1,e3,t1],by simp only;omega,p2,q8,k8',by simpa using k8,by simp only;omega,by simp only[lAp,lCo,lNi];omega⟩ (by simp only;omega) cS
 simp only[bFt,if_false,go_sem];have e2:wV toks (toks.length-c) [] c=.ok (fs,d):=by
  rw[j1];cases n with
  | zero=>rfl
  | succ n=>simp only[wV,hd,bFt,if_false]
 refine lA ?_;simp only[go_sem];exact⟨⟨ds,fs⟩,d,by simp only[jO,e1,qg,e2],j4,qAW j5.ow j6.ow hlg j7⟩
end
theorem qu.lst0{h:List qC}{w:Nat}:qu [none] h (.lst w [] true) (.lst w [] false):=by
 refine⟨rfl,rfl, ?_, ?_⟩
 ·simp only[lay,qZ];exact⟨.ph,trivial⟩
 ·simp only[lay,qZ,lNi];exact .ph2 rfl
theorem Ow.lst0{b u w:Nat}{h:List qC}:Ow b u h (.lst w [] true) (.lst w [] false):=⟨[none],qu.lst0,fun j hj=>by simp at hj⟩
section
variable {E:Ev} {l:List qA} {ks:List Fr1} {s m:qf} {h:List qC} {Q:qS->VSt->Prop}
theorem qZA{B u u2 w id2 d:Nat}{c2:Bool}{X t:AV}(hX:Ow u u2 h X t)(h2:h[id2]?=some (.row w [X] true))(b1:B<=u)(b2:u<=u2)(b3:u2<=h.length)
  (hr:∀k' n' h',KL B h'.length h' (.slice w k' 0 n' false) w [t]->(∀j,j<B->h'[j]?=h[j]?)->h.length<=h'.length->R E (.ops l::ks) ⟨(d,.slice w k' 0 n' false)::s,m,h'⟩ Q):
  wk E w (some d) (some (.lst w [] true)) (some (.slice w id2 0 1 c2)) l ks ⟨s,m,h⟩ Q:=by
 refine XU (Els.row h2 rfl) (by simp) (hr _ _ _ ?_ (fun j hj=>gAl (by omega)) (by simp));have:=JW (w:=w) (B:=B) (k:=h.length) ((hX.push (o:=.row w [X] true) b3).mono b1 (nLr _)) (by simp) b3 (by omega);simpa using this
end
theorem Ow.cell1{b u w:Nat}{h:List qC}{v:AV}{xs:List AV}(x:Ow b u h v (.lst w xs false)):v.cells=[v]:=by
 obtain⟨S,x,_⟩:=x;have q:=x.v;simp only[lay]at q;generalize xs.length=n at q;generalize (0:Nat)=z at q;cases q<;>rfl
section
variable {h:List qC} {id a b f:Nat} {toks:List qK} {bad:Bool}
def RSa{α:Type}(enc:α->AV)(toks:List qK)(id:Nat)(h:List qC)(r:Except Nat (α×Nat))(a:Nat)(v:AV)(h':List qC):Prop:=
 ∃t b bad',SPr r t b bad'/\a<=b/\b<=toks.length/\PS h id (prS toks b bad') h'/\Ow h.length h'.length h' v (enc t)
theorem qYB(K:qx toks)(ha:a<=toks.length)(ho:h[id]?=some (prS toks a bad)):SCall Gm 1332 [.ptr id 0 0] h (fun v h'=>RSa (fun fs:List qB=>.lst 3 (fs.map qB.enc) false) toks id h (gd bad a (wR toks a)) a v h'):=by
 have hid:=zA ho;refine sI Vp ?_;simp only[Vp,qH,go_sem];refine qO ((wP (s:=[91]) K (.inl rfl) ho).mono ?_);rintro v0 h0 (⟨rfl,hb,rfl,r0⟩ | ⟨hb,rfl,rfl⟩)
 case inr=>
  simp only[go_sem];refine⟨[],a,bad, ?_,nLr _,ha,PS.refl ho,Ow.lst0⟩;cases bad
  ·have hb:isP toks a [91]=false:=hb;simp only[wR,hb,bFt,if_false];exact SPr.ret
  ·exact SPr.bd
 have hlt:=qa hb;have hl0:=r0.len;simp only[go_sem];refine qO ((Yf K hlt r0.at').mono ?_);rintro v g1 ⟨t1,b1,bad1,s1,m1,l1,r1,o1⟩;have hl1:=r1.len;have q1:=r0.trans r1;obtain⟨a0,a1,a2,rfl⟩:=o1.shape3;simp only[go_sem];refine qy (v:=.agg [a0,a1,a2]) rfl rfl ?_;simp only[go_sem];refine qZA (B:=h.length) (o1.push (o:=.row 3 [.agg [a0,a1,a2]] true) (nLr _)) (by simp) hl0 hl1 (by simp) ?_;intro kk nn g2 k2 y2 z2;rw[zN]at z2;have q2:=q1.pushl hid (B:=h.length) (nLr _) y2 z2;simp only[go_sem];have e0:∀y c bad',SPr (gd bad1 b1 (if isP toks b1 [44]then jr toks (toks.length-a-1) [t1] (b1+1)else exB (qT toks [93] b1) fun _ b=>.ok ([t1],b))) y c bad'->SPr (gd false a (wR toks a)) y c bad':=fun y c bad' q=>by
  obtain⟨n,hn⟩:∃n,toks.length-a=n+1:=⟨toks.length-a-1,by omega⟩;rw[hn,Nat.add_sub_cancel]at q;simp only[wR,hb,if_true,hn,jr,lNa];rw[qq,<-qq (a:=a+1) (r:=exB _ _)];exact s1.bind q
 refine Sem.loop (fun z:Nat×List qB×AV×Nat×Bool×List qC=>(∀y c bad',SPr (gd z.2.2.2.2.1 z.2.2.2.1 (if isP toks z.2.2.2.1 [44]then jr toks z.1 z.2.1 (z.2.2.2.1+1)else exB (qT toks [93] z.2.2.2.1) fun _ b=>.ok (z.2.1,b))) y c bad'->SPr (gd false a (wR toks a)) y c bad')/\toks.length<=z.1+z.2.2.2.1/\PS h id (prS toks z.2.2.2.1 z.2.2.2.2.1) z.2.2.2.2.2/\KL h.length z.2.2.2.2.2.length z.2.2.2.2.2 z.2.2.1 3 (z.2.1.map qB.enc)/\z.2.1.length<=z.2.2.2.1/\z.2.2.2.1<=toks.length/\a+1<=z.2.2.2.1/\∃kk nn,z.2.2.1=.slice 3 kk 0 nn false)
  (fun z=>(⟨[(0,.ptr id 0 0),(3,z.2.2.1)],[],z.2.2.2.2.2⟩:VSt)) (fun z=>toks.length-z.2.2.2.1) (toks.length-a-1,[t1],.slice 3 kk 0 nn false,b1,bad1,g2) (by kernel_rfl) ⟨e0,by simp only;omega,q2,by simpa using k2,by simp;omega,l1,by simp only;omega,_,_,rfl⟩ cS ?_
 clear e0 k2 y2 z2 q2 o1 r1 s1 q1;rintro⟨n,ks,w7,d,bd,g⟩ ⟨i1,i2,i3,i4,i5,i6,i7,kk,nn,rfl⟩;simp only at i1 i2 i3 i4 i5 i6 i7;have hl3:=i3.len;simp only[go_sem];refine qO ((wP (s:=[44]) K (.inl rfl) i3.at').mono ?_);rintro v0 h4 (⟨rfl,hc,rfl,r0⟩ | ⟨hc,rfl,rfl⟩)
 case inl=>
  have hlt:=qa hc;have hl4:=r0.len;simp only[go_sem];rw[hc,if_pos rfl,qq]at i1;obtain⟨n,rfl⟩:∃m,n=m+1:=⟨n-1,by omega⟩;have q0:=i3.trans r0;have i4:=i4.ps (nLr _) hid r0;refine qO ((Yf K hlt q0.at').mono ?_);rintro v g5 ⟨t5,b5,bad5,s5,m5,l5,r5,o5⟩;have hl5:=r5.len;have q5:=q0.trans r5;have i4:=i4.ps hl4 hid r5;obtain⟨a0,a1,a2,rfl⟩:=o5.shape3;simp only[go_sem];refine qy (v:=.agg [a0,a1,a2]) rfl rfl ?_;simp only[go_sem];have hlk:(ks.map qB.enc).length<4294967296:=by rw[lMp];have:=K.l;omega
  refine jF ((i4.mono (u2:=h4.length) hl4).push hl5) (o5.push (o:=.row 3 [.agg [a0,a1,a2]] true) (nLr _)) (by simp) (by omega) hl5 (by simp) hlk ?_;intro kk nn g6 k6 y6 z6;rw[zN]at z6;have q6:=q5.pushl hid (B:=h.length) (nLr _) y6 z6;simp only[go_sem];refine qW (n,ks++[t5],.slice 3 kk 0 nn false,b5,bad5,g6) ⟨fun y c bad' q=>i1 y c bad' ?_,by simp only;omega,q6,by simpa using k6,by simp;omega,l5,by simp only;omega,_,_,rfl⟩ (by simp only;omega) cS;simp only[jr];rw[<-qq (a:=d+1) (r:=exB _ _)];exact s5.bind q
 simp only[go_sem];refine qO ((jV (s:=[93]) K (.inl rfl) i6 i3.at').mono ?_);rintro w5 g5 ⟨b5,bad5,s5,m5,l5,r5⟩;simp only[go_sem];have hl5:=r5.len;refine⟨ks,b5,bad5,i1 _ _ _ ?_,by omega,l5,i3.trans r5,((i4.ps (nLr _) hid r5).mono hl5).ow⟩;cases bd
 ·have hc:isP toks d [44]=false:=hc;rw[hc,if_neg (by decide)];exact s5.bind SPr.ret
 ·have:=s5;obtain⟨rfl,rfl⟩:=this;exact SPr.bd
theorem qgE(K:qx toks)(ha:a<=toks.length)(ho:h[id]?=some (prS toks a bad)):SCall Gm 1016 [.ptr id 0 0] h (fun v h'=>RSa qJ.enc toks id h (gd bad a (QH toks a)) a v h'):=by
 have hid:=zA ho;refine sI VC ?_;simp only[VC,qH,go_sem];refine qO ((Jc (k:=2) K ha ho).mono ?_);rintro w1 g1 ⟨x1,b1,bad1,s1,m1,l1,rfl,r1⟩;have hl1:=r1.len;simp only[go_sem];refine lA ?_;simp only[go_sem];refine qO ((jV (s:=[61]) K (.inl rfl) l1 r1.at').mono ?_);rintro w2 g2 ⟨b2,bad2,s2,m2,l2,r2⟩;have hl2:=r2.len;have q2:=r1.trans r2;simp only[go_sem];refine qO ((Jc (k:=2) K l2 q2.at').mono ?_);rintro wc gc1 ⟨xc,bc1,badc1,sc1,mc1,lc1,rfl,rc1⟩;have hlc1:=rc1.len;simp only[go_sem];refine qO ((qYB K lc1 (q2.trans rc1).at').mono ?_);rintro vc gc ⟨fc,bc,badc,sc2,mc2,lc,rc2,oc2⟩;have hlc2:=rc2.len;have qc:=(q2.trans rc1).trans rc2;have oc:Ow g2.length gc.length gc (.agg [.str xc,vc]) (qV.mk xc fc).enc:=(qAV oc2 hlc2).mono hlc1 (nLr _);have sc:SPr (gd bad2 b2 (wJ toks b2)) ⟨xc,fc⟩ bc badc:=by unfold wJ;exact sc1.bind (sc2.bind SPr.ret)
 simp only[go_sem];have hv:=oc2.cell1;simp only[hv,lCo,lNi,if_true,go_sem];refine qy (v:=.agg [.str xc,vc]) rfl rfl ?_;simp only[go_sem];refine jF (KL.nil (B:=h.length) (u:=g2.length)) (oc.push (o:=.row 2 [.agg [.str xc,vc]] true) (nLr _)) (by simp) (by omega) (by omega) (by simp) (by simp) ?_;intro kk nn g5 k5 y5 z5;rw[zN]at z5;have q5:=qc.pushl hid (B:=h.length) (nLr _) y5 z5;simp only[lNa]at k5;simp only[go_sem];have e0:∀y c bad',SPr (gd badc bc (if isP toks bc [124]then jX toks (toks.length-b2) [⟨xc,fc⟩] (bc+1)else .ok ([⟨xc,fc⟩],bc))) y c bad'->SPr (gd bad2 b2 (jX toks (toks.length+1-b2) [] b2)) y c bad':=fun y c bad' q=>by
  obtain⟨n,hn⟩:∃n,toks.length+1-b2=n+1:=⟨toks.length-b2,by omega⟩;have hn2:toks.length-b2=n:=by omega
  rw[hn2]at q;rw[hn];simp only[jX,lNa];exact sc.bind q
 refine Sem.loop (fun z:Nat×List qV×AV×Nat×Bool×List qC=>(∀y c bad',SPr (gd z.2.2.2.2.1 z.2.2.2.1 (if isP toks z.2.2.2.1 [124]then jX toks z.1 z.2.1 (z.2.2.2.1+1)else .ok (z.2.1,z.2.2.2.1))) y c bad'->SPr (gd bad2 b2 (jX toks (toks.length+1-b2) [] b2)) y c bad')/\toks.length<=z.1+z.2.2.2.1/\PS h id (prS toks z.2.2.2.1 z.2.2.2.2.1) z.2.2.2.2.2/\KL h.length z.2.2.2.2.2.length z.2.2.2.2.2 z.2.2.1 2 (z.2.1.map qV.enc)/\z.2.1.length<=z.2.2.2.1+1/\z.2.2.2.1<=toks.length/\b2<=z.2.2.2.1/\∃kk nn,z.2.2.1=.slice 2 kk 0 nn false)
  (fun z=>(⟨[(0,.ptr id 0 0)],[(2,.agg [.str [],.nils]),(3,.agg [.str x1,z.2.2.1])],z.2.2.2.2.2⟩:VSt)) (fun z=>toks.length-z.2.2.2.1) (toks.length-b2,[⟨xc,fc⟩],.slice 2 kk 0 nn false,bc,badc,g5) (by kernel_rfl) ⟨e0,by simp only;omega,q5,by simpa using k5,by simp,lc,by simp only;omega,_,_,rfl⟩ cS ?_
 clear e0 k5 y5 z5 q5 oc qc sc;rintro⟨n,ks,w7,d,bd,g⟩ ⟨i1,i2,i3,i4,i5,i6,i7,kk,nn,rfl⟩;simp only at i1 i2 i3 i4 i5 i6 i7;have hl3:=i3.len;simp only[go_sem];refine qO ((wP (s:=[124]) K (.inl rfl) i3.at').mono ?_);rintro v0 h4 (⟨rfl,hc,rfl,r0⟩ | ⟨hc,rfl,rfl⟩)
 case inl=>
  have hlt:=qa hc;have hl4:=r0.len;simp only[go_sem];rw[hc,if_pos rfl,qq]at i1;obtain⟨n,rfl⟩:∃m,n=m+1:=⟨n-1,by omega⟩;have q0:=i3.trans r0;have i4:=i4.ps (nLr _) hid r0;refine qO ((Jc (k:=2) K hlt q0.at').mono ?_);rintro wc gc1 ⟨xc,bc1,badc1,sc1,mc1,lc1,rfl,rc1⟩;have hlc1:=rc1.len;simp only[go_sem];refine qO ((qYB K lc1 (q0.trans rc1).at').mono ?_);rintro vc gc ⟨fc,bc,badc,sc2,mc2,lc,rc2,oc2⟩;have hlc2:=rc2.len;have qc:=(q0.trans rc1).trans rc2;have oc:Ow h4.length gc.length gc (.agg [.str xc,vc]) (qV.mk xc fc).enc:=(qAV oc2 hlc2).mono hlc1 (nLr _);have sc:SPr (gd false (d+1) (wJ toks (d+1))) ⟨xc,fc⟩ bc badc:=by unfold wJ;exact sc1.bind (sc2.bind SPr.ret)
  simp only[go_sem];have hv:=oc2.cell1;simp only[hv,lCo,lNi,if_true,go_sem];refine qy (v:=.agg [.str xc,vc]) rfl rfl ?_;simp only[go_sem];have i4:=(i4.ps hl4 hid rc1).ps (by omega) hid rc2;have hlk:(ks.map qV.enc).length<4294967296:=by rw[lMp];have:=K.l;omega
  refine jF ((i4.mono (u2:=h4.length) hl4).push (by omega)) (oc.push (o:=.row 2 [.agg [.str xc,vc]] true) (nLr _)) (by simp) (by omega) (by omega) (by simp) hlk ?_;intro kk nn g6 k6 y6 z6;rw[zN]at z6;have q6:=qc.pushl hid (B:=h.length) (nLr _) y6 z6;simp only[go_sem];refine qW (n,ks++[⟨xc,fc⟩],.slice 2 kk 0 nn false,bc,badc,g6) ⟨fun y c bad' q=>i1 y c bad' ?_,by simp only;omega,q6,by simpa using k6,by simp;omega,lc,by simp only;omega,_,_,rfl⟩ (by simp only;omega) cS;simp only[jX];rw[<-qq (a:=d+1) (r:=exB _ _)];exact sc.bind q
 simp only[go_sem];refine lA ?_;simp only[go_sem];refine⟨⟨x1,ks⟩,d,bd, ?_,by omega,i6,i3,qW0 i4.ow hl3⟩;unfold QH;refine s1.bind (s2.bind (SPr.bind (i1 _ _ _ ?_) SPr.ret));cases bd
 ·have hc:isP toks d [124]=false:=hc;rw[hc,if_neg (by decide)];exact SPr.ret
 ·exact SPr.bd
end
theorem Ow.shapeD{b u:Nat}{h:List qC}{v:AV}{t:qJ}(x:Ow b u h v t.enc):∃a0 a1,v=.agg [a0,a1]:=by
 obtain⟨S,x,_⟩:=x;unfold qJ.enc at x;obtain⟨vs,rfl,y⟩:=x.aggs;have:=y.cnt
 match vs,this with
 |[a,b],_=>exact⟨a,b,rfl⟩
theorem Ow.shapeF{b u:Nat}{h:List qC}{v:AV}{t:qQ}(x:Ow b u h v t.enc):∃a0 a1 a2 a3 a4 a5 a6 a7 a8 a9 a10 a11,v=.agg [a0,a1,a2,a3,a4,a5,a6,a7,a8,a9,a10,a11]:=by
 obtain⟨S,x,_⟩:=x;unfold qQ.enc at x;obtain⟨vs,rfl,y⟩:=x.aggs;have:=y.cnt
 match vs,this with
 |[a,b,c,d,e,f,g,h,i,j,k,l],_=>exact⟨a,b,c,d,e,f,g,h,i,j,k,l,rfl⟩
section
variable {h:List qC} {id a b f:Nat} {toks:List qK} {bad:Bool}
theorem qgF(K:qx toks)(ha:a<=toks.length)(ho:h[id]?=some (prS toks a bad)):SCall Gm 1017 [.ptr id 0 0] h (fun v h'=>RSa qQ.enc toks id h (gd bad a (JQ toks a)) a v h'):=by
 have hid:=zA ho;refine sI VD ?_;simp only[VD,qH,go_sem];refine qO ((Jc (k:=1) K ha ho).mono ?_);rintro w1 g1 ⟨x1,b1,bad1,s1,m1,l1,rfl,r1⟩;have hl1:=r1.len;simp only[go_sem];refine lA ?_;simp only[go_sem];refine qO ((jV (s:=[58]) K (.inl rfl) l1 r1.at').mono ?_);rintro w2 g2 ⟨b2,bad2,s2,m2,l2,r2⟩;have hl2:=r2.len;have q2:=r1.trans r2;simp only[go_sem];refine qO ((Yf K l2 q2.at').mono ?_);rintro v g3 ⟨ty,b3,bad3,s3,m3,l3,r3,o3⟩;have hl3:=r3.len;have q3:=q2.trans r3;obtain⟨v5,rfl,x5⟩:=o3.shapeT;simp only[go_sem];refine Q9 (c':=.agg [.str x1,.int .i64 ty.Kind,.str ty.Name,v5,.int .i64 0,.int .i64 0,.str [],.int .i64 0,.str [],.nils,.nils,.nils]) rfl rfl ?_;simp only[go_sem];refine qO ((jV (s:=[61]) K (.inl rfl) l3 q3.at').mono ?_);rintro w4 g4 ⟨b4,bad4,s4,m4,l4,r4⟩;have hl4:=r4.len;have q4:=q3.trans r4;have x5:=x5.ps (nLr _) (by omega) r4;simp only[go_sem];refine qO ((Ye (f:=mJ toks .term b4) K (allS K _).term (fun _=>nLr _) l4 q4.at').mono ?_);rintro v g6 ⟨x,b6,bad6,s6,m6,l6,r6,o6⟩;have hl6:=r6.len;have q6:=q4.trans r6;have x5:=x5.ps (by omega) (by omega) r6;obtain⟨a0,a1,a2,a3,a4,a5,a6,a7,rfl⟩:=o6.shape;simp only[go_sem];refine Q9 (c':=.agg [.str x1,.int .i64 ty.Kind,.str ty.Name,v5,a0,a1,a2,a3,a4,a5,a6,a7]) rfl rfl ?_;simp only[go_sem];refine lA ?_;simp only[go_sem];have x7:=qW1 (s:=x1) (x5.mono (u':=g4.length) (nLr _) (by omega)) o6 (by omega) hl6;simp only[lCa,lNa]at x7;exact⟨⟨x1,ty,x⟩,b6,bad6,by unfold JQ;exact s1.bind (s2.bind (s3.bind (s4.bind (s6.bind SPr.ret)))),by omega,l6,q6,x7.mono (by omega) (nLr _)⟩
theorem t633(K:qx toks)(ha:a<=toks.length)(ho:h[id]?=some (prS toks a bad)):SCall Gm 633 [.ptr id 0 0] h (fun v h'=>RSa qU.enc toks id h (gd bad a (jO toks a)) a v h'):=by
 have hid:=zA ho;refine sI U0 ?_;simp only[U0,qH,go_sem];refine lA ?_;simp only[go_sem];refine Sem.loop (fun s:Nat×List qJ×AV×Nat×Bool×List qC=>(∀y c bad',SPr (gd s.2.2.2.2.1 s.2.2.2.1 (jz toks s.1 s.2.1 s.2.2.2.1)) y c bad'->SPr (gd bad a (jz toks (toks.length-a) [] a)) y c bad')/\toks.length<=s.1+s.2.2.2.1/\s.2.2.2.1<=toks.length/\a<=s.2.2.2.1/\PS h id (prS toks s.2.2.2.1 s.2.2.2.2.1) s.2.2.2.2.2/\KL h.length s.2.2.2.2.2.length s.2.2.2.2.2 s.2.2.1 2 (s.2.1.map qJ.enc)/\s.2.1.length<=s.2.2.2.1)
  (fun s=>(⟨[(0,.ptr id 0 0)],[(2,.agg [.nils,.nils]),(3,.agg [s.2.2.1,.nils])],s.2.2.2.2.2⟩:VSt)) (fun s=>toks.length-s.2.2.2.1) (toks.length-a,[],.nils,a,bad,h) (by kernel_rfl) ⟨fun y c bad' q=>q,by simp only;omega,ha,nLr _,PS.refl ho,.inl ⟨rfl,rfl⟩,nZl _⟩ cS ?_
 rintro⟨n,ds,v0,c,bd,g⟩ ⟨i1,i2,i3,i4,i5,i6,i7⟩;simp only at i1 i2 i3 i4 i5 i6 i7;have hlg:=i5.len;simp only[go_sem];refine qO ((wP (s:=[100,97,116,97]) K (.inr rfl) i5.at').mono ?_);rintro v1 h4 (⟨rfl,hb,rfl,r0⟩ | ⟨hb,rfl,rfl⟩)
 case inl=>
  have hlt:=qa hb;have hl4:=r0.len;simp only[go_sem];obtain⟨n,rfl⟩:∃m,n=m+1:=⟨n-1,by omega⟩;simp only[jz,hb,if_true,qq]at i1;have q0:=i5.trans r0;have i6:=i6.ps (nLr _) hid r0;refine qO ((qgE K hlt q0.at').mono ?_);rintro v g5 ⟨t5,b5,bad5,s5,m5,l5,r5,o5⟩;have hl5:=r5.len;have q5:=q0.trans r5;have i6:=i6.ps hl4 hid r5;obtain⟨w0,w1,rfl⟩:=o5.shapeD;simp only[go_sem];refine qy (v:=.agg [w0,w1]) rfl rfl ?_;simp only[go_sem];have hlk:(ds.map qJ.enc).length<4294967296:=by rw[lMp];have:=K.l;omega
  refine jF ((i6.mono (u2:=h4.length) hl4).push hl5) (o5.push (o:=.row 2 [.agg [w0,w1]] true) (nLr _)) (by simp) (by omega) hl5 (by simp) hlk ?_;intro kk nn g6 k6 y6 z6;rw[zN]at z6;have q6:=q5.pushl hid (B:=h.length) (nLr _) y6 z6;simp only[go_sem];refine qW (n,ds++[t5],.slice 2 kk 0 nn false,b5,bad5,g6) ⟨fun y c bad' q=>i1 y c bad' ?_,by simp only;omega,l5,by simp only;omega,q6,by simpa using k6,by simp;omega⟩ (by simp only;omega) cS;rw[<-qq (a:=c+1) (r:=exB _ _)];exact s5.bind q
 simp only[go_sem];have e1:SPr (gd bad a (jz toks (toks.length-a) [] a)) ds c bd:=i1 _ _ _ (by
  cases bd
  ·have hb:isP toks c [100,97,116,97]=false:=hb;cases n with
   | zero=>exact SPr.ret
   | succ n=>simp only[jz,hb,bFt,if_false];exact SPr.ret
  ·exact SPr.bd)
 clear i1;refine Sem.loop (fun s:Nat×List qQ×AV×Nat×Bool×List qC=>(∀y c' bad',SPr (gd s.2.2.2.2.1 s.2.2.2.1 (wV toks s.1 s.2.1 s.2.2.2.1)) y c' bad'->SPr (gd bd c (wV toks (toks.length-c) [] c)) y c' bad')/\toks.length<=s.1+s.2.2.2.1/\s.2.2.2.1<=toks.length/\c<=s.2.2.2.1/\PS h id (prS toks s.2.2.2.1 s.2.2.2.2.1) s.2.2.2.2.2/\KL h.length g.length s.2.2.2.2.2 v0 2 (ds.map qJ.enc)/\KL g.length s.2.2.2.2.2.length s.2.2.2.2.2 s.2.2.1 12 (s.2.1.map qQ.enc)/\g.length<=s.2.2.2.2.2.length/\s.2.1.length<=s.2.2.2.1)
  (fun s=>(⟨[(0,.ptr id 0 0)],[(2,.agg [.nils,.nils]),(3,.agg [v0,s.2.2.1])],s.2.2.2.2.2⟩:VSt)) (fun s=>toks.length-s.2.2.2.1) (toks.length-c,[],.nils,c,bd,g) (by kernel_rfl) ⟨fun y c bad' q=>q,by simp only;omega,i3,nLr _,i5,i6,.inl ⟨rfl,rfl⟩,nLr _,nZl _⟩ cS ?_
 rintro⟨n,fs,v1,d,bd2,gg⟩ ⟨j1,j2,j3,j4,j5,j6,j7,j8,j9⟩;simp only at j1 j2 j3 j4 j5 j6 j7 j8 j9;simp only[go_sem];refine qO ((wP (s:=[100,101,102]) K (.inr rfl) j5.at').mono ?_);rintro v2 h4 (⟨rfl,hd,rfl,r0⟩ | ⟨hd,rfl,rfl⟩)
 case inl=>
  have hlt:=qa hd;have hl4:=r0.len;simp only[go_sem];obtain⟨n,rfl⟩:∃m,n=m+1:=⟨n-1,by omega⟩;simp only[wV,hd,if_true,qq]at j1;have q0:=j5.trans r0;have j6:=j6.ps (by omega) hid r0;have j7:=j7.ps (nLr _) (by omega) r0;refine qO ((qgF K hlt q0.at').mono ?_);rintro v g5 ⟨t5,b5,bad5,s5,m5,l5,r5,o5⟩;have hl5:=r5.len;have q5:=q0.trans r5;have j6:=j6.ps (by omega) hid r5;have j7:=j7.ps hl4 (by omega) r5;obtain⟨w0,w1,w2,w3,w4,w5,w6,w7,w8,w9,w10,w11,rfl⟩:=o5.shapeF;simp only[go_sem];refine qy (v:=.agg [w0,w1,w2,w3,w4,w5,w6,w7,w8,w9,w10,w11]) rfl rfl ?_;simp only[go_sem];have hlk:(fs.map qQ.enc).length<4294967296:=by rw[lMp];have:=K.l;omega
  refine jF ((j7.mono (u2:=h4.length) hl4).push hl5) (o5.push (o:=.row 12 [.agg [w0,w1,w2,w3,w4,w5,w6,w7,w8,w9,w10,w11]] true) (nLr _)) (by simp) (by omega) hl5 (by simp) hlk ?_;intro kk nn g6 k6 y6 z6;rw[zN]at z6;have q6:=q5.pushl hid (B:=g.length) hlg y6 z6;have k6':KL h.length g.length g6 v0 2 (ds.map qJ.enc):=(j6.push (o:=.row 12 [.agg [w0,w1,w2,w3,w4,w5,w6,w7,w8,w9,w10,w11]] true) (by omega)).to fun j h1 h2=>y6 j (by omega);simp only[go_sem];refine qW (n,fs++[t5],.slice 12 kk 0 nn false,b5,bad5,g6) ⟨fun y c bad' q=>j1 y c bad' ?_,by simp only;omega,l5,by simp only;omega,q6,k6',by simpa using k6,by simp only;omega,by simp;omega⟩ (by simp only;omega) cS;rw[<-qq (a:=d+1) (r:=exB _ _)];exact s5.bind q
 simp only[go_sem];have e2:SPr (gd bd c (wV toks (toks.length-c) [] c)) fs d bd2:=j1 _ _ _ (by
  cases bd2
  ·have hd:isP toks d [100,101,102]=false:=hd;cases n with
   | zero=>exact SPr.ret
   | succ n=>simp only[wV,hd,bFt,if_false];exact SPr.ret
  ·exact SPr.bd)
 refine lA ?_;simp only[go_sem];exact⟨⟨ds,fs⟩,d,bd2,by unfold jO;exact e1.bind (e2.bind SPr.ret),by omega,j3,j5,qAW j6.ow j7.ow hlg j8⟩
end
def nmD(s:Str)(d:qJ):Bool:=decide (d.Name=s)
def nmF(s:Str)(d:qQ):Bool:=decide (d.Name=s)
mutual
def qB.kn(ds:List qJ):qB->Bool
 |.mk k n ks=>(!(decide (k=2)&& !(ds.any (nmD n))))&& !qB.kns ds ks
def qB.kns(ds:List qJ):List qB->Bool
 |[]=>false
 | x::xs=> !x.kn ds || qB.kns ds xs
end
theorem qB.kns_eq(ds:List qJ):∀xs:List qB,qB.kns ds xs=xs.any fun y=> !y.kn ds
 |[]=>rfl
 | x::xs=>by rw[qB.kns,qB.kns_eq ds xs];rfl
theorem qB.kn_eq(ds:List qJ)(x:qB):x.kn ds=((!(decide (x.Kind=2)&& !(ds.any (nmD x.Name))))&& !(x.Kids.any fun y=> !y.kn ds)):=by
 cases x;rw[qB.kn,qB.kns_eq];rfl
mutual
def qB.kr(ds:List qJ):qB->Bool
 |.mk k n ks=>if k=2 then ds.any (nmD n)else !qB.krs ds ks
def qB.krs(ds:List qJ):List qB->Bool
 |[]=>false
 | x::xs=> !x.kr ds || qB.krs ds xs
end
theorem qB.krs_eq(ds:List qJ):∀xs:List qB,qB.krs ds xs=xs.any fun y=> !y.kr ds
 |[]=>rfl
 | x::xs=>by rw[qB.krs,qB.krs_eq ds xs];rfl
theorem qB.kr_eq(ds:List qJ)(x:qB):x.kr ds=if x.Kind=2 then ds.any (nmD x.Name)else !(x.Kids.any fun y=> !y.kr ds):=by
 cases x;rw[qB.kr,qB.krs_eq];rfl
theorem shps_all:∀{xs:List qB}{d s d1 s1:Nat},qB.shps xs d s=some (d1,s1)->∀y∈xs,y.shp.2.2=true
 |[],_,_,_,_,_,y,hy=>by cases hy
 | x::xs,d,s,d1,s1,h,y,hy=>by
  rw[qB.shps]at h;split at h
  ·rename_i he;rcases List.mem_cons.1 hy with rfl | hy
   ·rw[he]
   ·exact shps_all h y hy
  ·cases h
theorem qB.kr_kn(ds:List qJ):∀x:qB,x.shp.2.2=true->x.kr ds=x.kn ds:=qB.ind fun x ih h=>by
 rw[qB.shp_eq]at h;split at h
 ·cases h
 rename_i d s he;simp only at h;have hk:=shps_all he;rw[qB.kr_eq,qB.kn_eq];by_cases k2:x.Kind=2
 ·have:x.Kids.length=0:=by
   unfold okT at h;rw[if_neg (by omega),if_pos k2]at h;simp only[bAt,dTe]at h;exact h.2.2
  have hn:x.Kids=[]:=List.length_eq_zero_iff.1 this;simp[k2,hn]
 ·simp only[if_neg k2,dFf k2,Bool.false_and,nF,Bool.true_and];congr 1;rw[bEi,List.any_eq_true,List.any_eq_true];constructor<;>rintro⟨y,hy,q⟩<;>refine⟨y,hy, ?_⟩<;>simpa[ih y hy (hk y hy)]using q
def JL(ds:List qJ)(y:qB):Bool:= !zZ y || !y.kn ds
def jy(ds:List qJ)(c:qV):Bool:=zL c.Name&&(decide (c.Fields.length<=3)&& !(c.Fields.any (JL ds)))
def wt(ds:List qJ):List qV->List Str->Option (List Str)
 |[],sn=>some sn
 | c::cs,sn=>if jy ds c&& !decide (c.Name∈sn)then wt ds cs (sn++[c.Name])else none
def jZ(ds:List qJ)(i:Nat)(d:qJ):Bool:=zL d.Name&&(!decide (d.Name=[73,110,116])&&(!((ds.take i).any (nmD d.Name))&&(decide (1<=d.Cons.length)&&decide (d.Cons.length<=4))))
def wT(ds:List qJ):List qJ->Nat->List Str->Bool
 |[],_,_=>true
 | d::r,i,sn=>jZ ds i d&&match wt ds d.Cons sn with
  | none=>false
  | some sn'=>wT ds r (i+1) sn'
def j0(ds:List qJ):Bool:=decide (ds.length<=4)&&wT ds ds 0 []
def wA(fs:List qQ)(i:Nat)(d:qQ):Bool:=zV d.Name&&(!decide (qz (nmF d.Name) fs 0<(i:Nat))&&(zZ d.Typ&&wF d.Body))
def wU(fs:List qQ):List qQ->Nat->Bool
 |[],_=>true
 | d::r,i=>wA fs i d&&wU fs r (i+1)
def jE(p:qU):Bool:=j0 p.Datas&&(decide (1<=p.Defs.length)&&(decide (p.Defs.length<=8)&&wU p.Defs p.Defs 0))
theorem kV{α:Type}(p:α->Bool):∀(xs:List α)(k i:Nat),decide (k<=i)=true->i<k+xs.length->(∀(h:i-k<xs.length),p xs[i-k]=true)->qz p xs k<=(i:Nat)/\0<=qz p xs k
 |[],k,i,h1,h2,h3=>by have:=odT h1;simp at h2;omega
 | x::xs,k,i,h1,h2,h3=>by
  have h1:=odT h1;rw[qz];by_cases hp:p x=true
  ·rw[if_pos hp];omega
  ·rw[if_neg hp];rcases Nat.lt_or_ge k i with q | q
   ·refine kV p xs (k+1) i (dTt (by omega)) (by simp at h2;omega) fun h=> ?_;have:=h3 (by simp;omega);simpa[show i-k=(i-(k+1))+1 by omega]using this
   ·obtain rfl:k=i:=by omega
    have:=h3 (by simp);simp at this;exact absurd this hp
theorem qUZ{α:Type}{p:α->Bool}{xs:List α}{i:Nat}(h:i<xs.length)(hp:p xs[i]=true):decide (qz p xs 0=(i:Nat))= !decide (qz p xs 0<(i:Nat)):=by
 have:=(kV p xs 0 i (dTt (by omega)) (by omega) fun _=>hp);by_cases q:qz p xs 0<(i:Nat)
 ·rw[dTt q,dFf (by omega)];rfl
 ·rw[dFf q,dTt (by omega)];rfl
theorem qU1{α:Type}{p:α->Bool}:∀{xs:List α}{i k:Nat},i<xs.length->decide (qz p xs k<((k+i:Nat):Int)/\0<=qz p xs k)=(xs.take i).any p
 |[],i,k,h=>by simp at h
 | x::xs,0,k,_=>by
  have:∀(xs:List α)(k:Nat),¬(qz p xs k<(k:Nat)/\0<=qz p xs k):=by
   intro xs
   induction xs with
   | nil=>intro k;simp[qz]
   | cons y ys ih=>
    intro k;rw[qz];split
    ·omega
    ·have:=ih (k+1);omega
  simpa using this (x::xs) k
 | x::xs,i+1,k,h=>by
  rw[List.take_succ_cons,List.any_cons,qz];by_cases hp:p x=true
  ·rw[if_pos hp,hp,Bool.true_or];exact dTt (by omega)
  ·rw[if_neg hp,Bool.eq_false_iff.2 hp,Bool.false_or,<-qU1 (xs:=xs) (i:=i) (k:=k+1) (by simpa using h),show k+1+i=k+(i+1) by omega]
theorem qcV{α:Type}{p:α->Bool}{xs:List α}{i:Nat}(h:i<xs.length)(hp:p xs[i]=true):decide (qz p xs 0=(i:Nat))= !((xs.take i).any p):=by
 rw[qUZ h hp,<-qU1 (k:=0) h];have:=(kV p xs 0 i (dTt (by omega)) (by omega) fun _=>hp);congr 1;rw[decide_eq_decide,nZa];omega
theorem qB.kids_nd{x y:qB}(h:y∈x.Kids)(hn:x.nd<=1048576):y.nd<=1048576:=by
 have:=wv (f:=qB.nd) h;rw[qB.nd_eq]at hn;omega
theorem qB.kids_len{x:qB}(hn:x.nd<=1048576):x.Kids.length<=1048575:=by
 rw[qB.nd_wz,qB.wz_eq]at hn;omega
theorem qaD{d:qJ}{s:Str}:Pure Gm 1430 [d.enc,.ept (.str s) 0] (.bool (nmD s d)):=by
 refine pJ Vz ?_;simp only[Vz,qH,go_sem];refine zM rfl ?_;simp only[go_sem];exact qE rfl rfl
theorem qaC{f:AV}(p:qJ->Bool)(hft:f.tree=true)(xs:List qJ)(hf:∀x∈xs,WN Gm f [x.enc] (.bool (p x)))(hl:xs.length<=1048576):Pure Gm 1429 [.lst 2 (xs.map qJ.enc) false,f] (.int .i64 (qz p xs 0)):=
 kT qJ.isSh (gk _ qHI) f p hft xs hf hl
theorem qTI{f:AV}(p:qB->Bool)(hft:f.tree=true)(xs:List qB)(hf:∀x∈xs,WN Gm f [x.enc] (.bool (p x)))(hl:xs.length<=1048576):Pure Gm 1208 [.lst 3 (xs.map qB.enc) false,f] (.bool (xs.any p)):=
 qa7 qB.isSh (gc:=1432) (gk _ qFM) (gk _ qHL) f p hft xs hf hl
theorem c891{f:AV}(p:qQ->Bool)(hft:f.tree=true)(xs:List qQ)(hf:∀x∈xs,WN Gm f [x.enc] (.bool (p x)))(hl:xs.length<=1048576):Pure Gm 891 [.lst 12 (xs.map qQ.enc) false,f] (.int .i64 (qz p xs 0)):=
 kT qQ.isSh (gk _ F891) f p hft xs hf hl
theorem qTG{ds:List qJ}{s:Str}(hd:ds.length<=1048576):Pure Gm 1204 [.lst 2 (ds.map qJ.enc) false,.str s] (.int .i64 (qz (nmD s) ds 0)):=by
 refine Pure.intro [3] [] (gk _ Va) (by kernel_rfl) rfl (by simp[AV.trees,AV.tree,go_sem,zD qJ.isSh.tree]) rfl ?_;simp only[Va,qH,go_sem];refine JC rfl ?_;simp only[go_sem];simp only[go_sem,lNa,lCa,lSz,List.set_cons_succ];refine qF (qaC (nmD s) (by simp[AV.tree,AV.trees]) _ (fun b _=>⟨1430,_,rfl,qaD⟩) hd) ?_;simp only[go_sem];exact qE rfl rfl
theorem qZ3{ds:List qJ}{y:qB}{b:Bool}(H:Pure Gm 892 [.lst 2 (ds.map qJ.enc) false,y.enc] (.bool b)):Pure Gm 1209 [y.enc,.ept (.lst 2 (ds.map qJ.enc) false) 0] (.bool (!b)):=by
 refine pI Ve (by simp[AV.trees,AV.tree,go_sem,zD qJ.isSh.tree]) rfl ?_;simp only[Ve,qH,go_sem];refine zM qB.ln ?_;simp only[go_sem];refine qF H ?_;simp only[go_sem];exact qE rfl rfl
theorem c892(x:qB):∀(ds:List qJ)(hd:ds.length<=1048576)(hn:x.nd<=1048576),Pure Gm 892 [.lst 2 (ds.map qJ.enc) false,x.enc] (.bool (x.kn ds)):=by
 induction x using qB.ind with
 | _ x ih=>
 intro ds hd hn;refine Pure.intro [2] [] (gk _ KR) (by kernel_rfl) rfl (by simp[AV.trees,AV.tree,go_sem,zD qJ.isSh.tree]) rfl ?_;simp only[KR,qH,go_sem];refine JC rfl ?_;simp only[go_sem];simp only[go_sem,lNa,lCa,lSz,List.set_cons_succ];refine zM qB.ln ?_;simp only[go_sem];have hq:=qB.kn_eq ds x;have hl:=qB.kids_len hn;have tl:∀{h:List qC},(x.kn ds= !(x.Kids.any fun y=> !y.kn ds))->Fin (some [.bool (!(x.Kids.any fun y=> !y.kn ds))]) h (.bool (x.kn ds)):=fun e=>qE rfl (by rw[e]);have K:=qTI (f:=.fn 1209 [.ept (.lst 2 (ds.map qJ.enc) false) 0]) (fun y=> !y.kn ds) (by simp[AV.tree,AV.trees,zD qJ.isSh.tree]) x.Kids (fun y hy=>⟨1209,_,rfl,qZ3 (ih y hy ds hd (qB.kids_nd hy hn))⟩) (by omega);by_cases k2:x.Kind=2
 ·simp only[dTt k2,go_sem];refine qF (qTG hd) ?_;simp only[go_sem];have e:decide (qz (nmD x.Name) ds 0<0)= !(ds.any (nmD x.Name)):=by
   rw[<-Zm (nmD x.Name) ds 0];by_cases q:qz (nmD x.Name) ds 0<0
   ·rw[dTt q,dFf (by omega)];rfl
   ·rw[dFf q,dTt (by omega)];rfl
  simp only[e];cases ha:ds.any (nmD x.Name)
  ·simp only[nF,go_sem];exact qE rfl (by rw[hq,ha];simp[k2])
  ·simp only[nT,go_sem];refine qF K ?_;simp only[go_sem];exact tl (by rw[hq,ha];simp)
 ·simp only[dFf k2,go_sem];refine qF K ?_;simp only[go_sem];exact tl (by rw[hq];simp[k2])
theorem qaE{ds:List qJ}{y:qB}(hd:ds.length<=1048576)(hb:y.bd)(hn:y.nd<=1048576):Pure Gm 1431 [y.enc,.ept (.lst 2 (ds.map qJ.enc) false) 0] (.bool (JL ds y)):=by
 refine pI V0 (by simp[AV.trees,AV.tree,go_sem,zD qJ.isSh.tree]) rfl ?_;simp only[V0,qH,go_sem];refine zM qB.ln ?_;simp only[go_sem];refine qF (c74 hb hn) ?_;simp only[go_sem];cases hv:zZ y
 ·simp only[nF,go_sem];exact qE rfl (by rw[JL,hv];rfl)
 ·simp only[nT,go_sem];refine qF (c892 y ds hd hn) ?_;simp only[go_sem];exact qE rfl (by rw[JL,hv];rfl)
theorem qZ1{ds:List qJ}{c:qV}(hd:ds.length<=1048576)(hs:c.Name.length<=20000)(hl:c.Fields.length<=1048576)(hf:∀y∈c.Fields,y.bd/\y.nd<=1048576):Pure Gm 1205 [.lst 2 (ds.map qJ.enc) false,c.enc] (.bool (jy ds c)):=by
 refine Pure.intro [2] [] (gk _ Vb) (by kernel_rfl) rfl (by simp[AV.trees,AV.tree,go_sem,zD qJ.isSh.tree]) rfl ?_;simp only[Vb,qH,go_sem];refine JC rfl ?_;simp only[go_sem];simp only[go_sem,lNa,lCa,lSz,List.set_cons_succ];refine zM qV.ln ?_;simp only[go_sem];refine qF (jx (by omega)) ?_;simp only[go_sem];cases hu:zL c.Name
 ·simp only[nF,go_sem];exact qE rfl (by rw[jy,hu];rfl)
 simp only[nT,lMp,go_sem];by_cases h3:c.Fields.length<=3
 ·have e3:decide ((3:Int)<(c.Fields.length:Nat))=false:=dFf (by omega);simp only[gt_iff_lt,e3,go_sem];refine qF (qTI (f:=.fn 1431 [.ept (.lst 2 (ds.map qJ.enc) false) 0]) (JL ds) (by simp[AV.tree,AV.trees,zD qJ.isSh.tree]) c.Fields (fun y hy=>⟨1431,_,rfl,qaE hd (hf y hy).1 (hf y hy).2⟩) (by omega)) ?_;simp only[go_sem];exact qE rfl (by rw[jy,hu,dTt h3];rfl)
 ·have e3:decide ((3:Int)<(c.Fields.length:Nat))=true:=dTt (by omega);simp only[gt_iff_lt,e3,go_sem];exact qE rfl (by rw[jy,hu,dFf h3];rfl)
theorem qZ2{d:qQ}{s:Str}:Pure Gm 1207 [d.enc,.ept (.str s) 0] (.bool (nmF s d)):=by
 refine pJ Vd ?_;simp only[Vd,qH,go_sem];refine zM qQ.ln ?_;simp only[go_sem];exact qE rfl rfl
theorem c890{p:qU}{s:Str}(hd:p.Defs.length<=1048576):Pure Gm 890 [p.enc,.str s] (.int .i64 (qz (nmF s) p.Defs 0)):=by
 refine Pure.intro [3] [] (gk _ KQ) (by kernel_rfl) rfl (by simp[AV.trees,AV.tree,go_sem]) rfl ?_;simp only[KQ,qH,go_sem];refine zM qU.ln ?_;simp only[go_sem];refine JC rfl ?_;simp only[go_sem];simp only[go_sem,lNa,lCa,lSz,List.set_cons_succ];refine qF (c891 (nmF s) (by simp[AV.tree,AV.trees]) _ (fun b _=>⟨1207,_,rfl,qZ2⟩) hd) ?_;simp only[go_sem];exact qE rfl rfl
def sE(sn:List Str):List (AV×AV):=sn.map fun k=>(AV.str k,AV.bool true)
theorem qd0{h:List qC}{id:Nat}{sn:List Str}{n:Str}(ho:h[id]?=some (.map (sE sn))):X7 h (.bool false) false (some (.map id)) (some (.str n))=some (.bool (decide (n∈sn))):=by
 rw[qdZ ho,lkuS];by_cases q:n∈sn
 ·obtain⟨j,e⟩:=qUP (v:=fun _=>AV.bool true) (i:=0) q;rw[sE,e,dTt q];rfl
 ·rw[sE,kJ (v:=fun _=>AV.bool true) q,dFf q];rfl
def DB(ds:List qJ):Prop:=ds.length<=1048576/\∀d∈ds,d.Name.length<=20000/\d.Cons.length<=1048576/\∀c∈d.Cons,c.Name.length<=20000/\c.Fields.length<=1048576/\∀y∈c.Fields,y.bd/\y.nd<=1048576
theorem qU.db{p:qU}(hb:p.bd)(hn:p.wz<=1048575):DB p.Datas:=by
 unfold qU.wz at hn;refine⟨by omega,fun d hd=> ?_⟩;have h1:=wv (f:=qJ.wz) hd;have b1:=hb.1 d hd;have w1:d.wz=d.Cons.length+qM qV.wz d.Cons:=rfl;refine⟨b1.1,by omega,fun c hc=> ?_⟩;have h2:=wv (f:=qV.wz) hc;have b2:=b1.2 c hc;have w2:c.wz=c.Fields.length+qM qB.wz c.Fields:=rfl;refine⟨b2.1,by omega,fun y hy=>⟨b2.2 y hy, ?_⟩⟩;have h3:=wv (f:=qB.wz) hy;rw[qB.nd_wz];omega
theorem c888{ds:List qJ}(B:DB ds):Pure Gm 888 [.lst 2 (ds.map qJ.enc) false] (.bool (j0 ds)):=by
 refine pI KN (by simp[AV.trees,AV.tree,go_sem,zD qJ.isSh.tree]) rfl ?_;simp only[KN,qH,go_sem];by_cases h4:ds.length<=4
 case neg=>
  have e4:decide ((4:Int)<(ds.length:Nat))=true:=dTt (by omega);simp only[gt_iff_lt,e4,go_sem];exact qE rfl (by rw[j0,dFf h4];rfl)
 have e4:decide ((4:Int)<(ds.length:Nat))=false:=dFf (by omega);simp only[gt_iff_lt,e4,go_sem];have hq:j0 ds=wT ds ds 0 []:=by rw[j0,dTt h4,Bool.true_and]
 refine Sem.loop (fun a:Nat×List Str=>a.1<=ds.length/\wT ds ds 0 []=wT ds (ds.drop a.1) a.1 a.2)
  (fun a=>(⟨[(0,.lst 2 (ds.map qJ.enc) false),(3,.map 0),(12,.lst 2 (ds.map qJ.enc) false),(13,.int .i64 ds.length),(14,.int .i64 (a.1:Nat))],[],[.map (sE a.2)]⟩:VSt)) (fun a=>ds.length-a.1) (0,[]) (by kernel_rfl) ⟨nZl _,by simp⟩ (Can.sub (by simp[go_sem]) (by simp[go_sem,sE])) ?_
 rintro⟨i,sn⟩ ⟨hi,hI⟩;simp only at hi hI;simp only[go_sem];apply zj<;>intro hc<;>simp only[hc,go_sem]
 ·have hlt:i<ds.length:=by have:=odT hc;omega
  simp only[gMp,gEg hlt,oMs,go_sem];refine wf rfl qJ.ln (by exact⟨_,rfl⟩) (by decide) ?_;simp only[go_sem];have hm:=gMm hlt;have hdr:ds.drop i=ds[i]::ds.drop (i+1):=by simp
  rw[hdr,wT]at hI;obtain⟨b1,b2,b3⟩:=B.2 _ hm;generalize hdd:ds[i]=d at*;have bad:∀{h:List qC},jZ ds i d=false->Fin (some [.bool false]) h (.bool (j0 ds)):=fun e=>qE rfl (by rw[hq,hI,e];rfl);refine qF (jx (by omega)) ?_;simp only[go_sem];cases hu:zL d.Name
  ·simp only[nF,go_sem];exact bad (by rw[jZ,hu];rfl)
  simp only[nT,go_sem];by_cases hi2:d.Name=[73,110,116]
  ·simp only[dTt hi2,go_sem];exact bad (by rw[jZ,dTt hi2,hu];rfl)
  simp only[dFf hi2,go_sem];refine qA3 (xs:=ds.map qJ.enc) (i:=i) rfl rfl (by simp;omega) ?_;simp only[<-List.map_take,go_sem];refine qF (qTG (ds:=ds.take i) (by simp;omega)) ?_;simp only[go_sem];simp only[Zm];cases ha:(ds.take i).any (nmD d.Name)
  case true=>
   simp only[go_sem];exact bad (by rw[jZ,ha,hu,dFf hi2];rfl)
  simp only[lMp,go_sem];by_cases h1:1<=d.Cons.length
  case neg=>
   have e1:decide (((d.Cons.length:Nat):Int)<1)=true:=dTt (by omega);simp only[e1,go_sem];exact bad (by rw[jZ,ha,hu,dFf hi2,dFf h1];rfl)
  have e1:decide (((d.Cons.length:Nat):Int)<1)=false:=dFf (by omega);simp only[e1,go_sem];by_cases h5:d.Cons.length<=4
  case neg=>
   have e5:decide ((4:Int)<(d.Cons.length:Nat))=true:=dTt (by omega);simp only[gt_iff_lt,e5,go_sem];exact bad (by rw[jZ,ha,hu,dFf hi2,dTt h1,dFf h5];rfl)
  have e5:decide ((4:Int)<(d.Cons.length:Nat))=false:=dFf (by omega);simp only[gt_iff_lt,e5,go_sem];have hok:jZ ds i d=true:=by rw[jZ,ha,hu,dFf hi2,dTt h1,dTt h5];rfl
  rw[hok,Bool.true_and]at hI;clear bad;refine Sem.loop (fun a:Nat×List Str=>a.1<=d.Cons.length/\wt ds d.Cons sn=wt ds (d.Cons.drop a.1) a.2)
   (fun a=>(⟨[(0,.lst 2 (ds.map qJ.enc) false),(3,.map 0),(12,.lst 2 (ds.map qJ.enc) false),(13,.int .i64 ds.length),(14,.int .i64 (i:Nat)),(50,.lst 2 (d.Cons.map qV.enc) false),(51,.int .i64 d.Cons.length),(52,.int .i64 (a.1:Nat))],[],[.map (sE a.2)]⟩:VSt)) (fun a=>d.Cons.length-a.1) (0,sn) (by kernel_rfl) ⟨nZl _,by simp⟩ cS ?_
  rintro⟨j,s2⟩ ⟨hj,hJ⟩;simp only at hj hJ;simp only[go_sem];apply zj<;>intro hc<;>simp only[hc,go_sem]
  ·have hlj:j<d.Cons.length:=by have:=odT hc;omega
   simp only[gMp,gEg hlj,oMs,go_sem];refine wf rfl qV.ln (by exact⟨_,rfl⟩) (by decide) ?_;simp only[go_sem];have hmc:=gMm hlj;have hcr:d.Cons.drop j=d.Cons[j]::d.Cons.drop (j+1):=by simp
   rw[hcr,wt]at hJ;obtain⟨q1,q2,q3⟩:=b3 _ hmc;generalize hcc:d.Cons[j]=c at*;have bad:∀{h:List qC},(jy ds c&& !decide (c.Name∈s2))=false->Fin (some [.bool false]) h (.bool (j0 ds)):=fun e=>by
    rw[e,if_neg (by decide)]at hJ;exact qE rfl (by rw[hq,hI,hJ])
   refine qF (qZ1 B.1 q1 q2 q3) ?_;simp only[go_sem];cases ho:jy ds c
   ·simp only[nF,go_sem];exact bad (by rw[ho];rfl)
   simp only[nT,go_sem];rw[qd0 (sn:=s2) rfl];simp only[go_sem];by_cases hs:c.Name∈s2
   ·simp only[dTt hs,go_sem];exact bad (by rw[ho,dTt hs];rfl)
   simp only[dFf hs,go_sem];refine qd7 rfl (kJ (v:=fun _=>AV.bool true) hs) ?_;simp only[go_sem];rw[ho,dFf hs,nF,Bool.and_self,if_pos rfl]at hJ;simp only[qp (show j<4611686018427387904 by omega)];have eh:[qC.map (sE s2)].set 0 (qC.map (sE s2++[(AV.str c.Name,AV.bool true)]))=[qC.map (sE (s2++[c.Name]))]:=by simp[sE]
   rw[eh];exact qW (j+1,s2++[c.Name]) ⟨by simp only;omega,hJ⟩ (by simp only;omega) cS
  ·obtain rfl:j=d.Cons.length:=by have:=odF hc;omega
   rw[List.drop_length,wt]at hJ;rw[hJ]at hI;simp only[qp (show i<4611686018427387904 by omega)];exact qW (i+1,s2) ⟨by simp only;omega,hI⟩ (by simp only;omega) (Can.sub (by simp[go_sem]) (by simp[go_sem,sE]))
 ·obtain rfl:i=ds.length:=by have:=odF hc;omega
  rw[List.drop_length,wT]at hI;exact qE rfl (by rw[hq,hI])
theorem badR{ds:List qJ}{y:qB}:(!zZ y || !y.kr ds)=JL ds y:=by
 unfold JL;cases hv:zZ y
 ·rfl
 ·rw[qB.kr_kn ds y];unfold zZ at hv;rw[bAt]at hv;exact hv.1
def SnL(h:List qC)(v:AV)(sn:List Str):Prop:=(sn=[]/\v=.lst 1 [] true)\/∃k,v=.slice 1 k 0 sn.length false/\h[k]?=some (.row 1 (sn.map qR) true)/\sn≠[]
theorem qTJ{ds:List qJ}{s:Str}(hd:ds.length<=1048576):Pure Gm 1238 [.lst 2 (ds.map qJ.enc) false,.str s] (.int .i64 (qz (nmD s) ds 0)):=by
 refine pI Vh (by simp[AV.trees,AV.tree,go_sem,zD qJ.isSh.tree]) rfl ?_;simp only[Vh,qH,go_sem];refine Sem.loop (fun i:Nat=>i<=ds.length/\qz (nmD s) ds 0=qz (nmD s) (ds.drop i) i) (fun i=>(⟨[(0,.lst 2 (ds.map qJ.enc) false),(1,.str s),(5,.int .i64 (i:Nat))],[],[]⟩:VSt)) (fun i=>ds.length-i) 0 (by kernel_rfl) ⟨nZl _,by simp⟩ cS ?_;rintro i ⟨hi,hI⟩;simp only[go_sem];apply zj<;>intro hc<;>simp only[hc,go_sem]
 ·have hlt:i<ds.length:=by have:=odT hc;omega
  simp only[gMp,gEg hlt,oMs,go_sem];have hdr:ds.drop i=ds[i]::ds.drop (i+1):=by simp
  rw[hdr,qz]at hI;generalize hdd:ds[i]=d at*;by_cases hn:d.Name=s
  ·simp only[dTt hn,go_sem];exact qE rfl (by rw[hI,nmD,dTt hn];rfl)
  ·simp only[dFf hn,go_sem];simp only[qp (show i<4611686018427387904 by omega)];refine qW (i+1) ⟨by omega, ?_⟩ (by omega) cS;rw[hI,nmD,dFf hn];rfl
 ·obtain rfl:i=ds.length:=by have:=odF hc;omega
  exact qE rfl (by rw[hI];simp[qz])
theorem c916{ds:List qQ}{s:Str}(hd:ds.length<=1048576):Pure Gm 916 [.lst 12 (ds.map qQ.enc) false,.str s] (.int .i64 (qz (nmF s) ds 0)):=by
 refine pI KV (by simp[AV.trees,AV.tree,go_sem,zD qQ.isSh.tree]) rfl ?_;simp only[KV,qH,go_sem];refine Sem.loop (fun i:Nat=>i<=ds.length/\qz (nmF s) ds 0=qz (nmF s) (ds.drop i) i) (fun i=>(⟨[(0,.lst 12 (ds.map qQ.enc) false),(1,.str s),(5,.int .i64 (i:Nat))],[],[]⟩:VSt)) (fun i=>ds.length-i) 0 (by kernel_rfl) ⟨nZl _,by simp⟩ cS ?_;rintro i ⟨hi,hI⟩;simp only[go_sem];apply zj<;>intro hc<;>simp only[hc,go_sem]
 ·have hlt:i<ds.length:=by have:=odT hc;omega
  simp only[gMp,gEg hlt,oMs,go_sem];have hdr:ds.drop i=ds[i]::ds.drop (i+1):=by simp
  rw[hdr,qz]at hI;generalize hdd:ds[i]=d at*;by_cases hn:d.Name=s
  ·simp only[dTt hn,go_sem];exact qE rfl (by rw[hI,nmF,dTt hn];rfl)
  ·simp only[dFf hn,go_sem];simp only[qp (show i<4611686018427387904 by omega)];refine qW (i+1) ⟨by omega, ?_⟩ (by omega) cS;rw[hI,nmF,dFf hn];rfl
 ·obtain rfl:i=ds.length:=by have:=odF hc;omega
  exact qE rfl (by rw[hI];simp[qz])
theorem c917(x:qB):∀(ds:List qJ)(hd:ds.length<=1048576)(hn:x.nd<=1048576),Pure Gm 917 [.lst 2 (ds.map qJ.enc) false,x.enc] (.bool (x.kr ds)):=by
 induction x using qB.ind with
 | _ x ih=>
 intro ds hd hn;refine pI KW (by simp[AV.trees,AV.tree,go_sem,zD qJ.isSh.tree]) rfl ?_;simp only[KW,qH,go_sem];refine zM qB.ln ?_;simp only[go_sem];have hq:=qB.kr_eq ds x;have hl:=qB.kids_len hn;by_cases k2:x.Kind=2
 ·simp only[dTt k2,go_sem];refine qF (qTJ hd) ?_;simp only[go_sem];exact qE rfl (by rw[hq,if_pos k2,Zm])
 simp only[dFf k2,go_sem];rw[if_neg k2]at hq;refine Sem.loop (fun i:Nat=>i<=x.Kids.length/\(x.Kids.any fun y=> !y.kr ds)=((x.Kids.drop i).any fun y=> !y.kr ds)) (fun i=>(⟨[(0,.lst 2 (ds.map qJ.enc) false),(5,.int .i64 (i:Nat))],[(3,x.enc)],[]⟩:VSt)) (fun i=>x.Kids.length-i) 0 (by kernel_rfl) ⟨nZl _,by simp⟩ cS ?_;rintro i ⟨hi,hI⟩;simp only[go_sem];apply zj<;>intro hc<;>simp only[hc,go_sem]
 ·have hlt:i<x.Kids.length:=by have:=odT hc;omega
  simp only[gMp,gEg hlt,oMs,go_sem];have hm:=gMm hlt;have hdr:x.Kids.drop i=x.Kids[i]::x.Kids.drop (i+1):=by simp
  rw[hdr,List.any_cons]at hI;refine qF (ih _ hm ds hd (qB.kids_nd hm hn)) ?_;simp only[go_sem];cases hk:x.Kids[i].kr ds
  ·simp only[nF,go_sem];exact qE rfl (by rw[hq,hI,hk];rfl)
  ·simp only[nT,go_sem];simp only[qp (show i<4611686018427387904 by omega)];refine qW (i+1) ⟨by omega, ?_⟩ (by omega) cS;rw[hI,hk];rfl
 ·obtain rfl:i=x.Kids.length:=by have:=odF hc;omega
  exact qE rfl (by rw[hq,hI];simp)
theorem qaF{ds:List qJ}{c:qV}(hd:ds.length<=1048576)(hs:c.Name.length<=20000)(hl:c.Fields.length<=1048576)(hf:∀y∈c.Fields,y.bd/\y.nd<=1048576):Pure Gm 1439 [.lst 2 (ds.map qJ.enc) false,c.enc] (.bool (jy ds c)):=by
 refine pI V1 (by simp[AV.trees,AV.tree,go_sem,zD qJ.isSh.tree]) rfl ?_;simp only[V1,qH,go_sem];refine zM qV.ln ?_;simp only[go_sem];refine qF (Jt (by omega)) ?_;simp only[go_sem];cases hu:zL c.Name
 ·simp only[nF,go_sem];exact qE rfl (by rw[jy,hu];rfl)
 simp only[nT,lMp,go_sem];by_cases h3:c.Fields.length<=3
 case neg=>
  have e3:decide ((3:Int)<(c.Fields.length:Nat))=true:=dTt (by omega);simp only[gt_iff_lt,e3,go_sem];exact qE rfl (by rw[jy,hu,dFf h3];rfl)
 have e3:decide ((3:Int)<(c.Fields.length:Nat))=false:=dFf (by omega);simp only[gt_iff_lt,e3,go_sem];have hq:jy ds c= !(c.Fields.any (JL ds)):=by rw[jy,hu,dTt h3];rfl
 refine Sem.loop (fun i:Nat=>i<=c.Fields.length/\c.Fields.any (JL ds)=(c.Fields.drop i).any (JL ds)) (fun i=>(⟨[(0,.lst 2 (ds.map qJ.enc) false),(5,.int .i64 (i:Nat))],[(3,c.enc)],[]⟩:VSt)) (fun i=>c.Fields.length-i) 0 (by kernel_rfl) ⟨nZl _,by simp⟩ cS ?_;rintro i ⟨hi,hI⟩;simp only[go_sem];apply zj<;>intro hc<;>simp only[hc,go_sem]
 ·have hlt:i<c.Fields.length:=by have:=odT hc;omega
  simp only[gMp,gEg hlt,oMs,go_sem];have hm:=gMm hlt;have hdr:c.Fields.drop i=c.Fields[i]::c.Fields.drop (i+1):=by simp
  rw[hdr,List.any_cons,<-badR]at hI;refine qF (Xd (hf _ hm).1 (hf _ hm).2) ?_;simp only[go_sem];cases hv:zZ c.Fields[i]
  ·simp only[nF,go_sem];exact qE rfl (by rw[hq,hI,hv];rfl)
  simp only[nT,go_sem];simp only[gMp,gEg hlt,oMs,go_sem];refine qF (c917 _ ds hd (hf _ hm).2) ?_;simp only[go_sem];cases hk:c.Fields[i].kr ds
  ·simp only[nF,go_sem];exact qE rfl (by rw[hq,hI,hv,hk];rfl)
  ·simp only[nT,go_sem];simp only[qp (show i<4611686018427387904 by omega)];refine qW (i+1) ⟨by omega, ?_⟩ (by omega) cS;rw[hI,hv,hk];rfl
 ·obtain rfl:i=c.Fields.length:=by have:=odF hc;omega
  exact qE rfl (by rw[hq,hI];simp)
theorem SnL.push{h:List qC}{v:AV}{sn:List Str}{o:qC}(x:SnL h v sn):SnL (h++[o]) v sn:=by
 rcases x with x | ⟨k,h1,h2,h3⟩
 ·exact .inl x
 ·exact .inr ⟨k,h1,by rw[gAl (zA h2)];exact h2,h3⟩
theorem SnL.ln{h:List qC}{v:AV}{sn:List Str}(x:SnL h v sn):Zq (some v)=some (.int .i64 (sn.length:Nat)):=by
 rcases x with⟨rfl,rfl⟩ | ⟨k,rfl,_⟩<;>rfl
theorem SnL.ix{h:List qC}{v:AV}{sn:List Str}(x:SnL h v sn){k:Nat}(hk:k<sn.length):∃id,idx 1 (some v) (some (.int .i64 (k:Nat)))=some (.ptr id k 0)/\Wh h none (some (.ptr id k 0))=some (.str sn[k]):=by
 rcases x with⟨rfl,rfl⟩ | ⟨id,rfl,h1,_⟩
 ·simp at hk
 ·refine⟨id,by rw[qU0 hk,nZa], ?_⟩;simp only[h1,go_sem,gMp,gEg hk,oMs];rfl
theorem qZB{E:Ev}{l:List qA}{ks:List Fr1}{s m:qf}{h:List qC}{Q:qS->VSt->Prop}{v:AV}{sn:List Str}{n:Str}{d id:Nat}{c2:Bool}(x:SnL h v sn)(h2:h[id]?=some (.row 1 [qR n] true))(hl:sn.length<4294967296)
  (hr:∀v' h',SnL h' v' (sn++[n])->R E (.ops l::ks) ⟨(d,v')::s,m,h'⟩ Q):wk E 1 (some d) (some v) (some (.slice 1 id 0 1 c2)) l ks ⟨s,m,h⟩ Q:=by
 rcases x with⟨rfl,rfl⟩ | ⟨k,rfl,h1,h3⟩
 ·refine XU (ys:=[qR n]) (Els.row h2 rfl) (by simp) ?_;exact hr _ _ (.inr ⟨h.length,rfl,by simp,by simp⟩)
 ·refine Qt (el:=sn.map qR) h2 h1 (by simp) hl ?_;refine hr _ _ (.inr ⟨h.length, ?_, ?_,by simp⟩)
  ·simp
  ·rw[show h.length=(h.set k .dead).length from by simp,gCl];simp
theorem qZ4{ds:List qJ}(B:DB ds):Pure Gm 1236 [.lst 2 (ds.map qJ.enc) false] (.bool (j0 ds)):=by
 refine pI Vf (by simp[AV.trees,AV.tree,go_sem,zD qJ.isSh.tree]) rfl ?_;simp only[Vf,qH,go_sem];by_cases h4:ds.length<=4
 case neg=>
  have e4:decide ((4:Int)<(ds.length:Nat))=true:=dTt (by omega);simp only[gt_iff_lt,e4,go_sem];exact qE rfl (by rw[j0,dFf h4];rfl)
 have e4:decide ((4:Int)<(ds.length:Nat))=false:=dFf (by omega);simp only[gt_iff_lt,e4,go_sem];have hq:j0 ds=wT ds ds 0 []:=by rw[j0,dTt h4,Bool.true_and]
 refine Sem.loop (fun a:Nat×List Str×AV×List qC=>a.1<=ds.length/\wT ds ds 0 []=wT ds (ds.drop a.1) a.1 a.2.1/\SnL a.2.2.2 a.2.2.1 a.2.1/\a.2.1.length<=4*a.1)
  (fun a=>(⟨[(0,.lst 2 (ds.map qJ.enc) false),(3,a.2.2.1),(4,.int .i64 (a.1:Nat))],[],a.2.2.2⟩:VSt)) (fun a=>ds.length-a.1) (0,[],.lst 1 [] true,[]) (by kernel_rfl) ⟨nZl _,by simp,.inl ⟨rfl,rfl⟩,by simp⟩ cS ?_
 rintro⟨i,sn,v,h⟩ ⟨hi,hI,hS,hN⟩;simp only at hi hI hS hN;simp only[lMp,go_sem];apply zj<;>intro hc<;>simp only[hc,go_sem]
 ·have hlt:i<ds.length:=by have:=odT hc;omega
  simp only[gMp,gEg hlt,oMs,go_sem];refine wf rfl qJ.ln (by exact⟨_,rfl⟩) (by decide) ?_;simp only[go_sem];have hm:=gMm hlt;have hdr:ds.drop i=ds[i]::ds.drop (i+1):=by simp
  rw[hdr,wT]at hI;obtain⟨b1,b2,b3⟩:=B.2 _ hm;have hix:=qcV (p:=nmD ds[i].Name) hlt (by simp[nmD]);generalize hdd:ds[i]=d at*;have bad:∀{h:List qC},jZ ds i d=false->Fin (some [.bool false]) h (.bool (j0 ds)):=fun e=>qE rfl (by rw[hq,hI,e];rfl);refine qF (Jt (by omega)) ?_;simp only[go_sem];cases hu:zL d.Name
  ·simp only[nF,go_sem];exact bad (by rw[jZ,hu];rfl)
  simp only[nT,go_sem];by_cases hi2:d.Name=[73,110,116]
  ·simp only[dTt hi2,go_sem];exact bad (by rw[jZ,dTt hi2,hu];rfl)
  simp only[dFf hi2,go_sem];refine qF (qTJ B.1) ?_;simp only[go_sem];simp only[hix];cases ha:(ds.take i).any (nmD d.Name)
  case true=>
   simp only[nT,nF,go_sem];exact bad (by rw[jZ,ha,hu,dFf hi2];rfl)
  simp only[nT,nF,lMp,go_sem];by_cases h1:1<=d.Cons.length
  case neg=>
   have e1:decide (((d.Cons.length:Nat):Int)<1)=true:=dTt (by omega);simp only[e1,go_sem];exact bad (by rw[jZ,ha,hu,dFf hi2,dFf h1];rfl)
  have e1:decide (((d.Cons.length:Nat):Int)<1)=false:=dFf (by omega);simp only[e1,go_sem];by_cases h5:d.Cons.length<=4
  case neg=>
   have e5:decide ((4:Int)<(d.Cons.length:Nat))=true:=dTt (by omega);simp only[gt_iff_lt,e5,go_sem];exact bad (by rw[jZ,ha,hu,dFf hi2,dTt h1,dFf h5];rfl)
  have e5:decide ((4:Int)<(d.Cons.length:Nat))=false:=dFf (by omega);simp only[gt_iff_lt,e5,go_sem];have hok:jZ ds i d=true:=by rw[jZ,ha,hu,dFf hi2,dTt h1,dTt h5];rfl
  rw[hok,Bool.true_and]at hI;clear bad;refine Sem.loop (fun a:Nat×List Str×AV×List qC=>a.1<=d.Cons.length/\wt ds d.Cons sn=wt ds (d.Cons.drop a.1) a.2.1/\SnL a.2.2.2 a.2.2.1 a.2.1/\a.2.1.length<=4*i+a.1)
   (fun a=>(⟨[(0,.lst 2 (ds.map qJ.enc) false),(3,a.2.2.1),(4,.int .i64 (i:Nat)),(6,.int .i64 (a.1:Nat))],[(5,d.enc)],a.2.2.2⟩:VSt)) (fun a=>d.Cons.length-a.1) (0,sn,v,h) (by kernel_rfl) ⟨nZl _,by simp,hS,by simp only;omega⟩ cS ?_
  rintro⟨j,s2,v2,h2⟩ ⟨hj,hJ,hS2,hN2⟩;simp only at hj hJ hS2 hN2;simp only[lMp,go_sem];apply zj<;>intro hc<;>simp only[hc,go_sem]
  ·have hlj:j<d.Cons.length:=by have:=odT hc;omega
   simp only[gMp,gEg hlj,oMs,go_sem];have hmc:=gMm hlj;have hcr:d.Cons.drop j=d.Cons[j]::d.Cons.drop (j+1):=by simp
   rw[hcr,wt]at hJ;obtain⟨q1,q2,q3⟩:=b3 _ hmc;have bad:∀{h:List qC},(jy ds d.Cons[j]&& !decide (d.Cons[j].Name∈s2))=false->Fin (some [.bool false]) h (.bool (j0 ds)):=fun e=>by
    rw[e,if_neg (by decide)]at hJ;exact qE rfl (by rw[hq,hI,hJ])
   refine qF (qaF B.1 q1 q2 q3) ?_;simp only[go_sem];cases ho:jy ds d.Cons[j]
   ·simp only[nF,go_sem];exact bad (by rw[ho];rfl)
   simp only[nT,go_sem];refine Sem.loop (fun k:Nat=>k<=s2.length/\decide (d.Cons[j].Name∈s2)=decide (d.Cons[j].Name∈s2.drop k))
    (fun k=>(⟨[(0,.lst 2 (ds.map qJ.enc) false),(3,v2),(4,.int .i64 (i:Nat)),(6,.int .i64 (j:Nat)),(7,.int .i64 (k:Nat))],[(5,d.enc)],h2⟩:VSt)) (fun k=>s2.length-k) 0 (by kernel_rfl) ⟨nZl _,by simp⟩ cS ?_
   rintro k ⟨hk,hK⟩;simp only[go_sem];simp only[hS2.ln,go_sem];apply zj<;>intro hc<;>simp only[hc,go_sem]
   ·have hlk:k<s2.length:=by have:=odT hc;omega
    obtain⟨id,x1,x2⟩:=hS2.ix hlk;simp only[x1,x2,go_sem];simp only[gMp,gEg hlj,oMs,go_sem];have hkr:s2.drop k=s2[k]::s2.drop (k+1):=by simp
    rw[hkr]at hK;by_cases he:s2[k]=d.Cons[j].Name
    ·simp only[dTt he,go_sem];have hmm:d.Cons[j].Name∈s2:=he▸gMm hlk;exact bad (by rw[ho,dTt hmm];rfl)
    ·simp only[dFf he,go_sem];simp only[qp (show k<4611686018427387904 by omega)];refine qW (k+1) ⟨by omega, ?_⟩ (by omega) cS;rw[hK,decide_eq_decide,List.mem_cons];exact⟨fun q=>q.resolve_left fun e=>he e.symm,.inr⟩
   ·obtain rfl:k=s2.length:=by have:=odF hc;omega
    rw[List.drop_length,dFf (by simp:¬d.Cons[j].Name∈([]:List Str))]at hK;rw[ho,hK,nF,Bool.and_self,if_pos rfl]at hJ;simp only[gMp,gEg hlj,oMs,go_sem];refine qy (v:=.str d.Cons[j].Name) rfl rfl ?_;simp only[go_sem];refine qZB (n:=d.Cons[j].Name) hS2.push (by rw[gCl];rfl) (by omega) fun v' h' hS'=> ?_;simp only[go_sem];simp only[qp (show j<4611686018427387904 by omega)];exact qW (j+1,s2++[d.Cons[j].Name],v',h') ⟨by simp only;omega,hJ,hS',by simp;omega⟩ (by simp only;omega) cS
  ·obtain rfl:j=d.Cons.length:=by have:=odF hc;omega
   rw[List.drop_length,wt]at hJ;rw[hJ]at hI;simp only[qp (show i<4611686018427387904 by omega)];exact qW (i+1,s2,v2,h2) ⟨by simp only;omega,hI,hS2,by simp only;omega⟩ (by simp only;omega) cS
 ·obtain rfl:i=ds.length:=by have:=odF hc;omega
  rw[List.drop_length,wT]at hI;exact qE rfl (by rw[hq,hI])
def FB(fs:List qQ):Prop:=fs.length<=1048576/\∀d∈fs,d.Name.length<=20000/\(d.Typ.bd/\d.Typ.nd<=1048576)/\d.Body.bd/\d.Body.wz<=1048575
theorem qU.fb{p:qU}(hb:p.bd)(hn:p.wz<=1048575):FB p.Defs:=by
 unfold qU.wz at hn;refine⟨by omega,fun d hd=> ?_⟩;have h1:=wv (f:=qQ.wz) hd;have b1:=hb.2 d hd;have w1:d.wz=d.Typ.wz+d.Body.wz:=rfl;exact⟨b1.1,⟨b1.2.1,by rw[qB.nd_wz];omega⟩,b1.2.2,by omega⟩
theorem c527{p:qU}(hb:p.bd)(hn:p.wz<=1048575):Pure Gm 527 [p.enc] (.bool (jE p)):=by
 refine pJ Uo ?_;simp only[Uo,qH,go_sem];have B:=qU.db hb hn;have F:=qU.fb hb hn;refine zM qU.ln ?_;simp only[go_sem];refine qF (c888 B) ?_;simp only[go_sem];cases hd:j0 p.Datas
 ·simp only[nF,go_sem];exact qE rfl (by rw[jE,hd];rfl)
 simp only[nT,lMp,go_sem];by_cases h1:1<=p.Defs.length
 case neg=>
  have e1:decide (((p.Defs.length:Nat):Int)<1)=true:=dTt (by omega);simp only[e1,go_sem];exact qE rfl (by rw[jE,hd,dFf h1];rfl)
 have e1:decide (((p.Defs.length:Nat):Int)<1)=false:=dFf (by omega);simp only[e1,go_sem];by_cases h8:p.Defs.length<=8
 case neg=>
  have e5:decide ((8:Int)<(p.Defs.length:Nat))=true:=dTt (by omega);simp only[gt_iff_lt,e5,go_sem];exact qE rfl (by rw[jE,hd,dTt h1,dFf h8];rfl)
 have e5:decide ((8:Int)<(p.Defs.length:Nat))=false:=dFf (by omega);simp only[gt_iff_lt,e5,go_sem];have hq:jE p=wU p.Defs p.Defs 0:=by rw[jE,hd,dTt h1,dTt h8];rfl
 refine Sem.loop (fun i:Nat=>i<=p.Defs.length/\wU p.Defs p.Defs 0=wU p.Defs (p.Defs.drop i) i) (fun i=>(⟨[(22,.lst 12 (p.Defs.map qQ.enc) false),(23,.int .i64 p.Defs.length),(24,.int .i64 (i:Nat))],[(1,p.enc)],[]⟩:VSt)) (fun i=>p.Defs.length-i) 0 (by kernel_rfl) ⟨nZl _,by simp⟩ cS ?_;rintro i ⟨hi,hI⟩;simp only[go_sem];apply zj<;>intro hc<;>simp only[hc,go_sem]
 ·have hlt:i<p.Defs.length:=by have:=odT hc;omega
  simp only[gMp,gEg hlt,oMs,go_sem];refine wf rfl qQ.ln (by exact⟨_,rfl⟩) (by decide) ?_;simp only[go_sem];have hm:=gMm hlt;have hdr:p.Defs.drop i=p.Defs[i]::p.Defs.drop (i+1):=by simp
  rw[hdr,wU]at hI;obtain⟨b1,b2,b3,b4⟩:=F.2 _ hm;generalize hdd:p.Defs[i]=d at*;have bad:∀{h:List qC},wA p.Defs i d=false->Fin (some [.bool false]) h (.bool (jE p)):=fun e=>qE rfl (by rw[hq,hI,e];rfl);refine qF (wI (by omega)) ?_;simp only[go_sem];cases hu:zV d.Name
  ·simp only[nF,go_sem];exact bad (by rw[wA,hu];rfl)
  simp only[nT,go_sem];refine qF (c890 (p:=p) F.1) ?_;simp only[go_sem];by_cases hx:qz (nmF d.Name) p.Defs 0<(i:Nat)
  ·simp only[dTt hx,go_sem];exact bad (by rw[wA,hu,dTt hx];rfl)
  simp only[dFf hx,go_sem];refine qF (c74 b2.1 b2.2) ?_;simp only[go_sem];cases hv:zZ d.Typ
  ·simp only[nF,go_sem];exact bad (by rw[wA,hu,dFf hx,hv];rfl)
  simp only[nT,go_sem];refine qF (c144 b3 b4) ?_;simp only[go_sem];cases hw:wF d.Body
  ·simp only[nF,go_sem];exact bad (by rw[wA,hu,dFf hx,hv,hw];rfl)
  simp only[nT,go_sem];have hok:wA p.Defs i d=true:=by rw[wA,hu,dFf hx,hv,hw];rfl
  rw[hok,Bool.true_and]at hI;simp only[qp (show i<4611686018427387904 by omega)];exact qW (i+1) ⟨by omega,hI⟩ (by omega) cS
 ·obtain rfl:i=p.Defs.length:=by have:=odF hc;omega
  rw[List.drop_length,wU]at hI;exact qE rfl (by rw[hq,hI])
theorem c915{p:qU}(hb:p.bd)(hn:p.wz<=1048575):Pure Gm 915 [.ept p.enc 0] (.bool (jE p)):=by
 refine pJ KU ?_;simp only[KU,qH,go_sem];have B:=qU.db hb hn;have F:=qU.fb hb hn;refine qF (qZ4 B) ?_;simp only[go_sem];cases hd:j0 p.Datas
 ·simp only[nF,go_sem];exact qE rfl (by rw[jE,hd];rfl)
 simp only[nT,lMp,go_sem];refine qF Qy ?_;simp only[go_sem];have e18:(decide ((1:Int)<=(p.Defs.length:Nat))&&decide (((p.Defs.length:Nat):Int)<=8))=(decide (1<=p.Defs.length)&&decide (p.Defs.length<=8)):=by
  congr 1<;>rw[decide_eq_decide]<;>omega
 rw[e18];cases hl:(decide (1<=p.Defs.length)&&decide (p.Defs.length<=8))
 ·simp only[nF,go_sem];exact qE rfl (by rw[jE,hd,<-Bool.and_assoc (decide (1<=p.Defs.length)),hl];rfl)
 simp only[nT,go_sem];have hq:jE p=wU p.Defs p.Defs 0:=by rw[jE,hd,<-Bool.and_assoc (decide (1<=p.Defs.length)),hl];rfl
 have hl2:=F.1;refine Sem.loop (fun i:Nat=>i<=p.Defs.length/\wU p.Defs p.Defs 0=wU p.Defs (p.Defs.drop i) i) (fun i=>(⟨[(0,.ept p.enc 0),(3,.int .i64 (i:Nat))],[],[]⟩:VSt)) (fun i=>p.Defs.length-i) 0 (by kernel_rfl) ⟨nZl _,by simp⟩ cS ?_;rintro i ⟨hi,hI⟩;simp only[go_sem];apply zj<;>intro hc<;>simp only[hc,go_sem]
 ·have hlt:i<p.Defs.length:=by have:=odT hc;omega
  simp only[gMp,gEg hlt,oMs,go_sem];have hm:=gMm hlt;have hdr:p.Defs.drop i=p.Defs[i]::p.Defs.drop (i+1):=by simp
  rw[hdr,wU]at hI;have hix:=qUZ (p:=nmF p.Defs[i].Name) hlt (by simp[nmF]);obtain⟨b1,b2,b3,b4⟩:=F.2 _ hm;generalize hdd:p.Defs[i]=d at*;have bad:∀{h:List qC},wA p.Defs i d=false->Fin (some [.bool false]) h (.bool (jE p)):=fun e=>qE rfl (by rw[hq,hI,e];rfl);refine qF (Qw (by omega)) ?_;simp only[go_sem];cases hu:zV d.Name
  ·simp only[nF,go_sem];exact bad (by rw[wA,hu];rfl)
  simp only[nT,go_sem];refine qF (c916 F.1) ?_;simp only[go_sem];simp only[hix];cases hx:decide (qz (nmF d.Name) p.Defs 0<(i:Nat))
  case true=>
   simp only[nT,nF,go_sem];exact bad (by rw[wA,hu,hx];rfl)
  simp only[nT,nF,go_sem];refine qF (Xd b2.1 b2.2) ?_;simp only[go_sem];cases hv:zZ d.Typ
  ·simp only[nF,go_sem];exact bad (by rw[wA,hu,hx,hv];rfl)
  simp only[nT,go_sem];refine qF (Pure.lk0 (sh:=some 8) qQ.tr qQ.q4 (by rw[qD.ln];decide) (c350 b3 b4)) ?_;simp only[go_sem];cases hw:wF d.Body
  ·simp only[nF,go_sem];exact bad (by rw[wA,hu,hx,hv,hw];rfl)
  simp only[nT,go_sem];have hok:wA p.Defs i d=true:=by rw[wA,hu,hx,hv,hw];rfl
  rw[hok,Bool.true_and]at hI;simp only[qp (show i<4611686018427387904 by omega)];exact qW (i+1) ⟨by omega,hI⟩ (by omega) cS
 ·obtain rfl:i=p.Defs.length:=by have:=odF hc;omega
  rw[List.drop_length,wU]at hI;exact qE rfl (by rw[hq,hI])
theorem c624{p:qU}(hb:p.bd)(hn:p.wz<=1048575):Pure Gm 624 [p.enc] (.bool (jE p)):=by
 refine Pure.intro [1] [] (gk _ Uu) (by kernel_rfl) rfl (by simp[AV.trees,AV.tree,go_sem]) rfl ?_;simp only[Uu,qH,go_sem];refine JC qU.ln ?_;simp only[lNa,lSz,go_sem];refine qF (c915 hb hn) ?_;simp only[go_sem];exact qE rfl rfl
section
variable {toks:List qK}
theorem qYR(hx:∀x∈toks,x.Text.length<=20000):∀(n:Nat){acc r:List qB}{a b:Nat},jr toks n acc a=.ok (r,b)->∃gs,r=acc++gs/\(∀y∈gs,y.bd)/\gs.length+qM qB.wz gs+2*a<=2*b/\b<=toks.length
 | 0,acc,r,a,b,h=>by cases h
 | n+1,acc,r,a,b,h=>by
  rw[jr]at h;obtain⟨t,b1,e1,h⟩:=qm h;have p1:=jY _ _ _ e1;obtain⟨p2,p3⟩:=qAY hx _ _ _ e1;have p4:=t.nd_wz;by_cases hc:isP toks b1 [44]=true
  ·rw[if_pos hc]at h;obtain⟨gs,rfl,q1,q2,q3⟩:=qYR hx n h;refine⟨t::gs,by simp,fun y hy=> ?_,by simp only[qM,lCo];omega,q3⟩;rcases List.mem_cons.1 hy with rfl | hy
   ·exact p2
   ·exact q1 y hy
  ·rw[if_neg hc]at h;obtain⟨_,b2,e2,h⟩:=qm h;cases h;have p5:=je e2;exact⟨[t],rfl,by simpa using p2,by simp only[qM,lCo,lNi];omega,p5.2.2.1⟩
theorem qg4(hx:∀x∈toks,x.Text.length<=20000){a b:Nat}{r:List qB}(ha:a<=toks.length)(h:wR toks a=.ok (r,b)):(∀y∈r,y.bd)/\r.length+qM qB.wz r+2*a<=2*b/\b<=toks.length:=by
 unfold wR at h;split at h
 ·obtain⟨gs,rfl,q1,q2,q3⟩:=qYR hx _ h;exact⟨q1,by first | omega | (simp only[lNa];omega),q3⟩
 ·cases h;exact⟨by simp,by simp[qM],ha⟩
theorem qaV(hx:∀x∈toks,x.Text.length<=20000){a b:Nat}{c:qV}(h:wJ toks a=.ok (c,b)):c.bd/\2+c.wz+2*a<=2*b/\b<=toks.length:=by
 unfold wJ at h;obtain⟨s,b1,e1,h⟩:=qm h;obtain⟨fs,b2,e2,h⟩:=qm h;cases h;obtain⟨p1,p2,p3,x,hm,_,_,rfl⟩:=js e1;obtain⟨q1,q2,q3⟩:=qg4 hx p2 e2;exact⟨⟨hx x hm,q1⟩,by unfold qV.wz;simp only;omega,q3⟩
theorem qT1(hx:∀x∈toks,x.Text.length<=20000):∀(n:Nat){acc r:List qV}{a b:Nat},jX toks n acc a=.ok (r,b)->∃gs,r=acc++gs/\(∀y∈gs,y.bd)/\gs.length+qM qV.wz gs+2*a<=2*b/\b<=toks.length
 | 0,acc,r,a,b,h=>by cases h
 | n+1,acc,r,a,b,h=>by
  rw[jX]at h;obtain⟨t,b1,e1,h⟩:=qm h;obtain⟨p1,p2,p3⟩:=qaV hx e1;by_cases hc:isP toks b1 [124]=true
  ·rw[if_pos hc]at h;obtain⟨gs,rfl,q1,q2,q3⟩:=qT1 hx n h;refine⟨t::gs,by simp,fun y hy=> ?_,by simp only[qM,lCo];omega,q3⟩;rcases List.mem_cons.1 hy with rfl | hy
   ·exact p1
   ·exact q1 y hy
  ·rw[if_neg hc]at h;cases h;exact⟨[t],rfl,by simpa using p1,by simp only[qM,lCo,lNi];omega,p3⟩
theorem qa8(hx:∀x∈toks,x.Text.length<=20000){a b:Nat}{c:qJ}(h:QH toks a=.ok (c,b)):c.bd/\2+c.wz+2*a<=2*b/\b<=toks.length:=by
 unfold QH at h;obtain⟨s,b1,e1,h⟩:=qm h;obtain⟨_,b2,e2,h⟩:=qm h;obtain⟨fs,b3,e3,h⟩:=qm h;cases h;obtain⟨p1,p2,p3,x,hm,_,_,rfl⟩:=js e1;have p5:=je e2;obtain⟨gs,rfl,q1,q2,q3⟩:=qT1 hx _ e3;exact⟨⟨hx x hm,q1⟩,by unfold qJ.wz;simp only[lNa];omega,q3⟩
theorem qT7(hx:∀x∈toks,x.Text.length<=20000):∀(n:Nat){acc r:List qJ}{a b:Nat},a<=toks.length->jz toks n acc a=.ok (r,b)->∃gs,r=acc++gs/\(∀y∈gs,y.bd)/\gs.length+qM qJ.wz gs+2*a<=2*b/\b<=toks.length
 | 0,acc,r,a,b,ha,h=>by cases h;exact⟨[],by simp,by simp,by simp[qM],ha⟩
 | n+1,acc,r,a,b,ha,h=>by
  rw[jz]at h;split at h
  ·obtain⟨t,b1,e1,h⟩:=qm h;obtain⟨p1,p2,p3⟩:=qa8 hx e1;obtain⟨gs,rfl,q1,q2,q3⟩:=qT7 hx n p3 h;refine⟨t::gs,by simp,fun y hy=> ?_,by simp only[qM,lCo];omega,q3⟩;rcases List.mem_cons.1 hy with rfl | hy
   ·exact p1
   ·exact q1 y hy
  ·cases h;exact⟨[],by simp,by simp,by simp[qM],ha⟩
theorem qbB(hx:∀x∈toks,x.Text.length<=20000){a b:Nat}{c:qQ}(h:JQ toks a=.ok (c,b)):c.bd/\2+c.wz+2*a<=2*b/\b<=toks.length:=by
 unfold JQ at h;obtain⟨s,b1,e1,h⟩:=qm h;obtain⟨_,b2,e2,h⟩:=qm h;obtain⟨t,b3,e3,h⟩:=qm h;obtain⟨_,b4,e4,h⟩:=qm h;obtain⟨y,b5,e5,h⟩:=qm h;cases h;obtain⟨p1,p2,p3,x,hm,_,_,rfl⟩:=js e1;have p5:=je e2;have p6:=jY _ _ _ e3;obtain⟨p7,p8⟩:=qAY hx _ _ _ e3;have p9:=t.nd_wz;have p10:=je e4;obtain⟨r1,r2,r3,r4⟩:=jh hx _ .term _ trivial p10.2.2.1 e5;simp only[Jb.bs,Jb.str]at r1 r4;exact⟨⟨hx x hm,p7,r3⟩,by unfold qQ.wz;simp only;omega,r2⟩
theorem qUC(hx:∀x∈toks,x.Text.length<=20000):∀(n:Nat){acc r:List qQ}{a b:Nat},a<=toks.length->wV toks n acc a=.ok (r,b)->∃gs,r=acc++gs/\(∀y∈gs,y.bd)/\gs.length+qM qQ.wz gs+2*a<=2*b/\b<=toks.length
 | 0,acc,r,a,b,ha,h=>by cases h;exact⟨[],by simp,by simp,by simp[qM],ha⟩
 | n+1,acc,r,a,b,ha,h=>by
  rw[wV]at h;split at h
  ·obtain⟨t,b1,e1,h⟩:=qm h;obtain⟨p1,p2,p3⟩:=qbB hx e1;obtain⟨gs,rfl,q1,q2,q3⟩:=qUC hx n p3 h;refine⟨t::gs,by simp,fun y hy=> ?_,by simp only[qM,lCo];omega,q3⟩;rcases List.mem_cons.1 hy with rfl | hy
   ·exact p1
   ·exact q1 y hy
  ·cases h;exact⟨[],by simp,by simp,by simp[qM],ha⟩
theorem YQ(K:qx toks)(hl:toks.length<=20000){x:qU}{b:Nat}(h:jO toks 0=.ok (x,b)):x.bd/\x.wz<=1048575:=by
 unfold jO at h;obtain⟨ds,b1,e1,h⟩:=qm h;obtain⟨fs,b2,e2,h⟩:=qm h;cases h;obtain⟨gs,rfl,p1,p2,p3⟩:=qT7 K.x _ (nZl _) e1;obtain⟨gs',rfl,q1,q2,q3⟩:=qUC K.x _ p3 e2;exact⟨⟨p1,q1⟩,by unfold qU.wz;simp only[lNa];omega⟩
end
theorem Ow.shapeP{b u:Nat}{h:List qC}{v:AV}{t:qU}(x:Ow b u h v t.enc):∃a0 a1,v=.agg [a0,a1]:=by
 obtain⟨S,x,_⟩:=x;unfold qU.enc at x;obtain⟨vs,rfl,y⟩:=x.aggs;have hl:=y.cnt
 match vs,hl with
 |[u0,u1],_=>exact⟨_,_,rfl⟩
def jS:qU:=⟨[],[]⟩
def zY(t:Str):qU×Int×Int:=if (qo t).2.2=0 then
  (match jO (qo t).1 0 with
  |.error b=>(jS,(nxt (qo t).1 b t.length).At,6)
  |.ok (x,b)=>if b<(qo t).1.length then(jS,(nxt (qo t).1 b t.length).At,6)else if jE x then(x,0,0)else(jS,0,1))
 else(jS,(qo t).2.1,(qo t).2.2)
def ji(t:Str):AV:=.tup [(zY t).1.enc,.int .i64 (zY t).2.1,.int .i64 (zY t).2.2]
theorem qe0{t:Str}:(ji t).pl=true:=by simp[ji,AV.pl,AV.pls,qU.plx]
theorem qW3{S:List (Option Nat)}{h:List qC}{v:AV}{x:qU}{a c:Int}(o:qu S h v x.enc):qu S h (.tup [v,.int .i64 a,.int .i64 c]) (.tup [x.enc,.int .i64 a,.int .i64 c]):=by
 have h1:=o.one.scal (a:=.int .i64 a) (fun _=>rfl) rfl rfl;have h2:=h1.scal (a:=.int .i64 c) (fun _=>rfl) rfl rfl;exact h2.tup
theorem qW6{h:List qC}:∃S,qu S h (.agg [.nils,.nils]) jS.enc:=by
 obtain⟨S,q,_⟩:=qAW (b:=0) (m:=0) (u:=0) (h:=h) (ds:=[]) (fs:=[]) Ow.nils Ow.nils (nLr _) (nLr _);exact⟨S,q⟩
theorem Yy{h:List qC}{t:Str}{a c:Int}(e:zY t=(jS,a,c)):∃S,qu S h (.tup [.agg [.nils,.nils],.int .i64 a,.int .i64 c]) (ji t):=by
 obtain⟨S,q⟩:=qW6 (h:=h);exact⟨S,by unfold ji;rw[e];exact qW3 q⟩
theorem qaL{t:Str}:SCall Gm 628 [.str t,.fn 629 [],.fn 527 []] [] fun v h'=>∃S,qu S h' v (ji t):=by
 refine SCall.try g628 rfl (by kernel_rfl) ?_;simp only[XR,qH,go_sem];refine qF c266 ?_;simp only[go_sem];by_cases hc:(qo t).2.2=0
 case neg=>
  simp only[dFf hc,nF,go_sem];refine lA ?_;simp only[go_sem];exact Yy (by rw[zY,if_neg hc])
 simp only[dTt hc,nT,go_sem];refine⟨by simp[get],by first | rfl | trivial, ?_⟩;refine JC rfl ?_;simp only[go_sem];have hl:=XA (t:=t);have K:=YL (t:=t);have er:zY t=match jO (qo t).1 0 with
  |.error b=>(jS,(nxt (qo t).1 b t.length).At,6)
  |.ok (x,b)=>if b<(qo t).1.length then(jS,(nxt (qo t).1 b t.length).At,6)else if jE x then(x,0,0)else(jS,0,1):=by rw[zY,if_pos hc]
 generalize (qo t).1=toks at*;refine qY ((n629 (e:=t.length) (id:=0) K (nZl _) rfl).mono ?_ ?_)
 ·rintro v h1 ⟨x,b,q1,q2,q3⟩;rw[q1]at er;simp only at er;obtain⟨a0,a1,rfl⟩:=q3.shapeP;obtain⟨S,q3,_⟩:=q3;have ho:=q2.at';unfold prI at ho;simp only[go_sem];refine lA ?_;simp only[go_sem,ho,oMs,lMp];by_cases hlt:b<toks.length
  ·rw[if_pos hlt]at er;refine qgZ (congrArg (fun q=>some (AV.bool q)) (dTt (by omega))) ?_;simp only[go_sem];refine qY ((Wp q2.at').mono (fun _ _ q=>q.elim) ?_);rintro v2 h2 ⟨rfl,rfl⟩;rw[qeX];refine qYP rfl rfl ?_;simp only[go_sem];refine lA ?_;simp only[go_sem];exact Yy er
  ·rw[if_neg hlt]at er;refine qgY (congrArg (fun q=>some (AV.bool q)) (dFf (by omega))) ?_;simp only[go_sem];obtain⟨g1,g2⟩:=YQ K hl q1;refine QF (vs':=[x.enc]) (Cvs.cons (q3.cv (qU.cnx x)) Cvs.nil) (c527 g1 g2) rfl ?_;simp only[go_sem];cases hv:jE x
   ·rw[hv]at er;simp only[nF,go_sem];refine lA ?_;simp only[go_sem];exact Yy er
   ·rw[hv]at er;simp only[nT,go_sem];refine lA ?_;simp only[go_sem];exact⟨S,by unfold ji;rw[er];exact qW3 q3⟩
 ·rintro v h1 ⟨b,q1,rfl⟩;rw[q1]at er;simp only at er;rw[qgX];refine qYP rfl rfl ?_;simp only[go_sem];refine lA ?_;simp only[go_sem];exact Yy er
theorem qeV{S:List (Option Nat)}{h:List qC}{v:AV}{x:qU}{a c:Int}(o:qu S h v (.tup [x.enc,.int .i64 a,.int .i64 c])):∃a0 a1,v=.tup [.agg [a0,a1],.int .i64 a,.int .i64 c]:=by
 have q:=o.v;simp only[lay]at q;obtain⟨cs,hcs,p⟩:=q.tups;clear q;unfold qU.enc at p;simp only[qZ,lay]at p;have hl:=p.1
 match cs,hl,p,hcs with
 |[u0,u1,u2],_,p,hcs=>
  obtain⟨p0,p'⟩:=p.hd;obtain⟨p1,p''⟩:=p'.hd;obtain⟨p2,_⟩:=p''.hd;obtain⟨ds,hds,r0⟩:=p0.aggs;have hl:=r0.1;have e1:=p1.int;have e2:=p2.int;subst e1;subst e2;subst hds;subst hcs
  match ds,hl with
  |[y0,y1],_=>exact⟨y0,y1,rfl⟩
theorem n264{t:Str}:Fresh Gm 264 [.str t] (ji t):=by
 refine Fresh.ofS rfl qe0 ?_;refine sI UW ?_;simp only[UW,qH,go_sem];refine qO (qaL.mono ?_);rintro v h' ⟨S,q⟩;obtain⟨a0,a1,rfl⟩:=qeV (by unfold ji at q;exact q);simp only[go_sem];refine lA ?_;simp only[go_sem];exact⟨S,q⟩
theorem c267{t:Str}:Pure Gm 267 [.str t] (ji t):=by
 refine pI UY (by simp[AV.trees,AV.tree,go_sem]) (by simp[ji,AV.tree,AV.trees,qU.tr]) ?_;simp only[UY,qH,go_sem];have er0:zY t=if (qo t).2.2=0 then
  (match jO (qo t).1 0 with
  |.error b=>(jS,(nxt (qo t).1 b t.length).At,6)
  |.ok (x,b)=>if b<(qo t).1.length then(jS,(nxt (qo t).1 b t.length).At,6)else if jE x then(x,0,0)else(jS,0,1))
  else(jS,(qo t).2.1,(qo t).2.2):=rfl
 have zz:∀{h:List qC}{a c:Int},Cv h (.tup [.agg [.nils,.nils],.int .i64 a,.int .i64 c]) (.tup [jS.enc,.int .i64 a,.int .i64 c]):=fun{h a c}=>by
  obtain⟨S,q⟩:=qW6 (h:=h);exact Cvs.tup (Cvs.cons (q.cv (qU.cnx jS)) (Cvs.cons (.refl rfl) (Cvs.cons (.refl rfl) Cvs.nil)))
 refine qO (n358.mono ?_);intro v h' hq;by_cases hc:(qo t).2.2=0
 case neg=>
  rw[if_neg hc]at hq er0;obtain⟨rfl,rfl⟩:=hq;simp only[dFf hc,nF,go_sem];refine lA ?_;simp only[go_sem];refine JT ?_;unfold ji;rw[er0];exact zz
 rw[if_pos hc]at hq er0;obtain⟨rfl,rfl⟩:=hq;have K:=YL (t:=t);simp only[decide_true,nT,go_sem];refine qO ((t633 (id:=0) (bad:=false) K (nZl _) rfl).mono ?_);rintro v h1 ⟨x,b,bad,q1,_,_,q2,q3⟩;rw[qq]at q1;obtain⟨a0,a1,rfl⟩:=q3.shapeP;obtain⟨S,q3,_⟩:=q3;simp only[go_sem];refine lA ?_;simp only[go_sem];refine qe rfl (n360 q2.at' K.l) ?_;have hbad:JR (qo t).1 b bad=true->zY t=(jS,(nxt (qo t).1 b t.length).At,6):=fun q=>by
  rw[er0];cases e:jO (qo t).1 0 with
  | ok y=>
   rw[e]at q1;obtain⟨rfl,rfl,rfl⟩:=q1;have:y.2<(qo t).1.length:=by simpa[JR]using q
   simp only[this,if_true]
  | error b'=>
   rw[e]at q1;obtain⟨rfl,rfl⟩:=q1;rfl
 cases hd:JR (qo t).1 b bad
 case true=>
  have er:=hbad hd;simp only[if_true,go_sem,show decide ((6:Int)=0)=false from rfl,nF];refine lA ?_;simp only[go_sem];refine JT ?_;unfold ji;rw[er];exact zz
 case false=>
 have er:jO (qo t).1 0=.ok (x,b)/\¬b<(qo t).1.length:=by
  cases e:jO (qo t).1 0 with
  | ok y=>
   rw[e]at q1;obtain⟨rfl,rfl,rfl⟩:=q1;exact⟨rfl,by simpa[JR]using hd⟩
  | error b'=>
   rw[e]at q1;obtain⟨rfl,rfl⟩:=q1;simp[JR]at hd
 rw[er.1]at er0;simp only at er0;rw[if_neg er.2]at er0;obtain⟨g1,g2⟩:=YQ K XA er.1;simp only[bFt,if_false,go_sem,show decide ((0:Int)=0)=true from rfl,nT];refine QF (vs':=[x.enc]) (Cvs.cons (q3.cv (qU.cnx x)) Cvs.nil) (c624 g1 g2) rfl ?_;simp only[go_sem];cases hv:jE x
 ·rw[hv]at er0;simp only[nF,go_sem];refine lA ?_;simp only[go_sem];refine JT ?_;unfold ji;rw[er0];exact zz
 ·rw[hv]at er0;simp only[nT,go_sem];refine lA ?_;simp only[go_sem];refine JT ?_;unfold ji;rw[er0];exact Cvs.tup (Cvs.cons (q3.cv (qU.cnx x)) (Cvs.cons (.refl rfl) (Cvs.cons (.refl rfl) Cvs.nil)))
theorem qV.layE(x:qV)(n:Nat):lay x.enc n=(.agg [.str x.Name,.slice 3 (n) 0 x.Fields.length false],(lay (.lst 3 (x.Fields.map qB.enc) false) (n)).2++[]):=by
 simp[qV.enc,lay,qZ,wZ,AV.rows,Nat.add_assoc,Nat.add_comm,Nat.add_left_comm]
def qV.ct(x:qV):Nat:=1+qM qB.ct x.Fields
theorem qJ.layE(x:qJ)(n:Nat):lay x.enc n=(.agg [.str x.Name,.slice 2 (n) 0 x.Cons.length false],(lay (.lst 2 (x.Cons.map qV.enc) false) (n)).2++[]):=by
 simp[qJ.enc,lay,qZ,wZ,AV.rows,Nat.add_assoc,Nat.add_comm,Nat.add_left_comm]
def qJ.ct(x:qJ):Nat:=1+qM qV.ct x.Cons
theorem qQ.layE(x:qQ)(n:Nat):lay x.enc n=(.agg [.str x.Name,.int .i64 x.Typ.Kind,.str x.Typ.Name,.slice 3 (n) 0 x.Typ.Kids.length false,.int .i64 x.Body.Kind,.int .i64 x.Body.Num,.str x.Body.Name,.int .i64 x.Body.Typ.Kind,.str x.Body.Typ.Name,.slice 3 (n+AV.rows (.lst 3 (x.Typ.Kids.map qB.enc) false)) 0 x.Body.Typ.Kids.length false,.slice 1 (n+AV.rows (.lst 3 (x.Typ.Kids.map qB.enc) false)+AV.rows (.lst 3 (x.Body.Typ.Kids.map qB.enc) false)) 0 x.Body.Names.length false,.slice 8 (n+AV.rows (.lst 3 (x.Typ.Kids.map qB.enc) false)+AV.rows (.lst 3 (x.Body.Typ.Kids.map qB.enc) false)+AV.rows (.lst 1 (x.Body.Names.map qR) false)) 0 x.Body.Kids.length false],(lay (.lst 3 (x.Typ.Kids.map qB.enc) false) (n)).2++((lay (.lst 3 (x.Body.Typ.Kids.map qB.enc) false) (n+AV.rows (.lst 3 (x.Typ.Kids.map qB.enc) false))).2++((lay (.lst 1 (x.Body.Names.map qR) false) (n+AV.rows (.lst 3 (x.Typ.Kids.map qB.enc) false)+AV.rows (.lst 3 (x.Body.Typ.Kids.map qB.enc) false))).2++((lay (.lst 8 (x.Body.Kids.map qD.enc) false) (n+AV.rows (.lst 3 (x.Typ.Kids.map qB.enc) false)+AV.rows (.lst 3 (x.Body.Typ.Kids.map qB.enc) false)+AV.rows (.lst 1 (x.Body.Names.map qR) false))).2++[])))):=by
 simp[qQ.enc,lay,qZ,wZ,AV.rows,Nat.add_assoc,Nat.add_comm,Nat.add_left_comm]
def qQ.ct(x:qQ):Nat:=1+1+1+qM qB.ct x.Typ.Kids+1+1+1+1+1+qM qB.ct x.Body.Typ.Kids+qM ctS x.Body.Names+qM qD.ct x.Body.Kids
theorem qU.layE(x:qU)(n:Nat):lay x.enc n=(.agg [.slice 2 (n) 0 x.Datas.length false,.slice 12 (n+AV.rows (.lst 2 (x.Datas.map qJ.enc) false)) 0 x.Defs.length false],(lay (.lst 2 (x.Datas.map qJ.enc) false) (n)).2++((lay (.lst 12 (x.Defs.map qQ.enc) false) (n+AV.rows (.lst 2 (x.Datas.map qJ.enc) false))).2++[])):=by
 simp[qU.enc,lay,qZ,wZ,AV.rows,Nat.add_assoc,Nat.add_comm,Nat.add_left_comm]
def qU.ct(x:qU):Nat:=qM qJ.ct x.Datas+qM qQ.ct x.Defs
theorem qW9{t:Str}:(zY t).1.wz<=1048575:=by
 have z:jS.wz<=1048575:=by simp[jS,qU.wz,qM]
 unfold zY;split
 ·split
  ·exact z
  ·rename_i x b e;split
   ·exact z
   ·split
    ·exact(YQ YL XA e).2
    ·exact z
 ·exact z
theorem qdK{t:Str}{n:Nat}:lay (ji t) n=(.tup [(lay (zY t).1.enc n).1,.int .i64 (zY t).2.1,.int .i64 (zY t).2.2],(lay (zY t).1.enc n).2):=by simp[ji,lay,qZ]
theorem qVI(x:qU)(n:Nat):(lay x.enc n).1.part 0 (some 2)=some (lay x.enc n).1:=qdP (qU.plx x) ⟨_,rfl⟩ (by rw[qU.ln])
theorem qdM(x:qU)(n:Nat):(lay x.enc n).1.cells.length=2:=by rw[qdO (qU.plx x)];exact qU.ln
theorem qdL(x:qU)(n:Nat):∃cs,(lay x.enc n).1=.agg cs:=⟨_,congrArg Prod.fst (qU.layE x n)⟩
theorem qD.shps_nd{m:Bool}:∀{xs:List qD}{p:Bool}{d s d1 s1:Nat},(∀y∈xs,y.shp.2.2=true->y.nd=y.shp.2.1)->qD.shps m xs p d s=some (d1,s1)->s1=s+qM qD.nd xs
 |[],p,d,s,d1,s1,_,h=>by simp only[qD.shps,oSi,Prod.mk.injEq]at h;simp only[qM];omega
 | x::xs,p,d,s,d1,s1,ih,h=>by
  rw[qD.shps_eq]at h;split at h
  ·split at h
   ·rename_i he;have e1:=ih x (by simp) he;have:=qD.shps_nd (fun y hy=>ih y (by simp[hy])) h;simp only[qM];omega
   ·cases h
  ·cases h
theorem qD.shp_nd:∀x:qD,x.shp.2.2=true->x.nd=x.shp.2.1:=qD.ind fun x ih h=>by
 rw[qD.shp_eq]at h;rw[qD.shp_eq,qD.nd_eq];cases hn:qX x with
 | false=>rw[hn]at h;simp at h
 | true=>
  rw[hn,if_pos rfl]at h;rw[if_pos rfl];cases hs:qD.shps (decide (x.Kind=9)) x.Kids false 1 1 with
  | none=>rw[hs]at h;simp at h
  | some p=>
   obtain⟨d,s⟩:=p;have:=qD.shps_nd ih hs;simp only;omega
noncomputable def jK(c:qV):Str:=c.Name++brk (c.Fields.map tyT)
noncomputable def zq(d:qJ):Str:=[100,97,116,97,32]++d.Name++[32,61,32]++jn [32,124,32] (d.Cons.map jK)++[10]
noncomputable def dfT(d:qQ):Str:=[100,101,102,32]++d.Name++[32,58,32]++tyT d.Typ++[32,61,32]++d.Body.tx tyT++[10]
noncomputable def Qf(p:qU):Str:=(p.Datas.map zq).flatten++(p.Defs.map dfT).flatten
structure XH(c:qV):Prop where
 n:c.Name.length<=12
 l:c.Fields.length<=3
 f:∀y∈c.Fields,zZ y=true
structure XI(d:qJ):Prop where
 n:d.Name.length<=12
 l:1<=d.Cons.length/\d.Cons.length<=4
 c:∀c∈d.Cons,XH c
theorem qaW{ds:List qJ}{c:qV}(h:jy ds c=true):XH c:=by
 unfold jy at h;rw[bAt,bAt,dTe]at h;obtain⟨h1,h2,h3⟩:=h;refine⟨qBN h1,h2,fun y hy=> ?_⟩;rw[bNt,List.any_eq_false]at h3;have:=h3 y hy;unfold JL at this;cases hv:zZ y
 ·rw[hv]at this;simp at this
 ·rfl
theorem qT2{ds:List qJ}:∀{cs:List qV}{sn r:List Str},wt ds cs sn=some r->∀c∈cs,XH c
 |[],_,_,_,c,hc=>by cases hc
 | x::cs,sn,r,h,c,hc=>by
  rw[wt]at h;split at h
  ·rename_i he;rw[bAt]at he;rcases List.mem_cons.1 hc with rfl | hc
   ·exact qaW he.1
   ·exact qT2 h c hc
  ·cases h
theorem qT8{ds:List qJ}:∀{r:List qJ}{i:Nat}{sn:List Str},wT ds r i sn=true->∀d∈r,XI d
 |[],_,_,_,d,hd=>by cases hd
 | x::r,i,sn,h,d,hd=>by
  rw[wT,bAt]at h;obtain⟨h1,h2⟩:=h;cases hc:wt ds x.Cons sn with
  | none=>rw[hc]at h2;cases h2
  | some sn'=>
   rw[hc]at h2;rcases List.mem_cons.1 hd with rfl | hd
   ·unfold jZ at h1;simp only[bAt,dTe]at h1;exact⟨qBN h1.1,h1.2.2.2,qT2 hc⟩
   ·exact qT8 h2 d hd
theorem qUD{fs:List qQ}:∀{r:List qQ}{i:Nat},wU fs r i=true->∀d∈r,d.Name.length<=12/\zZ d.Typ=true/\wF d.Body=true
 |[],_,_,d,hd=>by cases hd
 | x::r,i,h,d,hd=>by
  rw[wU,bAt]at h;rcases List.mem_cons.1 hd with rfl | hd
  ·have h1:=h.1;unfold wA at h1;simp only[bAt]at h1;exact⟨qAF h1.1,h1.2.2.1,h1.2.2.2⟩
  ·exact qUD h.2 d hd
structure PrF(p:qU):Prop where
 a:p.Datas.length<=4
 d:∀d∈p.Datas,XI d
 b:p.Defs.length<=8
 f:∀d∈p.Defs,d.Name.length<=12/\zZ d.Typ=true/\wF d.Body=true
theorem PrF.of{p:qU}(h:jE p=true):PrF p:=by
 unfold jE j0 at h;simp only[bAt,dTe]at h;exact⟨h.1.1,qT8 h.1.2,h.2.2.1,qUD h.2.2.2⟩
theorem qBO{x:qD}(h:wF x=true):x.shp.2.2=true/\x.Kind≠10/\x.nd<=160:=by
 unfold wF at h;simp only[bAt,bNt,dTe,decide_eq_false_iff_not]at h;exact⟨h.1,h.2.1,by rw[qD.shp_nd x h.1];exact h.2.2.2⟩
theorem Xi{c:qV}(h:XH c):(jK c).length<=1000:=by
 have:=h.n;have h1:=Zg (xs:=c.Fields.map tyT) (b:=320) fun s hs=>by
  obtain⟨y,hy,rfl⟩:=List.mem_map.1 hs;exact Jq (h.f y hy)
 have h2:(c.Fields.map tyT).length<=3:=by rw[lMp];exact h.l
 have h3:=Nat.mul_le_mul_right (2+320) h2;unfold jK;rw[lAp];omega
theorem WX{d:qJ}(h:XI d):(zq d).length<=5000:=by
 have:=h.n;have h1:=JD (sep:=[32,124,32]) (xs:=d.Cons.map jK) (b:=1000) fun s hs=>by
  obtain⟨y,hy,rfl⟩:=List.mem_map.1 hs;exact Xi (h.c y hy)
 have h2:(d.Cons.map jK).length<=4:=by rw[lMp];exact h.l.2
 have h3:=Nat.mul_le_mul_right (3+1000) h2;simp only[lCo,lNi]at h1;unfold zq;simp only[lAp,lCo,lNi];omega
theorem WZ{d:qQ}(h:d.Name.length<=12/\zZ d.Typ=true/\wF d.Body=true):(dfT d).length<=130000:=by
 obtain⟨h1,h2,h3⟩:=h;obtain⟨b1,b2,b3⟩:=qBO h3;have h4:=ZT d.Body b1;have h5:=Jq h2;unfold dfT;simp only[lAp,lCo,lNi];omega
theorem kL{xs:List Str}{b:Nat}(h:∀s∈xs,s.length<=b):xs.flatten.length<=xs.length*b:=by
 induction xs with
 | nil=>simp
 | cons x xs ih=>
  have h1:=ih fun s hs=>h s (by simp[hs]);have h2:=h x (by simp);rw[List.flatten_cons,lAp,lCo,Nat.succ_mul];omega
theorem Xw{xs:List Str}{i:Nat}(h:i<xs.length):(xs.take (i+1)).flatten=(xs.take i).flatten++xs[i]:=by
 rw[lTs h,List.flatten_append];simp
theorem Xx{xs:List Str}{b:Nat}(h:∀s∈xs,s.length<=b)(i:Nat):(xs.take i).flatten.length<=xs.length*b:=by
 have h1:=kL (xs:=xs.take i) (b:=b) fun s hs=>h s (List.mem_of_mem_take hs);have h2:=Nat.mul_le_mul_right b (List.length_take_le' i xs);omega
theorem qXD{p:qU}(h:PrF p):(p.Datas.map zq).flatten.length<=20000/\(p.Defs.map dfT).flatten.length<=1040000:=by
 have h1:=kL (xs:=p.Datas.map zq) (b:=5000) fun s hs=>by
  obtain⟨y,hy,rfl⟩:=List.mem_map.1 hs;exact WX (h.d y hy)
 have h2:=kL (xs:=p.Defs.map dfT) (b:=130000) fun s hs=>by
  obtain⟨y,hy,rfl⟩:=List.mem_map.1 hs;exact WZ (h.f y hy)
 rw[lMp]at h1 h2;have h3:=Nat.mul_le_mul_right 5000 h.a;have h4:=Nat.mul_le_mul_right 130000 h.b;omega
theorem qc7{xs:List Str}(h:xs≠[]):jn [32,124] (xs.map ([32]++ ·))=[32]++jn [32,124,32] xs:=by
 cases xs with
 | nil=>exact absurd rfl h
 | cons x r=>
  rw[lMc,jn,jn,List.map_map,lAa];congr 3
def StrL(h:List qC)(v:AV)(sn:List Str):Prop:=(sn=[]/\(v=.nils\/v=.lst 1 [] true))\/∃k,v=.slice 1 k 0 sn.length false/\h[k]?=some (.row 1 (sn.map qR) true)
theorem StrL.push{h:List qC}{v:AV}{sn:List Str}{o:qC}(x:StrL h v sn):StrL (h++[o]) v sn:=by
 rcases x with x | ⟨k,h1,h2⟩
 ·exact .inl x
 ·exact .inr ⟨k,h1,by rw[gAl (zA h2)];exact h2⟩
theorem StrL.cv{h:List qC}{v:AV}{sn:List Str}(x:StrL h v sn):Cv h v (.lst 1 (sn.map qR) false):=by
 rcases x with⟨rfl,rfl | rfl⟩ | ⟨k,rfl,h1⟩
 ·exact .nils
 ·exact .clip
 ·exact Cv.row h1 (by simp) (zD shS.tree _) (by decide)
theorem Kk{E:Ev}{l:List qA}{ks:List Fr1}{s m:qf}{h:List qC}{Q:qS->VSt->Prop}{v:AV}{sn:List Str}{n:Str}{d id:Nat}{c2:Bool}(x:StrL h v sn)(h2:h[id]?=some (.row 1 [qR n] true))(hl:sn.length<4294967296)
  (hr:∀v' h',StrL h' v' (sn++[n])->R E (.ops l::ks) ⟨(d,v')::s,m,h'⟩ Q):wk E 1 (some d) (some v) (some (.slice 1 id 0 1 c2)) l ks ⟨s,m,h⟩ Q:=by
 rcases x with⟨rfl,rfl | rfl⟩ | ⟨k,rfl,h1⟩
 ·refine WP (ys:=[qR n]) (Els.row h2 rfl) (by simp) ?_;exact hr _ _ (.inr ⟨h.length,rfl,by simp⟩)
 ·refine XU (ys:=[qR n]) (Els.row h2 rfl) (by simp) ?_;exact hr _ _ (.inr ⟨h.length,rfl,by simp⟩)
 ·refine Qt (el:=sn.map qR) h2 h1 (by simp) hl ?_;refine hr _ _ (.inr ⟨h.length, ?_, ?_⟩)
  ·simp
  ·rw[show h.length=(h.set k .dead).length from by simp,gCl];simp
noncomputable def prT(p:qU):Str:=if jE p then(if 20000<(Qf p).length then []else Qf p)else []
noncomputable def icV(t:Str):Bool:=decide ((zY t).2.2=0)&&decide (prT (zY t).1=t)
theorem qW8{t:Str}:(zY t).1.bd:=by
 have z:jS.bd:=⟨by simp[jS],by simp[jS]⟩;unfold zY;split
 ·split
  ·exact z
  ·rename_i x b e;split
   ·exact z
   ·split
    ·exact(YQ YL XA e).1
    ·exact z
 ·exact z
theorem c625{d:qJ}(D:XI d):Pure Gm 625 [.ept d.enc 0] (.str (zq d)):=by
 refine pI Uv (by simp[AV.trees,AV.tree,qJ.tr]) rfl ?_;simp only[Uv,qH,go_sem];obtain⟨xs,hxs⟩:∃xs,xs=d.Cons.map fun c=>[32]++jK c:=⟨_,rfl⟩;have hlen:xs.length=d.Cons.length:=by rw[hxs,lMp]
 have hne:d.Cons.map jK≠[]:=by
  intro e;have:=congrArg List.length e;rw[lMp,lNi]at this;have:=D.l.1;omega
 have hq:zq d=[100,97,116,97,32]++d.Name++[32,61]++jn [32,124] xs++[10]:=by
  have h1:=qc7 hne;rw[List.map_map]at h1;have h2:xs=d.Cons.map ((fun s=>[32]++s)∘jK):=by rw[hxs];rfl
  rw[zq,h2,h1];simp only[lAa,lCa,lNa]
 have dn:=D.n;have dl:=D.l.2;have hb:∀s∈xs,s.length<=1001:=fun s hs=>by
  rw[hxs]at hs;obtain⟨y,hy,rfl⟩:=List.mem_map.1 hs;have:=Xi (D.c y hy);simp only[lAp,lCo,lNi];omega
 have hl1:(jn [32,124] xs).length<=5000:=by
  have h1:=JD (sep:=[32,124]) hb;have h2:xs.length<=4:=by omega
  have h3:=Nat.mul_le_mul_right (2+1001) h2;simp only[lCo,lNi]at h1;omega
 refine qN ?_;simp only[go_sem];refine qN ?_;simp only[go_sem];refine Sem.loop (fun a:Nat×List qC=>a.1<=d.Cons.length) (fun a=>(⟨[(0,.ept d.enc 0),(3,.str ([100,97,116,97,32]++d.Name++[32,61]++jn [32,124] (xs.take a.1))),(4,.int .i64 (a.1:Nat))],[],a.2⟩:VSt)) (fun a=>d.Cons.length-a.1) (0,[]) (by kernel_rfl) (nZl _) (Can.sub (by simp[go_sem,jn]) (by simp[go_sem])) ?_;rintro⟨i,h⟩ hi;simp only at hi;simp only[lMp,go_sem];by_cases hlt:i<d.Cons.length
 ·have e1:decide ((i:Int)<(d.Cons.length:Nat))=true:=dTt (by omega);have hlx:i<xs.length:=by omega
  have hs:=X0 (sep:=[32,124]) hlx;have h1:=QQ (sep:=[32,124]) (xs:=xs) (i+1);have h2:=QQ (sep:=[32,124]) (xs:=xs) i;have hC:=D.c _ (gMm hlt);have hfi:xs[i]=[32]++jK d.Cons[i]:=by subst hxs;rw[List.getElem_map]
  have hcl:=Xi hC;have hn:=hC.n;have hfl:=hC.l;simp only[e1,go_sem];obtain⟨base,hbase⟩:∃base,base=[100,97,116,97,32]++d.Name++[32,61]:=⟨_,rfl⟩;have hbl:base.length<=20:=by rw[hbase];simp only[lAp,lCo,lNi];omega
  rw[<-hbase];have hstep:∃o:Str,o.length<=10000/\o++xs[i]=base++jn [32,124] (xs.take (i+1))/\o=if i=0 then base++jn [32,124] (xs.take i)else base++jn [32,124] (xs.take i)++[32,124]:=by
   by_cases h0:i=0
   ·refine⟨_, ?_, ?_,rfl⟩
    ·rw[if_pos h0,lAp];omega
    ·rw[hs,if_pos h0,if_pos h0,lNa];have hz:jn [32,124] (xs.take i)=[]:=by rw[h0,List.take_zero];rfl
     rw[hz,lAn]
   ·refine⟨_, ?_, ?_,rfl⟩
    ·rw[if_neg h0,lAp,lAp];simp only[lCo,lNi];omega
    ·rw[hs,if_neg h0,if_neg h0];simp only[lAa]
  obtain⟨o,hol,hoe,ho⟩:=hstep;rw[hfi]at hoe;rcases Nat.eq_zero_or_pos i with h0 | h0
  ·have e0:decide ((0:Int)<((i:Nat):Int))=false:=dFf (by omega);rw[if_pos h0]at ho;simp only[gt_iff_lt,e0,go_sem];rw[<-ho];refine Sem.loop (fun a:Nat×AV×List qC=>a.1<=d.Cons[i].Fields.length/\StrL a.2.2 a.2.1 ((d.Cons[i].Fields.map tyT).take a.1)) (fun a=>(⟨[(0,.ept d.enc 0),(3,.str o),(4,.int .i64 (i:Nat)),(5,a.2.1),(6,.int .i64 (a.1:Nat))],[],a.2.2⟩:VSt)) (fun a=>d.Cons[i].Fields.length-a.1) (0,.lst 1 [] true,h) (by kernel_rfl) ⟨nZl _,.inl ⟨rfl,.inr rfl⟩⟩ cS ?_;rintro⟨k,v,h3⟩ ⟨hk,hS⟩;simp only at hk hS;simp only[lMp,gMp,gEg hlt,oMs,go_sem];by_cases hkl:k<d.Cons[i].Fields.length
   ·have e2:decide ((k:Int)<(d.Cons[i].Fields.length:Nat))=true:=dTt (by omega);simp only[e2,gMp,gEg hlt,gEg hkl,oMs,go_sem];refine qF (Xe (hC.f _ (gMm hkl))) ?_;simp only[go_sem];refine qy (v:=.str (tyT d.Cons[i].Fields[k])) rfl rfl ?_;simp only[go_sem];refine Kk (n:=tyT d.Cons[i].Fields[k]) hS.push (by rw[gCl];rfl) (by rw[lLt];omega) fun v' h' hS'=> ?_;simp only[go_sem,qp (show k<4611686018427387904 by omega)];refine qW (k+1,v',h') ⟨by simp only;omega, ?_⟩ (by simp only;omega) cS;have hkm:k<(d.Cons[i].Fields.map tyT).length:=by rw[lMp];exact hkl
    simp only[lTs hkm,List.getElem_map];exact hS'
   ·have e2:decide ((k:Int)<(d.Cons[i].Fields.length:Nat))=false:=dFf (by omega);obtain rfl:k=d.Cons[i].Fields.length:=by omega
    have et:(d.Cons[i].Fields.map tyT).take d.Cons[i].Fields.length=d.Cons[i].Fields.map tyT:=by rw[<-lMp (f:=tyT),lTl]
    rw[et]at hS;have hbl2:(brk (d.Cons[i].Fields.map tyT)).length<=1000:=by
     unfold jK at hcl;rw[lAp]at hcl;omega
    have hjl:(jn [44,32] (d.Cons[i].Fields.map tyT)).length<=1000000000:=by
     have h5:=JD (sep:=[44,32]) (xs:=d.Cons[i].Fields.map tyT) (b:=320) fun s hs=>by
      obtain⟨y,hy,rfl⟩:=List.mem_map.1 hs;exact Jq (hC.f y hy)
     rw[lMp]at h5;have h6:=Nat.mul_le_mul_right (2+320) hfl;simp only[lCo,lNi]at h5;omega
    simp only[e2,gMp,gEg hlt,oMs,go_sem];refine qN ?_;simp only[go_sem];refine QF (vs':=[.lst 1 ((d.Cons[i].Fields.map tyT).map qR) false]) (Cvs.cons hS.cv Cvs.nil) (Kr hjl (by rw[lMp];omega)) rfl ?_;simp only[go_sem];refine qN ?_;simp only[go_sem];refine qN ?_;simp only[go_sem,qp (show i<4611686018427387904 by omega)];refine qW (i+1,h3) (by simp only;omega) (by simp only;omega) ?_;simp only[<-hoe,<-hbase,jK,lAa];exact cS
  ·have e0:decide ((0:Int)<((i:Nat):Int))=true:=dTt (by omega);rw[if_neg (by omega)]at ho;simp only[gt_iff_lt,e0,go_sem];refine qN ?_;simp only[go_sem];rw[<-ho];refine Sem.loop (fun a:Nat×AV×List qC=>a.1<=d.Cons[i].Fields.length/\StrL a.2.2 a.2.1 ((d.Cons[i].Fields.map tyT).take a.1)) (fun a=>(⟨[(0,.ept d.enc 0),(3,.str o),(4,.int .i64 (i:Nat)),(5,a.2.1),(6,.int .i64 (a.1:Nat))],[],a.2.2⟩:VSt)) (fun a=>d.Cons[i].Fields.length-a.1) (0,.lst 1 [] true,h) (by kernel_rfl) ⟨nZl _,.inl ⟨rfl,.inr rfl⟩⟩ cS ?_;rintro⟨k,v,h3⟩ ⟨hk,hS⟩;simp only at hk hS;simp only[lMp,gMp,gEg hlt,oMs,go_sem];by_cases hkl:k<d.Cons[i].Fields.length
   ·have e2:decide ((k:Int)<(d.Cons[i].Fields.length:Nat))=true:=dTt (by omega);simp only[e2,gMp,gEg hlt,gEg hkl,oMs,go_sem];refine qF (Xe (hC.f _ (gMm hkl))) ?_;simp only[go_sem];refine qy (v:=.str (tyT d.Cons[i].Fields[k])) rfl rfl ?_;simp only[go_sem];refine Kk (n:=tyT d.Cons[i].Fields[k]) hS.push (by rw[gCl];rfl) (by rw[lLt];omega) fun v' h' hS'=> ?_;simp only[go_sem,qp (show k<4611686018427387904 by omega)];refine qW (k+1,v',h') ⟨by simp only;omega, ?_⟩ (by simp only;omega) cS;have hkm:k<(d.Cons[i].Fields.map tyT).length:=by rw[lMp];exact hkl
    simp only[lTs hkm,List.getElem_map];exact hS'
   ·have e2:decide ((k:Int)<(d.Cons[i].Fields.length:Nat))=false:=dFf (by omega);obtain rfl:k=d.Cons[i].Fields.length:=by omega
    have et:(d.Cons[i].Fields.map tyT).take d.Cons[i].Fields.length=d.Cons[i].Fields.map tyT:=by rw[<-lMp (f:=tyT),lTl]
    rw[et]at hS;have hbl2:(brk (d.Cons[i].Fields.map tyT)).length<=1000:=by
     unfold jK at hcl;rw[lAp]at hcl;omega
    have hjl:(jn [44,32] (d.Cons[i].Fields.map tyT)).length<=1000000000:=by
     have h5:=JD (sep:=[44,32]) (xs:=d.Cons[i].Fields.map tyT) (b:=320) fun s hs=>by
      obtain⟨y,hy,rfl⟩:=List.mem_map.1 hs;exact Jq (hC.f y hy)
     rw[lMp]at h5;have h6:=Nat.mul_le_mul_right (2+320) hfl;simp only[lCo,lNi]at h5;omega
    simp only[e2,gMp,gEg hlt,oMs,go_sem];refine qN ?_;simp only[go_sem];refine QF (vs':=[.lst 1 ((d.Cons[i].Fields.map tyT).map qR) false]) (Cvs.cons hS.cv Cvs.nil) (Kr hjl (by rw[lMp];omega)) rfl ?_;simp only[go_sem];refine qN ?_;simp only[go_sem];refine qN ?_;simp only[go_sem,qp (show i<4611686018427387904 by omega)];refine qW (i+1,h3) (by simp only;omega) (by simp only;omega) ?_;simp only[<-hoe,<-hbase,jK,lAa];exact cS
 ·have e1:decide ((i:Int)<(d.Cons.length:Nat))=false:=dFf (by omega);obtain rfl:i=d.Cons.length:=by omega
  have et:xs.take d.Cons.length=xs:=by rw[<-hlen,lTl]
  simp only[e1,et,go_sem];refine qN ?_;simp only[go_sem];exact qE rfl (by rw[hq])
theorem c263{p:qU}(hb:p.bd)(hn:p.wz<=1048575):Pure Gm 263 [p.enc] (.str (prT p)):=by
 refine pJ UV ?_;simp only[UV,qH,go_sem];refine zM qU.ln ?_;simp only[go_sem];refine qF (c624 hb hn) ?_;simp only[go_sem];cases hv:jE p
 ·simp only[nF,go_sem];exact qE rfl (by rw[prT,hv];rfl)
 simp only[nT,go_sem];have V:=PrF.of hv;have va:=V.a;have vb:=V.b;obtain⟨l1,l2⟩:=qXD V;have hbd:∀s∈p.Datas.map zq,s.length<=5000:=fun s hs=>by
  obtain⟨y,hy,rfl⟩:=List.mem_map.1 hs;exact WX (V.d y hy)
 have hbf:∀s∈p.Defs.map dfT,s.length<=130000:=fun s hs=>by
  obtain⟨y,hy,rfl⟩:=List.mem_map.1 hs;exact WZ (V.f y hy)
 refine Sem.loop (fun i:Nat=>i<=p.Datas.length) (fun i=>(⟨[(3,.str ((p.Datas.map zq).take i).flatten),(4,.int .i64 (i:Nat))],[(1,p.enc)],[]⟩:VSt)) (fun i=>p.Datas.length-i) 0 (by kernel_rfl) (nZl _) cS ?_;intro i hi;simp only[lMp,go_sem];by_cases hlt:i<p.Datas.length
 ·have e1:decide ((i:Int)<(p.Datas.length:Nat))=true:=dTt (by omega);have hlx:i<(p.Datas.map zq).length:=by rw[lMp];exact hlt
  have hs:=Xw hlx;have ht:=Xx hbd i;rw[lMp]at ht;have ht2:=Nat.mul_le_mul_right 5000 va;have hD:=V.d _ (gMm hlt);have hdl:=WX hD;rw[List.getElem_map]at hs;simp only[e1,gMp,gEg hlt,oMs,go_sem];refine qF (c625 hD) ?_;simp only[go_sem];refine qN ?_;simp only[go_sem,qp (show i<4611686018427387904 by omega)];refine qW (i+1) (by omega) (by omega) ?_;rw[hs];exact cS
 have e1:decide ((i:Int)<(p.Datas.length:Nat))=false:=dFf (by omega);obtain rfl:i=p.Datas.length:=by omega
 have et:(p.Datas.map zq).take p.Datas.length=p.Datas.map zq:=by rw[<-lMp (f:=zq),lTl]
 simp only[e1,et,go_sem];refine Sem.loop (fun j:Nat=>j<=p.Defs.length) (fun j=>(⟨[(3,.str ((p.Datas.map zq).flatten++((p.Defs.map dfT).take j).flatten)),(5,.int .i64 (j:Nat))],[(1,p.enc)],[]⟩:VSt)) (fun j=>p.Defs.length-j) 0 (by kernel_rfl) (nZl _) cS ?_;intro j hj;simp only[lMp,go_sem];by_cases hlt:j<p.Defs.length
 ·have e1:decide ((j:Int)<(p.Defs.length:Nat))=true:=dTt (by omega);have hlx:j<(p.Defs.map dfT).length:=by rw[lMp];exact hlt
  have hs:=Xw hlx;have ht:=Xx hbf j;rw[lMp]at ht;have ht2:=Nat.mul_le_mul_right 130000 vb;have hD:=V.f _ (gMm hlt);have hdl:=WZ hD;rw[List.getElem_map]at hs;obtain⟨d1,d2,d3⟩:=hD;obtain⟨m1,m2,m3⟩:=qBO d3;have tl:=ZT _ m1;have yl:=Jq d2;simp only[e1,gMp,gEg hlt,oMs,go_sem];refine qN ?_;simp only[gMp,gEg hlt,oMs,go_sem];refine qN ?_;simp only[gMp,gEg hlt,oMs,go_sem];refine qF (Xe d2) ?_;simp only[gMp,gEg hlt,oMs,go_sem];refine qN ?_;simp only[gMp,gEg hlt,oMs,go_sem];refine qN ?_;simp only[gMp,gEg hlt,oMs,go_sem];refine qF (Pure.lk0 (sh:=some 8) qQ.tr qQ.q4 (by rw[qD.ln];decide) (Ky (lv:=0) (by omega) (qZR m1 m2 (by omega)))) ?_;simp only[gMp,gEg hlt,oMs,go_sem,Nat.not_lt_zero,if_false];refine qN ?_;simp only[go_sem];refine qN ?_;simp only[go_sem];refine qN ?_;simp only[go_sem,qp (show j<4611686018427387904 by omega)];refine qW (j+1) (by omega) (by omega) ?_;rw[hs];simp only[dfT,lAa];exact cS
 have e1:decide ((j:Int)<(p.Defs.length:Nat))=false:=dFf (by omega);obtain rfl:j=p.Defs.length:=by omega
 have et:(p.Defs.map dfT).take p.Defs.length=p.Defs.map dfT:=by rw[<-lMp (f:=dfT),lTl]
 have hp:(p.Datas.map zq).flatten++(p.Defs.map dfT).flatten=Qf p:=rfl;simp only[e1,et,hp,go_sem];by_cases hl:20000<(Qf p).length
 ·have e2:decide ((20000:Int)<((Qf p).length:Nat))=true:=dTt (by omega);simp only[gt_iff_lt,e2,go_sem];exact qE rfl (by rw[prT,hv,if_pos rfl,if_pos hl])
 ·have e2:decide ((20000:Int)<((Qf p).length:Nat))=false:=dFf (by omega);simp only[gt_iff_lt,e2,go_sem];exact qE rfl (by rw[prT,hv,if_pos rfl,if_neg hl])
theorem c254{t:Str}:Pure Gm 254 [.str t] (.bool (icV t)):=by
 refine pJ US ?_;simp only[US,qH,go_sem];refine qF c267 ?_;have hw:=qW9 (t:=t);have hb:=qW8 (t:=t);simp only[ji,go_sem];have hd:icV t=(decide ((zY t).2.2=0)&&decide (prT (zY t).1=t)):=rfl;generalize (zY t).1=x at*;generalize (zY t).2.1=pa at*;generalize (zY t).2.2=pc at*;refine wf (k:=2) rfl qU.ln (by exact⟨_,rfl⟩) (by decide) ?_;simp only[go_sem];by_cases h0:pc=0
 ·simp only[dTt h0,go_sem];refine qF (c263 hb hw) ?_;simp only[go_sem];exact qE rfl (by rw[hd,dTt h0,Bool.true_and])
 ·simp only[dFf h0,go_sem];exact qE rfl (by rw[hd,dFf h0,Bool.false_and])
theorem qYT{s:Str}(h:zL s=true):s≠[]:=by rintro rfl;simp[zL,ze]at h
theorem qVR{s:Str}(h:zV s=true):s≠[]:=by rintro rfl;simp[zV,ze]at h
theorem qV8{pre:List Str}:∀{xs:List Str},jd pre xs=true->∀s∈xs,s≠[]
 |[],_,s,h=>by cases h
 | x::xs,h,s,hs=>by
  rw[jd,bAt,bAt]at h;rcases List.mem_cons.1 hs with rfl | hs
  ·exact qVR h.1
  ·exact qV8 h.2.2 s hs
theorem Ty.text_ne:∀y:Ty,y.ok->y.text≠[]
 |.int,_=>by simp[Ty.text]
 |.data m,h=>by simpa[Ty.text]using qYT h.1
 |.fn a b,h=>by rw[Ty.text_fn];simp
 |.bang a,h=>by rw[Ty.text_bang];simp
theorem qg3{t:qB}(h:zZ t=true):tyT t≠[]:=by
 obtain⟨y,h1,_,h3⟩:=Yq h;rw[h3];exact Ty.text_ne y h1.o
theorem qbA(n:Nat):Lib.decDigits n≠[]:=by
 rw[Lib.decDigits];split<;>simp
theorem qc5(n:Int):Lib.itoa n≠[]:=by
 unfold Lib.itoa;split
 ·simp
 ·exact qbA _
theorem qV7{x:qD}(h:qX x=true)(hk:x.Kind=1\/x.Kind=4\/x.Kind=7\/x.Kind=8\/x.Kind=10):x.Name≠[]:=by
 simp only[qX,qP,bAt]at h;have hs:=h.2.1;split at hs
 ·exact qVR hs
 ·rw[if_pos (by omega)]at hs;exact qYT hs
theorem qeE{x:qD}(h:qX x=true):∀s∈x.Names,s≠[]:=by
 simp only[qX,qP,bAt]at h;have hs:=h.2.2.2.1;split at hs
 ·rw[bAt]at hs;exact qV8 hs.2
 ·rw[dTe]at hs;rw[List.length_eq_zero_iff.1 hs];simp
theorem qc8{k:Int}(h:(kLo k:Int)<=kHi k):1<=k/\k<=11:=by
 unfold kLo kHi at h
 repeat' split at h
 all_goals omega
theorem qg1(x:qD)(h:x.shp.2.2=true):x.tx tyT≠[]:=by
 have h1:=(qD.shp_ok h).1;have B:=NB.of h1;have hk:=qc8 (k:=x.Kind) (by have:=B.k;omega);rw[qD.tx_eq];unfold zt
 repeat' split
 all_goals first
  | exact qc5 _
  | exact fun e=>qV7 h1 (by omega) (List.append_eq_nil_iff.1 e).1
  | exact qV7 h1 (by omega)
  | simp
theorem qc6{sep:Str}{xs:List Str}(h:∀s∈xs,s≠[]):jn sep xs=[]↔xs=[]:=by
 cases xs with
 | nil=>simp[jn]
 | cons x r=>
  constructor
  ·intro e;rw[jn,List.append_eq_nil_iff]at e;exact absurd e.1 (h x (by simp))
  ·intro e;cases e
theorem qVA(xs:List Str)(sep:Str):Lib.join xs sep=jn sep xs:=by
 cases xs with
 | nil=>rfl
 | cons x r=>rw[Lib.join_cons];rfl
theorem qVO:∀xs:List Str,AV.leafs (xs.map qR)=true
 |[]=>rfl
 | x::xs=>by rw[lMc,AV.leafs,qVO xs];rfl
theorem Kx{xs:List Str}{sep:Str}(hx:xs≠[])(hl:xs.length<=1048576)(hj:(jn sep xs).length<=140737488355328):Pure Gm 620 [.lst 1 (xs.map qR) false,.str sep] (.str (jn sep xs)):=by
 unfold Pure;refine⟨by simp[AV.trees,AV.tree,zD shS.tree],rfl,fun hr ar hva=> ?_⟩;simp only[RelVs,RelV]at hva;obtain⟨b,bs,rfl,h1,b',bs',rfl,rfl,rfl⟩:=hva;rcases h1 with⟨ys,c,rfl,_,h2⟩ | ⟨h2,_⟩
 ·have:=QT _ _ (qVO xs) h2;subst this;exact⟨0,.str (jn sep xs),hr,.ext g620 ⟨rfl,_,rfl,xs,c,sep,rfl,hl,by rw[qVA];exact hj,by rw[qVA]⟩,rfl,fun _ q=>q,by simp only[RelV]⟩
 ·exact absurd (List.map_eq_nil_iff.1 h2) hx
theorem Kw{xs:List Str}(hx:∀s∈xs,s≠[])(hl:(jn [44,32] xs).length<=1000000000)(hn:xs.length<=1048576):Pure Gm 618 [.lst 1 (xs.map qR) false] (.str (brk xs)):=by
 refine pI Ur (by simp[AV.trees,AV.tree,zD shS.tree]) rfl ?_;simp only[Ur,qH,go_sem]
 try simp only[lMp,go_sem]
 by_cases h0:xs=[]
 ·have e:decide (((xs.length:Nat):Int)=0)=true:=dTt (by rw[h0];rfl);simp only[e,go_sem];exact qE rfl (by rw[h0];rfl)
 ·have hp:0<xs.length:=List.length_pos_iff.2 h0;have e:decide (((xs.length:Nat):Int)=0)=false:=dFf (by omega);simp only[e,go_sem];refine qF (Kx h0 hn (by omega)) ?_;simp only[go_sem];refine qN ?_;simp only[go_sem];refine qN ?_;simp only[go_sem];exact qE rfl (by rw[brk,if_neg (fun e=>h0 ((qc6 hx).1 e))])
theorem qS9{ks:List qD}{f:qD->Str}(H:∀y∈ks,Pure Gm 621 [y.enc,.int .i64 0] (.str (f y)))(hk:ks.length<=1048576):Pure Gm 1003 [.lst 8 (ks.map qD.enc) false] (.lst 1 ((ks.map f).map qR) false):=by
 refine pI Y2 (by simp[AV.trees,AV.tree,zD qD.isSh.tree]) (by simp only[AV.tree];exact zD shS.tree _) ?_;simp only[Y2,qH,go_sem]
 try simp only[lMp,go_sem]
 refine Sem.loop (fun a:Nat×AV×List qC=>a.1<=ks.length/\StrL a.2.2 a.2.1 ((ks.map f).take a.1)) (fun a=>(⟨[(3,a.2.1),(6,.lst 8 (ks.map qD.enc) false),(7,.int .i64 (ks.length:Nat)),(8,.int .i64 (a.1:Nat))],[],a.2.2⟩:VSt)) (fun a=>ks.length-a.1) (0,.nils,[]) (by kernel_rfl) ⟨nZl _,.inl ⟨rfl,.inl rfl⟩⟩ cS ?_;rintro⟨i,v,h⟩ ⟨hi,hS⟩;simp only at hi hS;simp only[go_sem];by_cases hlt:i<ks.length
 ·have e1:decide ((i:Int)<(ks.length:Nat))=true:=dTt (by omega);simp only[e1,gMp,gEg hlt,oMs,go_sem];refine wf rfl qD.ln (by exact⟨_,qD.enc_eq _⟩) (by decide) ?_;simp only[go_sem];refine qF (H _ (gMm hlt)) ?_;simp only[go_sem];refine qy (v:=.str (f ks[i])) rfl rfl ?_;simp only[go_sem];refine Kk (n:=f ks[i]) hS.push (by rw[gCl];rfl) (by rw[lLt];omega) fun v' h' hS'=> ?_;simp only[go_sem,qp (show i<4611686018427387904 by omega)];refine qW (i+1,v',h') ⟨by simp only;omega, ?_⟩ (by simp only;omega) cS;have hkm:i<(ks.map f).length:=by rw[lMp];exact hlt
  simp only[lTs hkm,List.getElem_map];exact hS'
 ·have e1:decide ((i:Int)<(ks.length:Nat))=false:=dFf (by omega);obtain rfl:i=ks.length:=by omega
  have et:(ks.map f).take ks.length=ks.map f:=by rw[<-lMp (f:=f),lTl]
  rw[et]at hS;simp only[e1,go_sem];exact kI hS.cv
theorem qZP{x:qD}{i lv:Nat}{s:Str}(hi:i<x.Kids.length)(H:Pure Gm 621 [x.Kids[i].enc,.int .i64 (lv:Nat)] (.str s)):Pure Gm 1001 [.int .i64 (i:Nat),.int .i64 (lv:Nat),.ept x.enc 0] (.str s):=by
 refine pI Y0 (by simp[AV.trees,AV.tree,qD.tr]) rfl ?_;simp only[Y0,qH,go_sem];simp only[gMp,gEg hi,oMs,go_sem];refine qF H ?_;simp only[go_sem];exact qE rfl rfl
theorem qg6{s m:Nat->Option AV}{h:AH}{w:Nat}{x:Ao}{y:AV}{ys:List AV}(hx:ev s x=some (.lst w (y::ys) false)):val (.slc w x (some (.c (.int .i64 1))) none none) s m h=some (.lst w ys false):=by
 have e:ev s (.c (.int .i64 1))=some (.int .i64 1):=rfl;have h1:(1:Int)<=(ys.length:Nat)+1:=by omega
 simp[val,hx,bnd,e,h1]
theorem qe5{E:Ev}{d:Option Nat}{l:List qA}{ks:List Fr1}{st:VSt}{Q:qS->VSt->Prop}{s m:qf}{h:List qC}{w:Nat}{x:Ao}{y:AV}{ys:List AV}(hx:ev (toE s) x=some (.lst w (y::ys) false))(q:Put E (some (.lst w ys false)) d l ks st Q):Put E (val (.slc w x (some (.c (.int .i64 1))) none none) (toE s) (toE m) (toH h)) d l ks st Q:=by
 have e:=qg6 (w:=w) (m:=toE m) (h:=toH h) hx;rw[e];exact q
def P621(x:qD):Prop:=x.shp.2.2=true->x.nd<=100000->∀lv:Nat,lv<=6->Pure Gm 621 [x.enc,.int .i64 (lv:Nat)] (.str (if x.lev<lv then [40]++x.tx tyT++[41]else x.tx tyT))
theorem qdY(x:qD):x.lev<=5:=by unfold qD.lev;(repeat' split)<;>omega
theorem qaK:∀x:qD,P621 x:=qD.ind fun x ih hx hd=>by
 obtain⟨h1,h2⟩:=qD.shp_ok hx;have B:=NB.of h1;have hnd:=x.nd_eq;obtain⟨k1,k2⟩:=B.k;have hle:∀y∈x.Kids,(y.tx tyT).length<=80000000:=fun y hy=>by
  have e1:=ZT y (h2 y hy);have e2:=wv (f:=qD.nd) hy;omega
 have htl:(x.tx tyT).length<=80000000:=by have:=ZT x hx;omega
 obtain⟨bs,hbs⟩:∃bs,bs=x.Kids.map fun y=>(y.lev,y.tx tyT):=⟨_,rfl⟩;have hat:∀i (hi:i<x.Kids.length),bs.getD i (0,[])=(x.Kids[i].lev,x.Kids[i].tx tyT):=fun i hi=>by
  rw[hbs];simp[lGd,gEg hi]
 have KC:∀i (hi:i<x.Kids.length) lv,lv<=6->Pure Gm 1001 [.int .i64 (i:Nat),.int .i64 (lv:Nat),.ept x.enc 0] (.str (zW bs i lv)):=fun i hi lv hlv=>by
  have hy:=gMm hi;have e2:=wv (f:=qD.nd) hy;have H:=ih _ hy (h2 _ hy) (by omega) lv hlv;unfold zW;rw[hat i hi];exact qZP hi H
 have KL:∀i (hi:i<x.Kids.length) lv,(zW bs i lv).length<=80000002:=fun i hi lv=>by
  have:=qVC (bs:=bs) (i:=i) (lv:=lv);rw[hat i hi]at this;have h3:=hle _ (gMm hi);simp only at this;omega
 have H0:∀y∈x.Kids,Pure Gm 621 [y.enc,.int .i64 0] (.str (y.tx tyT)):=fun y hy=>by
  have e2:=wv (f:=qD.nd) hy;have H:=ih _ hy (h2 _ hy) (by omega) 0 (by omega);rw[if_neg (Nat.not_lt_zero _)]at H;exact H
 have hsum:(x.Kids.map fun y=>y.tx tyT)=bs.map Prod.snd:=by rw[hbs,List.map_map];rfl
 have hq:=qD.tx_eq tyT x;rw[<-hbs]at hq;have bn:=B.s;have hlv5:=qdY x;have base:∀lv:Nat,¬x.lev<lv->Pure Gm 621 [x.enc,.int .i64 (lv:Nat)] (.str (x.tx tyT)):=fun lv hlv=>by
  refine Pure.intro [2] [] (gk _ WJ) (by kernel_rfl) rfl (by simp[AV.trees,AV.tree,qD.tr]) rfl ?_;simp only[WJ,qH,go_sem];refine JC qD.ln ?_;simp only[go_sem];simp only[go_sem,lNa,lCa,lSz,List.set_cons_succ];refine qF XZ ?_;have e:decide (((x.lev:Nat):Int)<((lv:Nat):Int))=false:=dFf (by omega);simp only[e,go_sem];by_cases q2:x.Kind=2
  ·rw[zt,if_pos q2]at hq;simp only[dTt q2,go_sem];have hi:=kZ B.n.1 B.n.2;have b1:=B.n.1;have b2:=B.n.2;by_cases hn:x.Num<0
   ·simp only[dTt hn,go_sem];rw[if_pos hn]at hq;refine qF (Kv (by omega) (by omega)) ?_;simp only[go_sem];refine qN ?_;simp only[go_sem];refine qN ?_;simp only[go_sem];exact qE rfl (by rw[hq])
   ·simp only[dFf hn,go_sem];rw[if_neg hn]at hq;refine qF (Kv (by omega) (by omega)) ?_;simp only[go_sem];exact qE rfl (by rw[hq])
  simp only[dFf q2,go_sem];by_cases q3:x.Kind=3
  ·rw[zt,if_neg q2,if_pos q3]at hq;have kk:x.Kids.length=2:=by
    rw[q3]at k1 k2;have e1:kLo 3=2:=rfl;have e2:kHi 3=2:=rfl;omega
   obtain⟨j,hj⟩:∃j:Nat,x.Num=j:=⟨x.Num.toNat,by have:=B.o q3;omega⟩;have hj6:=B.o q3;have o:=qAU j;have l1:=KL 1 (by omega) (x.lev+1);simp only[dTt q3,go_sem];refine qF XZ ?_;simp only[go_sem];have el:decide (((x.lev:Nat):Int)=1)=decide (x.lev=1):=by rw[decide_eq_decide];omega
   simp only[el];have e9:((x.lev:Nat):Int)+1=((x.lev+1:Nat):Int):=by omega
   by_cases hl1:x.lev=1
   case' pos=>
    simp only[dTt hl1,go_sem];have hc:=KC 0 (by omega) 2 (by omega);have l0:=KL 0 (by omega) 2;rw[if_pos hl1]at hq
   case' neg=>
    simp only[dFf hl1,go_sem];have hc:=KC 0 (by omega) x.lev (by omega);have l0:=KL 0 (by omega) x.lev;rw[if_neg hl1]at hq
   all_goals
    refine qF hc ?_;simp only[go_sem];refine qN ?_;simp only[hj,go_sem];refine qF (qS8 (j:=j) (by omega) (by omega)) ?_;simp only[go_sem];refine qN ?_;simp only[go_sem];refine qN ?_;simp only[go_sem];refine qF XZ ?_;simp only[e9,zF (n:=((x.lev+1:Nat):Int)) (by omega) (by omega),go_sem];refine qF (KC 1 (by omega) (x.lev+1) (by omega)) ?_;simp only[go_sem];refine qN ?_;simp only[go_sem];exact qE rfl (by rw[hq,hj];rfl)
  simp only[dFf q3,go_sem];by_cases q4:x.Kind=4
  ·rw[zt,if_neg q2,if_neg q3,if_pos q4]at hq;have kk:x.Kids.length=1:=by
    rw[q4]at k1 k2;have e1:kLo 4=1:=rfl;have e2:kHi 4=1:=rfl;omega
   have l0:=KL 0 (by omega) 0;have ty:=Jq (B.t q4);simp only[dTt q4,go_sem];refine qN ?_;simp only[go_sem];refine qN ?_;simp only[go_sem];refine qF (Ku (B.t q4)) ?_;simp only[go_sem];refine qN ?_;simp only[go_sem];refine qN ?_;simp only[go_sem];refine qF (KC 0 (by omega) 0 (by omega)) ?_;simp only[go_sem];refine qN ?_;simp only[go_sem];exact qE rfl (by rw[hq])
  simp only[dFf q4,go_sem];by_cases q5:x.Kind=5
  ·rw[zt,if_neg q2,if_neg q3,if_neg q4,if_pos q5]at hq;have kk:x.Kids.length=2:=by
    rw[q5]at k1 k2;have e1:kLo 5=2:=rfl;have e2:kHi 5=2:=rfl;omega
   have l0:=KL 0 (by omega) 4;have l1:=KL 1 (by omega) 5;simp only[dTt q5,go_sem];refine qF (KC 0 (by omega) 4 (by omega)) ?_;simp only[go_sem];refine qN ?_;simp only[go_sem];refine qF (KC 1 (by omega) 5 (by omega)) ?_;simp only[go_sem];refine qN ?_;simp only[go_sem];exact qE rfl (by rw[hq])
  simp only[dFf q5,go_sem];by_cases q6:x.Kind=6
  ·rw[zt,if_neg q2,if_neg q3,if_neg q4,if_neg q5,if_pos q6]at hq;have kk:x.Kids.length=1:=by
    rw[q6]at k1 k2;have e1:kLo 6=1:=rfl;have e2:kHi 6=1:=rfl;omega
   have l0:=KL 0 (by omega) 5;simp only[dTt q6,go_sem];refine qF (KC 0 (by omega) 5 (by omega)) ?_;simp only[go_sem];refine qN ?_;simp only[go_sem];exact qE rfl (by rw[hq])
  simp only[dFf q6,go_sem];by_cases q7:x.Kind=7
  ·rw[zt,if_neg q2,if_neg q3,if_neg q4,if_neg q5,if_neg q6,if_pos q7]at hq;have kk:x.Kids.length=2:=by
    rw[q7]at k1 k2;have e1:kLo 7=2:=rfl;have e2:kHi 7=2:=rfl;omega
   have l0:=KL 0 (by omega) 0;have l1:=KL 1 (by omega) 0;simp only[dTt q7,go_sem];refine qN ?_;simp only[go_sem];refine qN ?_;simp only[go_sem];refine qF (KC 0 (by omega) 0 (by omega)) ?_;simp only[go_sem];refine qN ?_;simp only[go_sem];refine qN ?_;simp only[go_sem];refine qF (KC 1 (by omega) 0 (by omega)) ?_;simp only[go_sem];refine qN ?_;simp only[go_sem];exact qE rfl (by rw[hq])
  simp only[dFf q7,go_sem];by_cases q11:x.Kind=11
  ·rw[zt,if_neg q2,if_neg q3,if_neg q4,if_neg q5,if_neg q6,if_neg q7,if_neg (by omega),if_neg (by omega),if_neg (by omega),if_pos q11]at hq;have kk:x.Kids.length=3:=by
    rw[q11]at k1 k2;have e1:kLo 11=3:=rfl;have e2:kHi 11=3:=rfl;omega
   have l0:=KL 0 (by omega) 0;have l1:=KL 1 (by omega) 0;have l2:=KL 2 (by omega) 0;simp only[dTt q11,go_sem];refine qF (KC 0 (by omega) 0 (by omega)) ?_;simp only[go_sem];refine qN ?_;simp only[go_sem];refine qN ?_;simp only[go_sem];refine qF (KC 1 (by omega) 0 (by omega)) ?_;simp only[go_sem];refine qN ?_;simp only[go_sem];refine qN ?_;simp only[go_sem];refine qF (KC 2 (by omega) 0 (by omega)) ?_;simp only[go_sem];refine qN ?_;simp only[go_sem];exact qE rfl (by rw[hq])
  simp only[dFf q11,go_sem];by_cases q9:x.Kind=9
  ·rw[zt,if_neg q2,if_neg q3,if_neg q4,if_neg q5,if_neg q6,if_neg q7,if_neg (by omega),if_pos q9]at hq;have kk:2<=x.Kids.length/\x.Kids.length<=5:=by
    rw[q9]at k1 k2;have e1:kLo 9=2:=rfl;have e2:kHi 9=5:=rfl;omega
   have l0:=KL 0 (by omega) 0;obtain⟨a,r,hk⟩:∃a r,x.Kids=a::r:=by
    cases hk:x.Kids with
    | nil=>rw[hk]at kk;simp at kk
    | cons a r=>exact⟨a,r,rfl⟩
   have hrl:r.length<=4/\1<=r.length:=by rw[hk,lCo]at kk;omega
   have hd1:(bs.drop 1).map Prod.snd=r.map fun y=>y.tx tyT:=by rw[hbs,hk];simp
   rw[hd1]at hq;have hrm:∀y∈r,y∈x.Kids:=fun y hy=>by rw[hk];exact List.mem_cons_of_mem _ hy
   have jl:(jn [59,32] (r.map fun y=>y.tx tyT)).length<=400000000:=by
    have h3:=JD (sep:=[59,32]) (xs:=r.map fun y=>y.tx tyT) (b:=80000000) fun s hs=>by
     obtain⟨y,hy,rfl⟩:=List.mem_map.1 hs;exact hle y (hrm y hy)
    rw[lMp]at h3;have h4:=Nat.mul_le_mul_right (2+80000000) hrl.1;simp only[lCo,lNi]at h3;omega
   simp only[dTt q9,go_sem];refine qe5 (y:=a.enc) (ys:=r.map qD.enc) (by simp only[hk,lMc,go_sem]) ?_;simp only[go_sem];refine qF (KC 0 (by omega) 0 (by omega)) ?_;simp only[go_sem];refine qN ?_;simp only[go_sem];refine qN ?_;simp only[go_sem];refine qF (qS9 (f:=fun y=>y.tx tyT) (fun y hy=>H0 y (hrm y hy)) (by omega)) ?_;simp only[go_sem];refine qF (Kx (by intro e;rw[List.map_eq_nil_iff]at e;rw[e]at hrl;simp at hrl) (by rw[lMp];omega) (by omega)) ?_;simp only[go_sem];refine qN ?_;simp only[go_sem];refine qN ?_;simp only[go_sem];exact qE rfl (by rw[hq])
  simp only[dFf q9,go_sem];by_cases q10:x.Kind=10
  ·rw[zt,if_neg q2,if_neg q3,if_neg q4,if_neg q5,if_neg q6,if_neg q7,if_neg (by omega),if_neg q9,if_pos q10]at hq;have kk:x.Kids.length=1:=by
    rw[q10]at k1 k2;have e1:kLo 10=1:=rfl;have e2:kHi 10=1:=rfl;omega
   have l0:=KL 0 (by omega) 0;have n1:=B.ns.1;have jl:(jn [44,32] x.Names).length<=1000:=by
    have h3:=JD (sep:=[44,32]) B.ns.2;have h4:=Nat.mul_le_mul_right (2+12) n1;simp only[lCo,lNi]at h3;omega
   have bl:(brk x.Names).length<=1000:=by
    have h3:=Zg B.ns.2;have h4:=Nat.mul_le_mul_right (2+12) n1;omega
   simp only[dTt q10,go_sem];refine qF (Kw (qeE h1) (by omega) (by omega)) ?_;simp only[go_sem];refine qN ?_;simp only[go_sem];refine qN ?_;simp only[go_sem];refine qF (KC 0 (by omega) 0 (by omega)) ?_;simp only[go_sem];refine qN ?_;simp only[go_sem];exact qE rfl (by rw[hq])
  simp only[dFf q10,go_sem];by_cases q8:x.Kind=8
  ·rw[zt,if_neg q2,if_neg q3,if_neg q4,if_neg q5,if_neg q6,if_neg q7,if_pos q8,<-hsum]at hq;have kk:x.Kids.length<=3:=by
    rw[q8]at k1 k2;have e2:kHi 8=3:=rfl;omega
   have hb:∀s∈x.Kids.map fun y=>y.tx tyT,s.length<=80000000:=fun s hs=>by
    obtain⟨y,hy,rfl⟩:=List.mem_map.1 hs;exact hle y hy
   have jl:(jn [44,32] (x.Kids.map fun y=>y.tx tyT)).length<=300000000:=by
    have h3:=JD (sep:=[44,32]) hb;rw[lMp]at h3;have h4:=Nat.mul_le_mul_right (2+80000000) kk;simp only[lCo,lNi]at h3;omega
   have bl:(brk (x.Kids.map fun y=>y.tx tyT)).length<=300000000:=by
    have h3:=Zg hb;rw[lMp]at h3;have h4:=Nat.mul_le_mul_right (2+80000000) kk;omega
   simp only[dTt q8,go_sem];refine qF (qS9 (f:=fun y=>y.tx tyT) H0 (by omega)) ?_;simp only[go_sem];refine qF (Kw (fun s hs=>by obtain⟨y,hy,rfl⟩:=List.mem_map.1 hs;exact qg1 y (h2 y hy)) (by omega) (by rw[lMp];omega)) ?_;simp only[go_sem];refine qN ?_;simp only[go_sem];exact qE rfl (by rw[hq])
  simp only[dFf q8,go_sem];rw[zt,if_neg q2,if_neg q3,if_neg q4,if_neg q5,if_neg q6,if_neg q7,if_neg q8,if_neg q9,if_neg q10,if_neg q11]at hq;exact qE rfl (by rw[hq])
 intro lv h6;by_cases hlv:x.lev<lv
 ·rw[if_pos hlv];refine Pure.intro [2] [] (gk _ WJ) (by kernel_rfl) rfl (by simp[AV.trees,AV.tree,qD.tr]) rfl ?_;simp only[WJ,qH,go_sem];refine JC qD.ln ?_;simp only[go_sem];simp only[go_sem,lNa,lCa,lSz,List.set_cons_succ];refine qF XZ ?_;have e:decide (((x.lev:Nat):Int)<((lv:Nat):Int))=true:=dTt (by omega);simp only[e,go_sem];refine qF (base 0 (Nat.not_lt_zero _)) ?_;simp only[go_sem];refine qN ?_;simp only[go_sem];refine qN ?_;simp only[go_sem];exact qE rfl rfl
 ·rw[if_neg hlv];exact base lv hlv
theorem c621{x:qD}(hx:x.shp.2.2=true)(hd:x.nd<=100000):Pure Gm 621 [x.enc,.int .i64 0] (.str (x.tx tyT)):=by
 have H:=qaK x hx hd 0 (by omega);rw[if_neg (Nat.not_lt_zero _)]at H;exact H
end Go.Ab
