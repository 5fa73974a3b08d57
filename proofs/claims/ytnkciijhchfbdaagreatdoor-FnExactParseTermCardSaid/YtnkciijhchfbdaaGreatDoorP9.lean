/- Texts Tm21 .. Tm26: the abstract machine, its laws and contracts of functions: lemmas for the statement. No condition. -/
import Derived.Test.YtnkciijhchfbdaaGreatDoorP8
set_option linter.unusedSimpArgs false
set_option linter.unusedVariables false
namespace Go.Ab
open Go
set_option maxRecDepth 10000
set_option maxHeartbeats 2000000
theorem qaD{t:qA}(h:qY t=true):kLo t.Kind<=t.Kids.length/\(t.Kids.length:Int)<=kHi t.Kind:=by
 simp only[qY,bAt,dTe]at h;exact h.1
theorem WU{t:qA}{lo hi:Int}(h1:kLo t.Kind=lo)(h2:kHi t.Kind=hi)(h:¬(lo<=t.Kids.length/\(t.Kids.length:Int)<=hi)):false=qY t:=by
 cases e:qY t
 ·rfl
 ·have:=qaD e;rw[h1,h2]at this;exact absurd this h
theorem c807{t:qA}(B:TB t):Pure Gm 807 [t.enc] (.bool (qY t)):=by
 refine Pure.intro [] [] g807 (by kernel_rfl) rfl (by simp[AV.trees,AV.tree,go_sem]) rfl ?_;simp only[Yj,qI,go_sem];have B1:t.Name.length<=4611686018427387904:=by have:=B.n;omega
 have z0:decide ((0:Int)<((t.Names.length:Nat):Int))= !decide (t.Names.length=0):=by
  by_cases h:t.Names.length=0
  ·simp[h]
  ·simp[h];omega
 have zn:t.Names.length=0↔t.Names=[]:=List.length_eq_zero_iff;refine zZ qA.ln ?_;simp only[go_sem];refine qH (qS1 B.tk) ?_;simp only[go_sem];rcases KH t.Kind with hk | hk | hk | hk | hk | hk | hk | hk | hk | hk | hk | ⟨h1,h2,h3,h4,h5,h6,h7,h8,h9,h10,h11⟩
 ·simp only[hk,Int.reduceEq,decide_true,decide_false,Bool.not_true,Bool.not_false,ge_iff_le,gt_iff_lt,z0,go_sem];by_cases hN:t.Names.length=0
  case neg=>
   simp only[decide_eq_false hN,hk,Int.reduceEq,decide_true,decide_false,Bool.not_true,Bool.not_false,ge_iff_le,gt_iff_lt,z0,go_sem];have hN:¬t.Names=[]:=fun q=>hN (zn.2 q);exact qE rfl (congrArg AV.bool (by rw[Bool.eq_iff_iff];simp[qY,kLo,kHi,qR,hk,hN]))
  simp only[decide_eq_true hN,hk,Int.reduceEq,decide_true,decide_false,Bool.not_true,Bool.not_false,ge_iff_le,gt_iff_lt,z0,go_sem];have hN:t.Names=[]:=zn.1 hN;cases hT:zW t.Typ
  case false=>
   simp only[hk,Int.reduceEq,decide_true,decide_false,Bool.not_true,Bool.not_false,ge_iff_le,gt_iff_lt,z0,go_sem];exact qE rfl (congrArg AV.bool (by rw[Bool.eq_iff_iff];simp[qY,kLo,kHi,qR,hk,hN,hT]))
  simp only[hk,Int.reduceEq,decide_true,decide_false,Bool.not_true,Bool.not_false,ge_iff_le,gt_iff_lt,z0,go_sem];by_cases hM:t.Num=0
  case neg=>
   simp only[decide_eq_false hM,hk,Int.reduceEq,decide_true,decide_false,Bool.not_true,Bool.not_false,ge_iff_le,gt_iff_lt,z0,go_sem];exact qE rfl (congrArg AV.bool (by rw[Bool.eq_iff_iff];simp[qY,kLo,kHi,qR,hk,hN,hT,hM]))
  simp only[decide_eq_true hM,hk,Int.reduceEq,decide_true,decide_false,Bool.not_true,Bool.not_false,ge_iff_le,gt_iff_lt,z0,go_sem];refine qH (j7 B1) ?_;simp only[hk,Int.reduceEq,decide_true,decide_false,Bool.not_true,Bool.not_false,ge_iff_le,gt_iff_lt,z0,go_sem];refine qH (j6 B1) ?_;simp only[hk,Int.reduceEq,decide_true,decide_false,Bool.not_true,Bool.not_false,ge_iff_le,gt_iff_lt,z0,go_sem];cases hL:zj t.Name
  case false=>
   simp only[hk,Int.reduceEq,decide_true,decide_false,Bool.not_true,Bool.not_false,ge_iff_le,gt_iff_lt,z0,go_sem];exact qE rfl (congrArg AV.bool (by rw[Bool.eq_iff_iff];simp[qY,kLo,kHi,qR,hk,hN,hT,hM,hL]))
  simp only[hk,Int.reduceEq,decide_true,decide_false,Bool.not_true,Bool.not_false,ge_iff_le,gt_iff_lt,z0,go_sem];exact qE rfl (congrArg AV.bool (by rw[Bool.eq_iff_iff];simp[qY,kLo,kHi,qR,hk,hN,hT,hM,hL]<;>omega))
 ·simp only[hk,Int.reduceEq,decide_true,decide_false,Bool.not_true,Bool.not_false,ge_iff_le,gt_iff_lt,z0,go_sem];by_cases hN:t.Names.length=0
  case neg=>
   simp only[decide_eq_false hN,hk,Int.reduceEq,decide_true,decide_false,Bool.not_true,Bool.not_false,ge_iff_le,gt_iff_lt,z0,go_sem];have hN:¬t.Names=[]:=fun q=>hN (zn.2 q);exact qE rfl (congrArg AV.bool (by rw[Bool.eq_iff_iff];simp[qY,kLo,kHi,qR,hk,hN]))
  simp only[decide_eq_true hN,hk,Int.reduceEq,decide_true,decide_false,Bool.not_true,Bool.not_false,ge_iff_le,gt_iff_lt,z0,go_sem];have hN:t.Names=[]:=zn.1 hN;cases hT:zW t.Typ
  case false=>
   simp only[hk,Int.reduceEq,decide_true,decide_false,Bool.not_true,Bool.not_false,ge_iff_le,gt_iff_lt,z0,go_sem];exact qE rfl (congrArg AV.bool (by rw[Bool.eq_iff_iff];simp[qY,kLo,kHi,qR,hk,hN,hT]))
  simp only[hk,Int.reduceEq,decide_true,decide_false,Bool.not_true,Bool.not_false,ge_iff_le,gt_iff_lt,z0,go_sem];refine qH (j7 B1) ?_;simp only[hk,Int.reduceEq,decide_true,decide_false,Bool.not_true,Bool.not_false,ge_iff_le,gt_iff_lt,z0,go_sem];refine qH (j6 B1) ?_;simp only[hk,Int.reduceEq,decide_true,decide_false,Bool.not_true,Bool.not_false,ge_iff_le,gt_iff_lt,z0,go_sem];by_cases hL:t.Name=[]
  case neg=>
   simp only[decide_eq_false hL,hk,Int.reduceEq,decide_true,decide_false,Bool.not_true,Bool.not_false,ge_iff_le,gt_iff_lt,z0,go_sem];exact qE rfl (congrArg AV.bool (by rw[Bool.eq_iff_iff];simp[qY,kLo,kHi,qR,hk,hN,hT,hL]))
  simp only[decide_eq_true hL,hk,Int.reduceEq,decide_true,decide_false,Bool.not_true,Bool.not_false,ge_iff_le,gt_iff_lt,z0,go_sem];by_cases hC:((t.Kids.length:Nat):Int)=0
  case neg=>
   simp only[decide_eq_false hC,hk,Int.reduceEq,decide_true,decide_false,Bool.not_true,Bool.not_false,ge_iff_le,gt_iff_lt,z0,go_sem];exact qE rfl (congrArg AV.bool (WU (lo:=0) (hi:=0) (by rw[hk];decide) (by rw[hk];decide) (by omega)))
  simp only[decide_eq_true hC,hk,Int.reduceEq,decide_true,decide_false,Bool.not_true,Bool.not_false,ge_iff_le,gt_iff_lt,z0,go_sem];refine qH (qNF) ?_;simp only[hk,Int.reduceEq,decide_true,decide_false,Bool.not_true,Bool.not_false,ge_iff_le,gt_iff_lt,z0,go_sem];exact qE rfl (congrArg AV.bool (by rw[Bool.eq_iff_iff];simp[qY,kLo,kHi,qR,hk,hN,hT,hL,hC]))
 ·simp only[hk,Int.reduceEq,decide_true,decide_false,Bool.not_true,Bool.not_false,ge_iff_le,gt_iff_lt,z0,go_sem];by_cases hN:t.Names.length=0
  case neg=>
   simp only[decide_eq_false hN,hk,Int.reduceEq,decide_true,decide_false,Bool.not_true,Bool.not_false,ge_iff_le,gt_iff_lt,z0,go_sem];have hN:¬t.Names=[]:=fun q=>hN (zn.2 q);exact qE rfl (congrArg AV.bool (by rw[Bool.eq_iff_iff];simp[qY,kLo,kHi,qR,hk,hN]))
  simp only[decide_eq_true hN,hk,Int.reduceEq,decide_true,decide_false,Bool.not_true,Bool.not_false,ge_iff_le,gt_iff_lt,z0,go_sem];have hN:t.Names=[]:=zn.1 hN;cases hT:zW t.Typ
  case false=>
   simp only[hk,Int.reduceEq,decide_true,decide_false,Bool.not_true,Bool.not_false,ge_iff_le,gt_iff_lt,z0,go_sem];exact qE rfl (congrArg AV.bool (by rw[Bool.eq_iff_iff];simp[qY,kLo,kHi,qR,hk,hN,hT]))
  simp only[hk,Int.reduceEq,decide_true,decide_false,Bool.not_true,Bool.not_false,ge_iff_le,gt_iff_lt,z0,go_sem];refine qH (j7 B1) ?_;simp only[hk,Int.reduceEq,decide_true,decide_false,Bool.not_true,Bool.not_false,ge_iff_le,gt_iff_lt,z0,go_sem];refine qH (j6 B1) ?_;simp only[hk,Int.reduceEq,decide_true,decide_false,Bool.not_true,Bool.not_false,ge_iff_le,gt_iff_lt,z0,go_sem];by_cases hL:t.Name=[]
  case neg=>
   simp only[decide_eq_false hL,hk,Int.reduceEq,decide_true,decide_false,Bool.not_true,Bool.not_false,ge_iff_le,gt_iff_lt,z0,go_sem];exact qE rfl (congrArg AV.bool (by rw[Bool.eq_iff_iff];simp[qY,kLo,kHi,qR,hk,hN,hT,hL]))
  simp only[decide_eq_true hL,hk,Int.reduceEq,decide_true,decide_false,Bool.not_true,Bool.not_false,ge_iff_le,gt_iff_lt,z0,go_sem];by_cases hC:((t.Kids.length:Nat):Int)=2
  case neg=>
   simp only[decide_eq_false hC,hk,Int.reduceEq,decide_true,decide_false,Bool.not_true,Bool.not_false,ge_iff_le,gt_iff_lt,z0,go_sem];exact qE rfl (congrArg AV.bool (WU (lo:=2) (hi:=2) (by rw[hk];decide) (by rw[hk];decide) (by omega)))
  simp only[decide_eq_true hC,hk,Int.reduceEq,decide_true,decide_false,Bool.not_true,Bool.not_false,ge_iff_le,gt_iff_lt,z0,go_sem];refine qH (qNE) ?_;simp only[hk,Int.reduceEq,decide_true,decide_false,Bool.not_true,Bool.not_false,ge_iff_le,gt_iff_lt,z0,go_sem];exact qE rfl (congrArg AV.bool (by rw[Bool.eq_iff_iff];simp[qY,kLo,kHi,qR,hk,hN,hT,hL,hC]))
 ·simp only[hk,Int.reduceEq,decide_true,decide_false,Bool.not_true,Bool.not_false,ge_iff_le,gt_iff_lt,z0,go_sem];by_cases hN:t.Names.length=0
  case neg=>
   simp only[decide_eq_false hN,hk,Int.reduceEq,decide_true,decide_false,Bool.not_true,Bool.not_false,ge_iff_le,gt_iff_lt,z0,go_sem];have hN:¬t.Names=[]:=fun q=>hN (zn.2 q);exact qE rfl (congrArg AV.bool (by rw[Bool.eq_iff_iff];simp[qY,kLo,kHi,qR,hk,hN]))
  simp only[decide_eq_true hN,hk,Int.reduceEq,decide_true,decide_false,Bool.not_true,Bool.not_false,ge_iff_le,gt_iff_lt,z0,go_sem];have hN:t.Names=[]:=zn.1 hN;by_cases hM:t.Num=0
  case neg=>
   simp only[decide_eq_false hM,hk,Int.reduceEq,decide_true,decide_false,Bool.not_true,Bool.not_false,ge_iff_le,gt_iff_lt,z0,go_sem];exact qE rfl (congrArg AV.bool (by rw[Bool.eq_iff_iff];simp[qY,kLo,kHi,qR,hk,hN,hM]))
  simp only[decide_eq_true hM,hk,Int.reduceEq,decide_true,decide_false,Bool.not_true,Bool.not_false,ge_iff_le,gt_iff_lt,z0,go_sem];refine qH (j7 B1) ?_;simp only[hk,Int.reduceEq,decide_true,decide_false,Bool.not_true,Bool.not_false,ge_iff_le,gt_iff_lt,z0,go_sem];refine qH (j6 B1) ?_;simp only[hk,Int.reduceEq,decide_true,decide_false,Bool.not_true,Bool.not_false,ge_iff_le,gt_iff_lt,z0,go_sem];cases hL:zj t.Name
  case false=>
   simp only[hk,Int.reduceEq,decide_true,decide_false,Bool.not_true,Bool.not_false,ge_iff_le,gt_iff_lt,z0,go_sem];exact qE rfl (congrArg AV.bool (by rw[Bool.eq_iff_iff];simp[qY,kLo,kHi,qR,hk,hN,hM,hL]))
  simp only[hk,Int.reduceEq,decide_true,decide_false,Bool.not_true,Bool.not_false,ge_iff_le,gt_iff_lt,z0,go_sem];by_cases hC:((t.Kids.length:Nat):Int)=1
  case neg=>
   simp only[decide_eq_false hC,hk,Int.reduceEq,decide_true,decide_false,Bool.not_true,Bool.not_false,ge_iff_le,gt_iff_lt,z0,go_sem];exact qE rfl (congrArg AV.bool (WU (lo:=1) (hi:=1) (by rw[hk];decide) (by rw[hk];decide) (by omega)))
  simp only[decide_eq_true hC,hk,Int.reduceEq,decide_true,decide_false,Bool.not_true,Bool.not_false,ge_iff_le,gt_iff_lt,z0,go_sem];refine qH (c74 B.t B.tn) ?_;simp only[hk,Int.reduceEq,decide_true,decide_false,Bool.not_true,Bool.not_false,ge_iff_le,gt_iff_lt,z0,go_sem];exact qE rfl (congrArg AV.bool (by rw[Bool.eq_iff_iff];simp[qY,kLo,kHi,qR,hk,hN,hM,hL,hC]))
 ·simp only[hk,Int.reduceEq,decide_true,decide_false,Bool.not_true,Bool.not_false,ge_iff_le,gt_iff_lt,z0,go_sem];by_cases hN:t.Names.length=0
  case neg=>
   simp only[decide_eq_false hN,hk,Int.reduceEq,decide_true,decide_false,Bool.not_true,Bool.not_false,ge_iff_le,gt_iff_lt,z0,go_sem];have hN:¬t.Names=[]:=fun q=>hN (zn.2 q);exact qE rfl (congrArg AV.bool (by rw[Bool.eq_iff_iff];simp[qY,kLo,kHi,qR,hk,hN]))
  simp only[decide_eq_true hN,hk,Int.reduceEq,decide_true,decide_false,Bool.not_true,Bool.not_false,ge_iff_le,gt_iff_lt,z0,go_sem];have hN:t.Names=[]:=zn.1 hN;cases hT:zW t.Typ
  case false=>
   simp only[hk,Int.reduceEq,decide_true,decide_false,Bool.not_true,Bool.not_false,ge_iff_le,gt_iff_lt,z0,go_sem];exact qE rfl (congrArg AV.bool (by rw[Bool.eq_iff_iff];simp[qY,kLo,kHi,qR,hk,hN,hT]))
  simp only[hk,Int.reduceEq,decide_true,decide_false,Bool.not_true,Bool.not_false,ge_iff_le,gt_iff_lt,z0,go_sem];by_cases hM:t.Num=0
  case neg=>
   simp only[decide_eq_false hM,hk,Int.reduceEq,decide_true,decide_false,Bool.not_true,Bool.not_false,ge_iff_le,gt_iff_lt,z0,go_sem];exact qE rfl (congrArg AV.bool (by rw[Bool.eq_iff_iff];simp[qY,kLo,kHi,qR,hk,hN,hT,hM]))
  simp only[decide_eq_true hM,hk,Int.reduceEq,decide_true,decide_false,Bool.not_true,Bool.not_false,ge_iff_le,gt_iff_lt,z0,go_sem];refine qH (j7 B1) ?_;simp only[hk,Int.reduceEq,decide_true,decide_false,Bool.not_true,Bool.not_false,ge_iff_le,gt_iff_lt,z0,go_sem];refine qH (j6 B1) ?_;simp only[hk,Int.reduceEq,decide_true,decide_false,Bool.not_true,Bool.not_false,ge_iff_le,gt_iff_lt,z0,go_sem];by_cases hL:t.Name=[]
  case neg=>
   simp only[decide_eq_false hL,hk,Int.reduceEq,decide_true,decide_false,Bool.not_true,Bool.not_false,ge_iff_le,gt_iff_lt,z0,go_sem];exact qE rfl (congrArg AV.bool (by rw[Bool.eq_iff_iff];simp[qY,kLo,kHi,qR,hk,hN,hT,hM,hL]))
  simp only[decide_eq_true hL,hk,Int.reduceEq,decide_true,decide_false,Bool.not_true,Bool.not_false,ge_iff_le,gt_iff_lt,z0,go_sem];exact qE rfl (congrArg AV.bool (by rw[Bool.eq_iff_iff];simp[qY,kLo,kHi,qR,hk,hN,hT,hM,hL]<;>omega))
 ·simp only[hk,Int.reduceEq,decide_true,decide_false,Bool.not_true,Bool.not_false,ge_iff_le,gt_iff_lt,z0,go_sem];by_cases hN:t.Names.length=0
  case neg=>
   simp only[decide_eq_false hN,hk,Int.reduceEq,decide_true,decide_false,Bool.not_true,Bool.not_false,ge_iff_le,gt_iff_lt,z0,go_sem];have hN:¬t.Names=[]:=fun q=>hN (zn.2 q);exact qE rfl (congrArg AV.bool (by rw[Bool.eq_iff_iff];simp[qY,kLo,kHi,qR,hk,hN]))
  simp only[decide_eq_true hN,hk,Int.reduceEq,decide_true,decide_false,Bool.not_true,Bool.not_false,ge_iff_le,gt_iff_lt,z0,go_sem];have hN:t.Names=[]:=zn.1 hN;cases hT:zW t.Typ
  case false=>
   simp only[hk,Int.reduceEq,decide_true,decide_false,Bool.not_true,Bool.not_false,ge_iff_le,gt_iff_lt,z0,go_sem];exact qE rfl (congrArg AV.bool (by rw[Bool.eq_iff_iff];simp[qY,kLo,kHi,qR,hk,hN,hT]))
  simp only[hk,Int.reduceEq,decide_true,decide_false,Bool.not_true,Bool.not_false,ge_iff_le,gt_iff_lt,z0,go_sem];by_cases hM:t.Num=0
  case neg=>
   simp only[decide_eq_false hM,hk,Int.reduceEq,decide_true,decide_false,Bool.not_true,Bool.not_false,ge_iff_le,gt_iff_lt,z0,go_sem];exact qE rfl (congrArg AV.bool (by rw[Bool.eq_iff_iff];simp[qY,kLo,kHi,qR,hk,hN,hT,hM]))
  simp only[decide_eq_true hM,hk,Int.reduceEq,decide_true,decide_false,Bool.not_true,Bool.not_false,ge_iff_le,gt_iff_lt,z0,go_sem];refine qH (j7 B1) ?_;simp only[hk,Int.reduceEq,decide_true,decide_false,Bool.not_true,Bool.not_false,ge_iff_le,gt_iff_lt,z0,go_sem];refine qH (j6 B1) ?_;simp only[hk,Int.reduceEq,decide_true,decide_false,Bool.not_true,Bool.not_false,ge_iff_le,gt_iff_lt,z0,go_sem];by_cases hL:t.Name=[]
  case neg=>
   simp only[decide_eq_false hL,hk,Int.reduceEq,decide_true,decide_false,Bool.not_true,Bool.not_false,ge_iff_le,gt_iff_lt,z0,go_sem];exact qE rfl (congrArg AV.bool (by rw[Bool.eq_iff_iff];simp[qY,kLo,kHi,qR,hk,hN,hT,hM,hL]))
  simp only[decide_eq_true hL,hk,Int.reduceEq,decide_true,decide_false,Bool.not_true,Bool.not_false,ge_iff_le,gt_iff_lt,z0,go_sem];exact qE rfl (congrArg AV.bool (by rw[Bool.eq_iff_iff];simp[qY,kLo,kHi,qR,hk,hN,hT,hM,hL]<;>omega))
 ·simp only[hk,Int.reduceEq,decide_true,decide_false,Bool.not_true,Bool.not_false,ge_iff_le,gt_iff_lt,z0,go_sem];by_cases hN:t.Names.length=0
  case neg=>
   simp only[decide_eq_false hN,hk,Int.reduceEq,decide_true,decide_false,Bool.not_true,Bool.not_false,ge_iff_le,gt_iff_lt,z0,go_sem];have hN:¬t.Names=[]:=fun q=>hN (zn.2 q);exact qE rfl (congrArg AV.bool (by rw[Bool.eq_iff_iff];simp[qY,kLo,kHi,qR,hk,hN]))
  simp only[decide_eq_true hN,hk,Int.reduceEq,decide_true,decide_false,Bool.not_true,Bool.not_false,ge_iff_le,gt_iff_lt,z0,go_sem];have hN:t.Names=[]:=zn.1 hN;cases hT:zW t.Typ
  case false=>
   simp only[hk,Int.reduceEq,decide_true,decide_false,Bool.not_true,Bool.not_false,ge_iff_le,gt_iff_lt,z0,go_sem];exact qE rfl (congrArg AV.bool (by rw[Bool.eq_iff_iff];simp[qY,kLo,kHi,qR,hk,hN,hT]))
  simp only[hk,Int.reduceEq,decide_true,decide_false,Bool.not_true,Bool.not_false,ge_iff_le,gt_iff_lt,z0,go_sem];by_cases hM:t.Num=0
  case neg=>
   simp only[decide_eq_false hM,hk,Int.reduceEq,decide_true,decide_false,Bool.not_true,Bool.not_false,ge_iff_le,gt_iff_lt,z0,go_sem];exact qE rfl (congrArg AV.bool (by rw[Bool.eq_iff_iff];simp[qY,kLo,kHi,qR,hk,hN,hT,hM]))
  simp only[decide_eq_true hM,hk,Int.reduceEq,decide_true,decide_false,Bool.not_true,Bool.not_false,ge_iff_le,gt_iff_lt,z0,go_sem];refine qH (j7 B1) ?_;simp only[hk,Int.reduceEq,decide_true,decide_false,Bool.not_true,Bool.not_false,ge_iff_le,gt_iff_lt,z0,go_sem];refine qH (j6 B1) ?_;simp only[hk,Int.reduceEq,decide_true,decide_false,Bool.not_true,Bool.not_false,ge_iff_le,gt_iff_lt,z0,go_sem];cases hL:zj t.Name
  case false=>
   simp only[hk,Int.reduceEq,decide_true,decide_false,Bool.not_true,Bool.not_false,ge_iff_le,gt_iff_lt,z0,go_sem];exact qE rfl (congrArg AV.bool (by rw[Bool.eq_iff_iff];simp[qY,kLo,kHi,qR,hk,hN,hT,hM,hL]))
  simp only[hk,Int.reduceEq,decide_true,decide_false,Bool.not_true,Bool.not_false,ge_iff_le,gt_iff_lt,z0,go_sem];exact qE rfl (congrArg AV.bool (by rw[Bool.eq_iff_iff];simp[qY,kLo,kHi,qR,hk,hN,hT,hM,hL]<;>omega))
 ·simp only[hk,Int.reduceEq,decide_true,decide_false,Bool.not_true,Bool.not_false,ge_iff_le,gt_iff_lt,z0,go_sem];by_cases hN:t.Names.length=0
  case neg=>
   simp only[decide_eq_false hN,hk,Int.reduceEq,decide_true,decide_false,Bool.not_true,Bool.not_false,ge_iff_le,gt_iff_lt,z0,go_sem];have hN:¬t.Names=[]:=fun q=>hN (zn.2 q);exact qE rfl (congrArg AV.bool (by rw[Bool.eq_iff_iff];simp[qY,kLo,kHi,qR,hk,hN]))
  simp only[decide_eq_true hN,hk,Int.reduceEq,decide_true,decide_false,Bool.not_true,Bool.not_false,ge_iff_le,gt_iff_lt,z0,go_sem];have hN:t.Names=[]:=zn.1 hN;cases hT:zW t.Typ
  case false=>
   simp only[hk,Int.reduceEq,decide_true,decide_false,Bool.not_true,Bool.not_false,ge_iff_le,gt_iff_lt,z0,go_sem];exact qE rfl (congrArg AV.bool (by rw[Bool.eq_iff_iff];simp[qY,kLo,kHi,qR,hk,hN,hT]))
  simp only[hk,Int.reduceEq,decide_true,decide_false,Bool.not_true,Bool.not_false,ge_iff_le,gt_iff_lt,z0,go_sem];by_cases hM:t.Num=0
  case neg=>
   simp only[decide_eq_false hM,hk,Int.reduceEq,decide_true,decide_false,Bool.not_true,Bool.not_false,ge_iff_le,gt_iff_lt,z0,go_sem];exact qE rfl (congrArg AV.bool (by rw[Bool.eq_iff_iff];simp[qY,kLo,kHi,qR,hk,hN,hT,hM]))
  simp only[decide_eq_true hM,hk,Int.reduceEq,decide_true,decide_false,Bool.not_true,Bool.not_false,ge_iff_le,gt_iff_lt,z0,go_sem];refine qH (j7 B1) ?_;simp only[hk,Int.reduceEq,decide_true,decide_false,Bool.not_true,Bool.not_false,ge_iff_le,gt_iff_lt,z0,go_sem];refine qH (j6 B1) ?_;simp only[hk,Int.reduceEq,decide_true,decide_false,Bool.not_true,Bool.not_false,ge_iff_le,gt_iff_lt,z0,go_sem];cases hL:zk t.Name
  case false=>
   simp only[hk,Int.reduceEq,decide_true,decide_false,Bool.not_true,Bool.not_false,ge_iff_le,gt_iff_lt,z0,go_sem];exact qE rfl (congrArg AV.bool (by rw[Bool.eq_iff_iff];simp[qY,kLo,kHi,qR,hk,hN,hT,hM,hL]))
  simp only[hk,Int.reduceEq,decide_true,decide_false,Bool.not_true,Bool.not_false,ge_iff_le,gt_iff_lt,z0,go_sem];exact qE rfl (congrArg AV.bool (by rw[Bool.eq_iff_iff];simp[qY,kLo,kHi,qR,hk,hN,hT,hM,hL]<;>omega))
 ·simp only[hk,Int.reduceEq,decide_true,decide_false,Bool.not_true,Bool.not_false,ge_iff_le,gt_iff_lt,z0,go_sem];by_cases hN:t.Names.length=0
  case neg=>
   simp only[decide_eq_false hN,hk,Int.reduceEq,decide_true,decide_false,Bool.not_true,Bool.not_false,ge_iff_le,gt_iff_lt,z0,go_sem];have hN:¬t.Names=[]:=fun q=>hN (zn.2 q);exact qE rfl (congrArg AV.bool (by rw[Bool.eq_iff_iff];simp[qY,kLo,kHi,qR,hk,hN]))
  simp only[decide_eq_true hN,hk,Int.reduceEq,decide_true,decide_false,Bool.not_true,Bool.not_false,ge_iff_le,gt_iff_lt,z0,go_sem];have hN:t.Names=[]:=zn.1 hN;cases hT:zW t.Typ
  case false=>
   simp only[hk,Int.reduceEq,decide_true,decide_false,Bool.not_true,Bool.not_false,ge_iff_le,gt_iff_lt,z0,go_sem];exact qE rfl (congrArg AV.bool (by rw[Bool.eq_iff_iff];simp[qY,kLo,kHi,qR,hk,hN,hT]))
  simp only[hk,Int.reduceEq,decide_true,decide_false,Bool.not_true,Bool.not_false,ge_iff_le,gt_iff_lt,z0,go_sem];by_cases hM:t.Num=0
  case neg=>
   simp only[decide_eq_false hM,hk,Int.reduceEq,decide_true,decide_false,Bool.not_true,Bool.not_false,ge_iff_le,gt_iff_lt,z0,go_sem];exact qE rfl (congrArg AV.bool (by rw[Bool.eq_iff_iff];simp[qY,kLo,kHi,qR,hk,hN,hT,hM]))
  simp only[decide_eq_true hM,hk,Int.reduceEq,decide_true,decide_false,Bool.not_true,Bool.not_false,ge_iff_le,gt_iff_lt,z0,go_sem];refine qH (j7 B1) ?_;simp only[hk,Int.reduceEq,decide_true,decide_false,Bool.not_true,Bool.not_false,ge_iff_le,gt_iff_lt,z0,go_sem];refine qH (j6 B1) ?_;simp only[hk,Int.reduceEq,decide_true,decide_false,Bool.not_true,Bool.not_false,ge_iff_le,gt_iff_lt,z0,go_sem];by_cases hL:t.Name=[]
  case neg=>
   simp only[decide_eq_false hL,hk,Int.reduceEq,decide_true,decide_false,Bool.not_true,Bool.not_false,ge_iff_le,gt_iff_lt,z0,go_sem];exact qE rfl (congrArg AV.bool (by rw[Bool.eq_iff_iff];simp[qY,kLo,kHi,qR,hk,hN,hT,hM,hL]))
  simp only[decide_eq_true hL,hk,Int.reduceEq,decide_true,decide_false,Bool.not_true,Bool.not_false,ge_iff_le,gt_iff_lt,z0,go_sem];by_cases hC:(2:Int)<=((t.Kids.length:Nat):Int)
  case neg=>
   simp only[decide_eq_false hC,hk,Int.reduceEq,decide_true,decide_false,Bool.not_true,Bool.not_false,ge_iff_le,gt_iff_lt,z0,go_sem];exact qE rfl (congrArg AV.bool (WU (lo:=2) (hi:=5) (by rw[hk];decide) (by rw[hk];decide) (by omega)))
  simp only[decide_eq_true hC,hk,Int.reduceEq,decide_true,decide_false,Bool.not_true,Bool.not_false,ge_iff_le,gt_iff_lt,z0,go_sem];exact qE rfl (congrArg AV.bool (by rw[Bool.eq_iff_iff];simp[qY,kLo,kHi,qR,hk,hN,hT,hM,hL,hC]))
 ·simp only[hk,Int.reduceEq,decide_true,decide_false,Bool.not_true,Bool.not_false,ge_iff_le,gt_iff_lt,z0,go_sem];cases hT:zW t.Typ
  case false=>
   simp only[hk,Int.reduceEq,decide_true,decide_false,Bool.not_true,Bool.not_false,ge_iff_le,gt_iff_lt,z0,go_sem];exact qE rfl (congrArg AV.bool (by rw[Bool.eq_iff_iff];simp[qY,kLo,kHi,qR,hk,hT]))
  simp only[hk,Int.reduceEq,decide_true,decide_false,Bool.not_true,Bool.not_false,ge_iff_le,gt_iff_lt,z0,go_sem];by_cases hM:t.Num=0
  case neg=>
   simp only[decide_eq_false hM,hk,Int.reduceEq,decide_true,decide_false,Bool.not_true,Bool.not_false,ge_iff_le,gt_iff_lt,z0,go_sem];exact qE rfl (congrArg AV.bool (by rw[Bool.eq_iff_iff];simp[qY,kLo,kHi,qR,hk,hT,hM]))
  simp only[decide_eq_true hM,hk,Int.reduceEq,decide_true,decide_false,Bool.not_true,Bool.not_false,ge_iff_le,gt_iff_lt,z0,go_sem];refine qH (j7 B1) ?_;simp only[hk,Int.reduceEq,decide_true,decide_false,Bool.not_true,Bool.not_false,ge_iff_le,gt_iff_lt,z0,go_sem];refine qH (j6 B1) ?_;simp only[hk,Int.reduceEq,decide_true,decide_false,Bool.not_true,Bool.not_false,ge_iff_le,gt_iff_lt,z0,go_sem];cases hL:zk t.Name
  case false=>
   simp only[hk,Int.reduceEq,decide_true,decide_false,Bool.not_true,Bool.not_false,ge_iff_le,gt_iff_lt,z0,go_sem];exact qE rfl (congrArg AV.bool (by rw[Bool.eq_iff_iff];simp[qY,kLo,kHi,qR,hk,hT,hM,hL]))
  simp only[hk,Int.reduceEq,decide_true,decide_false,Bool.not_true,Bool.not_false,ge_iff_le,gt_iff_lt,z0,go_sem];by_cases hC:((t.Kids.length:Nat):Int)=1
  case neg=>
   simp only[decide_eq_false hC,hk,Int.reduceEq,decide_true,decide_false,Bool.not_true,Bool.not_false,ge_iff_le,gt_iff_lt,z0,go_sem];exact qE rfl (congrArg AV.bool (WU (lo:=1) (hi:=1) (by rw[hk];decide) (by rw[hk];decide) (by omega)))
  simp only[decide_eq_true hC,hk,Int.reduceEq,decide_true,decide_false,Bool.not_true,Bool.not_false,ge_iff_le,gt_iff_lt,z0,go_sem];refine qH (qS2 B.l B.s) ?_;simp only[hk,Int.reduceEq,decide_true,decide_false,Bool.not_true,Bool.not_false,ge_iff_le,gt_iff_lt,z0,go_sem];exact qE rfl (congrArg AV.bool (by rw[Bool.eq_iff_iff];simp[qY,kLo,kHi,qR,hk,hT,hM,hL,hC]))
 ·simp only[hk,Int.reduceEq,decide_true,decide_false,Bool.not_true,Bool.not_false,ge_iff_le,gt_iff_lt,z0,go_sem];by_cases hN:t.Names.length=0
  case neg=>
   simp only[decide_eq_false hN,hk,Int.reduceEq,decide_true,decide_false,Bool.not_true,Bool.not_false,ge_iff_le,gt_iff_lt,z0,go_sem];have hN:¬t.Names=[]:=fun q=>hN (zn.2 q);exact qE rfl (congrArg AV.bool (by rw[Bool.eq_iff_iff];simp[qY,kLo,kHi,qR,hk,hN]))
  simp only[decide_eq_true hN,hk,Int.reduceEq,decide_true,decide_false,Bool.not_true,Bool.not_false,ge_iff_le,gt_iff_lt,z0,go_sem];have hN:t.Names=[]:=zn.1 hN;cases hT:zW t.Typ
  case false=>
   simp only[hk,Int.reduceEq,decide_true,decide_false,Bool.not_true,Bool.not_false,ge_iff_le,gt_iff_lt,z0,go_sem];exact qE rfl (congrArg AV.bool (by rw[Bool.eq_iff_iff];simp[qY,kLo,kHi,qR,hk,hN,hT]))
  simp only[hk,Int.reduceEq,decide_true,decide_false,Bool.not_true,Bool.not_false,ge_iff_le,gt_iff_lt,z0,go_sem];by_cases hM:t.Num=0
  case neg=>
   simp only[decide_eq_false hM,hk,Int.reduceEq,decide_true,decide_false,Bool.not_true,Bool.not_false,ge_iff_le,gt_iff_lt,z0,go_sem];exact qE rfl (congrArg AV.bool (by rw[Bool.eq_iff_iff];simp[qY,kLo,kHi,qR,hk,hN,hT,hM]))
  simp only[decide_eq_true hM,hk,Int.reduceEq,decide_true,decide_false,Bool.not_true,Bool.not_false,ge_iff_le,gt_iff_lt,z0,go_sem];refine qH (j7 B1) ?_;simp only[hk,Int.reduceEq,decide_true,decide_false,Bool.not_true,Bool.not_false,ge_iff_le,gt_iff_lt,z0,go_sem];refine qH (j6 B1) ?_;simp only[hk,Int.reduceEq,decide_true,decide_false,Bool.not_true,Bool.not_false,ge_iff_le,gt_iff_lt,z0,go_sem];by_cases hL:t.Name=[]
  case neg=>
   simp only[decide_eq_false hL,hk,Int.reduceEq,decide_true,decide_false,Bool.not_true,Bool.not_false,ge_iff_le,gt_iff_lt,z0,go_sem];exact qE rfl (congrArg AV.bool (by rw[Bool.eq_iff_iff];simp[qY,kLo,kHi,qR,hk,hN,hT,hM,hL]))
  simp only[decide_eq_true hL,hk,Int.reduceEq,decide_true,decide_false,Bool.not_true,Bool.not_false,ge_iff_le,gt_iff_lt,z0,go_sem];exact qE rfl (congrArg AV.bool (by rw[Bool.eq_iff_iff];simp[qY,kLo,kHi,qR,hk,hN,hT,hM,hL]<;>omega))
 ·simp only[h1,h2,h3,h4,h5,h6,h7,h8,h9,h10,h11,Int.reduceEq,decide_true,decide_false,Bool.not_true,Bool.not_false,ge_iff_le,gt_iff_lt,z0,go_sem];by_cases hN:t.Names.length=0
  case neg=>
   simp only[decide_eq_false hN,h1,h2,h3,h4,h5,h6,h7,h8,h9,h10,h11,Int.reduceEq,decide_true,decide_false,Bool.not_true,Bool.not_false,ge_iff_le,gt_iff_lt,z0,go_sem];have hN:¬t.Names=[]:=fun q=>hN (zn.2 q);exact qE rfl (congrArg AV.bool (by rw[Bool.eq_iff_iff];simp[qY,kLo,kHi,qR,h1,h2,h3,h4,h5,h6,h7,h8,h9,h10,h11,hN]))
  simp only[decide_eq_true hN,h1,h2,h3,h4,h5,h6,h7,h8,h9,h10,h11,Int.reduceEq,decide_true,decide_false,Bool.not_true,Bool.not_false,ge_iff_le,gt_iff_lt,z0,go_sem];have hN:t.Names=[]:=zn.1 hN;cases hT:zW t.Typ
  case false=>
   simp only[h1,h2,h3,h4,h5,h6,h7,h8,h9,h10,h11,Int.reduceEq,decide_true,decide_false,Bool.not_true,Bool.not_false,ge_iff_le,gt_iff_lt,z0,go_sem];exact qE rfl (congrArg AV.bool (by rw[Bool.eq_iff_iff];simp[qY,kLo,kHi,qR,h1,h2,h3,h4,h5,h6,h7,h8,h9,h10,h11,hN,hT]))
  simp only[h1,h2,h3,h4,h5,h6,h7,h8,h9,h10,h11,Int.reduceEq,decide_true,decide_false,Bool.not_true,Bool.not_false,ge_iff_le,gt_iff_lt,z0,go_sem];by_cases hM:t.Num=0
  case neg=>
   simp only[decide_eq_false hM,h1,h2,h3,h4,h5,h6,h7,h8,h9,h10,h11,Int.reduceEq,decide_true,decide_false,Bool.not_true,Bool.not_false,ge_iff_le,gt_iff_lt,z0,go_sem];exact qE rfl (congrArg AV.bool (by rw[Bool.eq_iff_iff];simp[qY,kLo,kHi,qR,h1,h2,h3,h4,h5,h6,h7,h8,h9,h10,h11,hN,hT,hM]))
  simp only[decide_eq_true hM,h1,h2,h3,h4,h5,h6,h7,h8,h9,h10,h11,Int.reduceEq,decide_true,decide_false,Bool.not_true,Bool.not_false,ge_iff_le,gt_iff_lt,z0,go_sem];refine qH (j7 B1) ?_;simp only[h1,h2,h3,h4,h5,h6,h7,h8,h9,h10,h11,Int.reduceEq,decide_true,decide_false,Bool.not_true,Bool.not_false,ge_iff_le,gt_iff_lt,z0,go_sem];refine qH (j6 B1) ?_;simp only[h1,h2,h3,h4,h5,h6,h7,h8,h9,h10,h11,Int.reduceEq,decide_true,decide_false,Bool.not_true,Bool.not_false,ge_iff_le,gt_iff_lt,z0,go_sem];exact qE rfl (congrArg AV.bool (by rw[Bool.eq_iff_iff];simp only[qY,kLo,kHi,h1,h2,h3,h4,h5,h6,h7,h8,h9,h10,h11];simp;omega))
end Go.Ab
namespace Go.Ab
open Go
set_option maxRecDepth 10000
set_option maxHeartbeats 2000000
mutual
def qA.shp:qA->Nat×Nat×Bool
 |.mk k v n t ns ks=>match (if qY (.mk k v n t ns ks)then qA.shps (decide (k=9)) ks false 1 1 else none)with
  | none=>(0,0,false)
  | some (d,s)=>(d,s,true)
def qA.shps(m:Bool):List qA->Bool->Nat->Nat->Option (Nat×Nat)
 |[],_,d,s=>some (d,s)
 | x::xs,p,d,s=>if (decide (x.Kind=10)==(m&&p))then(match x.shp with
   | (d',s',ok)=>if ok then qA.shps m xs true (max d (d'+1)) (s+s')else none)
  else none
end
theorem qA.shp_eq(x:qA):x.shp=match (if qY x then qA.shps (decide (x.Kind=9)) x.Kids false 1 1 else none)with
  | none=>(0,0,false)
  | some (d,s)=>(d,s,true):=by cases x;rw[qA.shp];rfl
theorem qA.shps_eq{m p:Bool}{x:qA}{xs:List qA}{d s:Nat}:qA.shps m (x::xs) p d s=if (decide (x.Kind=10)==(m&&p))then(if x.shp.2.2 then qA.shps m xs true (max d (x.shp.1+1)) (s+x.shp.2.1)else none)else none:=by
 rw[qA.shps]
theorem qA.shps_le{m:Bool}:∀{xs:List qA}{p:Bool}{d s d1 s1:Nat},(∀y∈xs,y.shp.1<=y.shp.2.1/\y.shp.2.1<=y.nd/\(y.shp.2.2=true->1<=y.shp.2.1))->qA.shps m xs p d s=some (d1,s1)->d<=d1/\s<=s1/\s1<=s+qF qA.nd xs/\(d<=s->1<=s->d1<=s1)
 |[],p,d,s,d1,s1,_,h=>by simp only[qA.shps,oSi,Prod.mk.injEq]at h;simp only[qF];omega
 | x::xs,p,d,s,d1,s1,ih,h=>by
  rw[qA.shps_eq]at h;split at h
  ·split at h
   ·rename_i h2;have hx:=ih x (by simp);have:=qA.shps_le (fun y hy=>ih y (by simp[hy])) h;simp only[qF];have:=hx.2.2 h2;omega
   ·cases h
  ·cases h
theorem qA.shp_le:∀(x:qA),x.shp.1<=x.shp.2.1/\x.shp.2.1<=x.nd/\(x.shp.2.2=true->1<=x.shp.2.1):=qA.ind fun x ih=>by
 rw[qA.shp_eq,qA.nd_eq];split
 ·simp
 ·rename_i d s h;split at h
  ·have:=qA.shps_le ih h;simp only;omega
  ·cases h
mutual
def qA.nod:qA->Nat->Bool->Nat->Option Nat
 |.mk k v n t ns ks,d,c,l=>if d=0\/l=0 then none else if (decide (k=10)==c)then(if qY (.mk k v n t ns ks)then qA.nods (decide (k=9)) ks false (d-1) l 1 else none)else none
def qA.nods(m:Bool):List qA->Bool->Nat->Nat->Nat->Option Nat
 |[],_,_,_,n=>some n
 | x::xs,p,d,l,n=>match x.nod d (m&&p) (l-n)with
  | none=>none
  | some k=>qA.nods m xs true d l (n+k)
end
theorem qA.nod_eq(x:qA)(d:Nat)(c:Bool)(l:Nat):x.nod d c l=if d=0\/l=0 then none else if (decide (x.Kind=10)==c)then(if qY x then qA.nods (decide (x.Kind=9)) x.Kids false (d-1) l 1 else none)else none:=by cases x;rw[qA.nod];rfl
theorem qA.nods_shps{m:Bool}{e l:Nat}:∀{xs:List qA},(∀y∈xs,∀(c:Bool)(l:Nat),y.nod e c l=if y.shp.2.2=true/\y.shp.1<=e/\y.shp.2.1<=l/\(decide (y.Kind=10)==c)=true then some y.shp.2.1 else none)->∀{p:Bool}{d s:Nat},d<=e+1->s<=l->
  qA.nods m xs p e l s=match qA.shps m xs p d s with
   | none=>none
   | some (d1,s1)=>if d1<=e+1/\s1<=l then some s1 else none
 |[],_,p,d,s,hd,hs=>by simp[qA.nods,qA.shps,hd,hs]
 | x::xs,ih,p,d,s,hd,hs=>by
  have hx:=ih x (by simp);have hxs:=fun(d s:Nat)(q:d<=e+1)(q2:s<=l)=>qA.nods_shps (m:=m) (l:=l) (xs:=xs) (fun y hy=>ih y (by simp[hy])) (p:=true) (d:=d) (s:=s) q q2;have hq:∀{d s d1 s1},qA.shps m xs true d s=some (d1,s1)->d<=d1/\s<=s1:=fun h=>by
   have:=qA.shps_le (fun y _=>qA.shp_le y) h;omega
  simp only[qA.nods,qA.shps_eq,hx];generalize x.shp=pp;obtain⟨d',s',ok⟩:=pp;cases hc:(decide (x.Kind=10)==(m&&p))
  ·simp
  ·cases ok with
   | false=>simp
   | true=>
    simp only[true_and,if_true,and_true];by_cases h:d'<=e/\s'<=l-s
    ·rw[if_pos h];exact hxs _ _ (by omega) (by omega)
    ·rw[if_neg h];cases hz:qA.shps m xs true (max d (d'+1)) (s+s')with
     | none=>rfl
     | some p=>
      obtain⟨d1,s1⟩:=p;have:=hq hz;simp only;rw[if_neg (by omega)]
theorem qA.nod_shp:∀(x:qA)(d:Nat)(c:Bool)(l:Nat),x.nod d c l=if x.shp.2.2=true/\x.shp.1<=d/\x.shp.2.1<=l/\(decide (x.Kind=10)==c)=true then some x.shp.2.1 else none:=qA.ind fun x ih d c l=>by
 rw[qA.nod_eq];have hle:=qA.shp_le x;by_cases h0:d=0\/l=0
 ·rw[if_pos h0,if_neg];rintro⟨q1,q2,q3,_⟩;have:=hle.2.2 q1;rw[qA.shp_eq]at q1 q2 q3 this;split at q1
  ·cases q1
  ·rename_i d1 s1 h;rw[h]at q2 q3;split at h
   ·have:=qA.shps_le (fun y _=>qA.shp_le y) h;simp only at q2 q3;omega
   ·cases h
 rw[if_neg h0];cases hc:(decide (x.Kind=10)==c)
 ·simp
 rw[qA.shp_eq];cases hn:qY x
 ·simp
 simp only[if_true,and_true];rw[qA.nods_shps (d:=1) (fun y hy=>ih y hy (d-1)) (by omega) (by omega)];cases hz:qA.shps (decide (x.Kind=9)) x.Kids false 1 1 with
 | none=>simp
 | some p=>
  obtain⟨d1,s1⟩:=p;simp only[true_and];congr 1;apply propext;omega
def wF(x:qA):Bool:=x.shp.2.2&&(!decide (x.Kind=10)&&(decide (x.shp.1<=24)&&decide (x.shp.2.1<=160)))
theorem qdA(x:qA):wF x=decide (0<jH (x.nod 24 false 160)):=by
 rw[qA.nod_shp,wF];have:=qA.shp_le x;by_cases h1:x.shp.2.2=true
 ·have h2:=this.2.2 h1;by_cases h3:x.Kind=10
  ·simp[h1,h3,jH]
  ·by_cases h4:x.shp.1<=24/\x.shp.2.1<=160
   ·rw[if_pos ⟨h1,h4.1,h4.2,by simp[h3]⟩];simp[h1,h3,h4,jH];omega
   ·rw[if_neg fun q=>h4 ⟨q.2.1,q.2.2.1⟩];simp[h1,h3,jH];omega
 ·rw[if_neg fun q=>h1 q.1];simp[h1,jH]
theorem qaC{x:qA}{d l n:Nat}{c:Bool}(h:x.nod d c l=some n):1<=n/\n<=l:=by
 rw[qA.nod_shp]at h;split at h
 ·rename_i q;cases h;exact⟨(qA.shp_le x).2.2 q.1,q.2.2.1⟩
 ·cases h
theorem qRT{x:qA}(hb:x.bd)(hw:x.wz<=1048575):TB x/\(∀y∈x.Kids,y.bd/\y.wz<=1048575)/\x.Kids.length+qF qA.wz x.Kids<=1048575:=by
 rw[qA.bd_eq]at hb;rw[qA.wz_eq]at hw;have h1:=qB.nd_wz x.Typ;have h2:=qB.wz_eq x.Typ;have h3:∀xs:List qA,∀y∈xs,y.wz<=qF qA.wz xs:=fun xs=>by
  induction xs with
  | nil=>intro y hy;cases hy
  | cons z zs ih=>
   intro y hy;simp only[qF];rcases List.mem_cons.1 hy with rfl | hy
   ·omega
   ·have:=ih y hy;omega
 exact⟨⟨hb.1,hb.2.1,by omega,by omega,hb.2.2.1,by omega,by omega⟩,fun y hy=>⟨hb.2.2.2 y hy,by have:=h3 _ y hy;omega⟩,by omega⟩
theorem c445(x:qA):∀(hb:x.bd)(hn:x.wz<=1048575),Pure Gm 445 [x.enc] (.tup [.int .i64 (x.shp.1:Nat),.int .i64 (x.shp.2.1:Nat),.bool x.shp.2.2]):=by
 induction x using qA.ind with
 | _ x ih=>
 intro hb hn;refine Pure.intro [] [] g445 (by kernel_rfl) rfl (by simp[AV.trees,AV.tree,go_sem]) rfl ?_;simp only[YM,qI,go_sem];obtain⟨B,hk,hs⟩:=qRT hb hn;refine zZ qA.ln ?_;simp only[go_sem];have hq:=qA.shp_eq x;refine qH (c807 B) ?_;simp only[go_sem];cases ho:qY x
 ·simp only[Bool.not_false,go_sem];rw[ho]at hq;simp only[bFt,if_false]at hq;exact zO rfl (by rw[hq];rfl)
 simp only[Bool.not_true,go_sem];rw[ho,if_pos rfl]at hq;have e0:x.Kids.length<=1048575:=by omega
 have el:x.nd<=1048576:=by have:=qA.nd_wz x;omega
 have hnd:=qA.nd_eq x;refine Sem.loop (fun a:Nat×Nat×Nat=>a.1<=x.Kids.length/\a.2.1<=a.2.2/\1<=a.2.2/\a.2.2+qF qA.nd (x.Kids.drop a.1)<=1048576/\qA.shps (decide (x.Kind=9)) x.Kids false 1 1=qA.shps (decide (x.Kind=9)) (x.Kids.drop a.1) (decide (0<a.1)) a.2.1 a.2.2)
  (fun a=>(⟨[(2,.int .i64 (a.2.1:Nat)),(3,.int .i64 (a.2.2:Nat)),(14,.lst 8 (x.Kids.map qA.enc) false),(15,.int .i64 x.Kids.length),(16,.int .i64 (a.1:Nat))],[(1,x.enc)],[]⟩:VSt)) (fun a=>x.Kids.length-a.1) (0,1,1) (by kernel_rfl) ⟨nZl _,nLr _,nLr _,by simp only[List.drop_zero];omega,rfl⟩ (Can.sub (by simp[go_sem]) (by simp[go_sem])) ?_
 rintro⟨i,d,s⟩ ⟨hi,h1,h2,h3,hI⟩;simp only at hi h1 h2 h3 hI;simp only[go_sem];apply jR<;>intro hc<;>simp only[hc,go_sem]
 ·have hlt:i<x.Kids.length:=by have:=odT hc;omega
  simp only[gMp,gEg hlt,oMs,go_sem];refine qM rfl qA.ln (by exact⟨_,qA.enc_eq _⟩) (by decide) ?_;simp only[go_sem];have hm:=gMm hlt;have hd:x.Kids.drop i=x.Kids[i]::x.Kids.drop (i+1):=by simp
  rw[hd]at h3;simp only[qF]at h3;rw[hd,qA.shps_eq]at hI;have hi0:decide ((0:Int)<((i:Nat):Int))=decide (0<i):=by rw[decide_eq_decide];omega
  cases hc:(decide (x.Kids[i].Kind=10)==(decide (x.Kind=9)&&decide (0<i)))
  ·have hbad:qA.shps (decide (x.Kind=9)) x.Kids false 1 1=none:=by rw[hI,hc];rfl
   rw[hbad]at hq;by_cases k9:x.Kind=9
   ·simp only[decide_eq_true k9,gt_iff_lt,hi0,Bool.true_and,go_sem]at hc|-;simp only[hc,Bool.not_false,go_sem];exact zO rfl (by rw[hq];rfl)
   ·simp only[decide_eq_false k9,Bool.false_and,go_sem]at hc|-;simp only[hc,Bool.not_false,go_sem];exact zO rfl (by rw[hq];rfl)
  ·rw[hc,if_pos rfl]at hI;have hle:=qA.shp_le x.Kids[i];by_cases k9:x.Kind=9
   case' pos=>
    simp only[decide_eq_true k9,gt_iff_lt,hi0,Bool.true_and,go_sem]at hc|-
   case' neg=>
    simp only[decide_eq_false k9,Bool.false_and,go_sem]at hc|-
   all_goals
    simp only[hc,Bool.not_true,go_sem];refine qH (ih _ hm (hk _ hm).1 (hk _ hm).2) ?_;simp only[go_sem];cases hg:x.Kids[i].shp.2.2
    ·simp only[Bool.not_false];simp only[go_sem];rw[hg,if_neg (by decide)]at hI;rw[hI]at hq;exact zO rfl (by rw[hq];rfl)
    ·rw[hg,if_pos rfl]at hI;simp only[Bool.not_true];simp only[go_sem];simp only[qu (n:=((x.Kids[i].shp.1:Nat):Int)+1) (by omega) (by omega),qu (n:=(s:Int)+((x.Kids[i].shp.2.1:Nat):Int)) (by omega) (by omega)];have em:max ((d:Nat):Int) (((x.Kids[i].shp.1:Nat):Int)+1)=((max d (x.Kids[i].shp.1+1):Nat):Int):=by omega
     have es:(s:Int)+((x.Kids[i].shp.2.1:Nat):Int)=((s+x.Kids[i].shp.2.1:Nat):Int):=by omega
     rw[em,es];simp only[zM (show i<4611686018427387904 by omega)];have hp:=hle.2.2 hg;refine qx (i+1,max d (x.Kids[i].shp.1+1),s+x.Kids[i].shp.2.1) ⟨by simp only;omega,by simp only;omega,by simp only;omega,by simp only;omega, ?_⟩ (by simp only;omega) (Can.sub (by simp[go_sem]) (by simp[go_sem]))
     first | (rw[decide_eq_true k9]at*;rw[hI];simp) | (rw[decide_eq_false k9]at*;rw[hI];simp)
 ·obtain rfl:i=x.Kids.length:=by have:=odF hc;omega
  rw[List.drop_length,qA.shps]at hI;rw[hI]at hq;exact zO rfl (by rw[hq])
theorem c144{x:qA}(hb:x.bd)(hn:x.wz<=1048575):Pure Gm 144 [x.enc] (.bool (wF x)):=by
 refine Pure.intro [] [] g144 (by kernel_rfl) rfl (by simp[AV.trees,AV.tree,go_sem]) rfl ?_;simp only[Xd,qI,go_sem];refine zZ qA.ln ?_;simp only[go_sem];refine qH (c445 x hb hn) ?_;simp only[go_sem];have z1:decide (((x.shp.1:Nat):Int)<=24)=decide (x.shp.1<=24):=by rw[decide_eq_decide];omega
 have z2:decide (((x.shp.2.1:Nat):Int)<=160)=decide (x.shp.2.1<=160):=by rw[decide_eq_decide];omega
 cases h1:x.shp.2.2
 ·simp only[go_sem];exact qE rfl (by simp[wF,h1])
 simp only[go_sem];by_cases h2:x.Kind=10
 ·simp only[h2,decide_true,Bool.not_true,go_sem];exact qE rfl (by simp[wF,h2])
 simp only[decide_eq_false h2,Bool.not_false,z1,go_sem];by_cases h3:x.shp.1<=24
 ·simp only[decide_eq_true h3,z2,go_sem];exact qE rfl (by simp[wF,h1,h2,h3])
 ·simp only[decide_eq_false h3,go_sem];exact qE rfl (by simp[wF,h1,h2,h3])
end Go.Ab
namespace Go.Ab
open Go
set_option maxRecDepth 10000
set_option maxHeartbeats 2000000
def fzp(n id:Nat)(o:Option qD)(st:VSt):VSt:=match o with
 | some (.row w [v] true)=>if w=0 then st else{s:=(n,.ept v 0)::st.s,l:=st.l,h:=st.h.set id .dead}
 | _=>st
def fzo(n:Nat)(v:Option AV)(st:VSt):VSt:=match v with
 | none=>st
 | some (.ept _ _)=>st
 | some (.lst _ _ _)=>st
 | some (.int _ _)=>st
 | some (.bool _)=>st
 | some .nils=>st
 | some (.agg _)=>st
 | some (.ptr id 0 0)=>fzp n id st.h[id]? st
 | _=>JY n st
section
variable {n id:Nat} {s m:qf} {h:List qD} {v x:AV} {st:VSt}
@[go_sem] theorem qe2:JY n ⟨s,m,h⟩=fzo n (get s n) ⟨s,m,h⟩:=by
 unfold fzo;split<;>rename_i e<;>try (simp only[JY,e];done)
 ·simp only[JY,e,fzp];split<;>rename_i e2<;>simp only[e2]
  ·split<;>split<;>first | rfl | omega
@[go_sem] theorem qfB:get [] n=none:=nr rfl
@[go_sem] theorem qe7:fzo n none st=st:=nr rfl
@[go_sem] theorem qe3{j:Nat}:fzo n (some (.ept v j)) st=st:=nr rfl
@[go_sem] theorem qe5{w:Nat}{xs:List AV}{c:Bool}:fzo n (some (.lst w xs c)) st=st:=nr rfl
@[go_sem] theorem qe6:fzo n (some .nils) st=st:=nr rfl
@[go_sem] theorem qe4{k:IntKind}{i:Int}:fzo n (some (.int k i)) st=st:=nr rfl
@[go_sem] theorem qe8:fzo n (some (.ptr id 0 0)) ⟨s,m,h⟩=fzp n id h[id]? ⟨s,m,h⟩:=nr rfl
@[go_sem] theorem qe9{w:Nat}:fzp n id (some (.row w [v] true)) ⟨s,m,h⟩=if w=0 then⟨s,m,h⟩else⟨(n,.ept v 0)::s,m,h.set id .dead⟩:=nr rfl
end
theorem c728(x:qA):∀(d:Nat)(c:Bool)(l:Nat)(hd:d<=24)(hl:l<=160)(hb:x.bd)(hn:x.wz<=1048575),Pure Gm 728 [.ept x.enc 0,.int .i64 (d:Nat),.bool c,.int .i64 (l:Nat)] (.int .i64 (jH (x.nod d c l))):=by
 induction x using qA.ind with
 | _ x ih=>
 intro d c l hd hl hb hn;refine Pure.intro [] [] g728 (by kernel_rfl) rfl (by simp[AV.trees,AV.tree,go_sem]) rfl ?_;simp only[Yc,qI,go_sem];obtain⟨B,hk,hs⟩:=qRT hb hn;have hq:=qA.nod_eq x d c l;refine qH qSX ?_;simp only[go_sem];by_cases h0:d=0
 ·have e0:decide (((d:Nat):Int)<1)=true:=decide_eq_true (by omega);simp only[e0,go_sem];exact qE rfl (by rw[hq,if_pos (.inl h0)];rfl)
 have e0:decide (((d:Nat):Int)<1)=false:=decide_eq_false (by omega);simp only[e0,go_sem];by_cases h1:l=0
 ·have e1:decide (((l:Nat):Int)<1)=true:=decide_eq_true (by omega);simp only[e1,go_sem];exact qE rfl (by rw[hq,if_pos (.inr h1)];rfl)
 have e1:decide (((l:Nat):Int)<1)=false:=decide_eq_false (by omega);simp only[e1,go_sem];rw[if_neg (by omega)]at hq;cases hc:(decide (x.Kind=10)==c)
 ·simp only[Bool.not_false,go_sem];exact qE rfl (by rw[hq,hc];rfl)
 rw[hc,if_pos rfl]at hq;simp only[Bool.not_true,go_sem];refine qH Zz ?_;simp only[go_sem];cases hki:(decide (kLo x.Kind<=((x.Kids.length:Nat):Int))&&decide (((x.Kids.length:Nat):Int)<=kHi x.Kind))
 ·simp only[Bool.not_false,go_sem];exact qE rfl (by rw[hq,qY,hki];rfl)
 simp only[Bool.not_true,go_sem];refine qH (qSY B) ?_;simp only[go_sem];rw[qY,hki,Bool.true_and]at hq;cases hf:qR x
 ·simp only[Bool.not_false,go_sem];exact qE rfl (by rw[hq,hf];rfl)
 rw[hf,if_pos rfl]at hq;simp only[Bool.not_true,go_sem];have e2:x.Kids.length<=1048575:=by omega
 refine Sem.loop (fun a:Nat×Nat=>a.1<=x.Kids.length/\1<=a.2/\a.2<=l/\qA.nods (decide (x.Kind=9)) x.Kids false (d-1) l 1=qA.nods (decide (x.Kind=9)) (x.Kids.drop a.1) (decide (0<a.1)) (d-1) l a.2)
  (fun a=>(⟨[(0,.ept x.enc 0),(1,.int .i64 (d:Nat)),(3,.int .i64 (l:Nat)),(11,.int .i64 (a.2:Nat)),(12,.int .i64 (a.1:Nat))],[],[]⟩:VSt)) (fun a=>x.Kids.length-a.1) (0,1) (by kernel_rfl) ⟨nZl _,nLr _,by simp only;omega,rfl⟩ (Can.sub (by simp[go_sem]) (by simp[go_sem])) ?_
 rintro⟨i,n⟩ ⟨hi,h2,h3,hI⟩;simp only at hi h2 h3 hI;simp only[lMp,go_sem];by_cases hlt:i<x.Kids.length
 ·have e3:decide ((i:Int)<(x.Kids.length:Nat))=true:=decide_eq_true (by omega);simp only[e3,gMp,gEg hlt,oMs,go_sem];have hm:=gMm hlt;have hdr:x.Kids.drop i=x.Kids[i]::x.Kids.drop (i+1):=by simp
  rw[hdr,qA.nods]at hI;have hi0:decide ((0:Int)<((i:Nat):Int))=decide (0<i):=by rw[decide_eq_decide];omega
  have ed:((d:Nat):Int)-1=((d-1:Nat):Int):=by omega
  have el:((l:Nat):Int)-((n:Nat):Int)=((l-n:Nat):Int):=by omega
  have IH:=ih _ hm (d-1) (decide (x.Kind=9)&&decide (0<i)) (l-n) (by omega) (by omega) (hk _ hm).1 (hk _ hm).2;by_cases k9:x.Kind=9
  case' pos=>
   simp only[decide_eq_true k9,gt_iff_lt,hi0,Bool.true_and,go_sem]at hI IH|-
  case' neg=>
   simp only[decide_eq_false k9,Bool.false_and,go_sem]at hI IH|-
  all_goals
   simp only[ed,el,qu (n:=((d-1:Nat):Int)) (by omega) (by omega),qu (n:=((l-n:Nat):Int)) (by omega) (by omega),go_sem];refine qH IH ?_;generalize hr:x.Kids[i].nod (d-1) _ (l-n)=r at hI|-;cases r with
   | none=>
    simp only at hI;have e4:decide ((-1:Int)<0)=true:=rfl;simp only[jH,e4,go_sem];exact qE rfl (by rw[hq];first | rw[hI] | (rw[decide_eq_true k9,hI]) | (rw[decide_eq_false k9,hI]))
   | some k=>
    have hin:=qaC hr;simp only at hI;have e4:decide (((k:Nat):Int)<0)=false:=decide_eq_false (by omega);have es:((n:Nat):Int)+((k:Nat):Int)=((n+k:Nat):Int):=by omega
    simp only[jH,e4,es,qu (n:=((n+k:Nat):Int)) (by omega) (by omega),zM (show i<4611686018427387904 by omega),go_sem];refine qx (i+1,n+k) ⟨by simp only;omega,by simp only;omega,by simp only;omega, ?_⟩ (by simp only;omega) (Can.sub (by simp[go_sem]) (by simp[go_sem]))
    first | (rw[decide_eq_true k9]at*;rw[hI];simp) | (rw[decide_eq_false k9]at*;rw[hI];simp)
 ·have e3:decide ((i:Int)<(x.Kids.length:Nat))=false:=decide_eq_false (by omega);simp only[e3,go_sem];obtain rfl:i=x.Kids.length:=by omega
  rw[List.drop_length,qA.nods]at hI;exact qE rfl (by rw[hq,hI];rfl)
theorem c350{x:qA}(hb:x.bd)(hn:x.wz<=1048575):Pure Gm 350 [.ept x.enc 0] (.bool (wF x)):=by
 refine Pure.intro [] [] g350 (by kernel_rfl) rfl (by simp[AV.trees,AV.tree,go_sem]) rfl ?_;simp only[YH,qI,go_sem];refine qH (c728 x 24 false 160 (by decide) (by decide) hb hn) ?_;simp only[go_sem];exact qE rfl (by rw[qdA])
theorem c98{x:qA}(hb:x.bd)(hn:x.wz<=1048575):Pure Gm 98 [x.enc] (.bool (wF x)):=by
 refine Pure.intro [1] [] g98 (by kernel_rfl) rfl (by simp[AV.trees,AV.tree,go_sem]) rfl ?_;simp only[F98,qI,go_sem];refine WG qA.ln ?_;simp only[lNa,lSz,go_sem];refine qH (c350 hb hn) ?_;simp only[go_sem];exact qE rfl rfl
end Go.Ab
namespace Go.Ab
open Go
set_option maxRecDepth 10000
set_option maxHeartbeats 2000000
theorem qcU{t:Str}{i:Nat}(hk:(zF t i).1≠0):Q8 (jO t i):=by
 intro h4;by_cases hp:0<(qe t i).length
 ·have e:=kG hp;have ets:j4 t i=jO t i:=by unfold j4;rw[if_neg hk]
  rw[ets]at e;have et:(jO t i).Text=qe t i:=by rw[e]
  rw[et];have ee:=UD hp;have h4':(zF t i).1=4:=h4;refine⟨?_,fun q=>by rw[q]at hp;simp at hp⟩;rw[ee]at h4';split at h4'
  ·simp at h4'
  ·split at h4'
   ·simp at h4'
   ·split at h4'
    ·simp at h4'
    ·split at h4'
     ·assumption
     ·simp at h4'
 ·exfalso;have h4':(zF t i).1=4:=h4;unfold zF at h4';rw[if_neg hp]at h4';split at h4'
  ·simp at h4'
  ·split at h4'<;>simp at h4'
theorem kI{t:Str}:∀(f:Nat){i:Nat}{acc l:List qL},ji t f i acc=.ok l->(∀x∈acc,Q8 x)->∀x∈l,Q8 x
 | 0,i,acc,l,h,hx=>by simp only[ji,Except.ok.injEq]at h;subst h;exact hx
 | f+1,i,acc,l,h,hx=>by
  simp only[ji]at h;split at h
  ·split at h
   ·exact kI f h hx
   ·split at h
    ·cases h
    ·rename_i hk;refine kI f h fun x hm=> ?_;rcases jG.1 hm with hm | hm
     ·exact hx x hm
     ·simp only[lMg]at hm;subst hm;exact qcU hk
  ·simp only[Except.ok.injEq]at h;subst h;exact hx
theorem qcX{t:Str}:∀x∈(qZ t).1,Q8 x:=by
 unfold qZ;split
 ·exact fun x hx=>by simp at hx
 ·split
  ·exact fun x hx=>by simp at hx
  ·rename_i l h;exact kI _ h (fun x hx=>by simp at hx)
theorem Ko{t:Str}:zG (qZ t).1:=⟨by have:=UE (t:=t);omega,qcZ,qcX,qcY⟩
def zx(t:Str):qA×Int×Int:=if (qZ t).2.2=0 then
  (match pM (qZ t).1 (mJ (qZ t).1 .term 0) .term 0 with
  |.error b=>(jb,(nxt (qZ t).1 b t.length).At,6)
  |.ok (x,b)=>if b<(qZ t).1.length then(jb,(nxt (qZ t).1 b t.length).At,6)else if wF x then(x,0,0)else(jb,0,1))
 else(jb,(qZ t).2.1,(qZ t).2.2)
def jg(t:Str):AV:=.tup [(zx t).1.enc,.int .i64 (zx t).2.1,.int .i64 (zx t).2.2]
theorem qOD:∀{xs:List Str},AV.pls (xs.map qQ)=true
 |[]=>rfl
 | x::xs=>by simp only[lMc,AV.pls,qQ,AV.pl,qOD (xs:=xs),Bool.and_self]
theorem qOC:∀{xs:List Str},AV.cns (xs.map qQ)=true
 |[]=>rfl
 | x::xs=>by simp only[lMc,AV.cns,qQ,AV.cn,qOC (xs:=xs),Bool.and_self]
theorem qA.plx:∀x:qA,x.enc.pl=true:=qA.ind fun x ih=>by
 rw[qA.enc_eq];simp[AV.pl,AV.pls,Vy ih,qOD,Vy (fun y _=>qB.plx y)]
theorem qA.cnx:∀x:qA,x.enc.cn=true:=qA.ind fun x ih=>by
 rw[qA.enc_eq];simp[AV.cn,AV.cns,VE ih,qOC,VE (fun y _=>qB.cnx y)]
theorem qaW{t:Str}:(jg t).pl=true:=by simp[jg,AV.pl,AV.pls,qA.plx]
theorem qQI{S:List (Option Nat)}{h:List qD}{v:AV}{x:qA}{a c:Int}(o:qj S h v x.enc):qj S h (.tup [v,.int .i64 a,.int .i64 c]) (.tup [x.enc,.int .i64 a,.int .i64 c]):=by
 have h1:=o.one.scal (a:=.int .i64 a) (fun _=>rfl) rfl rfl;have h2:=h1.scal (a:=.int .i64 c) (fun _=>rfl) rfl rfl;exact h2.tup
theorem qQL{h:List qD}:∃S,qj S h (.agg [.int .i64 0,.int .i64 0,.str [],.int .i64 0,.str [],.nils,.nils,.nils]) jb.enc:=by
 obtain⟨S,q,_⟩:=Jj (b:=0) (u:=0) (h:=h) (k:=0) (n:=0) (s:=[]) (nLr _);exact⟨S,q⟩
theorem UO{h:List qD}{t:Str}{a c:Int}(e:zx t=(jb,a,c)):∃S,qj S h (.tup [.agg [.int .i64 0,.int .i64 0,.str [],.int .i64 0,.str [],.nils,.nils,.nils],.int .i64 a,.int .i64 c]) (jg t):=by
 obtain⟨S,q⟩:=qQL (h:=h);exact⟨S,by unfold jg;rw[e];exact qQI q⟩
theorem Kt{toks:List qL}(K:zG toks)(hl:toks.length<=20000){f:Nat}{x:qA}{b:Nat}(h:pM toks f .term 0=.ok (x,b)):x.bd/\x.wz<=1048575:=by
 obtain⟨_,p2,p3,p4⟩:=jn K.x f .term 0 trivial (nZl _) h;exact⟨p3,by simp only[Jb.bs]at p4;omega⟩
theorem qTB{t:Str}:SCall Gm 510 [.str t,.fn 511 [],.fn 144 []] [] fun v h'=>∃S,qj S h' v (jg t):=by
 refine SCall.try g510 rfl (by kernel_rfl) ?_;simp only[Y0,qI,go_sem];refine qH c266 ?_;simp only[go_sem];by_cases hc:(qZ t).2.2=0
 case neg=>
  simp only[decide_eq_false hc,Bool.not_false,go_sem];refine qM rfl rfl ⟨_,rfl⟩ (by decide) ?_;simp only[go_sem];exact UO (by rw[zx,if_neg hc])
 simp only[decide_eq_true hc,Bool.not_true,go_sem];refine⟨by simp[get],by first | rfl | trivial, ?_⟩;refine WG rfl ?_;simp only[go_sem];have hl:=UE (t:=t);have K:=Ko (t:=t);have er:zx t=match pM (qZ t).1 (mJ (qZ t).1 .term 0) .term 0 with
  |.error b=>(jb,(nxt (qZ t).1 b t.length).At,6)
  |.ok (x,b)=>if b<(qZ t).1.length then(jb,(nxt (qZ t).1 b t.length).At,6)else if wF x then(x,0,0)else(jb,0,1):=by rw[zx,if_pos hc]
 generalize (qZ t).1=toks at*;refine qb (((allI (e:=t.length) (id:=0) K _).term 0 _ (nLr _) (nZl _) rfl).mono ?_ ?_)
 ·rintro v h1 ⟨x,b,q1,q2,q3⟩;rw[q1]at er;simp only at er;obtain⟨a0,a1,a2,a3,a4,a5,a6,a7,rfl⟩:=q3.shape;obtain⟨S,q3,_⟩:=q3;have ho:=q2.at';unfold prI at ho;simp only[go_sem];refine qM rfl rfl ⟨_,rfl⟩ (by decide) ?_;simp only[go_sem,ho,oMs,lMp];by_cases hlt:b<toks.length
  ·rw[if_pos hlt]at er;refine qc4 (congrArg (fun q=>some (AV.bool q)) (decide_eq_true (by omega))) ?_;simp only[go_sem];refine qb ((WS q2.at').mono (fun _ _ q=>q.elim) ?_);rintro v2 h2 ⟨rfl,rfl⟩;rw[qaT];refine qR2 rfl rfl ?_;simp only[go_sem];refine qM rfl rfl ⟨_,rfl⟩ (by decide) ?_;simp only[go_sem];exact UO er
  ·rw[if_neg hlt]at er;refine qc3 (congrArg (fun q=>some (AV.bool q)) (decide_eq_false (by omega))) ?_;simp only[go_sem];obtain⟨g1,g2⟩:=Kt K hl q1;refine QT (vs':=[x.enc]) (Cvs.cons (q3.cv (qA.cnx x)) Cvs.nil) (c144 g1 g2) rfl ?_;simp only[go_sem];cases hv:wF x
   ·rw[hv]at er;simp only[Bool.not_false,go_sem];refine qM rfl rfl ⟨_,rfl⟩ (by decide) ?_;simp only[go_sem];exact UO er
   ·rw[hv]at er;simp only[Bool.not_true,go_sem];refine qM rfl rfl ⟨_,rfl⟩ (by decide) ?_;simp only[go_sem];exact⟨S,by unfold jg;rw[er];exact qQI q3⟩
 ·rintro v h1 ⟨b,q1,rfl⟩;rw[q1]at er;simp only at er;rw[qc2];refine qR2 rfl rfl ?_;simp only[go_sem];refine qM rfl rfl ⟨_,rfl⟩ (by decide) ?_;simp only[go_sem];exact UO er
theorem qaQ{S:List (Option Nat)}{h:List qD}{v:AV}{x:qA}{a c:Int}(o:qj S h v (.tup [x.enc,.int .i64 a,.int .i64 c])):∃a0 a1 a2 a3 a4 a5 a6 a7,v=.tup [.agg [a0,a1,a2,a3,a4,a5,a6,a7],.int .i64 a,.int .i64 c]:=by
 have q:=o.v;simp only[lay]at q;obtain⟨cs,hcs,p⟩:=q.tups;clear q;rw[qA.enc_eq]at p;simp only[qP,lay]at p;have hl:=p.1
 match cs,hl,p,hcs with
 |[u0,u1,u2],_,p,hcs=>
  obtain⟨p0,p'⟩:=p.hd;obtain⟨p1,p''⟩:=p'.hd;obtain⟨p2,_⟩:=p''.hd;obtain⟨ds,hds,r0⟩:=p0.aggs;have hl:=r0.1;have e1:=p1.int;have e2:=p2.int;subst e1;subst e2;subst hds;subst hcs
  match ds,hl with
  |[y0,y1,y2,y3,y4,y5,y6,y7],_=>exact⟨y0,y1,y2,y3,y4,y5,y6,y7,rfl⟩
theorem n190{t:Str}:Fresh Gm 190 [.str t] (jg t):=by
 refine Fresh.ofS rfl qaW ?_;refine SCall.run [] [] g190 (by kernel_rfl) rfl ?_;simp only[X3,qI,go_sem];refine qT (qTB.mono ?_);rintro v h' ⟨S,q⟩;obtain⟨a0,a1,a2,a3,a4,a5,a6,a7,rfl⟩:=qaQ (by unfold jg at q;exact q);simp only[go_sem];refine qM rfl rfl ⟨_,rfl⟩ (by decide) ?_;simp only[go_sem];exact⟨S,q⟩
theorem c189{t:Str}:Pure Gm 189 [.str t] (jg t):=by
 refine Pure.intro [] [] g189 (by kernel_rfl) rfl (by simp[AV.trees,AV.tree,go_sem]) (by simp[jg,AV.tree,AV.trees,qA.trx]) ?_;simp only[X2,qI,go_sem];have er0:zx t=if (qZ t).2.2=0 then
  (match pM (qZ t).1 (mJ (qZ t).1 .term 0) .term 0 with
  |.error b=>(jb,(nxt (qZ t).1 b t.length).At,6)
  |.ok (x,b)=>if b<(qZ t).1.length then(jb,(nxt (qZ t).1 b t.length).At,6)else if wF x then(x,0,0)else(jb,0,1))
  else(jb,(qZ t).2.1,(qZ t).2.2):=rfl
 have zz:∀{h:List qD}{a c:Int},Cv h (.tup [.agg [.int .i64 0,.int .i64 0,.str [],.int .i64 0,.str [],.nils,.nils,.nils],.int .i64 a,.int .i64 c]) (.tup [jb.enc,.int .i64 a,.int .i64 c]):=fun{h a c}=>by
  obtain⟨S,q⟩:=qQL (h:=h);exact Cvs.tup (Cvs.cons (q.cv (qA.cnx jb)) (Cvs.cons (.refl rfl) (Cvs.cons (.refl rfl) Cvs.nil)))
 refine qT (n358.mono ?_);intro v h' hq;by_cases hc:(qZ t).2.2=0
 case neg=>
  rw[if_neg hc]at hq er0;obtain⟨rfl,rfl⟩:=hq;simp only[decide_eq_false hc,Bool.not_false,go_sem];refine qM rfl rfl ⟨_,rfl⟩ (by decide) ?_;simp only[go_sem];refine wm ?_;unfold jg;rw[er0];exact zz
 rw[if_pos hc]at hq er0;obtain⟨rfl,rfl⟩:=hq;have K:=Ko (t:=t);simp only[decide_true,Bool.not_true,go_sem];refine qT (((allS (id:=0) K _).term 0 false _ (nLr _) (nZl _) rfl).mono ?_);rintro v h1 ⟨x,b,bad,q1,_,_,q2,q3⟩;rw[zA]at q1;obtain⟨a0,a1,a2,a3,a4,a5,a6,a7,rfl⟩:=q3.shape;obtain⟨S,q3,_⟩:=q3;simp only[go_sem];refine qM rfl rfl ⟨_,rfl⟩ (by decide) ?_;simp only[go_sem];refine qa rfl (n360 q2.at' K.l) ?_;have hbad:wk (qZ t).1 b bad=true->zx t=(jb,(nxt (qZ t).1 b t.length).At,6):=fun q=>by
  rw[er0];cases e:pM (qZ t).1 (mJ (qZ t).1 .term 0) .term 0 with
  | ok y=>
   rw[e]at q1;obtain⟨rfl,rfl,rfl⟩:=q1;have:y.2<(qZ t).1.length:=by simpa[wk]using q
   simp only[this,if_true]
  | error b'=>
   rw[e]at q1;obtain⟨rfl,rfl⟩:=q1;rfl
 cases hd:wk (qZ t).1 b bad
 case true=>
  have er:=hbad hd;simp only[if_true,go_sem,show decide ((6:Int)=0)=false from rfl,Bool.not_false];refine qM rfl rfl ⟨_,rfl⟩ (by decide) ?_;simp only[go_sem];refine wm ?_;unfold jg;rw[er];exact zz
 case false=>
 have er:pM (qZ t).1 (mJ (qZ t).1 .term 0) .term 0=.ok (x,b)/\¬b<(qZ t).1.length:=by
  cases e:pM (qZ t).1 (mJ (qZ t).1 .term 0) .term 0 with
  | ok y=>
   rw[e]at q1;obtain⟨rfl,rfl,rfl⟩:=q1;exact⟨rfl,by simpa[wk]using hd⟩
  | error b'=>
   rw[e]at q1;obtain⟨rfl,rfl⟩:=q1;simp[wk]at hd
 rw[er.1]at er0;simp only at er0;rw[if_neg er.2]at er0;obtain⟨g1,g2⟩:=Kt K UE er.1;simp only[bFt,if_false,go_sem,show decide ((0:Int)=0)=true from rfl,Bool.not_true];refine QT (vs':=[x.enc]) (Cvs.cons (q3.cv (qA.cnx x)) Cvs.nil) (c98 g1 g2) rfl ?_;simp only[go_sem];cases hv:wF x
 ·rw[hv]at er0;simp only[Bool.not_false,go_sem];refine qM rfl rfl ⟨_,rfl⟩ (by decide) ?_;simp only[go_sem];refine wm ?_;unfold jg;rw[er0];exact zz
 ·rw[hv]at er0;simp only[Bool.not_true,go_sem];refine qM rfl rfl ⟨_,rfl⟩ (by decide) ?_;simp only[go_sem];refine wm ?_;unfold jg;rw[er0];exact Cvs.tup (Cvs.cons (q3.cv (qA.cnx x)) (Cvs.cons (.refl rfl) (Cvs.cons (.refl rfl) Cvs.nil)))
end Go.Ab
namespace Go.Ab
open Go
set_option maxRecDepth 10000
set_option maxHeartbeats 4000000
def mkS(_:Str)(k:Int):Str:=zb k
def ctS(_:Str):Nat:=1
theorem Z2(xs:List Str):qF ctS xs=xs.length:=by
 induction xs with
 | nil=>rfl
 | cons x xs ih=>simp only[qF,ih,ctS,lCo];omega
theorem lS(xs:List Str)(n:Nat):qP (xs.map qQ) n=(xs.map qQ,[]):=by
 induction xs with
 | nil=>rfl
 | cons x xs ih=>simp only[lMc,qP];rw[show lay (qQ x) n=(qQ x,[])from rfl];simp only[lNi,nAz,ih,lNa]
theorem k514(xs:List Str)(k:Int)(h0:0<=k)(hk:k+(qF ctS xs:Nat)<=4611686018427387904)(hz:xs.length<=4194304):
  Mark Gm 514 (.lst 1 (xs.map qQ) false) (.lst 1 ((mkL mkS ctS xs k).map qQ) false) k (k+(qF ctS xs:Nat)):=by
 rw[Z2]at hk|-;refine Mark.intro g514 (by kernel_rfl) rfl (Qp (fun _=>rfl) xs) (Qp (fun _=>rfl) _) (by simp only[AV.rows,qt mkS ctS (enc:=qQ) (fun _ _=>rfl)]) ?_;simp only[YQ,qI,lay,lS,go_sem,lMp];refine Sem.loop (fun i:Nat=>i<=xs.length) (fun i=>(⟨[(0,.slice 1 0 0 xs.length false),(1,.int .i64 (k+(i:Nat))),(5,.int .i64 (i:Nat))],[],[.row 1 ((mkL mkS ctS (xs.take i) k).map qQ++(xs.drop i).map qQ) true]⟩:VSt)) (fun i=>xs.length-i) 0
  (by kernel_rfl) (nZl _) (by simp only[List.take_zero,mkL,List.map_nil,lNa,List.drop_zero,Int.ofNat_zero,Int.natCast_zero,Int.add_zero];exact Can.sub (by simp[go_sem]) (by simp[go_sem])) ?_
 intro i hi;simp only[go_sem];apply jR<;>intro hc<;>simp only[hc,go_sem]
 ·have hlt:i<xs.length:=by have:=odT hc;omega
  have hA:((mkL mkS ctS (xs.take i) k).map qQ).length=i:=by rw[lMp,jz];simp;omega
  rw[lDc hlt,lMc];refine qH (J0 (by omega)) ?_;simp only[jC hlt,nZa,go_sem];refine jA (v:=.str (zb (k+(i:Nat)))) (e':=.str (zb (k+(i:Nat)))) (by rfl) (by rfl) (zX hA) (by rfl) ?_;simp only[lSz,jE hA,go_sem];rw[qu (n:=k+(i:Nat)+1) (by omega) (by omega)];simp only[zM (show i<4611686018427387904 by omega),go_sem];refine qx (i+1) (by omega) (by omega) ?_;have e:mkL mkS ctS (xs.take (i+1)) k=mkL mkS ctS (xs.take i) k++[zb (k+(i:Nat))]:=by
   rw[Kg _ _ hlt,Z2,lLt,show min i xs.length=i by omega];rfl
  rw[e,lMa,lAa];simp only[Int.natCast_add,Int.cast_ofNat_Int,<-Int.add_assoc];exact Can.sub (by simp[go_sem]) (by simp[go_sem])
 ·have hge:i=xs.length:=by have:=odF hc;omega
  subst hge;refine WC rfl ?_;rw[lTl,List.drop_length,List.map_nil,lAn]
theorem q516(xs:List Str)(k:Int)(h0:0<=k)(hk:k+(qF ctS xs:Nat)<=4611686018427387904)(hz:xs.length<=4194304):
  Pure Gm 516 [.lst 1 ((mkL mkS ctS xs k).map qQ) false,.int .i64 k] (.int .i64 (k+(qF ctS xs:Nat))):=by
 rw[Z2]at hk|-;refine Pure.intro [] [] g516 (by kernel_rfl) rfl (by simp[AV.trees,AV.tree,jU shS.tree]) rfl ?_;simp only[YS,qI,go_sem,lMp];refine Sem.loop (fun i:Nat=>i<=xs.length) (fun i=>(⟨[(0,.lst 1 ((mkL mkS ctS xs k).map qQ) false),(1,.int .i64 (k+(i:Nat))),(5,.int .i64 (i:Nat))],[],[]⟩:VSt)) (fun i=>xs.length-i) 0
  (by kernel_rfl) (nZl _) (by simp only[Int.ofNat_zero,Int.natCast_zero,Int.add_zero];exact Can.sub (by simp[go_sem]) (by simp[go_sem])) ?_
 intro i hi;simp only[go_sem,lMp,jz];apply jR<;>intro hc<;>simp only[hc,go_sem]
 ·have hlt:i<xs.length:=by have:=odT hc;omega
  have hget:=Kf mkS ctS hlt k;rw[Z2,lLt,show min i xs.length=i by omega]at hget;simp only[gMp,hget,oMs,mkS,qQ,go_sem,decide_true,Bool.not_true];refine qH (J0 (by omega)) ?_;simp only[gMp,hget,oMs,mkS,qQ,go_sem,decide_true,Bool.not_true];rw[qu (n:=k+(i:Nat)+1) (by omega) (by omega)];simp only[zM (show i<4611686018427387904 by omega),go_sem];refine qx (i+1) (by omega) (by omega) ?_;simp only[Int.natCast_add,Int.cast_ofNat_Int,<-Int.add_assoc];exact Can.sub (by simp[go_sem]) (by simp[go_sem])
 ·have hge:i=xs.length:=by have:=odF hc;omega
  subst hge;exact qE rfl rfl
theorem qA.layE(x:qA)(n:Nat):lay x.enc n=(.agg [.int .i64 x.Kind,.int .i64 x.Num,.str x.Name,.int .i64 x.Typ.Kind,.str x.Typ.Name,.slice 3 (n) 0 x.Typ.Kids.length false,.slice 1 (n+AV.rows (.lst 3 (x.Typ.Kids.map qB.enc) false)) 0 x.Names.length false,.slice 8 (n+AV.rows (.lst 3 (x.Typ.Kids.map qB.enc) false)+AV.rows (.lst 1 (x.Names.map qQ) false)) 0 x.Kids.length false],(lay (.lst 3 (x.Typ.Kids.map qB.enc) false) (n)).2++((lay (.lst 1 (x.Names.map qQ) false) (n+AV.rows (.lst 3 (x.Typ.Kids.map qB.enc) false))).2++((lay (.lst 8 (x.Kids.map qA.enc) false) (n+AV.rows (.lst 3 (x.Typ.Kids.map qB.enc) false)+AV.rows (.lst 1 (x.Names.map qQ) false))).2++[]))):=by
 rw[qA.enc_eq];simp[lay,qP,jT,AV.rows,Nat.add_assoc,Nat.add_comm,Nat.add_left_comm]
theorem qA.rowsE(x:qA):x.enc.rows=AV.rows (.lst 3 (x.Typ.Kids.map qB.enc) false)+AV.rows (.lst 1 (x.Names.map qQ) false)+AV.rows (.lst 8 (x.Kids.map qA.enc) false):=by rw[qA.enc_eq];simp[AV.rows,AV.rowss,Nat.add_assoc]
mutual
def qA.ct:qA->Nat
 |.mk _ _ _ t ns ks=>1+1+1+1+1+qF qB.ct t.Kids+qF ctS ns+qA.cts ks
def qA.cts:List qA->Nat
 |[]=>0
 | x::xs=>x.ct+qA.cts xs
end
theorem qA.cts_eq:∀xs,qA.cts xs=qF qA.ct xs
 |[]=>rfl
 | x::xs=>by simp only[qA.cts,qF,qA.cts_eq xs]
theorem qA.ct_eq(x:qA):x.ct=1+1+1+1+1+qF qB.ct x.Typ.Kids+qF ctS x.Names+qF qA.ct x.Kids:=by
 cases x;rw[qA.ct,qA.cts_eq];rfl
theorem qTV(xs:List qB):qF qB.ct xs=2*(xs.length+qF qB.wz xs):=by
 induction xs with
 | nil=>rfl
 | cons x xs ih=>have:=x.nd_wz;simp only[qF,ih,lCo];unfold qB.ct;omega
theorem qA.ctle:∀x:qA,x.ct<=5+5*x.wz:=qA.ind fun x ih=>by
 have h:∀xs:List qA,(∀y∈xs,y.ct<=5+5*y.wz)->qF qA.ct xs<=5*(xs.length+qF qA.wz xs):=fun xs=>by
  induction xs with
  | nil=>intro _;simp[qF]
  | cons y ys ihy=>intro h;have:=ihy fun z hz=>h z (by simp[hz]);have:=h y (by simp);simp only[qF,lCo];omega
 have h1:=h x.Kids ih;have h2:=qTV x.Typ.Kids;have h3:=qB.wz_eq x.Typ;rw[qA.ct_eq,qA.wz_eq,Z2];omega
mutual
def qA.mrk:qA->Int->qA
 |.mk _ _ _ t ns ks,k=>.mk k (k+1) (zb (k+1+1)) (.mk (k+1+1+1) (zb (k+1+1+1+1)) (mkL qB.mrk qB.ct t.Kids (k+1+1+1+1+1))) (mkL mkS ctS ns (k+1+1+1+1+1+((qF qB.ct t.Kids:Nat):Int))) (qA.mrks ks (k+1+1+1+1+1+((qF qB.ct t.Kids:Nat):Int)+((qF ctS ns:Nat):Int)))
def qA.mrks:List qA->Int->List qA
 |[],_=>[]
 | x::xs,k=>x.mrk k::qA.mrks xs (k+x.ct)
end
theorem qA.mrks_eq:∀xs k,qA.mrks xs k=mkL qA.mrk qA.ct xs k
 |[],k=>by simp[qA.mrks,mkL]
 | x::xs,k=>by simp[qA.mrks,mkL,qA.mrks_eq xs]
theorem qA.mrk_eq(x:qA)(k:Int):x.mrk k=.mk k (k+1) (zb (k+1+1)) (.mk (k+1+1+1) (zb (k+1+1+1+1)) (mkL qB.mrk qB.ct x.Typ.Kids (k+1+1+1+1+1))) (mkL mkS ctS x.Names (k+1+1+1+1+1+((qF qB.ct x.Typ.Kids:Nat):Int))) (mkL qA.mrk qA.ct x.Kids (k+1+1+1+1+1+((qF qB.ct x.Typ.Kids:Nat):Int)+((qF ctS x.Names:Nat):Int))):=by
 cases x;simp[qA.mrk,qA.mrks_eq,qA.Kids,qA.Typ,qA.Names]
theorem qA.mrkK(x:qA)(k:Int):(x.mrk k).Kind=k:=by rw[qA.mrk_eq];rfl
theorem qA.mrkN(x:qA)(k:Int):(x.mrk k).Num=k+1:=by rw[qA.mrk_eq];rfl
theorem qA.mrkV(x:qA)(k:Int):(x.mrk k).Name=zb (k+1+1):=by rw[qA.mrk_eq];rfl
theorem qA.mrkTK(x:qA)(k:Int):(x.mrk k).Typ.Kind=k+1+1+1:=by rw[qA.mrk_eq];rfl
theorem qA.mrkTV(x:qA)(k:Int):(x.mrk k).Typ.Name=zb (k+1+1+1+1):=by rw[qA.mrk_eq];rfl
theorem qA.mrkTC(x:qA)(k:Int):(x.mrk k).Typ.Kids=mkL qB.mrk qB.ct x.Typ.Kids (k+1+1+1+1+1):=by rw[qA.mrk_eq];rfl
theorem qA.mrkS(x:qA)(k:Int):(x.mrk k).Names=mkL mkS ctS x.Names (k+1+1+1+1+1+((qF qB.ct x.Typ.Kids:Nat):Int)):=by rw[qA.mrk_eq];rfl
theorem qA.mrkC(x:qA)(k:Int):(x.mrk k).Kids=mkL qA.mrk qA.ct x.Kids (k+1+1+1+1+1+((qF qB.ct x.Typ.Kids:Nat):Int)+((qF ctS x.Names:Nat):Int)):=by rw[qA.mrk_eq];rfl
theorem qA.rowsM:∀(x:qA)(k:Int),(x.mrk k).enc.rows=x.enc.rows:=qA.ind fun x ih k=>by
 rw[qA.rowsE,qA.rowsE,qA.mrkC,qA.mrkS,qA.mrkTC];simp only[AV.rows,K2 _ ih,qt mkS ctS (enc:=qQ) (fun _ _=>rfl),qt qB.mrk qB.ct (enc:=qB.enc) qB.rowsM]
def qA.mkV(x:qA)(k:Int):qA:=.mk x.Kind x.Num x.Name (.mk x.Typ.Kind x.Typ.Name (mkL qB.mrk qB.ct x.Typ.Kids (k))) (mkL mkS ctS x.Names (k+((qF qB.ct x.Typ.Kids:Nat):Int))) (mkL qA.mrk qA.ct x.Kids (k+((qF qB.ct x.Typ.Kids:Nat):Int)+((qF ctS x.Names:Nat):Int)))
def qA.ctV(x:qA):Nat:=qF qB.ct x.Typ.Kids+qF ctS x.Names+qF qA.ct x.Kids
theorem qA.mkVK(x:qA)(k:Int):(x.mkV k).Kind=x.Kind:=rfl
theorem qA.mkVN(x:qA)(k:Int):(x.mkV k).Num=x.Num:=rfl
theorem qA.mkVV(x:qA)(k:Int):(x.mkV k).Name=x.Name:=rfl
theorem qA.mkVTK(x:qA)(k:Int):(x.mkV k).Typ.Kind=x.Typ.Kind:=rfl
theorem qA.mkVTV(x:qA)(k:Int):(x.mkV k).Typ.Name=x.Typ.Name:=rfl
theorem qA.mkVTC(x:qA)(k:Int):(x.mkV k).Typ.Kids=mkL qB.mrk qB.ct x.Typ.Kids (k):=rfl
theorem qA.mkVS(x:qA)(k:Int):(x.mkV k).Names=mkL mkS ctS x.Names (k+((qF qB.ct x.Typ.Kids:Nat):Int)):=rfl
theorem qA.mkVC(x:qA)(k:Int):(x.mkV k).Kids=mkL qA.mrk qA.ct x.Kids (k+((qF qB.ct x.Typ.Kids:Nat):Int)+((qF ctS x.Names:Nat):Int)):=rfl
theorem qA.rowsV(x:qA)(k:Int):(x.mkV k).enc.rows=x.enc.rows:=by
 rw[qA.rowsE,qA.rowsE,qA.mkVC,qA.mkVS,qA.mkVTC];simp only[AV.rows,qt qA.mrk qA.ct (enc:=qA.enc) qA.rowsM,qt mkS ctS (enc:=qQ) (fun _ _=>rfl),qt qB.mrk qB.ct (enc:=qB.enc) qB.rowsM]
theorem qA.ctVle(x:qA):x.ctV<=5*x.wz:=by
 have h0:=x.ct_eq;have h1:=x.ctle;unfold qA.ctV;omega
theorem qXH(n:Nat):∀(xs:List qA)(k:Int)(_:xs.length+qF qA.wz xs<n)(_:0<=k)(_:k+(qF qA.ct xs:Nat)<=4611686018427387904)(_:xs.length+qF qA.wz xs<=4194304),Mark Gm 515 (.lst 8 (xs.map qA.enc) false) (.lst 8 ((mkL qA.mrk qA.ct xs k).map qA.enc) false) k (k+(qF qA.ct xs:Nat)):=by
 induction n with
 | zero=>intro xs k h;exact absurd h (by omega)
 | succ n ih=>
 intro xs k hn h0 hk hz;refine Mark.intro g515 (by kernel_rfl) rfl (Qp qA.plx xs) (Qp qA.plx _) (by simp only[AV.rows,qt qA.mrk qA.ct (enc:=qA.enc) qA.rowsM]) ?_;simp only[YR,qI,Jc,go_sem,Nat.reduceEqDiff,reduceIte,Nat.reduceAdd,nZa];refine Sem.loop (fun i:Nat=>i<=xs.length) (fun i=>(⟨[(0,.slice 8 0 0 xs.length false),(1,.int .i64 (k+((qF qA.ct (xs.take i):Nat):Int))),(5,.int .i64 (i:Nat))],[],(lay (.lst 8 ((mkL qA.mrk qA.ct (xs.take i) k++xs.drop i).map qA.enc) false) 0).2⟩:VSt)) (fun i=>xs.length-i) 0 (by kernel_rfl) (nZl _) (by simp only[List.take_zero,mkL,lNa,List.drop_zero,qF,Int.ofNat_zero,Int.natCast_zero,Int.add_zero];exact Can.sub (by simp[go_sem]) (by simp[go_sem])) ?_;intro i hi;simp only[go_sem,Nat.reduceEqDiff,reduceIte,Nat.reduceAdd,nZa];apply jR<;>intro hc<;>simp only[hc,go_sem,Nat.reduceEqDiff,reduceIte,Nat.reduceAdd,nZa]
 ·have hlt:i<xs.length:=by have:=odT hc;omega
  have hct:=UB qA.ct hlt;have hcl:=UA qA.ct xs (i+1);have hrow:=qA.rowsM;rw[lDc hlt,VX];have hsz:qA.wz xs[i]<=qF qA.wz xs:=Qf (f:=qA.wz) (gMm hlt);obtain⟨K,hK⟩:∃K:Int,K=k+((qF qA.ct (xs.take i):Nat):Int):=⟨_,rfl⟩;have hend:k+((qF qA.ct (xs.take (i+1)):Nat):Int)=K+((qA.ct xs[i]:Nat):Int):=by rw[hct,hK];omega
  have hKb:0<=K/\K+((qA.ct xs[i]:Nat):Int)<=4611686018427387904:=by rw[<-hend];omega
  have hmk:(mkL qA.mrk qA.ct (xs.take (i+1)) k++xs.drop (i+1))=mkL qA.mrk qA.ct (xs.take i) k++qA.mrk xs[i] K::xs.drop (i+1):=by rw[Kg qA.mrk qA.ct hlt,<-hK,lAa];rfl
  have hrx:=hrow xs[i] K;rw[<-hK];obtain⟨y,hy⟩:∃y,y=xs[i]:=⟨_,rfl⟩;rw[<-hy]at hmk hend hKb hrx hsz|-;have hcy:qA.ct y=1+1+1+1+1+qF qB.ct y.Typ.Kids+qF ctS y.Names+qF qA.ct y.Kids:=qA.ct_eq y;rw[hcy]at hend hKb;rw[qA.wz_eq,qB.wz_eq]at hsz;have hA:(qP ((mkL qA.mrk qA.ct (xs.take i) k).map qA.enc) 1).1.length=i:=by rw[jm,lMp,jz];simp;omega
  have hoA:=jT ((mkL qA.mrk qA.ct (xs.take i) k).map qA.enc) 1;have e2:=VX (enc:=qA.enc) (w:=8) (c:=false) (A:=mkL qA.mrk qA.ct (xs.take i) k) (B:=xs.drop (i+1)) (z:=qA.mrk y K);rw[hrx]at e2;rw[qA.layE]at e2|-;obtain⟨p,hp⟩:∃p,p=1+AV.rowss ((mkL qA.mrk qA.ct (xs.take i) k).map qA.enc):=⟨_,rfl⟩;rw[<-hp]at e2|-;generalize (qP ((xs.drop (i+1)).map qA.enc) (p+y.enc.rows)).1=vB at e2|-;generalize (qP ((xs.drop (i+1)).map qA.enc) (p+y.enc.rows)).2=oB at e2|-;generalize (qP ((mkL qA.mrk qA.ct (xs.take i) k).map qA.enc) 1).1=vA at e2 hA|-;generalize (qP ((mkL qA.mrk qA.ct (xs.take i) k).map qA.enc) 1).2=oA at e2 hoA|-;simp only[zX hA,jE hA,jC hlt,lSz,go_sem,Nat.reduceEqDiff,reduceIte,Nat.reduceAdd,nZa];refine jA (e':=.agg [.int .i64 (K),.int .i64 y.Num,.str y.Name,.int .i64 y.Typ.Kind,.str y.Typ.Name,.slice 3 (p) 0 y.Typ.Kids.length false,.slice 1 (p+AV.rows (.lst 3 (y.Typ.Kids.map qB.enc) false)) 0 y.Names.length false,.slice 8 (p+AV.rows (.lst 3 (y.Typ.Kids.map qB.enc) false)+AV.rows (.lst 1 (y.Names.map qQ) false)) 0 y.Kids.length false]) (by rfl) (by rfl) (zX hA) (by rfl) ?_;simp only[zX hA,jE hA,jC hlt,lSz,go_sem,Nat.reduceEqDiff,reduceIte,Nat.reduceAdd,nZa];rw[qu (n:=K+1) (by omega) (by omega)]
  try simp only[zX hA,jE hA,jC hlt,lSz,go_sem,Nat.reduceEqDiff,reduceIte,Nat.reduceAdd,nZa]
  refine jA (e':=.agg [.int .i64 (K),.int .i64 (K+1),.str y.Name,.int .i64 y.Typ.Kind,.str y.Typ.Name,.slice 3 (p) 0 y.Typ.Kids.length false,.slice 1 (p+AV.rows (.lst 3 (y.Typ.Kids.map qB.enc) false)) 0 y.Names.length false,.slice 8 (p+AV.rows (.lst 3 (y.Typ.Kids.map qB.enc) false)+AV.rows (.lst 1 (y.Names.map qQ) false)) 0 y.Kids.length false]) (by rfl) (by rfl) (zX hA) (by rfl) ?_;simp only[zX hA,jE hA,jC hlt,lSz,go_sem,Nat.reduceEqDiff,reduceIte,Nat.reduceAdd,nZa];rw[qu (n:=K+1+1) (by omega) (by omega)]
  try simp only[zX hA,jE hA,jC hlt,lSz,go_sem,Nat.reduceEqDiff,reduceIte,Nat.reduceAdd,nZa]
  refine qH (J0 (by omega)) ?_;simp only[zX hA,jE hA,jC hlt,lSz,go_sem,Nat.reduceEqDiff,reduceIte,Nat.reduceAdd,nZa];refine jA (e':=.agg [.int .i64 (K),.int .i64 (K+1),.str (zb (K+1+1)),.int .i64 y.Typ.Kind,.str y.Typ.Name,.slice 3 (p) 0 y.Typ.Kids.length false,.slice 1 (p+AV.rows (.lst 3 (y.Typ.Kids.map qB.enc) false)) 0 y.Names.length false,.slice 8 (p+AV.rows (.lst 3 (y.Typ.Kids.map qB.enc) false)+AV.rows (.lst 1 (y.Names.map qQ) false)) 0 y.Kids.length false]) (by rfl) (by rfl) (zX hA) (by rfl) ?_;simp only[zX hA,jE hA,jC hlt,lSz,go_sem,Nat.reduceEqDiff,reduceIte,Nat.reduceAdd,nZa];rw[qu (n:=K+1+1+1) (by omega) (by omega)]
  try simp only[zX hA,jE hA,jC hlt,lSz,go_sem,Nat.reduceEqDiff,reduceIte,Nat.reduceAdd,nZa]
  refine jA (e':=.agg [.int .i64 (K),.int .i64 (K+1),.str (zb (K+1+1)),.int .i64 (K+1+1+1),.str y.Typ.Name,.slice 3 (p) 0 y.Typ.Kids.length false,.slice 1 (p+AV.rows (.lst 3 (y.Typ.Kids.map qB.enc) false)) 0 y.Names.length false,.slice 8 (p+AV.rows (.lst 3 (y.Typ.Kids.map qB.enc) false)+AV.rows (.lst 1 (y.Names.map qQ) false)) 0 y.Kids.length false]) (by rfl) (by rfl) (zX hA) (by rfl) ?_;simp only[zX hA,jE hA,jC hlt,lSz,go_sem,Nat.reduceEqDiff,reduceIte,Nat.reduceAdd,nZa];rw[qu (n:=K+1+1+1+1) (by omega) (by omega)]
  try simp only[zX hA,jE hA,jC hlt,lSz,go_sem,Nat.reduceEqDiff,reduceIte,Nat.reduceAdd,nZa]
  refine qH (J0 (by omega)) ?_;simp only[zX hA,jE hA,jC hlt,lSz,go_sem,Nat.reduceEqDiff,reduceIte,Nat.reduceAdd,nZa];refine jA (e':=.agg [.int .i64 (K),.int .i64 (K+1),.str (zb (K+1+1)),.int .i64 (K+1+1+1),.str (zb (K+1+1+1+1)),.slice 3 (p) 0 y.Typ.Kids.length false,.slice 1 (p+AV.rows (.lst 3 (y.Typ.Kids.map qB.enc) false)) 0 y.Names.length false,.slice 8 (p+AV.rows (.lst 3 (y.Typ.Kids.map qB.enc) false)+AV.rows (.lst 1 (y.Names.map qQ) false)) 0 y.Kids.length false]) (by rfl) (by rfl) (zX hA) (by rfl) ?_;simp only[zX hA,jE hA,jC hlt,lSz,go_sem,Nat.reduceEqDiff,reduceIte,Nat.reduceAdd,nZa];rw[qu (n:=K+1+1+1+1+1) (by omega) (by omega)]
  try simp only[zX hA,jE hA,jC hlt,lSz,go_sem,Nat.reduceEqDiff,reduceIte,Nat.reduceAdd,nZa]
  refine JV (n:=p) (pre:=.row 8 (vA++.agg [.int .i64 (K),.int .i64 (K+1),.str (zb (K+1+1)),.int .i64 (K+1+1+1),.str (zb (K+1+1+1+1)),.slice 3 (p) 0 y.Typ.Kids.length false,.slice 1 (p+AV.rows (.lst 3 (y.Typ.Kids.map qB.enc) false)) 0 y.Names.length false,.slice 8 (p+AV.rows (.lst 3 (y.Typ.Kids.map qB.enc) false)+AV.rows (.lst 1 (y.Names.map qQ) false)) 0 y.Kids.length false]::vB) true::(oA++[])) (post:=((lay (.lst 1 (y.Names.map qQ) false) (p+AV.rows (.lst 3 (y.Typ.Kids.map qB.enc) false))).2++((lay (.lst 8 (y.Kids.map qA.enc) false) (p+AV.rows (.lst 3 (y.Typ.Kids.map qB.enc) false)+AV.rows (.lst 1 (y.Names.map qQ) false))).2++[]))++oB) (t:=(.lst 3 (y.Typ.Kids.map qB.enc) false)) (t':=(.lst 3 ((mkL qB.mrk qB.ct y.Typ.Kids (K+1+1+1+1+1)).map qB.enc) false)) (k362 y.Typ.Kids (K+1+1+1+1+1) (by omega) (by omega) (by omega)) ?_ ?_ (by rw[Jc,lMp]) ?_
  ·first | rfl | (simp only[lCo,lAp,lNi,hoA,qn,AV.rows,qt qB.mrk qB.ct (enc:=qB.enc) qB.rowsM,qt mkS ctS (enc:=qQ) (fun _ _=>rfl)];done) | (simp only[lCo,lAp,lNi,hoA,qn,AV.rows,qt qB.mrk qB.ct (enc:=qB.enc) qB.rowsM,qt mkS ctS (enc:=qQ) (fun _ _=>rfl)];omega)
  ·first | rfl | (simp only[lAa,lNa,lAn,lCa];done)
  simp only[zX hA,jE hA,jC hlt,lSz,lCa,go_sem,Nat.reduceEqDiff,reduceIte,Nat.reduceAdd,nZa];refine JV (n:=p+AV.rows (.lst 3 (y.Typ.Kids.map qB.enc) false)) (pre:=.row 8 (vA++.agg [.int .i64 (K),.int .i64 (K+1),.str (zb (K+1+1)),.int .i64 (K+1+1+1),.str (zb (K+1+1+1+1)),.slice 3 (p) 0 y.Typ.Kids.length false,.slice 1 (p+AV.rows (.lst 3 (y.Typ.Kids.map qB.enc) false)) 0 y.Names.length false,.slice 8 (p+AV.rows (.lst 3 (y.Typ.Kids.map qB.enc) false)+AV.rows (.lst 1 (y.Names.map qQ) false)) 0 y.Kids.length false]::vB) true::(oA++((lay (.lst 3 ((mkL qB.mrk qB.ct y.Typ.Kids (K+1+1+1+1+1)).map qB.enc) false) (p)).2))) (post:=((lay (.lst 8 (y.Kids.map qA.enc) false) (p+AV.rows (.lst 3 (y.Typ.Kids.map qB.enc) false)+AV.rows (.lst 1 (y.Names.map qQ) false))).2++[])++oB) (t:=(.lst 1 (y.Names.map qQ) false)) (t':=(.lst 1 ((mkL mkS ctS y.Names (K+1+1+1+1+1+((qF qB.ct y.Typ.Kids:Nat):Int))).map qQ) false)) (k514 y.Names (K+1+1+1+1+1+((qF qB.ct y.Typ.Kids:Nat):Int)) (by omega) (by omega) (by omega)) ?_ ?_ (by rw[Jc,lMp]) ?_
  ·first | rfl | (simp only[lCo,lAp,lNi,hoA,qn,AV.rows,qt qB.mrk qB.ct (enc:=qB.enc) qB.rowsM,qt mkS ctS (enc:=qQ) (fun _ _=>rfl)];done) | (simp only[lCo,lAp,lNi,hoA,qn,AV.rows,qt qB.mrk qB.ct (enc:=qB.enc) qB.rowsM,qt mkS ctS (enc:=qQ) (fun _ _=>rfl)];omega)
  ·first | rfl | (simp only[lAa,lNa,lAn,lCa];done)
  simp only[zX hA,jE hA,jC hlt,lSz,lCa,go_sem,Nat.reduceEqDiff,reduceIte,Nat.reduceAdd,nZa];refine JV (n:=p+AV.rows (.lst 3 (y.Typ.Kids.map qB.enc) false)+AV.rows (.lst 1 (y.Names.map qQ) false)) (pre:=.row 8 (vA++.agg [.int .i64 (K),.int .i64 (K+1),.str (zb (K+1+1)),.int .i64 (K+1+1+1),.str (zb (K+1+1+1+1)),.slice 3 (p) 0 y.Typ.Kids.length false,.slice 1 (p+AV.rows (.lst 3 (y.Typ.Kids.map qB.enc) false)) 0 y.Names.length false,.slice 8 (p+AV.rows (.lst 3 (y.Typ.Kids.map qB.enc) false)+AV.rows (.lst 1 (y.Names.map qQ) false)) 0 y.Kids.length false]::vB) true::(oA++((lay (.lst 3 ((mkL qB.mrk qB.ct y.Typ.Kids (K+1+1+1+1+1)).map qB.enc) false) (p)).2++(lay (.lst 1 ((mkL mkS ctS y.Names (K+1+1+1+1+1+((qF qB.ct y.Typ.Kids:Nat):Int))).map qQ) false) (p+AV.rows (.lst 3 (y.Typ.Kids.map qB.enc) false))).2))) (post:=([])++oB) (t:=(.lst 8 (y.Kids.map qA.enc) false)) (t':=(.lst 8 ((mkL qA.mrk qA.ct y.Kids (K+1+1+1+1+1+((qF qB.ct y.Typ.Kids:Nat):Int)+((qF ctS y.Names:Nat):Int))).map qA.enc) false)) (ih y.Kids (K+1+1+1+1+1+((qF qB.ct y.Typ.Kids:Nat):Int)+((qF ctS y.Names:Nat):Int)) (by omega) (by omega) (by omega) (by omega)) ?_ ?_ (by rw[Jc,lMp]) ?_
  ·first | rfl | (simp only[lCo,lAp,lNi,hoA,qn,AV.rows,qt qB.mrk qB.ct (enc:=qB.enc) qB.rowsM,qt mkS ctS (enc:=qQ) (fun _ _=>rfl)];done) | (simp only[lCo,lAp,lNi,hoA,qn,AV.rows,qt qB.mrk qB.ct (enc:=qB.enc) qB.rowsM,qt mkS ctS (enc:=qQ) (fun _ _=>rfl)];omega)
  ·first | rfl | (simp only[lAa,lNa,lAn,lCa];done)
  simp only[zX hA,jE hA,jC hlt,lSz,lCa,go_sem,Nat.reduceEqDiff,reduceIte,Nat.reduceAdd,nZa];simp only[zM (show i<4611686018427387904 by omega)];refine qx (i+1) (by omega) (by omega) ?_;have e3:K+1+1+1+1+1+((qF qB.ct y.Typ.Kids:Nat):Int)+((qF ctS y.Names:Nat):Int)+((qF qA.ct y.Kids:Nat):Int)=k+((qF qA.ct (xs.take (i+1)):Nat):Int):=by first | (rw[hend];done) | (rw[hend];omega)
  rw[e3];rw[hmk,e2];simp only[qA.mrkK,qA.mrkN,qA.mrkV,qA.mrkTK,qA.mrkTV,qA.mrkTC,qA.mrkS,qA.mrkC,jz,AV.rows,lAa,lNa,lAn,lCa,qt qA.mrk qA.ct (enc:=qA.enc) qA.rowsM,qt qB.mrk qB.ct (enc:=qB.enc) qB.rowsM,qt mkS ctS (enc:=qQ) (fun _ _=>rfl)];exact Can.sub (by simp[go_sem]) (by simp[go_sem])
 ·have hge:i=xs.length:=by have:=odF hc;omega
  subst hge;refine WC (by rw[lTl]) ?_;rw[lTl,List.drop_length,lAn]
theorem k515(xs:List qA)(k:Int)(h0:0<=k)(hk:k+(qF qA.ct xs:Nat)<=4611686018427387904)(hz:xs.length+qF qA.wz xs<=4194304):Mark Gm 515 (.lst 8 (xs.map qA.enc) false) (.lst 8 ((mkL qA.mrk qA.ct xs k).map qA.enc) false) k (k+(qF qA.ct xs:Nat)):=qXH _ xs k (Nat.lt_succ_self _) h0 hk hz
theorem k192(x:qA)(k:Int)(h0:0<=k)(hk:k+(x.ctV:Nat)<=4611686018427387904)(hz:x.wz<=4194304):Mark Gm 192 x.enc (x.mkV k).enc k (k+(x.ctV:Nat)):=by
 refine Mark.intro g192 (by kernel_rfl) rfl (qA.plx x) (qA.plx _) (qA.rowsV x k) ?_;rw[qA.layE,qA.layE];simp only[X5,qI,go_sem,Nat.reduceEqDiff,reduceIte,Nat.reduceAdd,nZa];refine zZ rfl ?_;simp only[go_sem,Nat.reduceEqDiff,reduceIte,Nat.reduceAdd,nZa];unfold qA.ctV at hk;have hwt:=qB.wz_eq x.Typ;rw[qA.wz_eq]at hz;refine JV (n:=0) (pre:=[]) (post:=(lay (.lst 1 (x.Names.map qQ) false) (AV.rows (.lst 3 (x.Typ.Kids.map qB.enc) false))).2++((lay (.lst 8 (x.Kids.map qA.enc) false) (AV.rows (.lst 3 (x.Typ.Kids.map qB.enc) false)+AV.rows (.lst 1 (x.Names.map qQ) false))).2++[])) (t:=x.Typ.enc) (t':=(x.Typ.mkV (k)).enc) (k102 x.Typ (k) (by omega) (by simp only[qB.ctV];omega) (by omega)) ?_ ?_ ?_ ?_
 ·first | rfl | (simp only[lAp,lNi,qn,AV.rows,qt qA.mrk qA.ct (enc:=qA.enc) qA.rowsM,qt qB.mrk qB.ct (enc:=qB.enc) qB.rowsM,qt mkS ctS (enc:=qQ) (fun _ _=>rfl)];done) | (simp only[lAp,lNi,qn,AV.rows,qt qA.mrk qA.ct (enc:=qA.enc) qA.rowsM,qt qB.mrk qB.ct (enc:=qB.enc) qB.rowsM,qt mkS ctS (enc:=qQ) (fun _ _=>rfl)];omega)
 ·first | rfl | (simp only[qB.layE,lAa,lNa,lAn];done)
 ·rw[qB.layE]
 simp only[qB.layE,qB.mkVK,qB.mkVV,qB.mkVC,jz,qB.ctV,lAa,lNa,lAn,go_sem,Nat.reduceEqDiff,reduceIte,Nat.reduceAdd,nZa];refine JV (n:=AV.rows (.lst 3 (x.Typ.Kids.map qB.enc) false)) (pre:=(lay (.lst 3 ((mkL qB.mrk qB.ct x.Typ.Kids (k)).map qB.enc) false) (0)).2) (post:=(lay (.lst 8 (x.Kids.map qA.enc) false) (AV.rows (.lst 3 (x.Typ.Kids.map qB.enc) false)+AV.rows (.lst 1 (x.Names.map qQ) false))).2++[]) (t:=(.lst 1 (x.Names.map qQ) false)) (t':=(.lst 1 ((mkL mkS ctS x.Names (k+((qF qB.ct x.Typ.Kids:Nat):Int))).map qQ) false)) (k514 x.Names (k+((qF qB.ct x.Typ.Kids:Nat):Int)) (by omega) (by omega) (by omega)) ?_ ?_ (by rw[Jc,lMp]) ?_
 ·first | rfl | (simp only[lAp,lNi,qn,AV.rows,qt qA.mrk qA.ct (enc:=qA.enc) qA.rowsM,qt qB.mrk qB.ct (enc:=qB.enc) qB.rowsM,qt mkS ctS (enc:=qQ) (fun _ _=>rfl)];done) | (simp only[lAp,lNi,qn,AV.rows,qt qA.mrk qA.ct (enc:=qA.enc) qA.rowsM,qt qB.mrk qB.ct (enc:=qB.enc) qB.rowsM,qt mkS ctS (enc:=qQ) (fun _ _=>rfl)];omega)
 ·first | rfl | (simp only[lAa,lNa,lAn];done)
 simp only[lAa,lNa,lAn,go_sem,Nat.reduceEqDiff,reduceIte,Nat.reduceAdd,nZa];refine JV (n:=AV.rows (.lst 3 (x.Typ.Kids.map qB.enc) false)+AV.rows (.lst 1 (x.Names.map qQ) false)) (pre:=(lay (.lst 3 ((mkL qB.mrk qB.ct x.Typ.Kids (k)).map qB.enc) false) (0)).2++(lay (.lst 1 ((mkL mkS ctS x.Names (k+((qF qB.ct x.Typ.Kids:Nat):Int))).map qQ) false) (AV.rows (.lst 3 (x.Typ.Kids.map qB.enc) false))).2) (post:=[]) (t:=(.lst 8 (x.Kids.map qA.enc) false)) (t':=(.lst 8 ((mkL qA.mrk qA.ct x.Kids (k+((qF qB.ct x.Typ.Kids:Nat):Int)+((qF ctS x.Names:Nat):Int))).map qA.enc) false)) (k515 x.Kids (k+((qF qB.ct x.Typ.Kids:Nat):Int)+((qF ctS x.Names:Nat):Int)) (by omega) (by omega) (by omega)) ?_ ?_ (by rw[Jc,lMp]) ?_
 ·first | rfl | (simp only[lAp,lNi,qn,AV.rows,qt qA.mrk qA.ct (enc:=qA.enc) qA.rowsM,qt qB.mrk qB.ct (enc:=qB.enc) qB.rowsM,qt mkS ctS (enc:=qQ) (fun _ _=>rfl)];done) | (simp only[lAp,lNi,qn,AV.rows,qt qA.mrk qA.ct (enc:=qA.enc) qA.rowsM,qt qB.mrk qB.ct (enc:=qB.enc) qB.rowsM,qt mkS ctS (enc:=qQ) (fun _ _=>rfl)];omega)
 ·first | rfl | (simp only[lAa,lNa,lAn];done)
 simp only[lAa,lNa,lAn,go_sem,Nat.reduceEqDiff,reduceIte,Nat.reduceAdd,nZa];refine WC (by first | rfl | (simp only[qA.ctV];done) | (simp only[qA.ctV];omega)) ?_;simp only[qA.mkVK,qA.mkVN,qA.mkVV,qA.mkVTK,qA.mkVTV,qA.mkVTC,qA.mkVS,qA.mkVC,jz,AV.rows,nZa,lAa,lNa,lAn,qt qA.mrk qA.ct (enc:=qA.enc) qA.rowsM,qt qB.mrk qB.ct (enc:=qB.enc) qB.rowsM,qt mkS ctS (enc:=qQ) (fun _ _=>rfl)]
theorem qa6(n:Nat):∀(xs:List qA)(k:Int)(_:xs.length+qF qA.wz xs<n)(_:0<=k)(_:k+(qF qA.ct xs:Nat)<=4611686018427387904)(_:xs.length+qF qA.wz xs<=4194304),Pure Gm 517 [(.lst 8 ((mkL qA.mrk qA.ct xs k).map qA.enc) false),.int .i64 k] (.int .i64 (k+(qF qA.ct xs:Nat))):=by
 induction n with
 | zero=>intro xs k h;exact absurd h (by omega)
 | succ n ih=>
 intro xs k hn h0 hk hz;refine Pure.intro [] [] g517 (by kernel_rfl) rfl (by simp[AV.trees,AV.tree,jU qA.isSh.tree]) rfl ?_;simp only[YT,qI,go_sem,Nat.reduceEqDiff,reduceIte,Nat.reduceAdd,nZa];refine Sem.loop (fun i:Nat=>i<=xs.length) (fun i=>(⟨[(0,(.lst 8 ((mkL qA.mrk qA.ct xs k).map qA.enc) false)),(1,.int .i64 (k+((qF qA.ct (xs.take i):Nat):Int))),(5,.int .i64 (i:Nat))],[],[]⟩:VSt)) (fun i=>xs.length-i) 0 (by kernel_rfl) (nZl _) (by simp only[List.take_zero,qF,Int.ofNat_zero,Int.natCast_zero,Int.add_zero];exact Can.sub (by simp[go_sem]) (by simp[go_sem])) ?_;intro i hi;simp only[jz,go_sem,Nat.reduceEqDiff,reduceIte,Nat.reduceAdd,nZa];apply jR<;>intro hc<;>simp only[hc,go_sem,Nat.reduceEqDiff,reduceIte,Nat.reduceAdd,nZa]
 ·have hlt:i<xs.length:=by have:=odT hc;omega
  have hct:=UB qA.ct hlt;have hcl:=UA qA.ct xs (i+1);have hget:=Kf qA.mrk qA.ct hlt k;have hsz:qA.wz xs[i]<=qF qA.wz xs:=Qf (f:=qA.wz) (gMm hlt);obtain⟨K,hK⟩:∃K:Int,K=k+((qF qA.ct (xs.take i):Nat):Int):=⟨_,rfl⟩;have hend:k+((qF qA.ct (xs.take (i+1)):Nat):Int)=K+((qA.ct xs[i]:Nat):Int):=by rw[hct,hK];omega
  have hKb:0<=K/\K+((qA.ct xs[i]:Nat):Int)<=4611686018427387904:=by rw[<-hend];omega
  rw[<-hK]at hget|-;obtain⟨y,hy⟩:∃y,y=xs[i]:=⟨_,rfl⟩;rw[<-hy]at hget hend hKb hsz;have hcy:qA.ct y=1+1+1+1+1+qF qB.ct y.Typ.Kids+qF ctS y.Names+qF qA.ct y.Kids:=qA.ct_eq y;rw[hcy]at hend hKb;rw[qA.wz_eq,qB.wz_eq]at hsz;simp only[gMp,hget,oMs,go_sem,Nat.reduceEqDiff,reduceIte,Nat.reduceAdd,nZa]
  try simp only[gMp,hget,oMs,qA.mrkK,qA.mrkN,qA.mrkV,qA.mrkTK,qA.mrkTV,qA.mrkTC,qA.mrkS,qA.mrkC,go_sem,Nat.reduceEqDiff,reduceIte,Nat.reduceAdd,nZa]
  rw[qu (n:=K+1) (by omega) (by omega)]
  try simp only[gMp,hget,oMs,qA.mrkK,qA.mrkN,qA.mrkV,qA.mrkTK,qA.mrkTV,qA.mrkTC,qA.mrkS,qA.mrkC,go_sem,Nat.reduceEqDiff,reduceIte,Nat.reduceAdd,nZa]
  try simp only[gMp,hget,oMs,qA.mrkK,qA.mrkN,qA.mrkV,qA.mrkTK,qA.mrkTV,qA.mrkTC,qA.mrkS,qA.mrkC,go_sem,Nat.reduceEqDiff,reduceIte,Nat.reduceAdd,nZa]
  rw[qu (n:=K+1+1) (by omega) (by omega)]
  try simp only[gMp,hget,oMs,qA.mrkK,qA.mrkN,qA.mrkV,qA.mrkTK,qA.mrkTV,qA.mrkTC,qA.mrkS,qA.mrkC,go_sem,Nat.reduceEqDiff,reduceIte,Nat.reduceAdd,nZa]
  try simp only[gMp,hget,oMs,qA.mrkK,qA.mrkN,qA.mrkV,qA.mrkTK,qA.mrkTV,qA.mrkTC,qA.mrkS,qA.mrkC,go_sem,Nat.reduceEqDiff,reduceIte,Nat.reduceAdd,nZa]
  refine qH (J0 (by omega)) ?_
  try simp only[gMp,hget,oMs,qA.mrkK,qA.mrkN,qA.mrkV,qA.mrkTK,qA.mrkTV,qA.mrkTC,qA.mrkS,qA.mrkC,go_sem,Nat.reduceEqDiff,reduceIte,Nat.reduceAdd,nZa]
  rw[qu (n:=K+1+1+1) (by omega) (by omega)]
  try simp only[gMp,hget,oMs,qA.mrkK,qA.mrkN,qA.mrkV,qA.mrkTK,qA.mrkTV,qA.mrkTC,qA.mrkS,qA.mrkC,go_sem,Nat.reduceEqDiff,reduceIte,Nat.reduceAdd,nZa]
  try simp only[gMp,hget,oMs,qA.mrkK,qA.mrkN,qA.mrkV,qA.mrkTK,qA.mrkTV,qA.mrkTC,qA.mrkS,qA.mrkC,go_sem,Nat.reduceEqDiff,reduceIte,Nat.reduceAdd,nZa]
  rw[qu (n:=K+1+1+1+1) (by omega) (by omega)]
  try simp only[gMp,hget,oMs,qA.mrkK,qA.mrkN,qA.mrkV,qA.mrkTK,qA.mrkTV,qA.mrkTC,qA.mrkS,qA.mrkC,go_sem,Nat.reduceEqDiff,reduceIte,Nat.reduceAdd,nZa]
  try simp only[gMp,hget,oMs,qA.mrkK,qA.mrkN,qA.mrkV,qA.mrkTK,qA.mrkTV,qA.mrkTC,qA.mrkS,qA.mrkC,go_sem,Nat.reduceEqDiff,reduceIte,Nat.reduceAdd,nZa]
  refine qH (J0 (by omega)) ?_
  try simp only[gMp,hget,oMs,qA.mrkK,qA.mrkN,qA.mrkV,qA.mrkTK,qA.mrkTV,qA.mrkTC,qA.mrkS,qA.mrkC,go_sem,Nat.reduceEqDiff,reduceIte,Nat.reduceAdd,nZa]
  rw[qu (n:=K+1+1+1+1+1) (by omega) (by omega)]
  try simp only[gMp,hget,oMs,qA.mrkK,qA.mrkN,qA.mrkV,qA.mrkTK,qA.mrkTV,qA.mrkTC,qA.mrkS,qA.mrkC,go_sem,Nat.reduceEqDiff,reduceIte,Nat.reduceAdd,nZa]
  try simp only[gMp,hget,oMs,qA.mrkK,qA.mrkN,qA.mrkV,qA.mrkTK,qA.mrkTV,qA.mrkTC,qA.mrkS,qA.mrkC,go_sem,Nat.reduceEqDiff,reduceIte,Nat.reduceAdd,nZa]
  refine qH (q363 y.Typ.Kids (K+1+1+1+1+1) (by omega) (by omega) (by omega)) ?_;simp only[gMp,hget,oMs,qA.mrkK,qA.mrkN,qA.mrkV,qA.mrkTK,qA.mrkTV,qA.mrkTC,qA.mrkS,qA.mrkC,go_sem,Nat.reduceEqDiff,reduceIte,Nat.reduceAdd,nZa];rw[show decide (K+1+1+1+1+1+((qF qB.ct y.Typ.Kids:Nat):Int)<0)=false from decide_eq_false (by omega)];simp only[gMp,hget,oMs,qA.mrkK,qA.mrkN,qA.mrkV,qA.mrkTK,qA.mrkTV,qA.mrkTC,qA.mrkS,qA.mrkC,go_sem,Nat.reduceEqDiff,reduceIte,Nat.reduceAdd,nZa]
  try simp only[gMp,hget,oMs,qA.mrkK,qA.mrkN,qA.mrkV,qA.mrkTK,qA.mrkTV,qA.mrkTC,qA.mrkS,qA.mrkC,go_sem,Nat.reduceEqDiff,reduceIte,Nat.reduceAdd,nZa]
  refine qH (q516 y.Names (K+1+1+1+1+1+((qF qB.ct y.Typ.Kids:Nat):Int)) (by omega) (by omega) (by omega)) ?_;simp only[gMp,hget,oMs,qA.mrkK,qA.mrkN,qA.mrkV,qA.mrkTK,qA.mrkTV,qA.mrkTC,qA.mrkS,qA.mrkC,go_sem,Nat.reduceEqDiff,reduceIte,Nat.reduceAdd,nZa];rw[show decide (K+1+1+1+1+1+((qF qB.ct y.Typ.Kids:Nat):Int)+((qF ctS y.Names:Nat):Int)<0)=false from decide_eq_false (by omega)];simp only[gMp,hget,oMs,qA.mrkK,qA.mrkN,qA.mrkV,qA.mrkTK,qA.mrkTV,qA.mrkTC,qA.mrkS,qA.mrkC,go_sem,Nat.reduceEqDiff,reduceIte,Nat.reduceAdd,nZa]
  try simp only[gMp,hget,oMs,qA.mrkK,qA.mrkN,qA.mrkV,qA.mrkTK,qA.mrkTV,qA.mrkTC,qA.mrkS,qA.mrkC,go_sem,Nat.reduceEqDiff,reduceIte,Nat.reduceAdd,nZa]
  refine qH (ih y.Kids (K+1+1+1+1+1+((qF qB.ct y.Typ.Kids:Nat):Int)+((qF ctS y.Names:Nat):Int)) (by omega) (by omega) (by omega) (by omega)) ?_;simp only[gMp,hget,oMs,qA.mrkK,qA.mrkN,qA.mrkV,qA.mrkTK,qA.mrkTV,qA.mrkTC,qA.mrkS,qA.mrkC,go_sem,Nat.reduceEqDiff,reduceIte,Nat.reduceAdd,nZa];rw[show decide (K+1+1+1+1+1+((qF qB.ct y.Typ.Kids:Nat):Int)+((qF ctS y.Names:Nat):Int)+((qF qA.ct y.Kids:Nat):Int)<0)=false from decide_eq_false (by omega)];simp only[gMp,hget,oMs,qA.mrkK,qA.mrkN,qA.mrkV,qA.mrkTK,qA.mrkTV,qA.mrkTC,qA.mrkS,qA.mrkC,go_sem,Nat.reduceEqDiff,reduceIte,Nat.reduceAdd,nZa];simp only[zM (show i<4611686018427387904 by omega)];refine qx (i+1) (by omega) (by omega) ?_;have e3:K+1+1+1+1+1+((qF qB.ct y.Typ.Kids:Nat):Int)+((qF ctS y.Names:Nat):Int)+((qF qA.ct y.Kids:Nat):Int)=k+((qF qA.ct (xs.take (i+1)):Nat):Int):=by first | (rw[hend];done) | (rw[hend];omega)
  rw[e3];exact Can.sub (by simp[go_sem]) (by simp[go_sem])
 ·have hge:i=xs.length:=by have:=odF hc;omega
  subst hge;refine qE rfl ?_;rw[lTl]
theorem q517(xs:List qA)(k:Int)(h0:0<=k)(hk:k+(qF qA.ct xs:Nat)<=4611686018427387904)(hz:xs.length+qF qA.wz xs<=4194304):Pure Gm 517 [(.lst 8 ((mkL qA.mrk qA.ct xs k).map qA.enc) false),.int .i64 k] (.int .i64 (k+(qF qA.ct xs:Nat))):=qa6 _ xs k (Nat.lt_succ_self _) h0 hk hz
theorem q193(x:qA)(k:Int)(h0:0<=k)(hk:k+(x.ctV:Nat)<=4611686018427387904)(hz:x.wz<=4194304):Pure Gm 193 [(x.mkV k).enc,.int .i64 k] (.int .i64 (k+(x.ctV:Nat))):=by
 refine Pure.intro [] [] g193 (by kernel_rfl) rfl (by simp[AV.trees,AV.tree,qA.tr]) rfl ?_;simp only[X6,qI,go_sem,Nat.reduceEqDiff,reduceIte,Nat.reduceAdd,nZa];refine zZ qA.ln ?_;simp only[go_sem,Nat.reduceEqDiff,reduceIte,Nat.reduceAdd,nZa];unfold qA.ctV at hk;have hwt:=qB.wz_eq x.Typ;rw[qA.wz_eq]at hz;refine qH (q103 x.Typ (k) (by omega) (by simp only[qB.ctV];omega) (by omega)) ?_;simp only[qB.ctV,go_sem,Nat.reduceEqDiff,reduceIte,Nat.reduceAdd,nZa]
 try (rw[show decide (k+((qF qB.ct x.Typ.Kids:Nat):Int)<0)=false from decide_eq_false (by omega)];simp only[go_sem,Nat.reduceEqDiff,reduceIte,Nat.reduceAdd,nZa])
 refine qH (q516 x.Names (k+((qF qB.ct x.Typ.Kids:Nat):Int)) (by omega) (by omega) (by omega)) ?_;simp only[go_sem,Nat.reduceEqDiff,reduceIte,Nat.reduceAdd,nZa]
 try (rw[show decide (k+((qF qB.ct x.Typ.Kids:Nat):Int)+((qF ctS x.Names:Nat):Int)<0)=false from decide_eq_false (by omega)];simp only[go_sem,Nat.reduceEqDiff,reduceIte,Nat.reduceAdd,nZa])
 refine qH (q517 x.Kids (k+((qF qB.ct x.Typ.Kids:Nat):Int)+((qF ctS x.Names:Nat):Int)) (by omega) (by omega) (by omega)) ?_;simp only[go_sem,Nat.reduceEqDiff,reduceIte,Nat.reduceAdd,nZa]
 try (rw[show decide (k+((qF qB.ct x.Typ.Kids:Nat):Int)+((qF ctS x.Names:Nat):Int)+((qF qA.ct x.Kids:Nat):Int)<0)=false from decide_eq_false (by omega)];simp only[go_sem,Nat.reduceEqDiff,reduceIte,Nat.reduceAdd,nZa])
 refine qE rfl ?_
 first | rfl | (simp only[qA.ctV,AV.int.injEq,true_and];done) | (simp only[qA.ctV,AV.int.injEq,true_and];omega)
end Go.Ab
namespace Go.Ab
open Go
set_option maxRecDepth 10000
set_option maxHeartbeats 2000000
theorem qaX{t:Str}:(zx t).1.wz<=1048575:=by
 have z:jb.wz<=1048575:=by rw[qA.wz_eq];simp[jb,tmk,noT,qA.Typ,qA.Names,qA.Kids,qF,qB.wz_eq,qB.Kids]
 unfold zx;split
 ·split
  ·exact z
  ·rename_i x b e;split
   ·exact z
   ·split
    ·exact(Kt Ko UE e).2
    ·exact z
 ·exact z
theorem qXT{t:Str}{n:Nat}:lay (jg t) n=(.tup [(lay (zx t).1.enc n).1,.int .i64 (zx t).2.1,.int .i64 (zx t).2.2],(lay (zx t).1.enc n).2):=by simp[jg,lay,qP]
theorem Qe(x:qA)(n:Nat):(lay x.enc n).1.part 0 (some 8)=some (lay x.enc n).1:=qXW (qA.plx x) ⟨_,qA.enc_eq x⟩ (by rw[qA.ln])
theorem qPD(x:qA)(n:Nat):(lay x.enc n).1.cells.length=8:=by rw[qXU (qA.plx x)];exact qA.ln
theorem qPC(x:qA)(n:Nat):∃cs,(lay x.enc n).1=.agg cs:=⟨_,congrArg Prod.fst (qA.layE x n)⟩
theorem qXS(x:qA)(k:Int)(n:Nat):(lay (x.mkV k).enc n).1=(lay x.enc n).1:=by
 rw[qA.layE,qA.layE];simp only[qA.mkVK,qA.mkVN,qA.mkVV,qA.mkVTK,qA.mkVTV,qA.mkVTC,qA.mkVS,qA.mkVC,jz,AV.rows,qt qA.mrk qA.ct (enc:=qA.enc) qA.rowsM,qt mkS ctS (enc:=qQ) (fun _ _=>rfl),qt qB.mrk qB.ct (enc:=qB.enc) qB.rowsM]
theorem c26{t:Str}:Pure Gm 26 [.str t] (.bool true):=by
 refine Pure.intro [] [] g26 (by kernel_rfl) rfl (by simp[AV.trees,AV.tree,go_sem]) rfl ?_;simp only[F26,qI,go_sem];by_cases hl:(1048576:Int)<t.length
 ·simp only[decide_eq_true hl,go_sem];exact qE rfl rfl
 simp only[decide_eq_false hl,go_sem];refine qH c189 ?_;have hw:=qaX (t:=t);have hp:∀n,lay (jg t) n=(.tup [(lay (zx t).1.enc n).1,.int .i64 (zx t).2.1,.int .i64 (zx t).2.2],(lay (zx t).1.enc n).2):=fun n=>qXT;have hf:=n190 (t:=t);have hv:jg t=.tup [(zx t).1.enc,.int .i64 (zx t).2.1,.int .i64 (zx t).2.2]:=rfl;generalize (zx t).1=x at*;generalize (zx t).2.1=pa at*;generalize (zx t).2.2=pc at*;rw[hv];simp only[go_sem];refine qM (k:=8) rfl qA.ln ⟨_,qA.enc_eq x⟩ (by decide) ?_;simp only[go_sem];refine qNP hf ?_;simp only[go_sem,hp,lNa,lNi];refine qM (k:=8) rfl (qPD x 0) (qPC x 0) (by decide) ?_;simp only[go_sem,Qe];have cvx:∀{h post:List qD},h=(lay x.enc 0).2++post->Cv h (lay x.enc 0).1 x.enc:=fun{h post} hh=>KI (pre:=[]) (qA.plx x) (qA.cnx x) hh;have cvm:∀{h post:List qD},h=(lay (x.mkV 1).enc 0).2++post->Cv h (lay x.enc 0).1 (x.mkV 1).enc:=fun{h post} hh=>by
  rw[<-qXS x 1];exact KI (pre:=[]) (qA.plx _) (qA.cnx _) hh
 refine QT (vs':=[x.enc,x.enc]) (Cvs.cons (cvx (lAn _).symm) (Cvs.cons (.refl qA.tr) Cvs.nil)) (c191 x (by omega)) rfl ?_;simp only[go_sem,Qe,Bool.not_true,decide_true,eq_self];refine JV (k192 x 1 (by omega) (by have:=x.ctVle;omega) (by omega)) (pre:=[]) (post:=[]) rfl (lAn _).symm rfl ?_;simp only[go_sem,Qe,lNa,lAn,lNi];have hneg:decide ((1:Int)+((x.ctV:Nat):Int)<0)=false:=decide_eq_false (by omega);have hb:=x.ctVle;have hq:=q193 x 1 (by omega) (by omega) (by omega);refine QT (vs':=[(x.mkV 1).enc,.int .i64 1]) (Cvs.cons (cvm (lAn _).symm) (Cvs.cons (.refl rfl) Cvs.nil)) hq rfl ?_;simp only[hneg,go_sem,Qe,Bool.not_true,decide_true,eq_self];refine qNP hf ?_;simp only[go_sem,hp];generalize hn:(lay (x.mkV 1).enc 0).2.length=n;refine qM (k:=8) rfl (qPD x _) (qPC x _) (by decide) ?_;simp only[go_sem,Qe];have cvy:Cv ((lay (x.mkV 1).enc 0).2++(lay x.enc n).2) (lay x.enc n).1 x.enc:=by
  rw[<-hn];exact KI (pre:=(lay (x.mkV 1).enc 0).2) (post:=[]) (qA.plx x) (qA.cnx x) (by simp)
 refine QT (vs':=[x.enc,x.enc]) (Cvs.cons cvy (Cvs.cons (.refl qA.tr) Cvs.nil)) (c191 x (by omega)) rfl ?_;simp only[go_sem,Qe,Bool.not_true,decide_true,eq_self];refine QT (vs':=[(x.mkV 1).enc,.int .i64 1]) (Cvs.cons (cvm rfl) (Cvs.cons (.refl rfl) Cvs.nil)) hq rfl ?_;simp only[hneg,go_sem,Qe,Bool.not_true,decide_true,eq_self];exact qE rfl rfl
end Go.Ab
