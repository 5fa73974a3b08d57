/- The library's functions and the deferred closure do what the table tells. -/
import Derived.Test.YtkgbnffcaabafaaGreatDoorFit
import Derived.KernelRfl
import Derived.Test.YtkgbnffcaabafaaGreatDoorP6
import Derived.Test.YtkgbnffcaabafaaGreatDoorP10
import Derived.Test.YtkgbnffcaabafaaGreatDoorP11
namespace Go.Proofs.YtkgbnffcaabafaaGreatDoor
open Go Go.Ab Go.Proofs
set_option maxRecDepth 100000

section
variable {z:Nat→Option (Array Value)}
theorem qSV{N:qh}{m:Mp}{a b:AV}{vs:Array Value}(h:VRs N m [a,b] vs.toList):∃u v,vs= #[u,v]∧VR N m a u∧VR N m b v:=by
  simp only[VRs]at h
  obtain⟨u,us,h1,h2,v,vs',rfl,h4,rfl⟩:=h
  exact⟨u,v,by rw[←Array.toArray_toList (xs:=vs),h1],h2,h4⟩
theorem qZG{N:qh}{m:Mp}{a b c:AV}{vs:Array Value}(h:VRs N m [a,b,c] vs.toList):∃u v w,vs= #[u,v,w]∧VR N m a u∧VR N m b v∧VR N m c w:=by
  simp only[VRs]at h
  obtain⟨u,us,h1,h2,v,vs',rfl,h4,w,vs'',rfl,h6,rfl⟩:=h
  exact⟨u,v,w,by rw[←Array.toArray_toList (xs:=vs),h1],h2,h4,h6⟩
/--A variable's cells,where they are qXA. -/
theorem qYW{m:Mp}{h:AH}{w:World}(hH:HR (SS z).N m h w){n:String}{b:Nat}{c:Array Value}(hn:Tryz.prog.globalNamed n=some b)(hz:z b=some c):w.var? Tryz.prog n=some c:=by
  obtain⟨⟨e,fz,hb⟩,_⟩:=hH.zz b c (hH.gg b c hz)
  unfold World.var?
  rw[hn]
  simp only[Option.bind_some,hb]
theorem n631:Zc (SS z) 631 Ka:=by
  refine⟨⟨Tryz.f89,by rw[SSP];exact Tryz.func89,by kernel_rfl,_,rfl⟩, ?_⟩
  rintro gs v ⟨s,c,rfl,rfl⟩ m h w vs hH hv
  obtain⟨u1,u2,rfl,h1,h2⟩:=qSV hv
  simp only[VR]at h1 h2
  subst h1 h2
  rw[SSP]
  refine Calls.mono (P:=Tryz.prog) (f:=89) (Any.strings_IndexByte qdQ ⟨s.toArray⟩ c w) ?_
  rintro e w' ⟨rfl,rfl⟩
  exact⟨RowKit.Below.refl _ _,_,rfl,by simp only[VR]⟩
theorem n957(hz:z 1=some (Lib.pow10Tab.map fun n=>Value.int .u64 n).toArray):Zc (SS z) 957 Kb:=by
  refine⟨⟨Tryz.f30,by rw[SSP];exact Tryz.func30,by kernel_rfl,_,rfl⟩, ?_⟩
  rintro gs v ⟨n,rfl,h0,hn,rfl⟩ m h w vs hH hv
  obtain⟨u1,u2,rfl,h1,h2⟩:=qSV hv
  simp only[VR]at h1 h2
  subst h1 h2
  have key:=Any.strconv_FormatInt_10 qdS n h0 hn w (qYW hH (by kernel_rfl) hz)
  rw[SSP]
  refine Calls.mono (P:=Tryz.prog) (f:=30) key ?_
  rintro e w' ⟨rfl,k,os,rfl⟩
  exact⟨⟨rfl,rfl,rfl,by simp[Sort.grow],fun i hi=>by simp[Sort.grow,Array.getElem?_append,hi]⟩,_,rfl,by simp only[VR]⟩
theorem qeC{t1 t2:TypeId}{p1 p2:Value}(hz1:z 4=some #[.iface t1 p1])(hz2:z 5=some #[.iface t2 p2]):Zc (SS z) 1382 KZ:=by
  refine⟨⟨Tryz.f192,by rw[SSP];exact Tryz.func192,by kernel_rfl,_,rfl⟩, ?_⟩
  rintro gs v ⟨s,rfl,hl,rfl⟩ m h w vs hH hv
  obtain⟨u1,u2,u3,rfl,h1,h2,h3⟩:=qZG hv
  simp only[VR]at h1 h2 h3
  subst h1 h2 h3
  have hsz:(⟨s.toArray⟩:ByteArray).size=s.length:=by simp[ByteArray.size]
  have hd:(⟨s.toArray⟩:ByteArray).data.toList=s:=by simp
  have cellOf:∀{n:String}{b:Nat}{c:Value},Tryz.prog.globalNamed n=some b→z b=some #[c]→w.cell? ⟨b,0,none⟩=some c:=fun hn hz=>by
    have:=World.var?_cell hn (qYW hH hn hz) 0
    simpa using this
  rw[SSP]
  cases hp:Lib.parseIntB 64 s with
  | ok n=>
    refine Calls.mono (P:=Tryz.prog) (f:=192) (Any.strconv_ParseInt_10_at64_ok kz ⟨s.toArray⟩ (by omega) n (by rw[hd];exact hp) w) ?_
    rintro e w' ⟨rfl,hw⟩
    refine⟨?_,_,rfl, ?_⟩
    · rcases hw with rfl | ⟨t,rfl⟩
      · exact RowKit.Below.refl _ _
      · exact Lib.bytesWorld_below _ _ _
    · unfold ZH;rw[hp];simp only[VR,VRs]
      exact⟨_,rfl,_,_,rfl,rfl,_,_,rfl,rfl,rfl⟩
  | range=>
    refine Calls.mono (P := Tryz.prog) (f := 192) (Any.strconv_ParseInt_10_at64_range kz ⟨s.toArray⟩ (by omega) (by rw [hd]; exact hp) _ w (cellOf (n := "strconv.ErrRange") (by kernel_rfl) hz2) (.inr ⟨_, _, rfl⟩)) ?_
    rintro e w' ⟨N,rfl,_,_,hb⟩
    refine⟨hb,_,rfl, ?_⟩
    unfold ZH;rw[hp,hd];simp only[VR,VRs]
    exact⟨_,rfl,_,_,rfl,rfl,_,_,rfl,⟨_,rfl,trivial⟩,rfl⟩
  | _=>
    refine Calls.mono (P := Tryz.prog) (f := 192) (Any.strconv_ParseInt_10_at64_syntax kz ⟨s.toArray⟩ (by omega) (by rw [hd]; exact hp) _ w (cellOf (n := "strconv.ErrSyntax") (by kernel_rfl) hz1) (.inr ⟨_, _, rfl⟩)) ?_
    rintro e w' ⟨N,rfl,_,_,hb⟩
    refine⟨hb,_,rfl, ?_⟩
    unfold ZH;rw[hp];simp only[VR,VRs]
    exact⟨_,rfl,_,_,rfl,rfl,_,_,rfl,⟨_,rfl,trivial⟩,rfl⟩
theorem n628:qSR (SS z) 628 XR:=by
  refine⟨⟨Tryz.f25,by rw[SSP];exact Tryz.func25,by kernel_rfl,_,rfl⟩,⟨Tryz.f25,Tryz.f48,48,_,_,_,_,_,_,_,_,_,_,_,_,_,_,_,[6,7,8,9],[0,1,2,3,5],_,by rw[SSP];exact Tryz.func25,by rw[SSP];exact Tryz.func48,fun args w=>Xq (P:=Tryz.prog) Tryz.func48 (by kernel_rfl) rfl args w,rfl,⟨rfl,rfl,rfl⟩,⟨rfl,rfl,rfl⟩, ?_, ?_, ?_, ?_, ?_, ?_, ?_, ?_⟩⟩
  · refine⟨⟨_,_,_,_,_,_,_,_,_,_,_,_,_,_,_,_,_,_,_,_,_,_,rfl,⟨rfl,rfl,rfl⟩,⟨by kernel_rfl,rfl,rfl⟩,⟨rfl,rfl⟩,⟨rfl,rfl,rfl⟩,⟨rfl,rfl,rfl⟩,⟨rfl,rfl,rfl⟩,⟨by kernel_rfl,by rw[SSP];exact Tryz.underlying91,fun _ h=>TypeDesc.noConfusion h⟩, ?_, ?_, ?_, ?_⟩,rfl, ?_, ?_⟩
    · exact of_decide_eq_true (by kernel_rfl)
    · exact of_decide_eq_true (by kernel_rfl)
    · exact of_decide_eq_true (by kernel_rfl)
    · intro Yv;kernel_rfl
    · exact of_decide_eq_true (by kernel_rfl)
    · exact of_decide_eq_true (by kernel_rfl)
  · exact of_decide_eq_true (by kernel_rfl)
  · exact of_decide_eq_true (by kernel_rfl)
  · exact of_decide_eq_true (by kernel_rfl)
  · rfl
  · intro X Yk Yv;kernel_rfl
  · exact⟨by kernel_rfl,by kernel_rfl,by kernel_rfl,by kernel_rfl⟩
  · intro X Yv
    exact⟨by kernel_rfl,by kernel_rfl,by kernel_rfl,by kernel_rfl,by kernel_rfl,by kernel_rfl⟩
theorem n620:Zc (SS z) 620 XO:=qgV ⟨Tryz.f37,by rw[SSP];exact Tryz.func37,by kernel_rfl,_,rfl⟩ (fun a c sep w=>by rw[SSP];exact Any.strings_Join_none kw Yw a c sep w)
  (fun bk o c xs sep w h1 h2 h3 h4 h5=>by rw[SSP];exact Any.strings_Join kw Yw bk o c xs sep w h1 h2 h3 h4 h5)
theorem n998:ZZ (SS z) 998 XQ:=qb6 ⟨Tryz.f72,by rw[SSP];exact Tryz.func72,by kernel_rfl,_,rfl⟩ (fun b w h0 h1 h2=>by rw[SSP];exact Any.Builder_copyCheck_fresh qVM Yw.toX72 b w h0 h1 h2)
  (fun b w h0=>by rw[SSP];exact Any.Builder_copyCheck_used qVM Yw.toX72 b w h0)
theorem n623:ZZ (SS z) 623 XP:=qb5 ⟨Tryz.f40,by rw[SSP];exact Tryz.func40,by kernel_rfl,_,rfl⟩ (fun b w h0=>by rw[SSP];exact qf9 qVK qY1 b w h0)
  (fun b g cap cells l w h0 h1 h2 h3 h4 h5 h6=>by rw[SSP];exact qf8 qVK qY1 b g cap cells l w h0 h1 h2 h3 h4 h5 h6)
theorem qgW(hz:z 1=some (Lib.pow10Tab.map fun n=>Value.int .u64 n).toArray){t1 t2:TypeId}{p1 p2:Value}(hz1:z 4=some #[.iface t1 p1])(hz2:z 5=some #[.iface t2 p2]):QE (SS z) tabt:=
  ⟨n628,Yi n620,n623,n998,Yi n631,Yi (n957 hz),Yi (qeC hz1 hz2),rfl,rfl⟩
end
end Go.Proofs.YtkgbnffcaabafaaGreatDoor
