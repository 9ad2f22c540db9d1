/- RowPa -/
import Derived.Test.YtnhnmigafkodfaaGreatDoorR
import Derived.Test.YtnhnmigafkodfaaGreatDoorJ
import Derived.Test.YtnhnmigafkodfaaGreatDoorK1
import Derived.Test.YtnhnmigafkodfaaGreatDoorK2
import Derived.Test.YtnhnmigafkodfaaGreatDoorCards
import Derived.Test.YtnhnmigafkodfaaGreatDoorTie
set_option linter.all false

section
namespace Go.Proofs.YtnhnmigafkodfaaGreatDoor
open Go.ChangeShapes Go.WideShapes Go.ChangeAt Go.RowKit
theorem Tryz.own:ownKnob Tryz.prog.godebug=none:=by kernel_rfl
theorem Tryz.laidOut:laidOutB Tryz.prog=true:=by kernel_rfl
set_option maxRecDepth 100000 in
theorem astPath_lifted (os:Os)(started:os.Started)(H:Type)(enc:TypeId×Value→H) :
  ReturnsInHanded {} Tryz.checked os 11 .any (fun w args=>(Rows.astPathSpec.pre enc Tryz.prog Tryz.f11 Rows.astPathRow.domain false w args∧laidMetH Tryz.prog ParF.laidQ w)∧sizedMet enc Tryz.prog Tryz.f11 (OpenSpec.ofChange Rows.astPathSpec) false w args)
   (Rows.astPathSpec.post enc Tryz.prog Tryz.f11 false true false false):=by
 refine returnsInHanded_of_change_and (C:=Tryz.checked) (X:=fun w _=>laidMetH Tryz.prog ParF.laidQ w) (fun _ _ _ hh h=>h.of_heap hh) Tryz.own started (by kernel_rfl) Tryz.func11
  (ChangeSpec.witness_shaped (enc:=enc) (C:=Tryz.checked) (os:=os) (X:=fun w _=>laidMetH Tryz.prog ParF.laidQ w) false (World.laidAll Tryz.prog os ParF.laidQ) #[.string ⟨#[]⟩,.int .i64 0] 8 (World.laidAll_os _ _ _)
   (World.shaped_of_ZipB (by kernel_rfl) (by kernel_rfl)) (by kernel_rfl) (by kernel_rfl) (by kernel_rfl)
   (by rw[MakeChecks.laidMetH_plain _ _ _ (by kernel_rfl)];exact laidMet_laidAll _ (by kernel_rfl) (by kernel_rfl))) ?_
 intro W base args ds gs before hval0 hW _ _ hL _
 have hval:∀(j:Nat) t v,Tryz.f11.params[j]?=some t→args[j]?=some v→Value.okWide Tryz.prog W .any base t v:=hval0
 have hW':=hW
 obtain⟨p,q,hA0,hV,rfl,_,_⟩:=hW
 have hA:DataW.TrodAll enc Tryz.prog W 0 (fun _=>true) true Tryz.f11.params.toList args.toList ds p:=hA0
 rw[Tryz.params11]at hA hval
 obtain⟨v0,v1,d0,d1,p0,p1,rfl,rfl,rfl,h0,h1⟩:=trodAll_two hA
 obtain⟨rfl,rfl⟩:=trodVars_none hV
 obtain⟨x0,rfl⟩:=okWide_string ParF.under9r (hval 0 9 v0 rfl rfl)
 obtain⟨x1,rfl⟩:=okWide_int ParF.under3r (hval 1 3 v1 rfl rfl)
 clear hA0 hval0
 simp only[List.append_nil]at hW'
 have hlt:∀x∈p0++p1,x.block<W.heap.size:=fun x hx=>by simpa using hW'.lt x hx
 refine(ParF.run_true (ParF.pth_run x0.data.toList x1) (fun a ha=>?_) W (ParF.tab_ofQ hL) (.cons _ _ _ _ (ParF.rel_bytes _) (.cons _ _ _ _ (.int _ _) .nil))).mono fun e W' ⟨he,hnx⟩=>⟨_,he,?_⟩
 ·simp only[List.mem_cons,List.not_mem_nil,or_false]at ha
  rcases ha with rfl|rfl<;>rfl
 ·refine⟨_,_,_,[]++[],p0++p1,[],hW',?_,?_,by rfl,hnx.frame _,fun h=>by cases h⟩
  ·exact trodAll_mk1 (shut_bool Tryz.underlying4 true)
  ·exact trodAll_mk2
    (Below.trod Tryz.laidOut (by kernel_rfl) (of_decide_eq_true (by kernel_rfl)) h0 hnx (fun x hx=>hlt x (List.mem_append_left _ hx)))
    (Below.trod Tryz.laidOut (by kernel_rfl) (of_decide_eq_true (by kernel_rfl)) h1 hnx (fun x hx=>hlt x (List.mem_append_right _ hx)))
theorem andI {a b:Bool}(h:a=true)(k:b=true):(a&&b)=true:=by rw[h,k];rfl
theorem astPath_closed:joinedFacts Tryz.prog 11 Tryz.f11 Rows.astPathSpec Rows.astPathRow=true:=by
 have h:=(andI (andI (andI (andI (andI (andI (andI (andI (andI (andI (andI (andI (andI (andI (andI (andI (andI (andI (andI (andI (andI (andI (andI (andI (andI (andI (andI (andI (andI (andI (andI astPath_k0 astPath_k1) astPath_k2) astPath_k3) astPath_k4) astPath_k5) astPath_k6) astPath_k7) astPath_k8) astPath_k9) astPath_k10) astPath_k11) astPath_k12) astPath_k13) astPath_k14) astPath_k15) astPath_k16) astPath_k17) astPath_k18) astPath_k19) astPath_k20) astPath_k21) astPath_k22) astPath_k23) astPath_k24) astPath_k25) astPath_k26) astPath_k27) astPath_k28) astPath_k29) astPath_k30) astPath_k31)
 exact Eq.trans (by kernel_rfl) h
theorem astPath_row:Rows.AstPathSaid :=
 OpenClaim.holds_of_wide 11 Tryz.f11 rfl rfl rfl rfl rfl rfl rfl ⟨rfl,rfl,rfl,rfl,rfl⟩ rfl rfl rfl rfl rfl astPath_fn Tryz.func11 astPath_closed
  (of_decide_eq_true (by kernel_rfl)) (by unfold Func.isWrapper;first|(rw[if_pos (by decide +kernel)];kernel_rfl)|(rw[if_neg (by decide +kernel)];exact⟨rfl,rfl⟩))
  (fun os started H enc _=>astPath_lifted os started H enc)
theorem AstPath_holds:Rows.AstPathCardSaid :=
 Claim7.holds_tied_plain_at .later [] [.data, .data, .data, .sentinel, .sentinel, .listed, .data] true (true, "f99df0617b2f8764300c23f546f3782f200df4cd57ea9d5c64db95e0edba40b5") true
  astPath_row (fun _ h=>by cases h) astPath_wf (fun _ h=>by cases h) astPath_row_tie rfl ⟨rfl,rfl⟩ astPath_main rfl
  (fun f fn hf hfn=>by
   obtain rfl:f=11:=Option.some.inj (astPath_fn.symm.trans hf) |>.symm
   obtain rfl:fn=Tryz.f11:=(Option.some.inj (Tryz.func11.symm.trans hfn)).symm
   exact⟨astPath_looks,fun j t ht=>by
    rw[Tryz.params11]at ht
    have hm:t∈[9,3]:=by simpa using Array.mem_of_getElem? ht
    have hall:=astPath_stand
    exact(show Tryz.prog.wantsStandIn t=false by simpa using List.all_eq_true.1 hall t hm)⟩)
  astPath_goes
#print axioms AstPath_holds
end Go.Proofs.YtnhnmigafkodfaaGreatDoor
end
