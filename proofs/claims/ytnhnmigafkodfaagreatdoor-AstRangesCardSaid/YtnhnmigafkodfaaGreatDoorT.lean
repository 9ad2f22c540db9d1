/- RowRg -/
import Derived.Test.YtnhnmigafkodfaaGreatDoorR
import Derived.Test.YtnhnmigafkodfaaGreatDoorJ
import Derived.Test.YtnhnmigafkodfaaGreatDoorK1
import Derived.Test.YtnhnmigafkodfaaGreatDoorK2
import Derived.Test.YtnhnmigafkodfaaGreatDoorCards
import Derived.Test.YtnhnmigafkodfaaGreatDoorTie
set_option linter.all false

section
namespace Go.Proofs.YtnhnmigafkodfaaGreatDoor
open Go.ChangeShapes Go.WideShapes Go.ChangeAt Go.RowKit
theorem Tryz.own:ownKnob Tryz.prog.godebug=none:=by kernel_rfl
theorem Tryz.laidOut:laidOutB Tryz.prog=true:=by kernel_rfl
set_option maxRecDepth 100000 in
theorem astRanges_lifted (os:Os)(started:os.Started)(H:Type)(enc:TypeId×Value→H) :
  ReturnsInHanded {} Tryz.checked os 7 .any (fun w args=>(Rows.astRangesSpec.pre enc Tryz.prog Tryz.f7 Rows.astRangesRow.domain false w args∧laidMetH Tryz.prog ParF.laidQ w)∧sizedMet enc Tryz.prog Tryz.f7 (OpenSpec.ofChange Rows.astRangesSpec) false w args)
   (Rows.astRangesSpec.post enc Tryz.prog Tryz.f7 false true false false):=by
 refine returnsInHanded_of_change_and (C:=Tryz.checked) (X:=fun w _=>laidMetH Tryz.prog ParF.laidQ w) (fun _ _ _ hh h=>h.of_heap hh) Tryz.own started (by kernel_rfl) Tryz.func7
  (ChangeSpec.witness_shaped (enc:=enc) (C:=Tryz.checked) (os:=os) (X:=fun w _=>laidMetH Tryz.prog ParF.laidQ w) false (World.laidAll Tryz.prog os ParF.laidQ) #[.string ⟨#[]⟩] 8 (World.laidAll_os _ _ _)
   (World.shaped_of_ZipB (by kernel_rfl) (by kernel_rfl)) (by kernel_rfl) (by kernel_rfl) (by kernel_rfl)
   (by rw[MakeChecks.laidMetH_plain _ _ _ (by kernel_rfl)];exact laidMet_laidAll _ (by kernel_rfl) (by kernel_rfl))) ?_
 intro W base args ds gs before hval0 hW _ _ hL _
 have hval:∀(j:Nat) t v,Tryz.f7.params[j]?=some t→args[j]?=some v→Value.okWide Tryz.prog W .any base t v:=hval0
 have hW':=hW
 obtain⟨p,q,hA0,hV,rfl,_,_⟩:=hW
 have hA:DataW.TrodAll enc Tryz.prog W 0 (fun _=>true) true Tryz.f7.params.toList args.toList ds p:=hA0
 rw[Tryz.params7]at hA hval
 obtain⟨v0,d0,rfl,rfl,h0⟩:=trodAll_one hA
 obtain⟨rfl,rfl⟩:=trodVars_none hV
 obtain⟨x0,rfl⟩:=okWide_string ParF.under9r (hval 0 9 v0 rfl rfl)
 clear hA0 hval0
 simp only[List.append_nil]at hW'
 have hlt:∀x∈p,x.block<W.heap.size:=fun x hx=>by simpa using hW'.lt x hx
 refine(ParF.run_true (ParF.rng_run x0.data.toList) (fun a ha=>?_) W (ParF.tab_ofQ hL) (.cons _ _ _ _ (ParF.rel_bytes _) .nil)).mono fun e W' ⟨he,hnx⟩=>⟨_,he,?_⟩
 ·simp only[List.mem_cons,List.not_mem_nil,or_false]at ha
  subst ha;rfl
 ·refine⟨_,_,_,[]++[],p,[],hW',?_,?_,by rfl,hnx.frame _,fun h=>by cases h⟩
  ·exact trodAll_mk1 (shut_bool Tryz.underlying4 true)
  ·exact trodAll_mk1
    (Below.trod Tryz.laidOut (by kernel_rfl) (of_decide_eq_true (by kernel_rfl)) h0 hnx (fun x hx=>hlt x (hx)))
theorem andI {a b:Bool}(h:a=true)(k:b=true):(a&&b)=true:=by rw[h,k];rfl
theorem astRanges_closed:joinedFacts Tryz.prog 7 Tryz.f7 Rows.astRangesSpec Rows.astRangesRow=true:=by
 have h:=(andI (andI (andI (andI (andI (andI (andI (andI (andI (andI (andI (andI (andI (andI (andI (andI (andI (andI (andI (andI (andI (andI (andI (andI (andI (andI (andI (andI (andI (andI (andI astRanges_k0 astRanges_k1) astRanges_k2) astRanges_k3) astRanges_k4) astRanges_k5) astRanges_k6) astRanges_k7) astRanges_k8) astRanges_k9) astRanges_k10) astRanges_k11) astRanges_k12) astRanges_k13) astRanges_k14) astRanges_k15) astRanges_k16) astRanges_k17) astRanges_k18) astRanges_k19) astRanges_k20) astRanges_k21) astRanges_k22) astRanges_k23) astRanges_k24) astRanges_k25) astRanges_k26) astRanges_k27) astRanges_k28) astRanges_k29) astRanges_k30) astRanges_k31)
 exact Eq.trans (by kernel_rfl) h
theorem astRanges_row:Rows.AstRangesSaid :=
 OpenClaim.holds_of_wide 7 Tryz.f7 rfl rfl rfl rfl rfl rfl rfl ⟨rfl,rfl,rfl,rfl,rfl⟩ rfl rfl rfl rfl rfl astRanges_fn Tryz.func7 astRanges_closed
  (of_decide_eq_true (by kernel_rfl)) (by unfold Func.isWrapper;first|(rw[if_pos (by decide +kernel)];kernel_rfl)|(rw[if_neg (by decide +kernel)];exact⟨rfl,rfl⟩))
  (fun os started H enc _=>astRanges_lifted os started H enc)
theorem AstRanges_holds:Rows.AstRangesCardSaid :=
 Claim7.holds_tied_plain_at .later [] [.data, .data, .data, .sentinel, .sentinel, .listed, .data] true (true, "f99df0617b2f8764300c23f546f3782f200df4cd57ea9d5c64db95e0edba40b5") true
  astRanges_row (fun _ h=>by cases h) astRanges_wf (fun _ h=>by cases h) astRanges_row_tie rfl ⟨rfl,rfl⟩ astRanges_main rfl
  (fun f fn hf hfn=>by
   obtain rfl:f=7:=Option.some.inj (astRanges_fn.symm.trans hf) |>.symm
   obtain rfl:fn=Tryz.f7:=(Option.some.inj (Tryz.func7.symm.trans hfn)).symm
   exact⟨astRanges_looks,fun j t ht=>by
    rw[Tryz.params7]at ht
    have hm:t∈[9]:=by simpa using Array.mem_of_getElem? ht
    have hall:=astRanges_stand
    exact(show Tryz.prog.wantsStandIn t=false by simpa using List.all_eq_true.1 hall t hm)⟩)
  astRanges_goes
#print axioms AstRanges_holds
end Go.Proofs.YtnhnmigafkodfaaGreatDoor
end
