/- RowPr -/
import Derived.Test.YtnhnmigafkodfaaGreatDoorR
import Derived.Test.YtnhnmigafkodfaaGreatDoorJ
import Derived.Test.YtnhnmigafkodfaaGreatDoorK1
import Derived.Test.YtnhnmigafkodfaaGreatDoorK2
import Derived.Test.YtnhnmigafkodfaaGreatDoorCards
import Derived.Test.YtnhnmigafkodfaaGreatDoorTie
set_option linter.all false

section
namespace Go.Proofs.YtnhnmigafkodfaaGreatDoor
open Go.ChangeShapes Go.WideShapes Go.ChangeAt Go.RowKit
theorem Tryz.own:ownKnob Tryz.prog.godebug=none:=by kernel_rfl
theorem Tryz.laidOut:laidOutB Tryz.prog=true:=by kernel_rfl
set_option maxRecDepth 100000 in
theorem parserResynchronizes_lifted (os:Os)(started:os.Started)(H:Type)(enc:TypeId×Value→H) :
  ReturnsInHanded {} Tryz.checked os 3 .any (fun w args=>(Rows.parserResynchronizesSpec.pre enc Tryz.prog Tryz.f3 Rows.parserResynchronizesRow.domain false w args∧laidMetH Tryz.prog ParF.laidQ w)∧sizedMet enc Tryz.prog Tryz.f3 (OpenSpec.ofChange Rows.parserResynchronizesSpec) false w args)
   (Rows.parserResynchronizesSpec.post enc Tryz.prog Tryz.f3 false true false false):=by
 refine returnsInHanded_of_change_and (C:=Tryz.checked) (X:=fun w _=>laidMetH Tryz.prog ParF.laidQ w) (fun _ _ _ hh h=>h.of_heap hh) Tryz.own started (by kernel_rfl) Tryz.func3
  (ChangeSpec.witness_shaped (enc:=enc) (C:=Tryz.checked) (os:=os) (X:=fun w _=>laidMetH Tryz.prog ParF.laidQ w) false (World.laidAll Tryz.prog os ParF.laidQ) #[.string ⟨#[]⟩,.string ⟨#[]⟩] 8 (World.laidAll_os _ _ _)
   (World.shaped_of_ZipB (by kernel_rfl) (by kernel_rfl)) (by kernel_rfl) (by kernel_rfl) (by kernel_rfl)
   (by rw[MakeChecks.laidMetH_plain _ _ _ (by kernel_rfl)];exact laidMet_laidAll _ (by kernel_rfl) (by kernel_rfl))) ?_
 intro W base args ds gs before hval0 hW _ _ hL _
 have hval:∀(j:Nat) t v,Tryz.f3.params[j]?=some t→args[j]?=some v→Value.okWide Tryz.prog W .any base t v:=hval0
 have hW':=hW
 obtain⟨p,q,hA0,hV,rfl,_,_⟩:=hW
 have hA:DataW.TrodAll enc Tryz.prog W 0 (fun _=>true) true Tryz.f3.params.toList args.toList ds p:=hA0
 rw[Tryz.params3]at hA hval
 obtain⟨v0,v1,d0,d1,p0,p1,rfl,rfl,rfl,h0,h1⟩:=trodAll_two hA
 obtain⟨rfl,rfl⟩:=trodVars_none hV
 obtain⟨x0,rfl⟩:=okWide_string ParF.under9r (hval 0 9 v0 rfl rfl)
 obtain⟨x1,rfl⟩:=okWide_string ParF.under9r (hval 1 9 v1 rfl rfl)
 clear hA0 hval0
 simp only[List.append_nil]at hW'
 have hlt:∀x∈p0++p1,x.block<W.heap.size:=fun x hx=>by simpa using hW'.lt x hx
 refine(ParF.run_true (ParF.res_run x0.data.toList x1.data.toList) (fun a ha=>?_) W (ParF.tab_ofQ hL) (.cons _ _ _ _ (ParF.rel_bytes _) (.cons _ _ _ _ (ParF.rel_bytes _) .nil))).mono fun e W' ⟨he,hnx⟩=>⟨_,he,?_⟩
 ·simp only[List.mem_cons,List.not_mem_nil,or_false]at ha
  rcases ha with rfl|rfl<;>rfl
 ·refine⟨_,_,_,[]++[],p0++p1,[],hW',?_,?_,by rfl,hnx.frame _,fun h=>by cases h⟩
  ·exact trodAll_mk1 (shut_bool Tryz.underlying4 true)
  ·exact trodAll_mk2
    (Below.trod Tryz.laidOut (by kernel_rfl) (of_decide_eq_true (by kernel_rfl)) h0 hnx (fun x hx=>hlt x (List.mem_append_left _ hx)))
    (Below.trod Tryz.laidOut (by kernel_rfl) (of_decide_eq_true (by kernel_rfl)) h1 hnx (fun x hx=>hlt x (List.mem_append_right _ hx)))
theorem andI {a b:Bool}(h:a=true)(k:b=true):(a&&b)=true:=by rw[h,k];rfl
theorem parserResynchronizes_closed:joinedFacts Tryz.prog 3 Tryz.f3 Rows.parserResynchronizesSpec Rows.parserResynchronizesRow=true:=by
 have h:=(andI (andI (andI (andI (andI (andI (andI (andI (andI (andI (andI (andI (andI (andI (andI (andI (andI (andI (andI (andI (andI (andI (andI (andI (andI (andI (andI (andI (andI (andI (andI parserResynchronizes_k0 parserResynchronizes_k1) parserResynchronizes_k2) parserResynchronizes_k3) parserResynchronizes_k4) parserResynchronizes_k5) parserResynchronizes_k6) parserResynchronizes_k7) parserResynchronizes_k8) parserResynchronizes_k9) parserResynchronizes_k10) parserResynchronizes_k11) parserResynchronizes_k12) parserResynchronizes_k13) parserResynchronizes_k14) parserResynchronizes_k15) parserResynchronizes_k16) parserResynchronizes_k17) parserResynchronizes_k18) parserResynchronizes_k19) parserResynchronizes_k20) parserResynchronizes_k21) parserResynchronizes_k22) parserResynchronizes_k23) parserResynchronizes_k24) parserResynchronizes_k25) parserResynchronizes_k26) parserResynchronizes_k27) parserResynchronizes_k28) parserResynchronizes_k29) parserResynchronizes_k30) parserResynchronizes_k31)
 exact Eq.trans (by kernel_rfl) h
theorem parserResynchronizes_row:Rows.ParserResynchronizesSaid :=
 OpenClaim.holds_of_wide 3 Tryz.f3 rfl rfl rfl rfl rfl rfl rfl ⟨rfl,rfl,rfl,rfl,rfl⟩ rfl rfl rfl rfl rfl parserResynchronizes_fn Tryz.func3 parserResynchronizes_closed
  (of_decide_eq_true (by kernel_rfl)) (by unfold Func.isWrapper;first|(rw[if_pos (by decide +kernel)];kernel_rfl)|(rw[if_neg (by decide +kernel)];exact⟨rfl,rfl⟩))
  (fun os started H enc _=>parserResynchronizes_lifted os started H enc)
theorem ParserResynchronizes_holds:Rows.ParserResynchronizesCardSaid :=
 Claim7.holds_tied_plain_at .later [] [.data, .data, .data, .sentinel, .sentinel, .listed, .data] true (true, "f99df0617b2f8764300c23f546f3782f200df4cd57ea9d5c64db95e0edba40b5") true
  parserResynchronizes_row (fun _ h=>by cases h) parserResynchronizes_wf (fun _ h=>by cases h) parserResynchronizes_row_tie rfl ⟨rfl,rfl⟩ parserResynchronizes_main rfl
  (fun f fn hf hfn=>by
   obtain rfl:f=3:=Option.some.inj (parserResynchronizes_fn.symm.trans hf) |>.symm
   obtain rfl:fn=Tryz.f3:=(Option.some.inj (Tryz.func3.symm.trans hfn)).symm
   exact⟨parserResynchronizes_looks,fun j t ht=>by
    rw[Tryz.params3]at ht
    have hm:t∈[9,9]:=by simpa using Array.mem_of_getElem? ht
    have hall:=parserResynchronizes_stand
    exact(show Tryz.prog.wantsStandIn t=false by simpa using List.all_eq_true.1 hall t hm)⟩)
  parserResynchronizes_goes
#print axioms ParserResynchronizes_holds
end Go.Proofs.YtnhnmigafkodfaaGreatDoor
end
