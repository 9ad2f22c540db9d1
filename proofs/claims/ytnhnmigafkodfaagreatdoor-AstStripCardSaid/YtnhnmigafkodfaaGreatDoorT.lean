/- RowSp -/
import Derived.Test.YtnhnmigafkodfaaGreatDoorR
import Derived.Test.YtnhnmigafkodfaaGreatDoorJ
import Derived.Test.YtnhnmigafkodfaaGreatDoorK1
import Derived.Test.YtnhnmigafkodfaaGreatDoorK2
import Derived.Test.YtnhnmigafkodfaaGreatDoorCards
import Derived.Test.YtnhnmigafkodfaaGreatDoorTie
set_option linter.all false

section
namespace Go.Proofs.YtnhnmigafkodfaaGreatDoor
open Go.ChangeShapes Go.WideShapes Go.ChangeAt Go.RowKit
theorem Tryz.own:ownKnob Tryz.prog.godebug=none:=by kernel_rfl
theorem Tryz.laidOut:laidOutB Tryz.prog=true:=by kernel_rfl
set_option maxRecDepth 100000 in
theorem astStrip_lifted (os:Os)(started:os.Started)(H:Type)(enc:TypeId×Value→H) :
  ReturnsInHanded {} Tryz.checked os 10 .any (fun w args=>(Rows.astStripSpec.pre enc Tryz.prog Tryz.f10 Rows.astStripRow.domain false w args∧laidMetH Tryz.prog ParF.laidQ w)∧sizedMet enc Tryz.prog Tryz.f10 (OpenSpec.ofChange Rows.astStripSpec) false w args)
   (Rows.astStripSpec.post enc Tryz.prog Tryz.f10 false true false false):=by
 refine returnsInHanded_of_change_and (C:=Tryz.checked) (X:=fun w _=>laidMetH Tryz.prog ParF.laidQ w) (fun _ _ _ hh h=>h.of_heap hh) Tryz.own started (by kernel_rfl) Tryz.func10
  (ChangeSpec.witness_shaped (enc:=enc) (C:=Tryz.checked) (os:=os) (X:=fun w _=>laidMetH Tryz.prog ParF.laidQ w) false (World.laidAll Tryz.prog os ParF.laidQ) #[.agg #[.int .i64 0,.int .i64 0,.string ⟨#[]⟩,.int .i64 0,.int .i64 0,.int .i64 0,.slice none 0 0],.agg #[.int .i64 0,.int .i64 0,.string ⟨#[]⟩,.int .i64 0,.int .i64 0,.int .i64 0,.slice none 0 0]] 8 (World.laidAll_os _ _ _)
   (World.shaped_of_ZipB (by kernel_rfl) (by kernel_rfl)) (by kernel_rfl) (by kernel_rfl) (by kernel_rfl)
   (by rw[MakeChecks.laidMetH_plain _ _ _ (by kernel_rfl)];exact laidMet_laidAll _ (by kernel_rfl) (by kernel_rfl))) ?_
 intro W base args ds gs before hval0 hW _ hWt hL _
 have hval:∀(j:Nat) t v,Tryz.f10.params[j]?=some t→args[j]?=some v→Value.okWide Tryz.prog W .any base t v:=hval0
 have hW':=hW
 obtain⟨p,q,hA0,hV,rfl,_,_⟩:=hW
 have hA:DataW.TrodAll enc Tryz.prog W 0 (fun _=>true) true Tryz.f10.params.toList args.toList ds p:=hA0
 rw[Tryz.params10]at hA hval
 obtain⟨v0,v1,d0,d1,p0,p1,rfl,rfl,rfl,h0,h1⟩:=trodAll_two hA
 obtain⟨rfl,rfl⟩:=trodVars_none hV
 have hW1:(DataW.weightsEach Tryz.prog (Tryz.f10.params.toList++[]) ([d0,d1]++[])).all (·≤reachBytes)=true:=hWt
 rw[Tryz.params10]at hW1
 have hW2:(DataW.weights Tryz.prog 27 d0++(DataW.weights Tryz.prog 27 d1++[])).all (·≤reachBytes)=true:=hW1
 simp only[List.all_append,Bool.and_eq_true]at hW2
 have h0k:=h0
 obtain⟨fuel0,hf0⟩:=h0
 obtain⟨t0,w0,is0,rel0,wd0⟩:=ParF.node_arg hf0 hW2.1
 have h1k:=h1
 obtain⟨fuel1,hf1⟩:=h1
 obtain⟨t1,w1,is1,rel1,wd1⟩:=ParF.node_arg hf1 hW2.2.1
 clear hA0 hval0
 simp only[List.append_nil]at hW'
 have hlt:∀x∈p0++p1,x.block<W.heap.size:=fun x hx=>by simpa using hW'.lt x hx
 refine(ParF.run_true (ParF.str_law_run is0 is1 wd0 wd1) (fun a ha=>?_) W (ParF.tab_ofQ hL) (.cons _ _ _ _ rel0 (.cons _ _ _ _ rel1 .nil))).mono fun e W' ⟨he,hnx⟩=>⟨_,he,?_⟩
 ·simp only[List.mem_cons,List.not_mem_nil,or_false]at ha
  rcases ha with rfl|rfl<;>first|rfl|exact ParF.IsN.own is0|exact ParF.IsN.own is1
 ·refine⟨_,_,_,[]++[],p0++p1,[],hW',?_,?_,by rfl,hnx.frame _,fun h=>by cases h⟩
  ·exact trodAll_mk1 (shut_bool Tryz.underlying4 true)
  ·exact trodAll_mk2
    (Below.trod Tryz.laidOut (by kernel_rfl) (of_decide_eq_true (by kernel_rfl)) h0k hnx (fun x hx=>hlt x (List.mem_append_left _ hx)))
    (Below.trod Tryz.laidOut (by kernel_rfl) (of_decide_eq_true (by kernel_rfl)) h1k hnx (fun x hx=>hlt x (List.mem_append_right _ hx)))
theorem andI {a b:Bool}(h:a=true)(k:b=true):(a&&b)=true:=by rw[h,k];rfl
theorem astStrip_closed:joinedFacts Tryz.prog 10 Tryz.f10 Rows.astStripSpec Rows.astStripRow=true:=by
 have h:=(andI (andI (andI (andI (andI (andI (andI (andI (andI (andI (andI (andI (andI (andI (andI (andI (andI (andI (andI (andI (andI (andI (andI (andI (andI (andI (andI (andI (andI (andI (andI astStrip_k0 astStrip_k1) astStrip_k2) astStrip_k3) astStrip_k4) astStrip_k5) astStrip_k6) astStrip_k7) astStrip_k8) astStrip_k9) astStrip_k10) astStrip_k11) astStrip_k12) astStrip_k13) astStrip_k14) astStrip_k15) astStrip_k16) astStrip_k17) astStrip_k18) astStrip_k19) astStrip_k20) astStrip_k21) astStrip_k22) astStrip_k23) astStrip_k24) astStrip_k25) astStrip_k26) astStrip_k27) astStrip_k28) astStrip_k29) astStrip_k30) astStrip_k31)
 exact Eq.trans (by kernel_rfl) h
theorem astStrip_row:Rows.AstStripSaid :=
 OpenClaim.holds_of_wide 10 Tryz.f10 rfl rfl rfl rfl rfl rfl rfl ⟨rfl,rfl,rfl,rfl,rfl⟩ rfl rfl rfl rfl rfl astStrip_fn Tryz.func10 astStrip_closed
  (of_decide_eq_true (by kernel_rfl)) (by unfold Func.isWrapper;first|(rw[if_pos (by decide +kernel)];kernel_rfl)|(rw[if_neg (by decide +kernel)];exact⟨rfl,rfl⟩))
  (fun os started H enc _=>astStrip_lifted os started H enc)
theorem AstStrip_holds:Rows.AstStripCardSaid :=
 Claim7.holds_tied_plain_at .later [] [.data, .data, .data, .sentinel, .sentinel, .listed, .data] true (true, "f99df0617b2f8764300c23f546f3782f200df4cd57ea9d5c64db95e0edba40b5") true
  astStrip_row (fun _ h=>by cases h) astStrip_wf (fun _ h=>by cases h) astStrip_row_tie rfl ⟨rfl,rfl⟩ astStrip_main rfl
  (fun f fn hf hfn=>by
   obtain rfl:f=10:=Option.some.inj (astStrip_fn.symm.trans hf) |>.symm
   obtain rfl:fn=Tryz.f10:=(Option.some.inj (Tryz.func10.symm.trans hfn)).symm
   exact⟨astStrip_looks,fun j t ht=>by
    rw[Tryz.params10]at ht
    have hm:t∈[27,27]:=by simpa using Array.mem_of_getElem? ht
    have hall:=astStrip_stand
    exact(show Tryz.prog.wantsStandIn t=false by simpa using List.all_eq_true.1 hall t hm)⟩)
  astStrip_goes
#print axioms AstStrip_holds
end Go.Proofs.YtnhnmigafkodfaaGreatDoor
end
