/- RowPp -/
import Derived.Test.YtnhnmigafkodfaaGreatDoorR
import Derived.Test.YtnhnmigafkodfaaGreatDoorQ
import Derived.Deep.DeepHandedRow
import Derived.JoinedCond
import Derived.Test.YtnhnmigafkodfaaGreatDoorK1
import Derived.Test.YtnhnmigafkodfaaGreatDoorK2
import Derived.Test.YtnhnmigafkodfaaGreatDoorCards
import Derived.Test.YtnhnmigafkodfaaGreatDoorTie
set_option linter.all false

section
namespace Go.Proofs.YtnhnmigafkodfaaGreatDoor
open Go.ChangeShapes Go.WideShapes Go.ChangeAt Go.RowKit
theorem Tryz.own:ownKnob Tryz.prog.godebug=none:=by kernel_rfl
theorem Tryz.laidOut:laidOutB Tryz.prog=true:=by kernel_rfl
set_option maxRecDepth 100000 in
theorem astPrintRoundTrip_lifted (os:Os)(started:os.Started)(H:Type)(enc:TypeId×Value→H)(F:Stop.Interp) :
  ReturnsInHanded {} Tryz.checked os 9 .any ((Rows.OpenSpec.upto Rows.astPrintRoundTripSpec).preRow enc Tryz.prog Tryz.f9 Rows.astPrintRoundTripUptoRow.domain false Rows.astPrintRoundTripUptoRow.laid)
   (((Rows.OpenSpec.upto Rows.astPrintRoundTripSpec).at F).post enc Tryz.prog Tryz.f9 false true false false):=by
 refine returnsInHanded_of_row (C:=Tryz.checked) (s:=Rows.OpenSpec.upto Rows.astPrintRoundTripSpec) Tryz.own started (by kernel_rfl) Tryz.func9 ?_ ?_
 ·obtain⟨places,hx⟩:∃places,DataW.whole enc Tryz.prog ((World.laidAll Tryz.prog os ParF.laidQ).forCall (fun _ _=>0) ⟨#[],#[.agg #[.int .i64 0,.int .i64 0,.string ⟨#[]⟩,.int .i64 0,.int .i64 0,.int .i64 0,.slice none 0 0]],[]⟩).memory Tryz.f9.params.toList (Rows.OpenSpec.upto Rows.astPrintRoundTripSpec).vars false (#[.agg #[.int .i64 0,.int .i64 0,.string ⟨#[]⟩,.int .i64 0,.int .i64 0,.int .i64 0,.slice none 0 0]]:Array Value).toList 8=some ([.agg [.lit (.int .i64 0),.lit (.int .i64 0),.lit (.string []),.lit (.int .i64 0),.lit (.int .i64 0),.lit (.int .i64 0),.nil]],[],places):=⟨[],by kernel_rfl⟩
  have hok:Input.okWideB Tryz.checked.prog ((World.laidAll Tryz.prog os ParF.laidQ).forCall (fun _ _=>0) ⟨#[],#[.agg #[.int .i64 0,.int .i64 0,.string ⟨#[]⟩,.int .i64 0,.int .i64 0,.int .i64 0,.slice none 0 0]],[]⟩) 9 ⟨#[],#[.agg #[.int .i64 0,.int .i64 0,.string ⟨#[]⟩,.int .i64 0,.int .i64 0,.int .i64 0,.slice none 0 0]],[]⟩=true:=by kernel_rfl
  exact⟨World.laidAll Tryz.prog os ParF.laidQ,fun _ _=>0,⟨#[],#[.agg #[.int .i64 0,.int .i64 0,.string ⟨#[]⟩,.int .i64 0,.int .i64 0,.int .i64 0,.slice none 0 0]],[]⟩,World.laidAll_os _ _ _,World.shaped_of_ZipB (by kernel_rfl) (by kernel_rfl),(Input.okWide_of_okWideB (base:=0) hok).1,(Input.okWide_of_okWideB hok).2,
   OpenSpec.preRow_of_cond 8 hx (by kernel_rfl) (fun k hk=>by cases hk;kernel_rfl) (by kernel_rfl) (by rw[MakeChecks.laidMetH_plain _ _ _ (by kernel_rfl)];exact laidMet_laidAll (laid:=ParF.laidQ) _ (by kernel_rfl) (by kernel_rfl)),by
    simp only[Assume.holds]
    exact⟨by simp,by simp,by simp,by simp,by simp⟩⟩
 intro W base args ds gs before hval0 hW _ hcond hWt hL0 _ _
 have hL:laidMetH Tryz.prog ParF.laidQ W:=hL0
 have hbk:=of_decide_eq_true (hcond _ rfl)
 have hval:∀(j:Nat) t v,Tryz.f9.params[j]?=some t→args[j]?=some v→Value.okWide Tryz.prog W .any base t v:=hval0
 have hW':=hW
 obtain⟨p,q,hA0,hV,rfl,_,_⟩:=hW
 have hA:DataW.TrodAll enc Tryz.prog W 0 (fun _=>true) true Tryz.f9.params.toList args.toList ds p:=hA0
 rw[Tryz.params9]at hA hval
 obtain⟨v0,d0,rfl,rfl,h0⟩:=trodAll_one hA
 obtain⟨rfl,rfl⟩:=trodVars_none hV
 have hW1:(DataW.weightsEach Tryz.prog (Tryz.f9.params.toList++[]) ([d0]++[])).all (·≤reachBytes)=true:=hWt
 rw[Tryz.params9]at hW1
 have hW2:(DataW.weights Tryz.prog 27 d0++[]).all (·≤reachBytes)=true:=hW1
 simp only[List.all_append,Bool.and_eq_true]at hW2
 have h0k:=h0
 obtain⟨fuel0,hf0⟩:=h0
 obtain⟨t0,w0,is0,rel0,wd0,bd0⟩:=ParF.node_arg hf0 hW2.1
 clear hA0 hval0
 simp only[List.append_nil]at hW'
 have hlt:∀x∈p,x.block<W.heap.size:=fun x hx=>by simpa using hW'.lt x hx
 refine(ParF.run_true (ParF.prt_run is0 (ParF.okP_blk wd0 (Nat.le_trans bd0 (by have h:=hbk;simp only[List.append_nil,Rows.uptoBulkAll]at h;omega)))) (fun a ha=>?_) W (ParF.tab_ofQ hL) (.cons _ _ _ _ rel0 .nil)).mono fun e W' ⟨he,hnx⟩=>⟨_,he,?_⟩
 ·simp only[List.mem_cons,List.not_mem_nil,or_false]at ha
  rcases ha with rfl<;>first|rfl|exact ParF.IsN.own is0
 ·refine⟨_,_,_,[]++[],p,[],hW',?_,?_,by rfl,hnx.frame _,fun h=>by cases h⟩
  ·exact trodAll_mk1 (shut_bool Tryz.underlying4 true)
  ·exact trodAll_mk1
    (Below.trod Tryz.laidOut (by kernel_rfl) (of_decide_eq_true (by kernel_rfl)) h0k hnx (fun x hx=>hlt x (hx)))
theorem andI {a b:Bool}(h:a=true)(k:b=true):(a&&b)=true:=by rw[h,k];rfl
theorem astPrintRoundTrip_closed:joinedFacts Tryz.prog 9 Tryz.f9 (Rows.OpenSpec.upto Rows.astPrintRoundTripSpec).bare Rows.astPrintRoundTripUptoRow=true:=by
 have h:=(andI (andI (andI (andI (andI (andI (andI (andI (andI (andI (andI (andI (andI (andI (andI (andI (andI (andI (andI (andI (andI (andI (andI (andI (andI (andI (andI (andI (andI (andI (andI astPrintRoundTripUpto_k0 astPrintRoundTripUpto_k1) astPrintRoundTripUpto_k2) astPrintRoundTripUpto_k3) astPrintRoundTripUpto_k4) astPrintRoundTripUpto_k5) astPrintRoundTripUpto_k6) astPrintRoundTripUpto_k7) astPrintRoundTripUpto_k8) astPrintRoundTripUpto_k9) astPrintRoundTripUpto_k10) astPrintRoundTripUpto_k11) astPrintRoundTripUpto_k12) astPrintRoundTripUpto_k13) astPrintRoundTripUpto_k14) astPrintRoundTripUpto_k15) astPrintRoundTripUpto_k16) astPrintRoundTripUpto_k17) astPrintRoundTripUpto_k18) astPrintRoundTripUpto_k19) astPrintRoundTripUpto_k20) astPrintRoundTripUpto_k21) astPrintRoundTripUpto_k22) astPrintRoundTripUpto_k23) astPrintRoundTripUpto_k24) astPrintRoundTripUpto_k25) astPrintRoundTripUpto_k26) astPrintRoundTripUpto_k27) astPrintRoundTripUpto_k28) astPrintRoundTripUpto_k29) astPrintRoundTripUpto_k30) astPrintRoundTripUpto_k31)
 exact Eq.trans (by kernel_rfl) h
theorem astPrintRoundTrip_row:Rows.AstPrintRoundTripUptoSaid :=
 OpenClaim.holds_of_cond 9 Tryz.f9 rfl rfl rfl rfl rfl rfl rfl ⟨rfl,rfl,rfl,rfl,rfl⟩ rfl rfl rfl rfl rfl astPrintRoundTripUpto_fn Tryz.func9 astPrintRoundTrip_closed
  (of_decide_eq_true (by kernel_rfl)) (by unfold Func.isWrapper;first|(rw[if_pos (by decide +kernel)];kernel_rfl)|(rw[if_neg (by decide +kernel)];exact⟨rfl,rfl⟩))
  (fun os started H enc _ F=>by rw[OpenClaim.pre_eq_preRow];exact astPrintRoundTrip_lifted os started H enc F)
theorem AstPrintRoundTrip_holds:Rows.AstPrintRoundTripUptoCardSaid :=
 Claim7.holds_tied_plain_at .later [] [.data, .data, .data, .sentinel, .sentinel, .listed, .data] true (true, "f99df0617b2f8764300c23f546f3782f200df4cd57ea9d5c64db95e0edba40b5") true
  astPrintRoundTrip_row (fun _ h=>by cases h) astPrintRoundTripUpto_wf (fun _ h=>by cases h) astPrintRoundTripUpto_row_tie rfl ⟨rfl,rfl⟩ astPrintRoundTripUpto_main rfl
  (fun f fn hf hfn=>by
   obtain rfl:f=9:=Option.some.inj (astPrintRoundTripUpto_fn.symm.trans hf) |>.symm
   obtain rfl:fn=Tryz.f9:=(Option.some.inj (Tryz.func9.symm.trans hfn)).symm
   exact⟨astPrintRoundTripUpto_looks,fun j t ht=>by
    rw[Tryz.params9]at ht
    have hm:t∈[27]:=by simpa using Array.mem_of_getElem? ht
    have hall:=astPrintRoundTripUpto_stand
    exact(show Tryz.prog.wantsStandIn t=false by simpa using List.all_eq_true.1 hall t hm)⟩)
  astPrintRoundTripUpto_goes
#print axioms AstPrintRoundTrip_holds
end Go.Proofs.YtnhnmigafkodfaaGreatDoor
end
