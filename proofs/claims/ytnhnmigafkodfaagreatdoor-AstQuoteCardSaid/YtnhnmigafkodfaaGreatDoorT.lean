/- RowAq -/
import Derived.Test.YtnhnmigafkodfaaGreatDoorR
import Derived.Test.YtnhnmigafkodfaaGreatDoorJ
import Derived.Test.YtnhnmigafkodfaaGreatDoorK1
import Derived.Test.YtnhnmigafkodfaaGreatDoorK2
import Derived.Test.YtnhnmigafkodfaaGreatDoorCards
import Derived.Test.YtnhnmigafkodfaaGreatDoorTie
set_option linter.all false

section
namespace Go.Proofs.YtnhnmigafkodfaaGreatDoor
open Go.ChangeShapes Go.WideShapes Go.ChangeAt Go.RowKit
theorem Tryz.own:ownKnob Tryz.prog.godebug=none:=by kernel_rfl
theorem Tryz.laidOut:laidOutB Tryz.prog=true:=by kernel_rfl
set_option maxRecDepth 100000 in
theorem astQuote_lifted (os:Os)(started:os.Started)(H:Type)(enc:TypeId×Value→H) :
  ReturnsInHanded {} Tryz.checked os 8 .any (fun w args=>(Rows.astQuoteSpec.pre enc Tryz.prog Tryz.f8 Rows.astQuoteRow.domain false w args∧laidMetH Tryz.prog ParF.laidQ w)∧sizedMet enc Tryz.prog Tryz.f8 (OpenSpec.ofChange Rows.astQuoteSpec) false w args)
   (Rows.astQuoteSpec.post enc Tryz.prog Tryz.f8 false true false false):=by
 refine returnsInHanded_of_change_and (C:=Tryz.checked) (X:=fun w _=>laidMetH Tryz.prog ParF.laidQ w) (fun _ _ _ hh h=>h.of_heap hh) Tryz.own started (by kernel_rfl) Tryz.func8
  (ChangeSpec.witness_shaped (enc:=enc) (C:=Tryz.checked) (os:=os) (X:=fun w _=>laidMetH Tryz.prog ParF.laidQ w) false (World.laidAll Tryz.prog os ParF.laidQ) #[.string ⟨#[]⟩] 8 (World.laidAll_os _ _ _)
   (World.shaped_of_ZipB (by kernel_rfl) (by kernel_rfl)) (by kernel_rfl) (by kernel_rfl) (by kernel_rfl)
   (by rw[MakeChecks.laidMetH_plain _ _ _ (by kernel_rfl)];exact laidMet_laidAll _ (by kernel_rfl) (by kernel_rfl))) ?_
 intro W base args ds gs before hval0 hW _ _ hL _
 have hval:∀(j:Nat) t v,Tryz.f8.params[j]?=some t→args[j]?=some v→Value.okWide Tryz.prog W .any base t v:=hval0
 have hW':=hW
 obtain⟨p,q,hA0,hV,rfl,_,_⟩:=hW
 have hA:DataW.TrodAll enc Tryz.prog W 0 (fun _=>true) true Tryz.f8.params.toList args.toList ds p:=hA0
 rw[Tryz.params8]at hA hval
 obtain⟨v0,d0,rfl,rfl,h0⟩:=trodAll_one hA
 obtain⟨rfl,rfl⟩:=trodVars_none hV
 obtain⟨x0,rfl⟩:=okWide_string ParF.under9r (hval 0 9 v0 rfl rfl)
 clear hA0 hval0
 simp only[List.append_nil]at hW'
 have hlt:∀x∈p,x.block<W.heap.size:=fun x hx=>by simpa using hW'.lt x hx
 refine(ParF.run_true (ParF.aq_run x0.data.toList) (fun a ha=>?_) W (ParF.tab_ofQ hL) (.cons _ _ _ _ (ParF.rel_bytes _) .nil)).mono fun e W' ⟨he,hnx⟩=>⟨_,he,?_⟩
 ·simp only[List.mem_cons,List.not_mem_nil,or_false]at ha
  subst ha;rfl
 ·refine⟨_,_,_,[]++[],p,[],hW',?_,?_,by rfl,hnx.frame _,fun h=>by cases h⟩
  ·exact trodAll_mk1 (shut_bool Tryz.underlying4 true)
  ·exact trodAll_mk1
    (Below.trod Tryz.laidOut (by kernel_rfl) (of_decide_eq_true (by kernel_rfl)) h0 hnx (fun x hx=>hlt x (hx)))
theorem andI {a b:Bool}(h:a=true)(k:b=true):(a&&b)=true:=by rw[h,k];rfl
theorem astQuote_closed:joinedFacts Tryz.prog 8 Tryz.f8 Rows.astQuoteSpec Rows.astQuoteRow=true:=by
 have h:=(andI (andI (andI (andI (andI (andI (andI (andI (andI (andI (andI (andI (andI (andI (andI (andI (andI (andI (andI (andI (andI (andI (andI (andI (andI (andI (andI (andI (andI (andI (andI astQuote_k0 astQuote_k1) astQuote_k2) astQuote_k3) astQuote_k4) astQuote_k5) astQuote_k6) astQuote_k7) astQuote_k8) astQuote_k9) astQuote_k10) astQuote_k11) astQuote_k12) astQuote_k13) astQuote_k14) astQuote_k15) astQuote_k16) astQuote_k17) astQuote_k18) astQuote_k19) astQuote_k20) astQuote_k21) astQuote_k22) astQuote_k23) astQuote_k24) astQuote_k25) astQuote_k26) astQuote_k27) astQuote_k28) astQuote_k29) astQuote_k30) astQuote_k31)
 exact Eq.trans (by kernel_rfl) h
theorem astQuote_row:Rows.AstQuoteSaid :=
 OpenClaim.holds_of_wide 8 Tryz.f8 rfl rfl rfl rfl rfl rfl rfl ⟨rfl,rfl,rfl,rfl,rfl⟩ rfl rfl rfl rfl rfl astQuote_fn Tryz.func8 astQuote_closed
  (of_decide_eq_true (by kernel_rfl)) (by unfold Func.isWrapper;first|(rw[if_pos (by decide +kernel)];kernel_rfl)|(rw[if_neg (by decide +kernel)];exact⟨rfl,rfl⟩))
  (fun os started H enc _=>astQuote_lifted os started H enc)
theorem AstQuote_holds:Rows.AstQuoteCardSaid :=
 Claim7.holds_tied_plain_at .later [] [.data, .data, .data, .sentinel, .sentinel, .listed, .data] true (true, "f99df0617b2f8764300c23f546f3782f200df4cd57ea9d5c64db95e0edba40b5") true
  astQuote_row (fun _ h=>by cases h) astQuote_wf (fun _ h=>by cases h) astQuote_row_tie rfl ⟨rfl,rfl⟩ astQuote_main rfl
  (fun f fn hf hfn=>by
   obtain rfl:f=8:=Option.some.inj (astQuote_fn.symm.trans hf) |>.symm
   obtain rfl:fn=Tryz.f8:=(Option.some.inj (Tryz.func8.symm.trans hfn)).symm
   exact⟨astQuote_looks,fun j t ht=>by
    rw[Tryz.params8]at ht
    have hm:t∈[9]:=by simpa using Array.mem_of_getElem? ht
    have hall:=astQuote_stand
    exact(show Tryz.prog.wantsStandIn t=false by simpa using List.all_eq_true.1 hall t hm)⟩)
  astQuote_goes
#print axioms AstQuote_holds
end Go.Proofs.YtnhnmigafkodfaaGreatDoor
end
