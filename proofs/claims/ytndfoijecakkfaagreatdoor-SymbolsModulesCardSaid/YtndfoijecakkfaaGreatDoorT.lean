/- RowSm -/
import Derived.Test.YtndfoijecakkfaaGreatDoorR
import Derived.Test.YtndfoijecakkfaaGreatDoorJ
import Derived.Test.YtndfoijecakkfaaGreatDoorK1
import Derived.Test.YtndfoijecakkfaaGreatDoorK2
import Derived.Test.YtndfoijecakkfaaGreatDoorCards
import Derived.Test.YtndfoijecakkfaaGreatDoorTie
set_option linter.all false

section
namespace Go.Proofs.YtndfoijecakkfaaGreatDoor
open Go.ChangeShapes Go.WideShapes Go.ChangeAt Go.RowKit
theorem Tryz.own:ownKnob Tryz.prog.godebug=none:=by kernel_rfl
theorem Tryz.laidOut:laidOutB Tryz.prog=true:=by kernel_rfl
set_option maxRecDepth 100000 in
theorem qT (os:Os)(started:os.Started)(H:Type)(enc:TypeId×Value→H) :
  ReturnsInHanded {} Tryz.checked os 3 .any (fun w args=>(Rows.symbolsModulesSpec.pre enc Tryz.prog Tryz.f3 Rows.symbolsModulesRow.domain false w args∧laidMetH Tryz.prog ParF.BW w)∧sizedMet enc Tryz.prog Tryz.f3 (OpenSpec.ofChange Rows.symbolsModulesSpec) false w args)
   (Rows.symbolsModulesSpec.post enc Tryz.prog Tryz.f3 false true false false):=by
 refine returnsInHanded_of_change_and (C:=Tryz.checked) (X:=fun w _=>laidMetH Tryz.prog ParF.BW w) (fun _ _ _ hh h=>h.of_heap hh) Tryz.own started (by kernel_rfl) Tryz.func3
  (ChangeSpec.witness_shaped (enc:=enc) (C:=Tryz.checked) (os:=os) (X:=fun w _=>laidMetH Tryz.prog ParF.BW w) false (World.laidAll Tryz.prog os ParF.BW) #[.slice none 0 0,.string ⟨#[]⟩,.int .i64 0] 8 (World.laidAll_os _ _ _)
   (World.shaped_of_ZipB (by kernel_rfl) (by kernel_rfl)) (by kernel_rfl) (by kernel_rfl) (by kernel_rfl)
   (by rw[MakeChecks.laidMetH_plain _ _ _ (by kernel_rfl)];exact laidMet_laidAll _ (by kernel_rfl) (by kernel_rfl))) ?_
 intro W base args ds gs before RR hW _ _ hL _
 have VI:∀(j:Nat) t v,Tryz.f3.params[j]?=some t→args[j]?=some v→Value.okWide Tryz.prog W .any base t v:=RR
 have hW':=hW
 obtain⟨p,q,hA0,hV,rfl,_,_⟩:=hW
 have hA:DataW.TrodAll enc Tryz.prog W 0 (fun _=>true) true Tryz.f3.params.toList args.toList ds p:=hA0
 rw[Tryz.params3]at hA VI
 obtain⟨v0,v1,v2,d0,d1,d2,p0,p1,p2,rfl,rfl,rfl,h0,h1,h2⟩:=trodAll_three hA
 obtain⟨rfl,rfl⟩:=trodVars_none hV
 have aaL:=VI 0 22 v0 rfl rfl
 obtain⟨a0,aeX,aeY,rfl⟩:=okWide_slice ParF.ij aaL
 have h0k:=h0
 obtain⟨aei,hf0⟩:=h0
 obtain⟨w0,ms0,is0,ad3⟩:=ParF.LV aaL hf0
 obtain⟨x1,rfl⟩:=okWide_string ParF.FH (VI 1 9 v1 rfl rfl)
 obtain⟨x2,rfl⟩:=okWide_int ParF.Qp (VI 2 3 v2 rfl rfl)
 clear hA0 RR
 simp only[List.append_nil]at hW'
 have hlt:∀x∈p0++p1++p2,x.block<W.heap.size:=fun x hx=>by simpa using hW'.lt x hx
 refine(ParF.LN (ParF.CI is0 x1.data.toList x2) (fun a ha=>?_) W (ParF.Qr hL) (.cons _ _ _ _ ad3 (.cons _ _ _ _ (ParF.yf _) (.cons _ _ _ _ (.int _ _) .nil)))).mono fun e W' ⟨he,hnx⟩=>⟨_,he,?_⟩
 ·simp only[List.mem_cons,List.not_mem_nil,or_false]at ha
  rcases ha with rfl|rfl|rfl<;>first|rfl|exact ParF.gu.own is0
 ·refine⟨_,_,_,[]++[],p0++p1++p2,[],hW',?_,?_,by rfl,hnx.frame _,fun h=>by cases h⟩
  ·exact trodAll_mk1 (shut_bool Tryz.underlying4 true)
  ·rw[List.append_assoc]
   exact trodAll_mk3
    (Below.trod Tryz.laidOut (by kernel_rfl) (of_decide_eq_true (by kernel_rfl)) h0k hnx (fun x hx=>hlt x (List.mem_append_left _ (List.mem_append_left _ hx))))
    (Below.trod Tryz.laidOut (by kernel_rfl) (of_decide_eq_true (by kernel_rfl)) h1 hnx (fun x hx=>hlt x (List.mem_append_left _ (List.mem_append_right _ hx))))
    (Below.trod Tryz.laidOut (by kernel_rfl) (of_decide_eq_true (by kernel_rfl)) h2 hnx (fun x hx=>hlt x (List.mem_append_right _ hx)))
theorem fW {a b:Bool}(h:a=true)(k:b=true):(a&&b)=true:=by rw[h,k];rfl
theorem qU:joinedFacts Tryz.prog 3 Tryz.f3 Rows.symbolsModulesSpec Rows.symbolsModulesRow=true:=by
 have h:=(fW (fW (fW (fW (fW (fW (fW (fW (fW (fW (fW (fW (fW (fW (fW (fW (fW (fW (fW (fW (fW (fW (fW (fW (fW (fW (fW (fW (fW (fW (fW vV vW) vX) vY) vZ) v6) v7) v8) v_) xq) sY) sZ) s_) tb) tc) td) te) tf) tg) th) tm) tn) tq) tt) tu) tx) tz) tD) tF) tG) tH) vO)
 exact Eq.trans (by kernel_rfl) h
theorem vU:Rows.SymbolsModulesSaid :=
 OpenClaim.holds_of_wide 3 Tryz.f3 rfl rfl rfl rfl rfl rfl rfl ⟨rfl,rfl,rfl,rfl,rfl⟩ rfl rfl rfl rfl rfl nY Tryz.func3 qU
  (of_decide_eq_true (by kernel_rfl)) (by unfold Func.isWrapper;first|(rw[if_pos (by decide +kernel)];kernel_rfl)|(rw[if_neg (by decide +kernel)];exact⟨rfl,rfl⟩))
  (fun os started H enc _=>qT os started H enc)
theorem SymbolsModules_holds:Rows.SymbolsModulesCardSaid :=
 Claim7.holds_tied_plain_at .later [] [.data, .data, .data, .sentinel, .sentinel, .listed, .data] true (true, "e55228c8d796d6dcb1324be3f384caca7f3fe620c343af9fb33ab5252cf5aef6") true
  vU (fun _ h=>by cases h) xU (fun _ h=>by cases h) symbolsModules_row_tie rfl ⟨rfl,rfl⟩ se rfl
  (fun f fn hf hfn=>by
   obtain rfl:f=3:=Option.some.inj (nY.symm.trans hf) |>.symm
   obtain rfl:fn=Tryz.f3:=(Option.some.inj (Tryz.func3.symm.trans hfn)).symm
   exact⟨r_,fun j t ht=>by
    rw[Tryz.params3]at ht
    have hm:t∈[22,9,3]:=by simpa using Array.mem_of_getElem? ht
    have hall:=rJ
    exact(show Tryz.prog.wantsStandIn t=false by simpa using List.all_eq_true.1 hall t hm)⟩)
  sW
#print axioms SymbolsModules_holds
end Go.Proofs.YtndfoijecakkfaaGreatDoor
end
